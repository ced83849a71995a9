/- The law InodeUnlike. -/
import Derived.Test.YtdnalmikndilpaaIno17
import Derived.Test.YtdnalmikndilpaaInoP
import Derived.Test.YtdnalmikndilpaaInv2
namespace Go.Proofs.Ytdnalmikndilpaa
open Go.RowKit
set_option linter.unusedVariables false

theorem alloc3_any {w W0 : World} {A B C : Obj} (h : ((w.alloc A).alloc B).alloc C = W0) : W0.heap[w.heap.size]? = some A ∧ W0.heap[w.heap.size + 1]? = some B ∧ W0.heap[w.heap.size + 1 + 1]? = some C ∧ Below w.heap.size w W0 := by
  subst h
  have n1 := heap_alloc_new (w.alloc A) B
  have n2 := heap_alloc_new ((w.alloc A).alloc B) C
  simp only [World.size_alloc] at n1 n2
  have b2 := Below.heap_alloc ((w.alloc A).alloc B) C
  have b1 := Below.heap_alloc (w.alloc A) B
  exact ⟨(b2 _ (by simp only [World.size_alloc]; omega)).trans ((b1 _ (by simp only [World.size_alloc]; omega)).trans (heap_alloc_new w A)), (b2 _ (by simp only [World.size_alloc]; omega)).trans n1, n2,
    ((((Below.refl _ w).alloc (Nat.le_refl _) A).alloc (by simp only [World.size_alloc]; omega) B).alloc (by simp only [World.size_alloc]; omega) C)⟩
/-- The law's three arguments. -/
structure USt (w : World) (f : Nat → Int) (x y : Ino) (v : World) : Prop where
  blk : Row v w.heap.size 256 f
  ix : IAt v (w.heap.size + 1) x
  iy : IAt v (w.heap.size + 1 + 1) y
  old : Below w.heap.size w v
section
variable {w v v' : World} {f : Nat → Int} {x y : Ino}
theorem USt.lt (h : USt w f x y v) : w.heap.size + 3 ≤ v.heap.size := h.iy.lt
theorem USt.below (h : USt w f x y v) (k : Below v.heap.size v v') : USt w f x y v' := ⟨h.blk.below k h.blk.lt, h.ix.below k h.ix.lt, h.iy.below k h.iy.lt, h.old.trans (k.mono h.old.size)⟩
theorem USt.drew (h : USt w f x y v) : USt w f x y v.drew := ⟨h.blk, h.ix, h.iy, h.old.drew⟩
theorem USt.alloc (h : USt w f x y v) (o : Obj) : USt w f x y (v.alloc o) := h.below ((Below.refl _ v).alloc (Nat.le_refl _) o)
theorem USt.only {g : Nat} (h : USt w f x y v) (k : Only g v v') (hg : w.heap.size + 3 ≤ g) : USt w f x y v' :=
  ⟨h.blk.only k (by omega), h.ix.only k (by omega), h.iy.only k (by omega), h.old.trans (k.below (by omega) h.old.size)⟩
end
theorem USt.start (w : World) (f : Nat → Int) (x y : Ino) (t s r : TypeId) : USt w f x y (((w.alloc (.cells (bytesOf 256 f) t)).alloc (.cells (inoC x) s)).alloc (.cells (inoC y) r)) := by
  obtain ⟨h0, h1, h2, hB⟩ := alloc3_any (w := w) (A := .cells (bytesOf 256 f) t) (B := .cells (inoC x) s) (C := .cells (inoC y) r) rfl
  exact ⟨⟨_, h0⟩, ⟨_, h1⟩, ⟨_, h2⟩, hB⟩
/-- A slot that holds a block of its own, once it is made; filled when e. -/
def Made (w v : World) (d e : Bool) (s : Value) (f : Nat → Int) : Prop := d = true → ∃ A, s = .pointer (some ⟨A, 0, none⟩) ∧ w.heap.size + 3 ≤ A ∧ Row v A 256 (if e = true then f else zeroF)
theorem Made.below {w v v' : World} {d e : Bool} {s : Value} {f : Nat → Int} (h : Made w v d e s f) (k : Below v.heap.size v v') : Made w v' d e s f := fun q => by
  obtain ⟨A, h1, h2, h3⟩ := h q
  exact ⟨A, h1, h2, h3.below k h3.lt⟩
theorem Made.only {w v v' : World} {d e : Bool} {s : Value} {f : Nat → Int} {g : Nat} (h : Made w v d e s f) (k : Only g v v') (hne : d = true → s ≠ .pointer (some ⟨g, 0, none⟩)) : Made w v' d e s f := fun q => by
  obtain ⟨A, h1, h2, h3⟩ := h q
  exact ⟨A, h1, h2, h3.only k (fun e => hne q (by rw [h1, e]))⟩

/-- Two copies of the block are made, in any order. -/
def U3 (w : World) (f : Nat → Int) (x y : Ino) (d : Nat → Bool) (a : Act) (v : World) : Prop := ∃ s13 s14 s7 s8, a = { tmps := (blkV f :: inoV x :: inoV y :: Value.pointer (some ⟨w.heap.size, 0, none⟩) :: Value.pointer (some ⟨w.heap.size + 1, 0, none⟩) :: Value.pointer (some ⟨w.heap.size + 1 + 1, 0, none⟩) :: Value.bool false :: s7 :: s8 :: undef :: undef :: Value.bool true :: Value.bool false :: s13 :: s14 :: undef :: undef :: undef :: undef :: undef :: undef :: undef :: undef :: undef :: undef :: undef :: undef :: undef :: undef :: undef :: undef :: undef :: undef :: undef :: []).toArray, defers := [] } ∧ USt w f x y v ∧
  (d 0 = true → s13 = blkV f) ∧ (d 1 = true → s14 = blkV f) ∧ Made w v (d 2) (d 4) s7 f ∧ Made w v (d 3) (d 5) s8 f ∧ (d 2 = true → d 3 = true → s7 ≠ s8) ∧ (d 4 = true → d 2 = true) ∧ (d 5 = true → d 3 = true)
/-- Two inodes are put, in any order. -/
def U4 (w : World) (f : Nat → Int) (x y : Ino) (A B : Nat) (c e : Int) (F G : Nat → Int) (r13 r14 : Value) (d : Nat → Bool) (a : Act) (v : World) : Prop := ∃ s15 s16 s17 s18 s9 s10, a = { tmps := (blkV f :: inoV x :: inoV y :: Value.pointer (some ⟨w.heap.size, 0, none⟩) :: Value.pointer (some ⟨w.heap.size + 1, 0, none⟩) :: Value.pointer (some ⟨w.heap.size + 1 + 1, 0, none⟩) :: Value.bool false :: Value.pointer (some ⟨A, 0, none⟩) :: Value.pointer (some ⟨B, 0, none⟩) :: s9 :: s10 :: Value.bool true :: Value.bool false :: r13 :: r14 :: s15 :: s16 :: s17 :: s18 :: undef :: undef :: undef :: undef :: undef :: undef :: undef :: undef :: undef :: undef :: undef :: undef :: undef :: undef :: undef :: []).toArray, defers := [] } ∧ USt w f x y v ∧
  (d 0 = true → s15 = inoV x) ∧ (d 1 = true → s16 = .int .i64 c) ∧ (d 2 = true → s17 = inoV y) ∧ (d 3 = true → s18 = .int .i64 e) ∧ (d 4 = true → s9 = .int .i64 c) ∧ (d 5 = true → s10 = .int .i64 e) ∧
  Row v A 256 (if d 1 = true then F else f) ∧ Row v B 256 (if d 3 = true then G else f)

structure U5 (w : World) (f : Nat → Int) (x y : Ino) (A B : Nat) (F G : Nat → Int) (v : World) : Prop where
  st : USt w f x y v
  one : Row v A 256 F
  two : Row v B 256 G
theorem U5.drew {w : World} {f : Nat → Int} {x y : Ino} {A B : Nat} {F G : Nat → Int} {v : World} (h : U5 w f x y A B F G v) : U5 w f x y A B F G v.drew := ⟨h.st.drew, h.one, h.two⟩
set_option maxRecDepth 100000 in
set_option maxHeartbeats 1600000 in
theorem inodeUnlike_law (f : Nat → Int) (x y : Ino) (hf : IsByte f) (hx : InoOk x) (hy : InoOk y) (w : World) : Calls Try.prog 7 #[blkV f, inoV x, inoV y] w fun e w' => e = .returned (.bool true) ∧ Below w.heap.size w w' := by
  have HX := hide hx
  have HY := hide hy
  clear hf hx hy
  unfold inoV blkV
  go_enter Try.func7, Try.ntmps7
  have S0 := hide (USt.start w f x y 23 27 27)
  go_wp2_with fail
  refine (awake_any _).mono ?_
  rintro e w1 ⟨rfl, hw⟩
  have S1 := hide (S0.out.below hw)
  clear hw S0
  go_wp2_with fail
  refine wp_region_steps (by kernel_rfl) (by kernel_rfl) (U3 w f x y) ?h0 ?hs ?he
  case h0 => exact ⟨_, _, _, _, rfl, S1.out.drew, by simp, by simp, by simp [Made], by simp [Made], by simp, by simp, by simp⟩
  case hs =>
    refine ⟨?o0, ?o1, ?o2, ?o3, ?o4, ?o5, trivial⟩
    case o0 =>
      rintro d _ v hd hr ⟨s13, s14, s7, s8, rfl, hS, h0, h1, h2, h3, h4, h5, h6⟩
      refine ld256 rfl (.tmp 3) rfl _ _ rfl hS.blk ?_
      refine ⟨_, s14, s7, s8, rfl, hS, fun _ => rfl, ?_⟩
      simp only [setB, Nat.reduceEqDiff, if_false]
      exact ⟨h1, h2, h3, h4, h5, h6⟩
    case o1 =>
      rintro d _ v hd hr ⟨s13, s14, s7, s8, rfl, hS, h0, h1, h2, h3, h4, h5, h6⟩
      refine ld256 rfl (.tmp 3) rfl _ _ rfl hS.blk ?_
      refine ⟨s13, _, s7, s8, rfl, hS, ?_⟩
      simp only [setB, Nat.reduceEqDiff, if_false]
      exact ⟨h0, fun _ => rfl, h2, h3, h4, h5, h6⟩
    case o2 =>
      rintro d _ v hd hr ⟨s13, s14, s7, s8, rfl, hS, h0, h1, h2, h3, h4, h5, h6⟩
      refine allocB rfl rfl ?_
      have k4 : d 4 = false := by cases e : d 4 <;> simp_all
      have hl := hS.lt
      refine ⟨s13, s14, _, s8, rfl, hS.alloc _, h0, h1, ?_, ?_, ?_, ?_, h6⟩
      · intro _
        refine ⟨v.heap.size, rfl, hl, ?_⟩
        rw [if_neg (by simp [setB, k4])]; exact Row.new _ _ _ _
      · exact h3.below ((Below.refl _ _).alloc (Nat.le_refl _) _)
      · intro _ q e
        obtain ⟨B, e1, _, e2⟩ := h3 q
        rw [e1] at e
        have := e2.lt
        simp at e <;> omega
      · intro q; simp [setB]
    case o3 =>
      rintro d _ v hd hr ⟨s13, s14, s7, s8, rfl, hS, h0, h1, h2, h3, h4, h5, h6⟩
      refine allocB rfl rfl ?_
      have k5 : d 5 = false := by cases e : d 5 <;> simp_all
      have hl := hS.lt
      refine ⟨s13, s14, s7, _, rfl, hS.alloc _, h0, h1, ?_, ?_, ?_, h5, ?_⟩
      · exact h2.below ((Below.refl _ _).alloc (Nat.le_refl _) _)
      · intro _
        refine ⟨v.heap.size, rfl, hl, ?_⟩
        rw [if_neg (by simp [setB, k5])]; exact Row.new _ _ _ _
      · intro q _ e
        obtain ⟨B, e1, _, e2⟩ := h2 q
        rw [e1] at e
        have := e2.lt
        simp at e <;> omega
      · intro q; simp [setB]
    case o4 =>
      rintro d _ v hd hr ⟨s13, s14, s7, s8, rfl, hS, h0, h1, h2, h3, h4, h5, h6⟩
      obtain ⟨d2, d0, -⟩ := hr
      have d0 := d0 rfl
      have d2 := d2 rfl
      obtain rfl := h0 d0
      obtain ⟨A, rfl, hA, hrow⟩ := h2 d2
      refine st256 rfl (.tmp 7) (.tmp 13) rfl A _ f rfl rfl hrow ?_
      intro v' hr' ho'
      refine ⟨_, s14, _, s8, rfl, hS.only ho' hA, h0, h1, ?_, ?_, h4, ?_, h6⟩
      · exact fun _ => ⟨A, rfl, hA, by rw [if_pos (setB_same d 4)]; exact hr'⟩
      · exact h3.only ho' fun q e => h4 d2 q e.symm
      · exact fun _ => d2
    case o5 =>
      rintro d _ v hd hr ⟨s13, s14, s7, s8, rfl, hS, h0, h1, h2, h3, h4, h5, h6⟩
      obtain ⟨d3, d1, -⟩ := hr
      have d1 := d1 rfl
      have d3 := d3 rfl
      obtain rfl := h1 d1
      obtain ⟨A, rfl, hA, hrow⟩ := h3 d3
      refine st256 rfl (.tmp 8) (.tmp 14) rfl A _ f rfl rfl hrow ?_
      intro v' hr' ho'
      refine ⟨s13, _, s7, _, rfl, hS.only ho' hA, h0, h1, ?_, ?_, h4, h5, ?_⟩
      · exact h2.only ho' fun q e => h4 q d3 e
      · exact fun _ => ⟨A, rfl, hA, by rw [if_pos (setB_same d 5)]; exact hr'⟩
      · exact fun _ => d3
  case he =>
    rintro d _ v hd ⟨r13, r14, s7, s8, rfl, hS, -, -, h2, h3, h4, -, -⟩
    have d2 := hd 2 (by decide)
    have d3 := hd 3 (by decide)
    have d4 := hd 4 (by decide)
    have d5 := hd 5 (by decide)
    obtain ⟨A, rfl, hA, hrA⟩ := h2 d2
    obtain ⟨B, rfl, hB, hrB⟩ := h3 d3
    have hne : A ≠ B := fun e => h4 d2 d3 (by rw [e])
    rw [if_pos d4] at hrA
    rw [if_pos d5] at hrB
    clear h2 h3 h4 hd d2 d3 d4 d5 S1
    have S2 := hide hS
    have RA := hide hrA
    have RB := hide hrB
    clear hS hrA hrB
    go_wp2_with fail
    refine wp_region_steps (by kernel_rfl) (by kernel_rfl) (U4 w f x y A B (putC 64 x) (putC 64 y) (putF f 64 x) (putF f 64 y) r13 r14) ?h0 ?hs ?he
    case h0 => exact ⟨_, _, _, _, _, _, rfl, S2.out.drew, by simp, by simp, by simp, by simp, by simp, by simp, RA.out, RB.out⟩
    case hs =>
      refine ⟨?o0, ?o1, ?o2, ?o3, ?o4, ?o5, trivial⟩
      case o0 =>
        rintro d _ v hd hr ⟨s15, s16, s17, s18, s9, s10, rfl, hS, h0, h1, h2, h3, h4, h5, h6, h7⟩
        refine ldI rfl (.tmp 4) rfl _ _ rfl hS.ix ?_
        exact ⟨_, s16, s17, s18, s9, s10, rfl, hS, fun _ => rfl, h1, h2, h3, h4, h5, h6, h7⟩
      case o1 =>
        rintro d _ v hd hr ⟨s15, s16, s17, s18, s9, s10, rfl, hS, h0, h1, h2, h3, h4, h5, h6, h7⟩
        obtain ⟨d0, -⟩ := hr
        obtain rfl := h0 (d0 rfl)
        go_wp2_with fail
        refine (iput_any A 64 _ x _ HX.out h6).mono ?_
        rintro e v' ⟨rfl, hr', ho'⟩
        go_wp2_with fail
        have e1 : (if d 1 = true then putF f 64 x else f) = f := by rw [if_neg (by rw [hd]; decide)]
        rw [e1] at hr'
        refine ⟨_, _, s17, s18, s9, s10, rfl, hS.only ho' hA, fun _ => rfl, fun _ => rfl, h2, h3, h4, h5, ?_, ?_⟩
        · rw [if_pos (setB_same d 1)]; exact hr'
        · exact h7.only ho' hne.symm
      case o2 =>
        rintro d _ v hd hr ⟨s15, s16, s17, s18, s9, s10, rfl, hS, h0, h1, h2, h3, h4, h5, h6, h7⟩
        refine ldI rfl (.tmp 5) rfl _ _ rfl hS.iy ?_
        exact ⟨s15, s16, _, s18, s9, s10, rfl, hS, h0, h1, fun _ => rfl, h3, h4, h5, h6, h7⟩
      case o3 =>
        rintro d _ v hd hr ⟨s15, s16, s17, s18, s9, s10, rfl, hS, h0, h1, h2, h3, h4, h5, h6, h7⟩
        obtain ⟨d2, -⟩ := hr
        obtain rfl := h2 (d2 rfl)
        go_wp2_with fail
        refine (iput_any B 64 _ y _ HY.out h7).mono ?_
        rintro e v' ⟨rfl, hr', ho'⟩
        go_wp2_with fail
        have e1 : (if d 3 = true then putF f 64 y else f) = f := by rw [if_neg (by rw [hd]; decide)]
        rw [e1] at hr'
        refine ⟨s15, s16, _, _, s9, s10, rfl, hS.only ho' hB, h0, h1, fun _ => rfl, fun _ => rfl, h4, h5, ?_, ?_⟩
        · exact h6.only ho' hne
        · rw [if_pos (setB_same d 3)]; exact hr'
      case o4 =>
        rintro d _ v hd hr ⟨s15, s16, s17, s18, s9, s10, rfl, hS, h0, h1, h2, h3, h4, h5, h6, h7⟩
        obtain ⟨d1, -⟩ := hr
        obtain rfl := h1 (d1 rfl)
        go_wp2_with fail
        exact ⟨s15, _, s17, s18, _, s10, rfl, hS, h0, fun _ => rfl, h2, h3, fun _ => rfl, h5, h6, h7⟩
      case o5 =>
        rintro d _ v hd hr ⟨s15, s16, s17, s18, s9, s10, rfl, hS, h0, h1, h2, h3, h4, h5, h6, h7⟩
        obtain ⟨d3, -⟩ := hr
        obtain rfl := h3 (d3 rfl)
        go_wp2_with fail
        exact ⟨s15, s16, s17, _, s9, _, rfl, hS, h0, h1, h2, fun _ => rfl, h4, fun _ => rfl, h6, h7⟩
    case he =>
      rintro d _ v' hd ⟨r15, r16, r17, r18, s9, s10, rfl, hS, -, -, -, -, h4, h5, h6, h7⟩
      obtain rfl := h4 (hd 4 (by decide))
      obtain rfl := h5 (hd 5 (by decide))
      rw [if_pos (hd 1 (by decide))] at h6
      rw [if_pos (hd 3 (by decide))] at h7
      have p64 : placeP 64 := placeP_four.2 (by omega)
      have P5 : Hid (U5 w f x y A B (putF f 64 x) (putF f 64 y) v') := ⟨hS, h6, h7⟩
      clear hS h6 h7 h4 h5 S2 RA RB hd
      have hc : (putC 64 x = 70 ∨ putC 64 y = 70) ∨ (putC 64 x = 0 ∧ putC 64 y = 0 ∧ sameB (putF f 64 x) (putF f 64 y) 256 = inoE x y) := by
        unfold putC
        rw [if_pos p64, if_pos p64]
        by_cases a : mayI x <;> by_cases b : mayI y
        · rw [if_pos a, if_pos b]; exact .inr ⟨rfl, rfl, unlike f HX.out HY.out a b⟩
        all_goals simp [a, b]
      have c1 : putC 64 x = 0 ∨ putC 64 x = 70 := by unfold putC; rw [if_pos p64]; split <;> simp
      generalize putF f 64 x = F at *
      generalize putF f 64 y = G at *
      generalize putC 64 x = c at *
      generalize putC 64 y = e at *
      cases hb : inoE x y
      all_goals
        rw [hb] at hc
        obtain ⟨rfl, k⟩ | ⟨rfl, rfl, k⟩ | ⟨rfl, k⟩ : (c = 70 ∧ True) ∨ (c = 0 ∧ e = 0 ∧ sameB F G 256 = _) ∨ (c = 0 ∧ e = 70) := by
          rcases hc with (h | h) | h
          · exact .inl ⟨h, trivial⟩
          · rcases c1 with c1 | c1
            · exact .inr (.inr ⟨c1, h⟩)
            · exact .inl ⟨c1, trivial⟩
          · exact .inr (.inl h)
      all_goals
        try subst k
        have ne : Nonempty (Of (U5 w f x y A B F G)) := ⟨⟨_, P5.out⟩⟩
        go_wp2_with fail
        refine wp_region_sub (U5 w f x y A B F G) (by kernel_rfl) (by kernel_rfl) (P5.out.drew) ?_
        repeat (first
          | go_big_quiet_skip
          | (go_big_quiet_want
             first
             | (refine qldB (.tmp 7) rfl _ _ rfl (fun v h => h.one) ?_)
             | (refine qldB (.tmp 8) rfl _ _ rfl (fun v h => h.two) ?_)
             | (refine qldI (.tmp 4) rfl _ _ rfl (fun v h => h.st.ix) ?_)
             | (refine qldI (.tmp 5) rfl _ _ rfl (fun v h => h.st.iy) ?_)
             | (refine qeqlB (.tmp 26) (.tmp 27) rfl _ _ rfl rfl k ?_)
             | (refine qeqlI (.tmp 29) (.tmp 30) rfl _ _ rfl rfl hb ?_)
             simp only [Act.put, List.setIfInBounds_toArray, List.set_cons_succ, List.set_cons_zero]
             go_big_quiet_on)
          | (go_big_quiet_want
             go_big_quiet_op
             go_big_quiet_on))
        refine wpQuiet_nil ?_
        rintro w' ⟨s, rfl⟩
        go_wp2_with fail
        go_ret
        exact ⟨rfl, s.ok.st.old⟩
end Go.Proofs.Ytdnalmikndilpaa

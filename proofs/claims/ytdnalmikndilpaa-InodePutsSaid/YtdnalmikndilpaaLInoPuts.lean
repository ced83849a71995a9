/- The law InodePuts. -/
import Derived.Test.YtdnalmikndilpaaIno12
namespace Go.Proofs.Ytdnalmikndilpaa
open Go.RowKit
set_option linter.unusedVariables false

theorem alloc2_of {w W0 : World} {A B : Obj} (h : (w.alloc A).alloc B = W0) : W0.heap[w.heap.size]? = some A ∧ W0.heap[w.heap.size + 1]? = some B ∧ Below w.heap.size w W0 := by
  subst h
  have n1 := heap_alloc_new (w.alloc A) B
  simp only [World.size_alloc] at n1
  exact ⟨(Below.heap_alloc _ B _ (by simp only [World.size_alloc]; omega)).trans (heap_alloc_new w A), n1, (((Below.refl _ w).alloc (Nat.le_refl _) A).alloc (by simp only [World.size_alloc]; omega) B)⟩
/-- The law's two arguments. -/
structure PSt (w : World) (f : Nat → Int) (x : Ino) (v : World) : Prop where
  blk : Row v w.heap.size 256 f
  ino : IAt v (w.heap.size + 1) x
  old : Below w.heap.size w v
section
variable {w v v' : World} {f : Nat → Int} {x : Ino}
theorem PSt.lt (h : PSt w f x v) : w.heap.size + 2 ≤ v.heap.size := h.ino.lt
theorem PSt.below (h : PSt w f x v) (k : Below v.heap.size v v') : PSt w f x v' := ⟨h.blk.below k h.blk.lt, h.ino.below k h.ino.lt, h.old.trans (k.mono h.old.size)⟩
theorem PSt.drew (h : PSt w f x v) : PSt w f x v.drew := ⟨h.blk, h.ino, h.old.drew⟩
theorem PSt.alloc (h : PSt w f x v) (o : Obj) : PSt w f x (v.alloc o) := h.below ((Below.refl _ v).alloc (Nat.le_refl _) o)
theorem PSt.only {g : Nat} (h : PSt w f x v) (k : Only g v v') (hg : w.heap.size + 2 ≤ g) : PSt w f x v' :=
  ⟨h.blk.only k (by omega), h.ino.only k (by omega), h.old.trans (k.below (by omega) h.old.size)⟩
end
theorem allocB' {ops : Array Oper} {rest : List Oper} {o : Oper} {a : Act} {w : World} {Q : Exit → Act → World → Prop} (B : Nat) (hB : w.heap.size = B) (hgd : o.guard = none) (ho : o.op = .alloc 23)
    (k : wpList Try.prog ops Q rest (a.put o.dst (.pointer (some ⟨B, 0, none⟩))) (w.alloc (.cells (bytesOf 256 zeroF) 23))) : wpList Try.prog ops Q (o :: rest) a w := by
  subst hB; exact allocB hgd ho k
theorem PSt.start (w : World) (f : Nat → Int) (x : Ino) (t s : TypeId) : Hid (PSt w f x ((w.alloc (.cells (bytesOf 256 f) t)).alloc (.cells (inoC x) s))) := by
  obtain ⟨h0, h1, hB⟩ := alloc2_of (w := w) (A := .cells (bytesOf 256 f) t) (B := .cells (inoC x) s) rfl
  exact ⟨⟨_, h0⟩, ⟨_, h1⟩, hB⟩
theorem Row.new2 (w : World) (A B : Obj) (t : TypeId) (n : Nat) (f : Nat → Int) : Row (((w.alloc A).alloc B).alloc (.cells (bytesOf n f) t)) (w.heap.size + 1 + 1) n f := by
  have := Row.new ((w.alloc A).alloc B) t n f
  simpa only [World.size_alloc] using this
/-- The two blocks behind the two Puts. -/
structure P2 (w : World) (f : Nat → Int) (x : Ino) (A B : Nat) (F : Nat → Int) (v : World) : Prop where
  st : PSt w f x v
  one : Row v A 256 F
  two : Row v B 256 F
theorem P2.step {w : World} {f : Nat → Int} {x : Ino} {A B : Nat} {F : Nat → Int} : ∀ v v', P2 w f x A B F v → Below v.heap.size v v' → P2 w f x A B F v' := fun v v' h k => ⟨h.st.below k, h.one.below k h.one.lt, h.two.below k h.two.lt⟩
theorem P2.drew {w : World} {f : Nat → Int} {x : Ino} {A B : Nat} {F : Nat → Int} {v : World} (h : P2 w f x A B F v) : P2 w f x A B F v.drew := ⟨h.st.drew, h.one, h.two⟩

set_option maxRecDepth 100000 in
set_option maxHeartbeats 2000000 in
theorem inodePuts_law (f : Nat → Int) (n : Int) (x : Ino) (hf : IsByte f) (hx : InoOk x) (w : World) : Calls Try.prog 3 #[blkV f, .int .i64 n, inoV x] w fun e w' => e = .returned (.bool true) ∧ Below w.heap.size w w' := by
  have HF := hide hf
  have HX := hide hx
  clear hf hx
  unfold inoV blkV
  go_enter Try.func3, Try.ntmps3
  have S0 := PSt.start w f x 23 27
  go_wp2_with (first
    | (refine ld256 rfl (.tmp 3) rfl _ _ rfl S0.out.blk ?_)
    | (refine allocB' (w.heap.size + 1 + 1) (by simp only [World.size_alloc]) rfl rfl ?_)
    | (refine st256 rfl (.tmp 7) (.tmp 11) rfl (w.heap.size + 1 + 1) zeroF f rfl rfl (Row.new2 w _ _ _ _ _) ?_; intro w2 hr2 ho2; have HR2 := hide hr2; have S2 : Hid (PSt w f x w2) := (S0.out.alloc _).only ho2 (Nat.le_refl _); clear hr2 ho2 S0)
    | (refine ldI rfl (.tmp 5) rfl _ _ rfl S2.out.ino ?_))
  refine (iput_any (w.heap.size + 1 + 1) n f x _ HX.out HR2.out).mono ?_
  rintro e w3 ⟨rfl, hr, ho⟩
  have S3 := hide (S2.out.only ho (Nat.le_refl _))
  have R3 := hide hr
  clear hr ho HR2 S2
  go_wp2_with (first
    | (refine ld256 rfl (.tmp 3) rfl _ _ rfl S3.out.blk ?_)
    | (refine ldI rfl (.tmp 5) rfl _ _ rfl S3.out.ino ?_))
  refine (rput_any f HF.out n x _ HX.out).mono ?_
  rintro e w4 ⟨rfl, hb⟩
  have S4 := hide (S3.out.below hb)
  have R4 := hide (R3.out.below hb R3.out.lt)
  clear hb S3 R3
  go_wp2_with (first
    | (refine allocB rfl rfl ?_)
    | (refine st256 rfl (.tmp 9) (.tmp 20) rfl w4.heap.size zeroF (putF f n x) rfl rfl (Row.new w4 _ _ _) ?_; intro w5 hr5 ho5; have P5 : Hid (P2 w f x (w.heap.size + 1 + 1) w4.heap.size (putF f n x) w5) := ⟨(S4.out.alloc _).only ho5 S4.out.lt, (R4.out.alloc _).only ho5 (by have := R4.out.lt; omega), hr5⟩; clear hr5 ho5 S4 R4))
  generalize putC n x = c at *
  generalize putF f n x = F at *
  generalize hA : w.heap.size + 1 + 1 = A at *
  generalize hB : w4.heap.size = B at *
  clear HF
  cases hm : mayIB x
  all_goals
    have Hm := hide hm
    clear hm
    have ne : Nonempty (Of (P2 w f x A B F)) := ⟨⟨_, P5.out⟩⟩
    refine wp_region_sub (P2 w f x A B F) (by kernel_rfl) (by kernel_rfl) (P5.out.drew) ?_
    repeat (first
      | go_big_quiet_skip
      | (go_big_quiet_want
         first
         | (refine qldB (.tmp 7) rfl _ _ rfl (fun v h => h.one) ?_)
         | (refine qldB (.tmp 9) rfl _ _ rfl (fun v h => h.two) ?_)
         | (refine qldI (.tmp 5) rfl _ _ rfl (fun v h => h.st.ino) ?_)
         | (refine qeqlB (.tmp 22) (.tmp 23) rfl _ _ rfl rfl (sameB_self _ _) ?_)
         simp only [Act.put, List.setIfInBounds_toArray, List.set_cons_succ, List.set_cons_zero]
         go_big_quiet_on)
      | (go_big_quiet_want
         go_big_quiet_op
         first
         | go_big_quiet_on
         | go_big_quiet_call (first
           | (go_at_call 12; exact sub_calls P2.step (imay_is Hm.out _))
           | (go_at_call 13; exact sub_calls P2.step (rMay_is Hm.out _))
           | (go_at_call 10; exact sub_calls P2.step (iput_nil n x _)))))
    refine wpQuiet_nil ?_
    rintro w' ⟨s, rfl⟩
    go_wp2_with fail
    go_ret
    exact ⟨rfl, s.ok.st.old⟩
end Go.Proofs.Ytdnalmikndilpaa

/- The law InodeBack. -/
import Derived.Test.YtdnalmikndilpaaIno17
import Derived.Test.YtdnalmikndilpaaInoP
namespace Go.Proofs.Ytdnalmikndilpaa
open Go.RowKit
set_option linter.unusedVariables false

/-- The law's two arguments. -/
structure PSt (w : World) (f : Nat → Int) (x : Ino) (v : World) : Prop where
  blk : Row v w.heap.size 256 f
  ino : IAt v (w.heap.size + 1) x
  old : Below w.heap.size w v
section
variable {w v v' : World} {f : Nat → Int} {x : Ino}
theorem PSt.lt (h : PSt w f x v) : w.heap.size + 2 ≤ v.heap.size := h.ino.lt
theorem PSt.below (h : PSt w f x v) (k : Below v.heap.size v v') : PSt w f x v' := ⟨h.blk.below k h.blk.lt, h.ino.below k h.ino.lt, h.old.trans (k.mono h.old.size)⟩
theorem PSt.drew (h : PSt w f x v) : PSt w f x v.drew := ⟨h.blk, h.ino, h.old.drew⟩
theorem PSt.alloc (h : PSt w f x v) (o : Obj) : PSt w f x (v.alloc o) := h.below ((Below.refl _ v).alloc (Nat.le_refl _) o)
theorem PSt.only {g : Nat} (h : PSt w f x v) (k : Only g v v') (hg : w.heap.size + 2 ≤ g) : PSt w f x v' :=
  ⟨h.blk.only k (by omega), h.ino.only k (by omega), h.old.trans (k.below (by omega) h.old.size)⟩
end
theorem PSt.start (w : World) (f : Nat → Int) (x : Ino) (t s : TypeId) : Hid (PSt w f x ((w.alloc (.cells (bytesOf 256 f) t)).alloc (.cells (inoC x) s))) := by
  obtain ⟨h0, h1, -, hB⟩ := alloc2_of (w := w) (A := .cells (bytesOf 256 f) t) (B := .cells (inoC x) s) rfl
  exact ⟨⟨_, h0⟩, ⟨_, h1⟩, hB⟩
/-- The law's arguments and its copy of the block. -/
structure BSt (w : World) (f : Nat → Int) (x : Ino) (A : Nat) (F : Nat → Int) (v : World) : Prop where
  lo : w.heap.size + 2 ≤ A
  st : PSt w f x v
  one : Row v A 256 F
section
variable {w v v' : World} {f : Nat → Int} {x : Ino} {A : Nat} {F G : Nat → Int}
theorem BSt.below (h : BSt w f x A F v) (k : Below v.heap.size v v') : BSt w f x A F v' := ⟨h.lo, h.st.below k, h.one.below k h.one.lt⟩
theorem BSt.drew (h : BSt w f x A F v) : BSt w f x A F v.drew := ⟨h.lo, h.st.drew, h.one⟩
theorem BSt.alloc (h : BSt w f x A F v) (o : Obj) : BSt w f x A F (v.alloc o) := ⟨h.lo, h.st.alloc o, h.one.alloc o⟩
theorem BSt.only {g : Nat} (h : BSt w f x A F v) (k : Only g v v') (hg : A < g) : BSt w f x A F v' := ⟨h.lo, h.st.only k (by have := h.lo; omega), h.one.only k (by omega)⟩
theorem BSt.put (h : BSt w f x A F v) (k : Only A v v') (r : Row v' A 256 G) : BSt w f x A G v' := ⟨h.lo, h.st.only k h.lo, r⟩
theorem BSt.lt (h : BSt w f x A F v) : A < v.heap.size := h.one.lt
theorem BSt.cells (h : BSt w f x A F v) {k : Nat} (hk : k < 256) : v.cell? ⟨A, k, none⟩ = some (.int .u8 (F k)) ∧ v.cell? ⟨w.heap.size, k, none⟩ = some (.int .u8 (f k)) := ⟨h.one.cell hk, h.st.blk.cell hk⟩
end
theorem BSt.step {w : World} {f : Nat → Int} {x : Ino} {A : Nat} {F : Nat → Int} : ∀ v v', BSt w f x A F v → Below v.heap.size v v' → BSt w f x A F v' := fun _ _ h k => h.below k

set_option maxRecDepth 100000 in
set_option maxHeartbeats 4000000 in
theorem inodeBack_law (f : Nat → Int) (n : Int) (x : Ino) (hf : IsByte f) (hx : InoOk x) (w : World) : Calls Try.prog 5 #[blkV f, .int .i64 n, inoV x] w fun e w' => e = .returned (.bool true) ∧ Below w.heap.size w w' := by
  have HF := hide hf
  have HX := hide hx
  clear hf hx
  unfold inoV blkV
  go_enter Try.func5, Try.ntmps5
  have S0 := PSt.start w f x 23 27
  go_wp2_with fail
  refine (awake_any _).mono ?_
  rintro e w1 ⟨rfl, hw⟩
  have S1 := hide (S0.out.below hw)
  clear hw S0
  go_wp2_with (first
    | (refine ld256 rfl (.tmp 3) rfl _ _ rfl S1.out.blk ?_)
    | (refine allocB rfl rfl ?_)
    | (refine st256 rfl (.tmp 7) (.tmp 16) rfl w1.heap.size zeroF f rfl rfl (Row.new w1 _ _ _) ?_; intro w2 hr2 ho2; have T2 : Hid (BSt w f x w1.heap.size f w2) := ⟨S1.out.lt, (S1.out.alloc _).only ho2 S1.out.lt, hr2⟩; clear hr2 ho2 S1)
    | (refine ld256 rfl (.tmp 3) rfl _ _ rfl T2.out.st.blk ?_))
  generalize w1.heap.size = A at *
  refine (iget_any f HF.out n w2).mono ?_
  rintro e w3 ⟨rfl, hw⟩
  have T3 := hide (T2.out.below hw)
  clear hw T2
  have K : getC f n = 0 → putC n (getI f n) = 0 ∧ (∀ i, putF f n (getI f n) i = f i) ∧ mayI (getI f n) ∧ InoOk (getI f n) := put_get HF.out
  have hc : (placeP n ∧ (getC f n = 0 ∨ getC f n = 70) ∧ (putC n x = 0 ∨ putC n x = 70)) ∨ (getC f n = 2 ∧ putC n x = 2) := by
    unfold getC putC
    by_cases p : placeP n
    · rw [if_pos p, if_pos p]; exact .inl ⟨p, by split <;> simp, by split <;> simp⟩
    · rw [if_neg p, if_neg p]; exact .inr ⟨rfl, rfl⟩
  generalize getC f n = g at *
  generalize getI f n = y at *
  obtain ⟨rfl, p⟩ | ⟨rfl, p⟩ | ⟨rfl, p⟩ : (g = 0 ∧ placeP n) ∨ (g = 70 ∧ placeP n) ∨ (g = 2 ∧ putC n x = 2) := by
    rcases hc with ⟨p, h | h, _⟩ | ⟨h, k⟩
    · exact .inl ⟨h, p⟩
    · exact .inr (.inl ⟨h, p⟩)
    · exact .inr (.inr ⟨h, k⟩)
  case inl =>
    obtain ⟨k1, k2, k3, k4⟩ := K rfl
    have Y := hide k4
    have kB : mayIB y = true := decide_eq_true k3
    have sb : (!sameB (putF f n y) f 256) = false := by rw [(sameB_iff _ _ _).2 fun i _ => k2 i]; rfl
    clear K k2 k3 k4 hc
    have P := hide p
    have K1 := hide k1
    clear p k1
    go_wp2_with (first
      | (refine stI rfl (.tmp 8) (.tmp 21) rfl w3.heap.size (zeroI 0) y rfl rfl (IAt.new w3 _ (zeroI 0)) ?_
         intro w4 hr ho
         have I4 := hide hr
         have T4 := hide ((T3.out.alloc (.cells (inoC (zeroI 0)) 27)).only ho T3.out.lt)
         clear hr ho T3)
      | (refine ld256 rfl (.tmp 3) rfl _ _ rfl T4.out.st.blk ?_)
      | (refine allocB rfl rfl ?_)
      | (refine st256 rfl (.tmp 10) (.tmp 25) rfl w4.heap.size zeroF f rfl rfl (Row.new w4 _ _ _) ?_
         intro w5 hr5 ho5
         have R5 := hide hr5
         have T5 := hide ((T4.out.alloc (.cells (bytesOf 256 zeroF) 23)).only ho5 T4.out.lt)
         have I5 := hide ((I4.out.alloc (.cells (bytesOf 256 zeroF) 23)).only ho5 (Nat.ne_of_lt I4.out.lt))
         have hD : A < w4.heap.size := T4.out.lt
         have hC : w3.heap.size < w4.heap.size := I4.out.lt
         clear hr5 ho5 T4 I4)
      | (refine ldI rfl (.tmp 8) rfl _ _ rfl I5.out ?_))
    refine (iput_any w4.heap.size n f y _ Y.out R5.out).mono ?_
    rintro e w6 ⟨rfl, hr, ho⟩
    rw [K1.out]
    have R6 := hide hr
    have T6 := hide (T5.out.only ho hD)
    have I6 := hide (I5.out.only ho (Nat.ne_of_lt hC))
    clear hr ho R5 T5 I5
    go_wp2_with (first
      | (refine ldBg rfl (.tmp 10) rfl _ _ rfl R6.out ?_)
      | (refine ldBg rfl (.tmp 3) rfl _ _ rfl T6.out.st.blk ?_)
      | (refine neqBg rfl (.tmp 31) (.tmp 32) rfl _ _ rfl rfl sb ?_)
      | (refine ldIg rfl (.tmp 8) rfl _ _ rfl I6.out ?_))
    refine (imay_is kB _).mono ?_
    rintro e w7 ⟨rfl, hw⟩
    have T7 := hide (T6.out.below hw)
    clear hw T6 I6 R6
    go_wp2_with (refine ldI rfl (.tmp 5) rfl _ _ rfl T7.out.st.ino ?_)
    refine (iput_any A n f x _ HX.out T7.out.one).mono ?_
    rintro e w8 ⟨rfl, hr, ho⟩
    have c1 : putC n x = 0 ∨ putC n x = 70 := by
      unfold putC
      rw [if_pos P.out]
      split <;> simp
    rcases c1 with h | h
    · have T8 := hide (T7.out.put ho hr)
      have q := (putC_may h).2
      rw [h]
      obtain ⟨g1, g2⟩ := get_put f P.out HX.out q
      have hB : IsByte (putF f n x) := putF_byte HF.out n HX.out
      have hout : ∀ i, i < n.toNat ∨ n.toNat + 64 ≤ i → putF f n x i = f i := fun i hi => by
        unfold putF
        rw [if_pos ⟨P.out, q⟩]
        exact spl_out hi
      clear hr ho T7 h q
      generalize putF f n x = F at *
      go_wp2_with (refine ld256 rfl (.tmp 7) rfl _ _ rfl T8.out.one ?_)
      refine (iget_any F hB n _).mono ?_
      rintro e w9 ⟨rfl, hw⟩
      rw [g1]
      have T9 := hide (T8.out.below hw)
      have hlt : A < w9.heap.size := T9.out.lt
      have k1 : (!inoE (getI F n) x) = false := by rw [g2]; rfl
      have HO := hide hout
      clear hw T8 g1 g2 hB hout
      generalize getI F n = u at *
      go_wp2_with (first
        | (refine stI rfl (.tmp 11) (.tmp 51) rfl w9.heap.size (zeroI 0) u rfl rfl (IAt.new w9 _ (zeroI 0)) ?_
           intro w10 hr ho
           have I10 := hide hr
           have T10 := hide ((T9.out.alloc (.cells (inoC (zeroI 0)) 27)).only ho hlt)
           clear hr ho T9)
        | (refine ldIg rfl (.tmp 11) rfl _ _ rfl I10.out ?_)
        | (refine ldIg rfl (.tmp 5) rfl _ _ rfl T10.out.st.ino ?_)
        | (refine neqIg rfl (.tmp 56) (.tmp 57) rfl _ _ rfl rfl k1 ?_))
      clear k1 I10
      have p4 := placeP_four.1 P.out
      clear P
      rcases p4 with rfl | rfl | rfl | rfl
      · go_loopw [13] (fun i wr => ∃ k : Nat, k ≤ 256 ∧ i = .int .i64 k ∧ BSt w f x A F wr) (fun i _ => 256 - (intOf i).toNat)
        case atStart => exact ⟨0, by omega, rfl, T10.out⟩
        case round =>
          obtain ⟨k, hk, rfl, hT⟩ := hrel
          have HT := hide hT
          clear hT
          by_cases hk' : k = 256
          · subst hk'
            go_wp2_with fail
            go_ret
            exact ⟨rfl, HT.out.st.old⟩
          have hlt : k < 256 := by omega
          have hlt' : (k : Int) < 256 := by omega
          have hk0 : (0 : Int) ≤ k := by omega
          have hk1 : ((k : Int)).toNat = k := by omega
          clear hk hk'
          have b1 : ¬ (k : Int) < 0 := by omega
          by_cases b2 : (64 : Int) ≤ k
          · have e : F k = f k := HO.out k (.inr (by show 0 + 64 ≤ k; omega))
            have a1 : decide ((k : Int) < 0) = false := decide_eq_false b1
            have a2 : decide ((64 : Int) ≤ k) = true := decide_eq_true b2
            have z1 : ∀ s : Of (BSt w f x A F), s.val.cell? ⟨A, k, none⟩ = some (.int .u8 (f k)) := fun s => (s.ok.cells hlt).1.trans (by rw [e])
            have z2 : ∀ s : Of (BSt w f x A F), s.val.cell? ⟨w.heap.size, k, none⟩ = some (.int .u8 (f k)) := fun s => (s.ok.cells hlt).2
            have ne : Nonempty (Of (BSt w f x A F)) := ⟨⟨_, HT.out⟩⟩
            go_wp2_with fail
            refine wp_region_sub (BSt w f x A F) (by kernel_rfl) (by kernel_rfl) (HT.out.drew) ?_
            repeat (first
              | go_big_quiet_skip
              | (go_big_quiet_want
                 go_big_quiet_op
                 go_big_quiet_on))
            refine wpQuiet_nil ?_
            rintro w' ⟨s, rfl⟩
            go_wp2_with fail
            go_round
            case rel => exact ⟨k + 1, by omega, by go_num, s.ok⟩
            case measure => simp [intOf]; omega
          · have a1 : decide ((k : Int) < 0) = false := decide_eq_false b1
            have a2 : decide ((64 : Int) ≤ k) = false := decide_eq_false b2
            have ne : Nonempty (Of (BSt w f x A F)) := ⟨⟨_, HT.out⟩⟩
            go_wp2_with fail
            refine wp_region_sub (BSt w f x A F) (by kernel_rfl) (by kernel_rfl) (HT.out.drew) ?_
            repeat (first
              | go_big_quiet_skip
              | (go_big_quiet_want
                 go_big_quiet_op
                 go_big_quiet_on))
            refine wpQuiet_nil ?_
            rintro w' ⟨s, rfl⟩
            go_wp2_with fail
            go_round
            case rel => exact ⟨k + 1, by omega, by go_num, s.ok⟩
            case measure => simp [intOf]; omega
      · go_loopw [13] (fun i wr => ∃ k : Nat, k ≤ 256 ∧ i = .int .i64 k ∧ BSt w f x A F wr) (fun i _ => 256 - (intOf i).toNat)
        case atStart => exact ⟨0, by omega, rfl, T10.out⟩
        case round =>
          obtain ⟨k, hk, rfl, hT⟩ := hrel
          have HT := hide hT
          clear hT
          by_cases hk' : k = 256
          · subst hk'
            go_wp2_with fail
            go_ret
            exact ⟨rfl, HT.out.st.old⟩
          have hlt : k < 256 := by omega
          have hlt' : (k : Int) < 256 := by omega
          have hk0 : (0 : Int) ≤ k := by omega
          have hk1 : ((k : Int)).toNat = k := by omega
          clear hk hk'
          by_cases b1 : (k : Int) < 64
          · have e : F k = f k := HO.out k (.inl (by show k < 64; omega))
            have a1 : decide ((k : Int) < 64) = true := decide_eq_true b1
            have z1 : ∀ s : Of (BSt w f x A F), s.val.cell? ⟨A, k, none⟩ = some (.int .u8 (f k)) := fun s => (s.ok.cells hlt).1.trans (by rw [e])
            have z2 : ∀ s : Of (BSt w f x A F), s.val.cell? ⟨w.heap.size, k, none⟩ = some (.int .u8 (f k)) := fun s => (s.ok.cells hlt).2
            have ne : Nonempty (Of (BSt w f x A F)) := ⟨⟨_, HT.out⟩⟩
            go_wp2_with fail
            refine wp_region_sub (BSt w f x A F) (by kernel_rfl) (by kernel_rfl) (HT.out.drew) ?_
            repeat (first
              | go_big_quiet_skip
              | (go_big_quiet_want
                 go_big_quiet_op
                 go_big_quiet_on))
            refine wpQuiet_nil ?_
            rintro w' ⟨s, rfl⟩
            go_wp2_with fail
            go_round
            case rel => exact ⟨k + 1, by omega, by go_num, s.ok⟩
            case measure => simp [intOf]; omega
          by_cases b2 : (128 : Int) ≤ k
          · have e : F k = f k := HO.out k (.inr (by show 64 + 64 ≤ k; omega))
            have a1 : decide ((k : Int) < 64) = false := decide_eq_false b1
            have a2 : decide ((128 : Int) ≤ k) = true := decide_eq_true b2
            have z1 : ∀ s : Of (BSt w f x A F), s.val.cell? ⟨A, k, none⟩ = some (.int .u8 (f k)) := fun s => (s.ok.cells hlt).1.trans (by rw [e])
            have z2 : ∀ s : Of (BSt w f x A F), s.val.cell? ⟨w.heap.size, k, none⟩ = some (.int .u8 (f k)) := fun s => (s.ok.cells hlt).2
            have ne : Nonempty (Of (BSt w f x A F)) := ⟨⟨_, HT.out⟩⟩
            go_wp2_with fail
            refine wp_region_sub (BSt w f x A F) (by kernel_rfl) (by kernel_rfl) (HT.out.drew) ?_
            repeat (first
              | go_big_quiet_skip
              | (go_big_quiet_want
                 go_big_quiet_op
                 go_big_quiet_on))
            refine wpQuiet_nil ?_
            rintro w' ⟨s, rfl⟩
            go_wp2_with fail
            go_round
            case rel => exact ⟨k + 1, by omega, by go_num, s.ok⟩
            case measure => simp [intOf]; omega
          · have a1 : decide ((k : Int) < 64) = false := decide_eq_false b1
            have a2 : decide ((128 : Int) ≤ k) = false := decide_eq_false b2
            have ne : Nonempty (Of (BSt w f x A F)) := ⟨⟨_, HT.out⟩⟩
            go_wp2_with fail
            refine wp_region_sub (BSt w f x A F) (by kernel_rfl) (by kernel_rfl) (HT.out.drew) ?_
            repeat (first
              | go_big_quiet_skip
              | (go_big_quiet_want
                 go_big_quiet_op
                 go_big_quiet_on))
            refine wpQuiet_nil ?_
            rintro w' ⟨s, rfl⟩
            go_wp2_with fail
            go_round
            case rel => exact ⟨k + 1, by omega, by go_num, s.ok⟩
            case measure => simp [intOf]; omega
      · go_loopw [13] (fun i wr => ∃ k : Nat, k ≤ 256 ∧ i = .int .i64 k ∧ BSt w f x A F wr) (fun i _ => 256 - (intOf i).toNat)
        case atStart => exact ⟨0, by omega, rfl, T10.out⟩
        case round =>
          obtain ⟨k, hk, rfl, hT⟩ := hrel
          have HT := hide hT
          clear hT
          by_cases hk' : k = 256
          · subst hk'
            go_wp2_with fail
            go_ret
            exact ⟨rfl, HT.out.st.old⟩
          have hlt : k < 256 := by omega
          have hlt' : (k : Int) < 256 := by omega
          have hk0 : (0 : Int) ≤ k := by omega
          have hk1 : ((k : Int)).toNat = k := by omega
          clear hk hk'
          by_cases b1 : (k : Int) < 128
          · have e : F k = f k := HO.out k (.inl (by show k < 128; omega))
            have a1 : decide ((k : Int) < 128) = true := decide_eq_true b1
            have z1 : ∀ s : Of (BSt w f x A F), s.val.cell? ⟨A, k, none⟩ = some (.int .u8 (f k)) := fun s => (s.ok.cells hlt).1.trans (by rw [e])
            have z2 : ∀ s : Of (BSt w f x A F), s.val.cell? ⟨w.heap.size, k, none⟩ = some (.int .u8 (f k)) := fun s => (s.ok.cells hlt).2
            have ne : Nonempty (Of (BSt w f x A F)) := ⟨⟨_, HT.out⟩⟩
            go_wp2_with fail
            refine wp_region_sub (BSt w f x A F) (by kernel_rfl) (by kernel_rfl) (HT.out.drew) ?_
            repeat (first
              | go_big_quiet_skip
              | (go_big_quiet_want
                 go_big_quiet_op
                 go_big_quiet_on))
            refine wpQuiet_nil ?_
            rintro w' ⟨s, rfl⟩
            go_wp2_with fail
            go_round
            case rel => exact ⟨k + 1, by omega, by go_num, s.ok⟩
            case measure => simp [intOf]; omega
          by_cases b2 : (192 : Int) ≤ k
          · have e : F k = f k := HO.out k (.inr (by show 128 + 64 ≤ k; omega))
            have a1 : decide ((k : Int) < 128) = false := decide_eq_false b1
            have a2 : decide ((192 : Int) ≤ k) = true := decide_eq_true b2
            have z1 : ∀ s : Of (BSt w f x A F), s.val.cell? ⟨A, k, none⟩ = some (.int .u8 (f k)) := fun s => (s.ok.cells hlt).1.trans (by rw [e])
            have z2 : ∀ s : Of (BSt w f x A F), s.val.cell? ⟨w.heap.size, k, none⟩ = some (.int .u8 (f k)) := fun s => (s.ok.cells hlt).2
            have ne : Nonempty (Of (BSt w f x A F)) := ⟨⟨_, HT.out⟩⟩
            go_wp2_with fail
            refine wp_region_sub (BSt w f x A F) (by kernel_rfl) (by kernel_rfl) (HT.out.drew) ?_
            repeat (first
              | go_big_quiet_skip
              | (go_big_quiet_want
                 go_big_quiet_op
                 go_big_quiet_on))
            refine wpQuiet_nil ?_
            rintro w' ⟨s, rfl⟩
            go_wp2_with fail
            go_round
            case rel => exact ⟨k + 1, by omega, by go_num, s.ok⟩
            case measure => simp [intOf]; omega
          · have a1 : decide ((k : Int) < 128) = false := decide_eq_false b1
            have a2 : decide ((192 : Int) ≤ k) = false := decide_eq_false b2
            have ne : Nonempty (Of (BSt w f x A F)) := ⟨⟨_, HT.out⟩⟩
            go_wp2_with fail
            refine wp_region_sub (BSt w f x A F) (by kernel_rfl) (by kernel_rfl) (HT.out.drew) ?_
            repeat (first
              | go_big_quiet_skip
              | (go_big_quiet_want
                 go_big_quiet_op
                 go_big_quiet_on))
            refine wpQuiet_nil ?_
            rintro w' ⟨s, rfl⟩
            go_wp2_with fail
            go_round
            case rel => exact ⟨k + 1, by omega, by go_num, s.ok⟩
            case measure => simp [intOf]; omega
      · go_loopw [13] (fun i wr => ∃ k : Nat, k ≤ 256 ∧ i = .int .i64 k ∧ BSt w f x A F wr) (fun i _ => 256 - (intOf i).toNat)
        case atStart => exact ⟨0, by omega, rfl, T10.out⟩
        case round =>
          obtain ⟨k, hk, rfl, hT⟩ := hrel
          have HT := hide hT
          clear hT
          by_cases hk' : k = 256
          · subst hk'
            go_wp2_with fail
            go_ret
            exact ⟨rfl, HT.out.st.old⟩
          have hlt : k < 256 := by omega
          have hlt' : (k : Int) < 256 := by omega
          have hk0 : (0 : Int) ≤ k := by omega
          have hk1 : ((k : Int)).toNat = k := by omega
          clear hk hk'
          by_cases b1 : (k : Int) < 192
          · have e : F k = f k := HO.out k (.inl (by show k < 192; omega))
            have a1 : decide ((k : Int) < 192) = true := decide_eq_true b1
            have z1 : ∀ s : Of (BSt w f x A F), s.val.cell? ⟨A, k, none⟩ = some (.int .u8 (f k)) := fun s => (s.ok.cells hlt).1.trans (by rw [e])
            have z2 : ∀ s : Of (BSt w f x A F), s.val.cell? ⟨w.heap.size, k, none⟩ = some (.int .u8 (f k)) := fun s => (s.ok.cells hlt).2
            have ne : Nonempty (Of (BSt w f x A F)) := ⟨⟨_, HT.out⟩⟩
            go_wp2_with fail
            refine wp_region_sub (BSt w f x A F) (by kernel_rfl) (by kernel_rfl) (HT.out.drew) ?_
            repeat (first
              | go_big_quiet_skip
              | (go_big_quiet_want
                 go_big_quiet_op
                 go_big_quiet_on))
            refine wpQuiet_nil ?_
            rintro w' ⟨s, rfl⟩
            go_wp2_with fail
            go_round
            case rel => exact ⟨k + 1, by omega, by go_num, s.ok⟩
            case measure => simp [intOf]; omega
          by_cases b2 : (256 : Int) ≤ k
          · have e : F k = f k := HO.out k (.inr (by show 192 + 64 ≤ k; omega))
            have a1 : decide ((k : Int) < 192) = false := decide_eq_false b1
            have a2 : decide ((256 : Int) ≤ k) = true := decide_eq_true b2
            have z1 : ∀ s : Of (BSt w f x A F), s.val.cell? ⟨A, k, none⟩ = some (.int .u8 (f k)) := fun s => (s.ok.cells hlt).1.trans (by rw [e])
            have z2 : ∀ s : Of (BSt w f x A F), s.val.cell? ⟨w.heap.size, k, none⟩ = some (.int .u8 (f k)) := fun s => (s.ok.cells hlt).2
            have ne : Nonempty (Of (BSt w f x A F)) := ⟨⟨_, HT.out⟩⟩
            go_wp2_with fail
            refine wp_region_sub (BSt w f x A F) (by kernel_rfl) (by kernel_rfl) (HT.out.drew) ?_
            repeat (first
              | go_big_quiet_skip
              | (go_big_quiet_want
                 go_big_quiet_op
                 go_big_quiet_on))
            refine wpQuiet_nil ?_
            rintro w' ⟨s, rfl⟩
            go_wp2_with fail
            go_round
            case rel => exact ⟨k + 1, by omega, by go_num, s.ok⟩
            case measure => simp [intOf]; omega
          · have a1 : decide ((k : Int) < 192) = false := decide_eq_false b1
            have a2 : decide ((256 : Int) ≤ k) = false := decide_eq_false b2
            have ne : Nonempty (Of (BSt w f x A F)) := ⟨⟨_, HT.out⟩⟩
            go_wp2_with fail
            refine wp_region_sub (BSt w f x A F) (by kernel_rfl) (by kernel_rfl) (HT.out.drew) ?_
            repeat (first
              | go_big_quiet_skip
              | (go_big_quiet_want
                 go_big_quiet_op
                 go_big_quiet_on))
            refine wpQuiet_nil ?_
            rintro w' ⟨s, rfl⟩
            go_wp2_with fail
            go_round
            case rel => exact ⟨k + 1, by omega, by go_num, s.ok⟩
            case measure => simp [intOf]; omega
    · rw [h]
      have e : putF f n x = f := putF_ne (by rw [h]; decide)
      rw [e] at hr
      have T8 := hide (T7.out.put ho hr)
      clear hr ho T7 e
      have sc := sameB_self f 256
      go_wp2_with (first
        | (refine ldBg rfl (.tmp 7) rfl _ _ rfl T8.out.one ?_)
        | (refine ldBg rfl (.tmp 3) rfl _ _ rfl T8.out.st.blk ?_)
        | (refine eqlBg rfl (.tmp 44) (.tmp 45) rfl _ _ rfl rfl sc ?_))
      go_ret
      exact ⟨rfl, T8.out.st.old⟩
  case inr.inl =>
    have P := hide p
    clear K hc p
    go_wp2_with (first
      | (refine stI rfl (.tmp 8) (.tmp 21) rfl w3.heap.size (zeroI 0) y rfl rfl (IAt.new w3 _ (zeroI 0)) ?_
         intro w4 hr ho
         have T7 := hide ((T3.out.alloc (.cells (inoC (zeroI 0)) 27)).only ho T3.out.lt)
         clear hr ho T3)
      | (refine ldI rfl (.tmp 5) rfl _ _ rfl T7.out.st.ino ?_))
    refine (iput_any A n f x _ HX.out T7.out.one).mono ?_
    rintro e w8 ⟨rfl, hr, ho⟩
    have c1 : putC n x = 0 ∨ putC n x = 70 := by
      unfold putC
      rw [if_pos P.out]
      split <;> simp
    rcases c1 with h | h
    · have T8 := hide (T7.out.put ho hr)
      have q := (putC_may h).2
      rw [h]
      obtain ⟨g1, g2⟩ := get_put f P.out HX.out q
      have hB : IsByte (putF f n x) := putF_byte HF.out n HX.out
      have hout : ∀ i, i < n.toNat ∨ n.toNat + 64 ≤ i → putF f n x i = f i := fun i hi => by
        unfold putF
        rw [if_pos ⟨P.out, q⟩]
        exact spl_out hi
      clear hr ho T7 h q
      generalize putF f n x = F at *
      go_wp2_with (refine ld256 rfl (.tmp 7) rfl _ _ rfl T8.out.one ?_)
      refine (iget_any F hB n _).mono ?_
      rintro e w9 ⟨rfl, hw⟩
      rw [g1]
      have T9 := hide (T8.out.below hw)
      have hlt : A < w9.heap.size := T9.out.lt
      have k1 : (!inoE (getI F n) x) = false := by rw [g2]; rfl
      have HO := hide hout
      clear hw T8 g1 g2 hB hout
      generalize getI F n = u at *
      go_wp2_with (first
        | (refine stI rfl (.tmp 11) (.tmp 51) rfl w9.heap.size (zeroI 0) u rfl rfl (IAt.new w9 _ (zeroI 0)) ?_
           intro w10 hr ho
           have I10 := hide hr
           have T10 := hide ((T9.out.alloc (.cells (inoC (zeroI 0)) 27)).only ho hlt)
           clear hr ho T9)
        | (refine ldIg rfl (.tmp 11) rfl _ _ rfl I10.out ?_)
        | (refine ldIg rfl (.tmp 5) rfl _ _ rfl T10.out.st.ino ?_)
        | (refine neqIg rfl (.tmp 56) (.tmp 57) rfl _ _ rfl rfl k1 ?_))
      clear k1 I10
      have p4 := placeP_four.1 P.out
      clear P
      rcases p4 with rfl | rfl | rfl | rfl
      · go_loopw [13] (fun i wr => ∃ k : Nat, k ≤ 256 ∧ i = .int .i64 k ∧ BSt w f x A F wr) (fun i _ => 256 - (intOf i).toNat)
        case atStart => exact ⟨0, by omega, rfl, T10.out⟩
        case round =>
          obtain ⟨k, hk, rfl, hT⟩ := hrel
          have HT := hide hT
          clear hT
          by_cases hk' : k = 256
          · subst hk'
            go_wp2_with fail
            go_ret
            exact ⟨rfl, HT.out.st.old⟩
          have hlt : k < 256 := by omega
          have hlt' : (k : Int) < 256 := by omega
          have hk0 : (0 : Int) ≤ k := by omega
          have hk1 : ((k : Int)).toNat = k := by omega
          clear hk hk'
          have b1 : ¬ (k : Int) < 0 := by omega
          by_cases b2 : (64 : Int) ≤ k
          · have e : F k = f k := HO.out k (.inr (by show 0 + 64 ≤ k; omega))
            have a1 : decide ((k : Int) < 0) = false := decide_eq_false b1
            have a2 : decide ((64 : Int) ≤ k) = true := decide_eq_true b2
            have z1 : ∀ s : Of (BSt w f x A F), s.val.cell? ⟨A, k, none⟩ = some (.int .u8 (f k)) := fun s => (s.ok.cells hlt).1.trans (by rw [e])
            have z2 : ∀ s : Of (BSt w f x A F), s.val.cell? ⟨w.heap.size, k, none⟩ = some (.int .u8 (f k)) := fun s => (s.ok.cells hlt).2
            have ne : Nonempty (Of (BSt w f x A F)) := ⟨⟨_, HT.out⟩⟩
            go_wp2_with fail
            refine wp_region_sub (BSt w f x A F) (by kernel_rfl) (by kernel_rfl) (HT.out.drew) ?_
            repeat (first
              | go_big_quiet_skip
              | (go_big_quiet_want
                 go_big_quiet_op
                 go_big_quiet_on))
            refine wpQuiet_nil ?_
            rintro w' ⟨s, rfl⟩
            go_wp2_with fail
            go_round
            case rel => exact ⟨k + 1, by omega, by go_num, s.ok⟩
            case measure => simp [intOf]; omega
          · have a1 : decide ((k : Int) < 0) = false := decide_eq_false b1
            have a2 : decide ((64 : Int) ≤ k) = false := decide_eq_false b2
            have ne : Nonempty (Of (BSt w f x A F)) := ⟨⟨_, HT.out⟩⟩
            go_wp2_with fail
            refine wp_region_sub (BSt w f x A F) (by kernel_rfl) (by kernel_rfl) (HT.out.drew) ?_
            repeat (first
              | go_big_quiet_skip
              | (go_big_quiet_want
                 go_big_quiet_op
                 go_big_quiet_on))
            refine wpQuiet_nil ?_
            rintro w' ⟨s, rfl⟩
            go_wp2_with fail
            go_round
            case rel => exact ⟨k + 1, by omega, by go_num, s.ok⟩
            case measure => simp [intOf]; omega
      · go_loopw [13] (fun i wr => ∃ k : Nat, k ≤ 256 ∧ i = .int .i64 k ∧ BSt w f x A F wr) (fun i _ => 256 - (intOf i).toNat)
        case atStart => exact ⟨0, by omega, rfl, T10.out⟩
        case round =>
          obtain ⟨k, hk, rfl, hT⟩ := hrel
          have HT := hide hT
          clear hT
          by_cases hk' : k = 256
          · subst hk'
            go_wp2_with fail
            go_ret
            exact ⟨rfl, HT.out.st.old⟩
          have hlt : k < 256 := by omega
          have hlt' : (k : Int) < 256 := by omega
          have hk0 : (0 : Int) ≤ k := by omega
          have hk1 : ((k : Int)).toNat = k := by omega
          clear hk hk'
          by_cases b1 : (k : Int) < 64
          · have e : F k = f k := HO.out k (.inl (by show k < 64; omega))
            have a1 : decide ((k : Int) < 64) = true := decide_eq_true b1
            have z1 : ∀ s : Of (BSt w f x A F), s.val.cell? ⟨A, k, none⟩ = some (.int .u8 (f k)) := fun s => (s.ok.cells hlt).1.trans (by rw [e])
            have z2 : ∀ s : Of (BSt w f x A F), s.val.cell? ⟨w.heap.size, k, none⟩ = some (.int .u8 (f k)) := fun s => (s.ok.cells hlt).2
            have ne : Nonempty (Of (BSt w f x A F)) := ⟨⟨_, HT.out⟩⟩
            go_wp2_with fail
            refine wp_region_sub (BSt w f x A F) (by kernel_rfl) (by kernel_rfl) (HT.out.drew) ?_
            repeat (first
              | go_big_quiet_skip
              | (go_big_quiet_want
                 go_big_quiet_op
                 go_big_quiet_on))
            refine wpQuiet_nil ?_
            rintro w' ⟨s, rfl⟩
            go_wp2_with fail
            go_round
            case rel => exact ⟨k + 1, by omega, by go_num, s.ok⟩
            case measure => simp [intOf]; omega
          by_cases b2 : (128 : Int) ≤ k
          · have e : F k = f k := HO.out k (.inr (by show 64 + 64 ≤ k; omega))
            have a1 : decide ((k : Int) < 64) = false := decide_eq_false b1
            have a2 : decide ((128 : Int) ≤ k) = true := decide_eq_true b2
            have z1 : ∀ s : Of (BSt w f x A F), s.val.cell? ⟨A, k, none⟩ = some (.int .u8 (f k)) := fun s => (s.ok.cells hlt).1.trans (by rw [e])
            have z2 : ∀ s : Of (BSt w f x A F), s.val.cell? ⟨w.heap.size, k, none⟩ = some (.int .u8 (f k)) := fun s => (s.ok.cells hlt).2
            have ne : Nonempty (Of (BSt w f x A F)) := ⟨⟨_, HT.out⟩⟩
            go_wp2_with fail
            refine wp_region_sub (BSt w f x A F) (by kernel_rfl) (by kernel_rfl) (HT.out.drew) ?_
            repeat (first
              | go_big_quiet_skip
              | (go_big_quiet_want
                 go_big_quiet_op
                 go_big_quiet_on))
            refine wpQuiet_nil ?_
            rintro w' ⟨s, rfl⟩
            go_wp2_with fail
            go_round
            case rel => exact ⟨k + 1, by omega, by go_num, s.ok⟩
            case measure => simp [intOf]; omega
          · have a1 : decide ((k : Int) < 64) = false := decide_eq_false b1
            have a2 : decide ((128 : Int) ≤ k) = false := decide_eq_false b2
            have ne : Nonempty (Of (BSt w f x A F)) := ⟨⟨_, HT.out⟩⟩
            go_wp2_with fail
            refine wp_region_sub (BSt w f x A F) (by kernel_rfl) (by kernel_rfl) (HT.out.drew) ?_
            repeat (first
              | go_big_quiet_skip
              | (go_big_quiet_want
                 go_big_quiet_op
                 go_big_quiet_on))
            refine wpQuiet_nil ?_
            rintro w' ⟨s, rfl⟩
            go_wp2_with fail
            go_round
            case rel => exact ⟨k + 1, by omega, by go_num, s.ok⟩
            case measure => simp [intOf]; omega
      · go_loopw [13] (fun i wr => ∃ k : Nat, k ≤ 256 ∧ i = .int .i64 k ∧ BSt w f x A F wr) (fun i _ => 256 - (intOf i).toNat)
        case atStart => exact ⟨0, by omega, rfl, T10.out⟩
        case round =>
          obtain ⟨k, hk, rfl, hT⟩ := hrel
          have HT := hide hT
          clear hT
          by_cases hk' : k = 256
          · subst hk'
            go_wp2_with fail
            go_ret
            exact ⟨rfl, HT.out.st.old⟩
          have hlt : k < 256 := by omega
          have hlt' : (k : Int) < 256 := by omega
          have hk0 : (0 : Int) ≤ k := by omega
          have hk1 : ((k : Int)).toNat = k := by omega
          clear hk hk'
          by_cases b1 : (k : Int) < 128
          · have e : F k = f k := HO.out k (.inl (by show k < 128; omega))
            have a1 : decide ((k : Int) < 128) = true := decide_eq_true b1
            have z1 : ∀ s : Of (BSt w f x A F), s.val.cell? ⟨A, k, none⟩ = some (.int .u8 (f k)) := fun s => (s.ok.cells hlt).1.trans (by rw [e])
            have z2 : ∀ s : Of (BSt w f x A F), s.val.cell? ⟨w.heap.size, k, none⟩ = some (.int .u8 (f k)) := fun s => (s.ok.cells hlt).2
            have ne : Nonempty (Of (BSt w f x A F)) := ⟨⟨_, HT.out⟩⟩
            go_wp2_with fail
            refine wp_region_sub (BSt w f x A F) (by kernel_rfl) (by kernel_rfl) (HT.out.drew) ?_
            repeat (first
              | go_big_quiet_skip
              | (go_big_quiet_want
                 go_big_quiet_op
                 go_big_quiet_on))
            refine wpQuiet_nil ?_
            rintro w' ⟨s, rfl⟩
            go_wp2_with fail
            go_round
            case rel => exact ⟨k + 1, by omega, by go_num, s.ok⟩
            case measure => simp [intOf]; omega
          by_cases b2 : (192 : Int) ≤ k
          · have e : F k = f k := HO.out k (.inr (by show 128 + 64 ≤ k; omega))
            have a1 : decide ((k : Int) < 128) = false := decide_eq_false b1
            have a2 : decide ((192 : Int) ≤ k) = true := decide_eq_true b2
            have z1 : ∀ s : Of (BSt w f x A F), s.val.cell? ⟨A, k, none⟩ = some (.int .u8 (f k)) := fun s => (s.ok.cells hlt).1.trans (by rw [e])
            have z2 : ∀ s : Of (BSt w f x A F), s.val.cell? ⟨w.heap.size, k, none⟩ = some (.int .u8 (f k)) := fun s => (s.ok.cells hlt).2
            have ne : Nonempty (Of (BSt w f x A F)) := ⟨⟨_, HT.out⟩⟩
            go_wp2_with fail
            refine wp_region_sub (BSt w f x A F) (by kernel_rfl) (by kernel_rfl) (HT.out.drew) ?_
            repeat (first
              | go_big_quiet_skip
              | (go_big_quiet_want
                 go_big_quiet_op
                 go_big_quiet_on))
            refine wpQuiet_nil ?_
            rintro w' ⟨s, rfl⟩
            go_wp2_with fail
            go_round
            case rel => exact ⟨k + 1, by omega, by go_num, s.ok⟩
            case measure => simp [intOf]; omega
          · have a1 : decide ((k : Int) < 128) = false := decide_eq_false b1
            have a2 : decide ((192 : Int) ≤ k) = false := decide_eq_false b2
            have ne : Nonempty (Of (BSt w f x A F)) := ⟨⟨_, HT.out⟩⟩
            go_wp2_with fail
            refine wp_region_sub (BSt w f x A F) (by kernel_rfl) (by kernel_rfl) (HT.out.drew) ?_
            repeat (first
              | go_big_quiet_skip
              | (go_big_quiet_want
                 go_big_quiet_op
                 go_big_quiet_on))
            refine wpQuiet_nil ?_
            rintro w' ⟨s, rfl⟩
            go_wp2_with fail
            go_round
            case rel => exact ⟨k + 1, by omega, by go_num, s.ok⟩
            case measure => simp [intOf]; omega
      · go_loopw [13] (fun i wr => ∃ k : Nat, k ≤ 256 ∧ i = .int .i64 k ∧ BSt w f x A F wr) (fun i _ => 256 - (intOf i).toNat)
        case atStart => exact ⟨0, by omega, rfl, T10.out⟩
        case round =>
          obtain ⟨k, hk, rfl, hT⟩ := hrel
          have HT := hide hT
          clear hT
          by_cases hk' : k = 256
          · subst hk'
            go_wp2_with fail
            go_ret
            exact ⟨rfl, HT.out.st.old⟩
          have hlt : k < 256 := by omega
          have hlt' : (k : Int) < 256 := by omega
          have hk0 : (0 : Int) ≤ k := by omega
          have hk1 : ((k : Int)).toNat = k := by omega
          clear hk hk'
          by_cases b1 : (k : Int) < 192
          · have e : F k = f k := HO.out k (.inl (by show k < 192; omega))
            have a1 : decide ((k : Int) < 192) = true := decide_eq_true b1
            have z1 : ∀ s : Of (BSt w f x A F), s.val.cell? ⟨A, k, none⟩ = some (.int .u8 (f k)) := fun s => (s.ok.cells hlt).1.trans (by rw [e])
            have z2 : ∀ s : Of (BSt w f x A F), s.val.cell? ⟨w.heap.size, k, none⟩ = some (.int .u8 (f k)) := fun s => (s.ok.cells hlt).2
            have ne : Nonempty (Of (BSt w f x A F)) := ⟨⟨_, HT.out⟩⟩
            go_wp2_with fail
            refine wp_region_sub (BSt w f x A F) (by kernel_rfl) (by kernel_rfl) (HT.out.drew) ?_
            repeat (first
              | go_big_quiet_skip
              | (go_big_quiet_want
                 go_big_quiet_op
                 go_big_quiet_on))
            refine wpQuiet_nil ?_
            rintro w' ⟨s, rfl⟩
            go_wp2_with fail
            go_round
            case rel => exact ⟨k + 1, by omega, by go_num, s.ok⟩
            case measure => simp [intOf]; omega
          by_cases b2 : (256 : Int) ≤ k
          · have e : F k = f k := HO.out k (.inr (by show 192 + 64 ≤ k; omega))
            have a1 : decide ((k : Int) < 192) = false := decide_eq_false b1
            have a2 : decide ((256 : Int) ≤ k) = true := decide_eq_true b2
            have z1 : ∀ s : Of (BSt w f x A F), s.val.cell? ⟨A, k, none⟩ = some (.int .u8 (f k)) := fun s => (s.ok.cells hlt).1.trans (by rw [e])
            have z2 : ∀ s : Of (BSt w f x A F), s.val.cell? ⟨w.heap.size, k, none⟩ = some (.int .u8 (f k)) := fun s => (s.ok.cells hlt).2
            have ne : Nonempty (Of (BSt w f x A F)) := ⟨⟨_, HT.out⟩⟩
            go_wp2_with fail
            refine wp_region_sub (BSt w f x A F) (by kernel_rfl) (by kernel_rfl) (HT.out.drew) ?_
            repeat (first
              | go_big_quiet_skip
              | (go_big_quiet_want
                 go_big_quiet_op
                 go_big_quiet_on))
            refine wpQuiet_nil ?_
            rintro w' ⟨s, rfl⟩
            go_wp2_with fail
            go_round
            case rel => exact ⟨k + 1, by omega, by go_num, s.ok⟩
            case measure => simp [intOf]; omega
          · have a1 : decide ((k : Int) < 192) = false := decide_eq_false b1
            have a2 : decide ((256 : Int) ≤ k) = false := decide_eq_false b2
            have ne : Nonempty (Of (BSt w f x A F)) := ⟨⟨_, HT.out⟩⟩
            go_wp2_with fail
            refine wp_region_sub (BSt w f x A F) (by kernel_rfl) (by kernel_rfl) (HT.out.drew) ?_
            repeat (first
              | go_big_quiet_skip
              | (go_big_quiet_want
                 go_big_quiet_op
                 go_big_quiet_on))
            refine wpQuiet_nil ?_
            rintro w' ⟨s, rfl⟩
            go_wp2_with fail
            go_round
            case rel => exact ⟨k + 1, by omega, by go_num, s.ok⟩
            case measure => simp [intOf]; omega
    · rw [h]
      have e : putF f n x = f := putF_ne (by rw [h]; decide)
      rw [e] at hr
      have T8 := hide (T7.out.put ho hr)
      clear hr ho T7 e
      have sc := sameB_self f 256
      go_wp2_with (first
        | (refine ldBg rfl (.tmp 7) rfl _ _ rfl T8.out.one ?_)
        | (refine ldBg rfl (.tmp 3) rfl _ _ rfl T8.out.st.blk ?_)
        | (refine eqlBg rfl (.tmp 44) (.tmp 45) rfl _ _ rfl rfl sc ?_))
      go_ret
      exact ⟨rfl, T8.out.st.old⟩
  case inr.inr =>
    have P := hide p
    clear K hc p
    go_wp2_with (first
      | (refine stI rfl (.tmp 8) (.tmp 21) rfl w3.heap.size (zeroI 0) y rfl rfl (IAt.new w3 _ (zeroI 0)) ?_
         intro w4 hr ho
         have T7 := hide ((T3.out.alloc (.cells (inoC (zeroI 0)) 27)).only ho T3.out.lt)
         clear hr ho T3)
      | (refine ldI rfl (.tmp 5) rfl _ _ rfl T7.out.st.ino ?_))
    refine (iput_any A n f x _ HX.out T7.out.one).mono ?_
    rintro e w8 ⟨rfl, hr, ho⟩
    have h := P.out
    · rw [h]
      have e : putF f n x = f := putF_ne (by rw [h]; decide)
      rw [e] at hr
      have T8 := hide (T7.out.put ho hr)
      clear hr ho T7 e
      have sc := sameB_self f 256
      go_wp2_with (first
        | (refine ldBg rfl (.tmp 7) rfl _ _ rfl T8.out.one ?_)
        | (refine ldBg rfl (.tmp 3) rfl _ _ rfl T8.out.st.blk ?_)
        | (refine eqlBg rfl (.tmp 44) (.tmp 45) rfl _ _ rfl rfl sc ?_))
      go_ret
      exact ⟨rfl, T8.out.st.old⟩
end Go.Proofs.Ytdnalmikndilpaa

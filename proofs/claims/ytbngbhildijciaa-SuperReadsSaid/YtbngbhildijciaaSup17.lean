/- The walk of quernref06.Write. -/
import Derived.Test.YtbngbhildijciaaSup16
namespace Go.Proofs.Ytbngbhildijciaa
open Go.RowKit
set_option linter.unusedVariables false

structure W2 (W : World) (a b c d o : Int) (G : Nat) (F : Nat → Int) (v : World) : Prop where
  st : WSt W a b c d o v
  pg : Row v G 256 F
section
variable {W v v' : World} {a b c d o : Int} {G : Nat} {F H : Nat → Int}
theorem W2.put (h : W2 W a b c d o G F v) (k : Only G v v') (r : Row v' G 256 H) (hG : W.heap.size + 1 < G) : W2 W a b c d o G H v' := ⟨h.st.only k hG h.pg.lt, r⟩
theorem WSt.drew2 (h : WSt W a b c d o v) : WSt W a b c d o v.drew := ⟨h.sup, h.res, h.old.drew⟩
theorem W2.drew (h : W2 W a b c d o G F v) : W2 W a b c d o G F v.drew := ⟨h.st.drew2, h.pg⟩
end
set_option maxRecDepth 100000 in
set_option maxHeartbeats 1000000 in
theorem rwrite_geo (a b c d o : Int) (w : World) (h : ¬ mayP a b c d) :
    Calls Try.prog 12 #[supV a b c d o] w fun e w' => e = .returned (.tuple #[.agg (bytesOf 256 zeroF), .int .i64 50]) ∧ Below w.heap.size w w' := by
  have H : Hid (mayB a b c d = false) := decide_eq_false h
  have S0 := hide (WSt.start w a b c d o 26 29)
  obtain ⟨k0, k1, k2, k3, k4⟩ := S0.out.cells
  clear h
  unfold supV
  go_enter Try.func12, Try.ntmps12
  go_wp2_with (refine allocB rfl rfl ?_)
  refine (refMay_any a b c d _).mono ?_
  rintro e w1 ⟨rfl, hw⟩
  rw [H.out]
  have S1 := hide (S0.out.below hw)
  clear hw S0 k0 k1 k2 k3 k4
  go_wp2_with (first
    | (refine buildB rfl rfl ?_)
    | (refine st256 rfl (.tmp 2) (.tmp 9) rfl (w.heap.size + 1) zeroF zeroF rfl rfl S1.out.res ?_; intro w2 hr2 ho2; have HR2 := hide hr2; have HO2 := hide ho2; clear hr2 ho2))
  exact bodyPost_ret_by (results_blk rfl _ _ _ _ _ rfl rfl HR2.out) rfl ⟨rfl, S1.out.old.trans (HO2.out.below (by omega) S1.out.old.size)⟩

set_option maxRecDepth 100000 in
set_option maxHeartbeats 1000000 in
theorem rwrite_arg (a b c d o : Int) (w : World) (h : mayP a b c d) (ho0 : 0 ≤ o) (ho1 : o ≤ 4294967295) (hle : ¬ o ≤ a * c) :
    Calls Try.prog 12 #[supV a b c d o] w fun e w' => e = .returned (.tuple #[.agg (bytesOf 256 zeroF), .int .i64 2]) ∧ Below w.heap.size w w' := by
  have H : Hid (mayB a b c d = true) := decide_eq_true h
  have hm := h.mulc
  obtain ⟨hm0, hm1⟩ := hm
  have w0 : wrap64 (a * c) = a * c := IntWalk.wrap64_in _ ⟨by omega, by omega⟩
  have f6 : decide (a * c < o) = true := decide_eq_true (by omega)
  have S0 := hide (WSt.start w a b c d o 26 29)
  obtain ⟨k0, k1, k2, k3, k4⟩ := S0.out.cells
  clear h hle
  unfold supV
  go_enter Try.func12, Try.ntmps12
  go_wp2_with (refine allocB rfl rfl ?_)
  refine (refMay_any a b c d _).mono ?_
  rintro e w1 ⟨rfl, hw⟩
  rw [H.out]
  have S1 := hide (S0.out.below hw)
  clear hw S0 k0 k1 k2 k3 k4
  obtain ⟨k0, k1, k2, k3, k4⟩ := S1.out.cells
  go_wp2_with (first
    | (refine buildB rfl rfl ?_)
    | (refine st256 rfl (.tmp 2) (.tmp 21) rfl (w.heap.size + 1) zeroF zeroF rfl rfl S1.out.res ?_; intro w2 hr2 ho2; have HR2 := hide hr2; have HO2 := hide ho2; clear hr2 ho2))
  exact bodyPost_ret_by (results_blk rfl _ _ _ _ _ rfl rfl HR2.out) rfl ⟨rfl, S1.out.old.trans (HO2.out.below (by omega) S1.out.old.size)⟩

set_option maxRecDepth 100000 in
set_option maxHeartbeats 2000000 in
theorem rwrite_ok (a b c d o : Int) (w : World) (h : mayP a b c d) (ho0 : 0 ≤ o) (ho1 : o ≤ 4294967295) (hle : o ≤ a * c) :
    Calls Try.prog 12 #[supV a b c d o] w fun e w' => e = .returned (.tuple #[.agg (bytesOf 256 (sealF (pageF a b c d o))), .int .i64 0]) ∧ Below w.heap.size w w' := by
  have H : Hid (mayB a b c d = true) := decide_eq_true h
  have hm := h.mulc
  obtain ⟨hm0, hm1⟩ := hm
  have w0 : wrap64 (a * c) = a * c := IntWalk.wrap64_in _ ⟨by omega, by omega⟩
  have f6 : decide (a * c < o) = false := decide_eq_false (by omega)
  have BA : 0 ≤ a ∧ a ≤ 65535 := by have := h.1; omega
  have BB : 0 ≤ b ∧ b ≤ 65535 := by have := h.2.1; omega
  have BC : 0 ≤ c ∧ c ≤ 65535 := by have := h.2.2.1; omega
  have BD : 0 ≤ d ∧ d ≤ 65535 := by have := h.2.2.2.2.1; omega
  obtain ⟨a0, a1⟩ := BA
  obtain ⟨b0, b1⟩ := BB
  obtain ⟨c0, c1⟩ := BC
  obtain ⟨d0, d1⟩ := BD
  have S0 := hide (WSt.start w a b c d o 26 29)
  obtain ⟨k0, k1, k2, k3, k4⟩ := S0.out.cells
  clear h hle
  unfold supV
  go_enter Try.func12, Try.ntmps12
  go_wp2_with (refine allocB rfl rfl ?_)
  refine (refMay_any a b c d _).mono ?_
  rintro e w1 ⟨rfl, hw⟩
  rw [H.out]
  have S1 := hide (S0.out.below hw)
  clear hw S0 k0 k1 k2 k3 k4
  obtain ⟨k0, k1, k2, k3, k4⟩ := S1.out.cells
  have hG : w.heap.size + 1 < w1.heap.size := S1.out.res.lt
  have T0 : Hid (W2 w a b c d o w1.heap.size zeroF (w1.alloc (.cells (bytesOf 256 zeroF) 29))) := ⟨S1.out.alloc _, Row.new w1 _ _ _⟩
  have F0 : Hid (IsByte zeroF) := zeroF_isByte
  go_wp2_with (refine allocB rfl rfl ?_)
  clear S1 k0 k1 k2 k3 k4 w0 f6
  generalize w1.heap.size = G at *
  generalize World.alloc _ _ = v0 at *
  refine (rPut32_in G 256 0 0 _ 827216465 _ rfl T0.out.pg F0.out (by omega) (by omega) (by omega) (by omega)).mono ?_
  rintro e v1 ⟨rfl, hr, ho⟩
  have T1 : Hid (W2 w a b c d o G (putB zeroF 0 827216465 4) v1) := T0.out.put ho hr hG
  have F1 := hide (putB_byte F0.out 0 827216465 4)
  clear hr ho T0 F0
  go_wp2_with fail
  refine (rPut16_in G 256 4 4 _ 1 _ rfl T1.out.pg F1.out (by omega) (by omega) (by omega) (by omega)).mono ?_
  rintro e v2 ⟨rfl, hr, ho⟩
  have T2 : Hid (W2 w a b c d o G (putB (putB zeroF 0 827216465 4) 4 1 2) v2) := T1.out.put ho hr hG
  have F2 := hide (putB_byte F1.out 4 1 2)
  clear hr ho T1 F1
  go_wp2_with fail
  refine (rPut16_in G 256 6 6 _ 256 _ rfl T2.out.pg F2.out (by omega) (by omega) (by omega) (by omega)).mono ?_
  rintro e v3 ⟨rfl, hr, ho⟩
  have T3 : Hid (W2 w a b c d o G (putB (putB (putB zeroF 0 827216465 4) 4 1 2) 6 256 2) v3) := T2.out.put ho hr hG
  have F3 := hide (putB_byte F2.out 6 256 2)
  clear hr ho T2 F2
  obtain ⟨k0, k1, k2, k3, k4⟩ := T3.out.st.cells
  go_wp2_with fail
  go_still_tail 5, (by kernel_rfl)
  go_wp2_with (first
    | (go_at_call 29; refine (rPut16_in G 256 _ 8 _ a _ rfl T3.out.drew.pg F3.out (by omega) a0 a1 (by omega)).mono ?_; rintro e v4 ⟨rfl, hr, ho⟩; have T4 : Hid (W2 w a b c d o G (putB (putB (putB (putB zeroF 0 827216465 4) 4 1 2) 6 256 2) 8 a 2) v4) := T3.out.drew.put ho hr hG; have F4 := hide (putB_byte F3.out 8 a 2); clear hr ho T3 F3 k0 k1 k2 k3 k4; obtain ⟨k0, k1, k2, k3, k4⟩ := T4.out.st.cells))
  go_still_tail 5, (by kernel_rfl)
  go_wp2_with (first
    | (go_at_call 29; refine (rPut16_in G 256 _ 10 _ b _ rfl T4.out.drew.pg F4.out (by omega) b0 b1 (by omega)).mono ?_; rintro e v5 ⟨rfl, hr, ho⟩; have T5 : Hid (W2 w a b c d o G (putB (putB (putB (putB (putB zeroF 0 827216465 4) 4 1 2) 6 256 2) 8 a 2) 10 b 2) v5) := T4.out.drew.put ho hr hG; have F5 := hide (putB_byte F4.out 10 b 2); clear hr ho T4 F4 k0 k1 k2 k3 k4; obtain ⟨k0, k1, k2, k3, k4⟩ := T5.out.st.cells))
  go_still_tail 5, (by kernel_rfl)
  go_wp2_with (first
    | (go_at_call 29; refine (rPut16_in G 256 _ 12 _ c _ rfl T5.out.drew.pg F5.out (by omega) c0 c1 (by omega)).mono ?_; rintro e v6 ⟨rfl, hr, ho⟩; have T6 : Hid (W2 w a b c d o G (putB (putB (putB (putB (putB (putB zeroF 0 827216465 4) 4 1 2) 6 256 2) 8 a 2) 10 b 2) 12 c 2) v6) := T5.out.drew.put ho hr hG; have F6 := hide (putB_byte F5.out 12 c 2); clear hr ho T5 F5 k0 k1 k2 k3 k4; obtain ⟨k0, k1, k2, k3, k4⟩ := T6.out.st.cells))
  go_still_tail 5, (by kernel_rfl)
  go_wp2_with (first
    | (go_at_call 29; refine (rPut16_in G 256 _ 14 _ d _ rfl T6.out.drew.pg F6.out (by omega) d0 d1 (by omega)).mono ?_; rintro e v7 ⟨rfl, hr, ho⟩; have T7 : Hid (W2 w a b c d o G (putB (putB (putB (putB (putB (putB (putB zeroF 0 827216465 4) 4 1 2) 6 256 2) 8 a 2) 10 b 2) 12 c 2) 14 d 2) v7) := T6.out.drew.put ho hr hG; have F7 := hide (putB_byte F6.out 14 d 2); clear hr ho T6 F6 k0 k1 k2 k3 k4; obtain ⟨k0, k1, k2, k3, k4⟩ := T7.out.st.cells))
  go_still_tail 3, (by kernel_rfl)
  go_wp2_with (first
    | (go_at_call 28; refine (rPut32_in G 256 _ 16 _ o _ rfl T7.out.drew.pg F7.out (by omega) ho0 ho1 (by omega)).mono ?_; rintro e v8 ⟨rfl, hr, ho⟩; have T8 : Hid (W2 w a b c d o G (putB (putB (putB (putB (putB (putB (putB (putB zeroF 0 827216465 4) 4 1 2) 6 256 2) 8 a 2) 10 b 2) 12 c 2) 14 d 2) 16 o 4) v8) := T7.out.drew.put ho hr hG; have F8 := hide (putB_byte F7.out 16 o 4); clear hr ho T7 F7 k0 k1 k2 k3 k4; obtain ⟨k0, k1, k2, k3, k4⟩ := T8.out.st.cells)
    | (refine ld256 rfl (.tmp 4) rfl _ _ rfl T8.out.pg ?_))
  have T9 : Hid (W2 w a b c d o G (pageF a b c d o) v8) := T8.out
  have F9 : Hid (IsByte (pageF a b c d o)) := F8.out
  clear k0 k1 k2 k3 k4 T8 F8
  refine (sealed_any (pageF a b c d o) _ F9.out).mono ?_
  rintro e v9 ⟨rfl, hw⟩
  have S9 := hide (T9.out.st.below hw)
  clear hw T9
  go_wp2_with (first
    | (refine st256 rfl (.tmp 2) (.tmp 57) rfl (w.heap.size + 1) zeroF (sealF (pageF a b c d o)) rfl rfl S9.out.res ?_; intro w2 hr2 ho2; have HR2 := hide hr2; have HO2 := hide ho2; clear hr2 ho2))
  exact bodyPost_ret_by (results_blk rfl _ _ _ _ _ rfl rfl HR2.out) rfl ⟨rfl, S9.out.old.trans (HO2.out.below (by omega) S9.out.old.size)⟩
/-- What the document's Write tells, whatever it is. -/
theorem rwrite_any (a b c d o : Int) (w : World) (ho0 : 0 ≤ o) (ho1 : o ≤ 4294967295) :
    Calls Try.prog 12 #[supV a b c d o] w fun e w' => e = .returned (.tuple #[.agg (bytesOf 256 (wrF a b c d o)), .int .i64 (wrC a b c d o)]) ∧ Below w.heap.size w w' := by
  unfold wrF wrC
  by_cases h : mayP a b c d
  · by_cases hle : o ≤ a * c
    · rw [if_pos ⟨h, hle⟩, if_pos h, if_pos hle]; exact rwrite_ok a b c d o w h ho0 ho1 hle
    · rw [if_neg (fun q => hle q.2), if_pos h, if_neg hle]; exact rwrite_arg a b c d o w h ho0 ho1 hle
  · rw [if_neg (fun q => h q.1), if_neg h]; exact rwrite_geo a b c d o w h
end Go.Proofs.Ytbngbhildijciaa

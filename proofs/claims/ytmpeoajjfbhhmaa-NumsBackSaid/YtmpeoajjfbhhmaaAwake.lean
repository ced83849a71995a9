/- quernlaw01.awake is true. -/
import Derived.Test.YtmpeoajjfbhhmaaZero
namespace Go.Proofs.Ytmpeoajjfbhhmaa
open Go.RowKit
set_option linter.unusedVariables false

theorem lit3 : (#[Value.int IntKind.u8 1, Value.int IntKind.u8 2, Value.int IntKind.u8 3] : Array Value).toList = bl 3 (litF [1, 2, 3]) := by rfl
theorem lit5 : (#[Value.int IntKind.u8 1, Value.int IntKind.u8 2, Value.int IntKind.u8 3, Value.int IntKind.u8 4, Value.int IntKind.u8 255] : Array Value).toList = bl 5 (litF [1, 2, 3, 4, 255]) := by rfl
theorem lit0 : (#[Value.int IntKind.u8 0, Value.int IntKind.u8 0, Value.int IntKind.u8 0] : Array Value).toList = bl 3 (litF [0, 0, 0]) := by rfl
theorem lit00 : (#[Value.int IntKind.u8 0, Value.int IntKind.u8 0] : Array Value).toList = bl 2 (litF [0, 0]) := by rfl

set_option maxHeartbeats 1000000 in
theorem awake_any (w : World) : Calls Try.prog 23 #[] w fun e w' => e = .returned (.bool true) ∧ Below w.heap.size w w' := by
  have F1 := hide (litF_byte [1, 2, 3] rfl)
  have F2 := hide (litF_byte [1, 2, 3, 4, 255] rfl)
  have F3 := hide (litF_byte [0, 0, 0] rfl)
  have F4 := hide (litF_byte [0, 0] rfl)
  have V1 := hide (show read 2 (litF [1, 2, 3]) 3 1 = 770 by decide)
  have I1 := hide (show within 2 3 1 = true by decide)
  have V2 := hide (show read 4 (litF [1, 2, 3, 4, 255]) 5 1 = 4278452994 by decide)
  have I2 := hide (show within 4 5 1 = true by decide)
  have I3 := hide (show within 4 5 2 = false by decide)
  have M1 := hide (show may16 3 1 65535 = true by decide)
  have P0 := hide (show put16 (litF [0, 0, 0]) 0 3 1 65535 0 = 0 by decide)
  have P1 := hide (show put16 (litF [0, 0, 0]) 0 3 1 65535 1 = 255 by decide)
  have P2 := hide (show put16 (litF [0, 0, 0]) 0 3 1 65535 2 = 255 by decide)
  have Z1 := hide (show sameB (litF [0, 0]) zeroF 2 = true by decide)
  have Z2 := hide (show sameB (put16 (litF [0, 0, 0]) 0 3 1 65535) zeroF 3 = false by decide)
  go_enter Try.func23, Try.ntmps23
  go_wp2_with fail
  refine (Get16_any _ 3 3 1 (litF [1, 2, 3]) _ (by omega) (Bs.lit w _ 3 _ _ lit3) F1.out).mono ?_
  rintro e w1 ⟨rfl, hw⟩
  have B1 : Hid (Below w.heap.size w w1) := by rw [← hw]; exact (Below.refl _ _).alloc (Nat.le_refl _) _
  clear hw
  rw [V1.out, I1.out]
  go_wp2_with fail
  refine (Get32_any _ 5 5 1 (litF [1, 2, 3, 4, 255]) _ (by omega) (Bs.lit w1 _ 5 _ _ lit5) F2.out).mono ?_
  rintro e w2 ⟨rfl, hw⟩
  have B2 : Hid (Below w.heap.size w w2) := by rw [← hw]; exact B1.out.alloc B1.out.size _
  clear hw B1
  rw [V2.out, I2.out]
  go_wp2_with fail
  refine (Get32_any _ 5 5 2 (litF [1, 2, 3, 4, 255]) _ (by omega) (Bs.lit w2 _ 5 _ _ lit5) F2.out).mono ?_
  rintro e w3 ⟨rfl, hw⟩
  have B3 : Hid (Below w.heap.size w w3) := by rw [← hw]; exact B2.out.alloc B2.out.size _
  clear hw B2
  rw [I3.out]
  have hz3 := B3.out.size
  go_wp2_with fail
  refine (Put16_any w3.heap.size 3 0 3 3 1 (litF [0, 0, 0]) 65535 _ (by omega) (Row.lit w3 _ 3 _ _ lit0) (by omega) (by omega) (by omega)).mono ?_
  rintro e w4 ⟨rfl, hr4, ho4⟩
  have B4 : Hid (Below w.heap.size w w4) := (B3.out.alloc hz3 _).trans (ho4.below hz3 (by simp; omega))
  have hz4 := B4.out.size
  have R4 := hide hr4
  have c0 := hr4.cell (i := 0) (by omega)
  have c1 := hr4.cell (i := 1) (by omega)
  have c2 := hr4.cell (i := 2) (by omega)
  rw [P0.out] at c0
  rw [P1.out] at c1
  rw [P2.out] at c2
  clear hr4 ho4 B3
  rw [M1.out]
  go_wp2_with fail
  refine (Put16_great _ 3 3 1 65536 _ (by omega) (by omega)).mono ?_
  rintro e w5 ⟨rfl, rfl⟩
  go_wp2_with fail
  refine (Zero_any _ 2 2 (litF [0, 0]) (by omega) (by omega) (by omega) _ (Bs.lit w4 _ 2 _ _ lit00) F4.out).mono ?_
  rintro e w5 ⟨rfl, hb5⟩
  have hb5' := (((Below.refl w4.heap.size w4).alloc (Nat.le_refl _) _)).trans (hb5.mono (by simp))
  have B5 : Hid (Below w.heap.size w w5) := B4.out.trans (hb5'.mono hz4)
  have R5 := hide (R4.out.below hb5' R4.out.lt)
  have hz5 := hb5'.size
  have FB := hide (put16_byte F3.out 0 3 1 65535)
  clear hb5 hb5' c0 c1 c2
  rw [Z1.out]
  go_wp2_with fail
  refine (Zero_any _ 3 3 (put16 (litF [0, 0, 0]) 0 3 1 65535) (by omega) (by omega) (by omega) _ R5.out.seg0.bs FB.out).mono ?_
  rintro e w6 ⟨rfl, hb6⟩
  have B6 : Hid (Below w.heap.size w w6) := B5.out.trans (hb6.mono (by omega))
  clear hb6
  rw [Z2.out]
  go_wp2_with fail
  go_ret
  exact ⟨rfl, B6.out⟩
end Go.Proofs.Ytmpeoajjfbhhmaa

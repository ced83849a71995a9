/- The walk of quernref07.May. -/
import Derived.Test.YtdnalmikndilpaaIno3
namespace Go.Proofs.Ytdnalmikndilpaa
open Go.RowKit
set_option linter.unusedVariables false

theorem mayIB_free {x : Ino} (h : x.kind = 0) : mayIB x = (x.links == 0 && (x.size == 0 && (x.next == 0 && sameB x.ptr zeroF 11))) := by
  rw [mayI_free h, Bool.eq_iff_iff, inoE_iff]
  simp only [zeroI, Bool.and_eq_true, beq_iff_eq, sameB_iff, zeroF]
  exact ⟨fun k => ⟨k.2.1, k.2.2.2.1, k.2.2.2.2.2, k.2.2.2.2.1⟩, fun k => ⟨h, k.1, trivial, k.2.1, k.2.2.2, k.2.2.1⟩⟩

set_option maxRecDepth 100000 in
set_option maxHeartbeats 2000000 in
theorem rMay_freeL (x : Ino) (w : World) (h : x.kind = 0) (l : x.links ≠ 0) :
    Calls Try.prog 13 #[inoV x] w fun e w' => e = .returned (.bool (mayIB x)) ∧ Below w.heap.size w w' := by
  have G0 := hide (IAt.new w 27 x)
  have c0 := G0.out.c0
  have c1 := G0.out.c1
  have c3 := G0.out.c3
  have cn := G0.out.cn
  have H : Hid (false = mayIB x) := by rw [Hid, mayIB_free h]; simp [l]
  have v : (x.links == 0) = false := by simp [l]
  clear l
  rw [h] at c0
  clear h
  unfold inoV
  go_enter Try.func13, Try.ntmps13
  go_wp2_with fail
  go_loop [3, 4] (fun n i => ∃ k : Nat, k ≤ 11 ∧ i = .int .i64 k ∧ n = .bool false) (fun _ i => 11 - (intOf i).toNat)
  case atStart => exact ⟨0, Nat.zero_le _, rfl, rfl⟩
  case round =>
    obtain ⟨k, hk, rfl, rfl⟩ := hrel
    by_cases hlt : k < 11
    · have hlt' : (k : Int) < 11 := by omega
      go_wp2_with fail
      go_round
      case rel => exact ⟨k + 1, by omega, by go_num, rfl⟩
      case measure => simp [intOf]; omega
    · obtain rfl : k = 11 := by omega
      go_wp2_with fail
      go_ret
      exact ⟨ret_bool H.out, (Below.refl _ _).alloc (Nat.le_refl _) _⟩

set_option maxRecDepth 100000 in
set_option maxHeartbeats 2000000 in
theorem rMay_freeS (x : Ino) (w : World) (h : x.kind = 0) (l : x.links = 0) (s : x.size ≠ 0) :
    Calls Try.prog 13 #[inoV x] w fun e w' => e = .returned (.bool (mayIB x)) ∧ Below w.heap.size w w' := by
  have G0 := hide (IAt.new w 27 x)
  have c0 := G0.out.c0
  have c1 := G0.out.c1
  have c3 := G0.out.c3
  have cn := G0.out.cn
  have H : Hid (false = mayIB x) := by rw [Hid, mayIB_free h]; simp [s]
  have v : (x.size == 0) = false := by simp [s]
  rw [l] at c1
  clear l s
  rw [h] at c0
  clear h
  unfold inoV
  go_enter Try.func13, Try.ntmps13
  go_wp2_with fail
  go_loop [3, 4] (fun n i => ∃ k : Nat, k ≤ 11 ∧ i = .int .i64 k ∧ n = .bool false) (fun _ i => 11 - (intOf i).toNat)
  case atStart => exact ⟨0, Nat.zero_le _, rfl, rfl⟩
  case round =>
    obtain ⟨k, hk, rfl, rfl⟩ := hrel
    by_cases hlt : k < 11
    · have hlt' : (k : Int) < 11 := by omega
      go_wp2_with fail
      go_round
      case rel => exact ⟨k + 1, by omega, by go_num, rfl⟩
      case measure => simp [intOf]; omega
    · obtain rfl : k = 11 := by omega
      go_wp2_with fail
      go_ret
      exact ⟨ret_bool H.out, (Below.refl _ _).alloc (Nat.le_refl _) _⟩

set_option maxRecDepth 100000 in
set_option maxHeartbeats 2000000 in
theorem rMay_freeN (x : Ino) (w : World) (h : x.kind = 0) (l : x.links = 0) (s : x.size = 0) (n : x.next ≠ 0) :
    Calls Try.prog 13 #[inoV x] w fun e w' => e = .returned (.bool (mayIB x)) ∧ Below w.heap.size w w' := by
  have G0 := hide (IAt.new w 27 x)
  have c0 := G0.out.c0
  have c1 := G0.out.c1
  have c3 := G0.out.c3
  have cn := G0.out.cn
  have H : Hid (false = mayIB x) := by rw [Hid, mayIB_free h]; simp [n]
  have v : (x.next == 0) = false := by simp [n]
  rw [l] at c1
  rw [s] at c3
  clear l s n
  rw [h] at c0
  clear h
  unfold inoV
  go_enter Try.func13, Try.ntmps13
  go_wp2_with fail
  go_loop [3, 4] (fun n i => ∃ k : Nat, k ≤ 11 ∧ i = .int .i64 k ∧ n = .bool false) (fun _ i => 11 - (intOf i).toNat)
  case atStart => exact ⟨0, Nat.zero_le _, rfl, rfl⟩
  case round =>
    obtain ⟨k, hk, rfl, rfl⟩ := hrel
    by_cases hlt : k < 11
    · have hlt' : (k : Int) < 11 := by omega
      go_wp2_with fail
      go_round
      case rel => exact ⟨k + 1, by omega, by go_num, rfl⟩
      case measure => simp [intOf]; omega
    · obtain rfl : k = 11 := by omega
      go_wp2_with fail
      go_ret
      exact ⟨ret_bool H.out, (Below.refl _ _).alloc (Nat.le_refl _) _⟩

set_option maxRecDepth 100000 in
set_option maxHeartbeats 2000000 in
theorem rMay_freeP (x : Ino) (w : World) (h : x.kind = 0) (l : x.links = 0) (s : x.size = 0) (n : x.next = 0) :
    Calls Try.prog 13 #[inoV x] w fun e w' => e = .returned (.bool (mayIB x)) ∧ Below w.heap.size w w' := by
  have G0 := hide (IAt.new w 27 x)
  have c0 := G0.out.c0
  have c1 := G0.out.c1
  have c3 := G0.out.c3
  have cn := G0.out.cn
  have H : Hid (sameB x.ptr zeroF 11 = mayIB x) := by rw [Hid, mayIB_free h]; simp [l, s, n]
  rw [l] at c1
  rw [s] at c3
  rw [n] at cn
  clear l s n
  rw [h] at c0
  clear h
  unfold inoV
  go_enter Try.func13, Try.ntmps13
  go_wp2_with fail
  go_loop [3, 4] (fun n i => ∃ k : Nat, k ≤ 11 ∧ i = .int .i64 k ∧ n = .bool (sameB x.ptr zeroF k)) (fun _ i => 11 - (intOf i).toNat)
  case atStart => exact ⟨0, Nat.zero_le _, rfl, rfl⟩
  case round =>
    obtain ⟨k, hk, rfl, rfl⟩ := hrel
    by_cases hlt : k < 11
    · have hlt' : (k : Int) < 11 := by omega
      have cp := G0.out.cp hlt
      have HS : Hid (sameB x.ptr zeroF (k + 1) = (sameB x.ptr zeroF k && (x.ptr k == 0))) := rfl
      cases hb : sameB x.ptr zeroF k
      · rw [hb] at HS
        have HS2 : Hid (sameB x.ptr zeroF (k + 1) = false) := HS
        clear hb HS
        go_wp2_with fail
        go_round
        case rel => exact ⟨k + 1, by omega, by go_num, by rw [HS2.out]⟩
        case measure => simp [intOf]; omega
      · rw [hb] at HS
        by_cases hp : x.ptr k = 0
        · have HS2 : Hid (sameB x.ptr zeroF (k + 1) = true) := by rw [Hid, HS.out, hp]; rfl
          rw [hp] at cp
          clear hb HS hp
          go_wp2_with fail
          go_round
          case rel => exact ⟨k + 1, by omega, by go_num, by rw [HS2.out]⟩
          case measure => simp [intOf]; omega
        · have v : (x.ptr k == 0) = false := by simp [hp]
          have HS2 : Hid (sameB x.ptr zeroF (k + 1) = false) := by rw [Hid, HS.out, v]; rfl
          clear hb HS hp
          go_wp2_with fail
          go_round
          case rel => exact ⟨k + 1, by omega, by go_num, by rw [HS2.out]⟩
          case measure => simp [intOf]; omega
    · obtain rfl : k = 11 := by omega
      go_wp2_with fail
      go_ret
      exact ⟨ret_bool H.out, (Below.refl _ _).alloc (Nat.le_refl _) _⟩

theorem rMay_free (x : Ino) (w : World) (h : x.kind = 0) :
    Calls Try.prog 13 #[inoV x] w fun e w' => e = .returned (.bool (mayIB x)) ∧ Below w.heap.size w w' := by
  by_cases l : x.links = 0
  · by_cases s : x.size = 0
    · by_cases n : x.next = 0
      · exact rMay_freeP x w h l s n
      · exact rMay_freeN x w h l s n
    · exact rMay_freeS x w h l s
  · exact rMay_freeL x w h l

set_option maxRecDepth 100000 in
set_option maxHeartbeats 2000000 in
theorem rMay_file (x : Ino) (w : World) (h : x.kind = 1) :
    Calls Try.prog 13 #[inoV x] w fun e w' => e = .returned (.bool (mayIB x)) ∧ Below w.heap.size w w' := by
  have HK := hide h
  have G0 := hide (IAt.new w 27 x)
  have c0 := G0.out.c0
  have c1 := G0.out.c1
  have c3 := G0.out.c3
  rw [h] at c0
  clear h
  unfold inoV
  by_cases l0 : 0 ≤ x.links
  case neg =>
    have H := hide (mayI_no (x := x) (by have := HK.out; unfold mayI; omega))
    have v : decide (0 ≤ x.links) = false := decide_eq_false l0
    clear l0
    go_enter Try.func13, Try.ntmps13
    go_wp2_with fail
    go_ret
    exact ⟨ret_bool H.out, (Below.refl _ _).alloc (Nat.le_refl _) _⟩
  by_cases l1 : x.links ≤ 1000
  case neg =>
    have H := hide (mayI_no (x := x) (by have := HK.out; unfold mayI; omega))
    have v : decide (x.links ≤ 1000) = false := decide_eq_false l1
    clear l1
    go_enter Try.func13, Try.ntmps13
    go_wp2_with fail
    go_ret
    exact ⟨ret_bool H.out, (Below.refl _ _).alloc (Nat.le_refl _) _⟩
  by_cases s0 : 0 ≤ x.size
  case neg =>
    have H := hide (mayI_no (x := x) (by have := HK.out; unfold mayI; omega))
    have v : decide (0 ≤ x.size) = false := decide_eq_false s0
    clear s0
    go_enter Try.func13, Try.ntmps13
    go_wp2_with fail
    go_ret
    exact ⟨ret_bool H.out, (Below.refl _ _).alloc (Nat.le_refl _) _⟩
  by_cases s1 : x.size ≤ 16777216
  case neg =>
    have H := hide (mayI_no (x := x) (by have := HK.out; unfold mayI; omega))
    have v : decide (x.size ≤ 16777216) = false := decide_eq_false s1
    clear s1
    go_enter Try.func13, Try.ntmps13
    go_wp2_with fail
    go_ret
    exact ⟨ret_bool H.out, (Below.refl _ _).alloc (Nat.le_refl _) _⟩
  have H := hide (mayI_yes (x := x) (.inr (.inl ⟨HK.out, ⟨l0, l1⟩, s0, s1⟩)))
  go_enter Try.func13, Try.ntmps13
  go_wp2_with fail
  go_ret
  exact ⟨ret_bool H.out, (Below.refl _ _).alloc (Nat.le_refl _) _⟩

set_option maxRecDepth 100000 in
set_option maxHeartbeats 2000000 in
theorem rMay_dir (x : Ino) (w : World) (h : x.kind = 2) :
    Calls Try.prog 13 #[inoV x] w fun e w' => e = .returned (.bool (mayIB x)) ∧ Below w.heap.size w w' := by
  have HK := hide h
  have G0 := hide (IAt.new w 27 x)
  have c0 := G0.out.c0
  have c1 := G0.out.c1
  have c3 := G0.out.c3
  have cn := G0.out.cn
  rw [h] at c0
  clear h
  unfold inoV
  by_cases l1 : x.links = 1
  case neg =>
    have H := hide (mayI_no (x := x) (by have := HK.out; unfold mayI; omega))
    have v : (x.links == 1) = false := by simp [l1]
    clear l1
    go_enter Try.func13, Try.ntmps13
    go_wp2_with fail
    go_ret
    exact ⟨ret_bool H.out, (Below.refl _ _).alloc (Nat.le_refl _) _⟩
  have L1 := hide l1
  rw [l1] at c1
  clear l1
  by_cases s0 : 0 ≤ x.size
  case neg =>
    have H := hide (mayI_no (x := x) (by have := HK.out; unfold mayI; omega))
    have v : decide (0 ≤ x.size) = false := decide_eq_false s0
    clear s0
    go_enter Try.func13, Try.ntmps13
    go_wp2_with fail
    go_ret
    exact ⟨ret_bool H.out, (Below.refl _ _).alloc (Nat.le_refl _) _⟩
  by_cases s1 : x.size ≤ 16777216
  case neg =>
    have H := hide (mayI_no (x := x) (by have := HK.out; unfold mayI; omega))
    have v : decide (x.size ≤ 16777216) = false := decide_eq_false s1
    clear s1
    go_enter Try.func13, Try.ntmps13
    go_wp2_with fail
    go_ret
    exact ⟨ret_bool H.out, (Below.refl _ _).alloc (Nat.le_refl _) _⟩
  by_cases sm : x.size % 256 = 0
  case neg =>
    have H := hide (mayI_no (x := x) (by have := HK.out; unfold mayI; omega))
    have v : (x.size % 256 == 0) = false := by simp [sm]
    clear sm
    go_enter Try.func13, Try.ntmps13
    go_wp2_with fail
    go_ret
    exact ⟨ret_bool H.out, (Below.refl _ _).alloc (Nat.le_refl _) _⟩
  have SM := hide sm
  have vm : (x.size % 256 == 0) = true := by simp [sm]
  clear sm
  by_cases n0 : x.next = 0
  case neg =>
    have H := hide (mayI_no (x := x) (by have := HK.out; unfold mayI; omega))
    have v : (x.next == 0) = false := by simp [n0]
    clear n0
    go_enter Try.func13, Try.ntmps13
    go_wp2_with fail
    go_ret
    exact ⟨ret_bool H.out, (Below.refl _ _).alloc (Nat.le_refl _) _⟩
  have N0 := hide n0
  rw [n0] at cn
  clear n0
  have H := hide (mayI_yes (x := x) (.inr (.inr ⟨HK.out, L1.out, ⟨s0, s1⟩, SM.out, N0.out⟩)))
  go_enter Try.func13, Try.ntmps13
  go_wp2_with fail
  go_ret
  exact ⟨ret_bool H.out, (Below.refl _ _).alloc (Nat.le_refl _) _⟩

set_option maxRecDepth 100000 in
set_option maxHeartbeats 2000000 in
theorem rMay_else (x : Ino) (w : World) (h0 : x.kind ≠ 0) (h1 : x.kind ≠ 1) (h2 : x.kind ≠ 2) :
    Calls Try.prog 13 #[inoV x] w fun e w' => e = .returned (.bool (mayIB x)) ∧ Below w.heap.size w w' := by
  have G0 := hide (IAt.new w 27 x)
  have c0 := G0.out.c0
  have v0 : (x.kind == 0) = false := by simp [h0]
  have v1 : (x.kind == 1) = false := by simp [h1]
  have v2 : (x.kind == 2) = false := by simp [h2]
  have H := hide (mayI_no (x := x) (by unfold mayI; omega))
  clear h0 h1 h2
  unfold inoV
  go_enter Try.func13, Try.ntmps13
  go_wp2_with fail
  go_ret
  exact ⟨ret_bool H.out, (Below.refl _ _).alloc (Nat.le_refl _) _⟩
theorem rMay_any (x : Ino) (w : World) :
    Calls Try.prog 13 #[inoV x] w fun e w' => e = .returned (.bool (mayIB x)) ∧ Below w.heap.size w w' := by
  by_cases h0 : x.kind = 0
  · exact rMay_free x w h0
  by_cases h1 : x.kind = 1
  · exact rMay_file x w h1
  by_cases h2 : x.kind = 2
  · exact rMay_dir x w h2
  exact rMay_else x w h0 h1 h2

end Go.Proofs.Ytdnalmikndilpaa

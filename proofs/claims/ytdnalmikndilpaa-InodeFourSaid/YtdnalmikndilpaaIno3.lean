/- The walks of inode.May, inode.place, quernref07.Place. -/
import Derived.Test.YtdnalmikndilpaaIno2
namespace Go.Proofs.Ytdnalmikndilpaa
open Go.RowKit
set_option linter.unusedVariables false

theorem ret_bool {a b : Bool} (h : a = b) : Ending.returned (.bool a) = .returned (.bool b) := by rw [h]
theorem mayI_no {x : Ino} (h : ¬ mayI x) : false = mayIB x := (decide_eq_false h).symm
theorem mayI_yes {x : Ino} (h : mayI x) : true = mayIB x := (decide_eq_true h).symm

set_option maxRecDepth 100000 in
set_option maxHeartbeats 2000000 in
theorem imay_file (x : Ino) (w : World) (h : x.kind = 1) :
    Calls Try.prog 12 #[inoV x] w fun e w' => e = .returned (.bool (mayIB x)) ∧ Below w.heap.size w w' := by
  have HK := hide h
  have G0 := hide (IAt.new w 27 x)
  have c0 := G0.out.c0
  have c1 := G0.out.c1
  have c3 := G0.out.c3
  rw [h] at c0
  clear h
  unfold inoV
  by_cases l0 : 0 ≤ x.links
  case neg =>
    have H := hide (mayI_no (x := x) (by have := HK.out; unfold mayI; omega))
    have v : decide (0 ≤ x.links) = false := decide_eq_false l0
    clear l0
    go_enter Try.func12, Try.ntmps12
    go_wp2_with fail
    go_ret
    exact ⟨ret_bool H.out, (Below.refl _ _).alloc (Nat.le_refl _) _⟩
  by_cases l1 : x.links ≤ 1000
  case neg =>
    have H := hide (mayI_no (x := x) (by have := HK.out; unfold mayI; omega))
    have v : decide (x.links ≤ 1000) = false := decide_eq_false l1
    clear l1
    go_enter Try.func12, Try.ntmps12
    go_wp2_with fail
    go_ret
    exact ⟨ret_bool H.out, (Below.refl _ _).alloc (Nat.le_refl _) _⟩
  by_cases s0 : 0 ≤ x.size
  case neg =>
    have H := hide (mayI_no (x := x) (by have := HK.out; unfold mayI; omega))
    have v : decide (0 ≤ x.size) = false := decide_eq_false s0
    clear s0
    go_enter Try.func12, Try.ntmps12
    go_wp2_with fail
    go_ret
    exact ⟨ret_bool H.out, (Below.refl _ _).alloc (Nat.le_refl _) _⟩
  by_cases s1 : x.size ≤ 16777216
  case neg =>
    have H := hide (mayI_no (x := x) (by have := HK.out; unfold mayI; omega))
    have v : decide (x.size ≤ 16777216) = false := decide_eq_false s1
    clear s1
    go_enter Try.func12, Try.ntmps12
    go_wp2_with fail
    go_ret
    exact ⟨ret_bool H.out, (Below.refl _ _).alloc (Nat.le_refl _) _⟩
  have H := hide (mayI_yes (x := x) (.inr (.inl ⟨HK.out, ⟨l0, l1⟩, s0, s1⟩)))
  go_enter Try.func12, Try.ntmps12
  go_wp2_with fail
  go_ret
  exact ⟨ret_bool H.out, (Below.refl _ _).alloc (Nat.le_refl _) _⟩

set_option maxRecDepth 100000 in
set_option maxHeartbeats 2000000 in
theorem imay_dir (x : Ino) (w : World) (h : x.kind = 2) :
    Calls Try.prog 12 #[inoV x] w fun e w' => e = .returned (.bool (mayIB x)) ∧ Below w.heap.size w w' := by
  have HK := hide h
  have G0 := hide (IAt.new w 27 x)
  have c0 := G0.out.c0
  have c1 := G0.out.c1
  have c3 := G0.out.c3
  have cn := G0.out.cn
  rw [h] at c0
  clear h
  unfold inoV
  by_cases l1 : x.links = 1
  case neg =>
    have H := hide (mayI_no (x := x) (by have := HK.out; unfold mayI; omega))
    have v : (x.links != 1) = true := by simp [l1]
    clear l1
    go_enter Try.func12, Try.ntmps12
    go_wp2_with fail
    go_ret
    exact ⟨ret_bool H.out, (Below.refl _ _).alloc (Nat.le_refl _) _⟩
  rw [l1] at c1
  have L1 := hide l1
  clear l1
  by_cases s0 : 0 ≤ x.size
  case neg =>
    have H := hide (mayI_no (x := x) (by have := HK.out; unfold mayI; omega))
    have v : decide (0 ≤ x.size) = false := decide_eq_false s0
    clear s0
    go_enter Try.func12, Try.ntmps12
    go_wp2_with fail
    all_goals
      go_ret
      exact ⟨ret_bool H.out, (Below.refl _ _).alloc (Nat.le_refl _) _⟩
  by_cases sm : x.size % 256 = 0
  case neg =>
    have H := hide (mayI_no (x := x) (by have := HK.out; unfold mayI; omega))
    have v : (x.size % 256 != 0) = true := by simp [sm]
    clear sm
    go_enter Try.func12, Try.ntmps12
    go_wp2_with fail
    go_ret
    exact ⟨ret_bool H.out, (Below.refl _ _).alloc (Nat.le_refl _) _⟩
  have vm : (x.size % 256 != 0) = false := by simp [sm]
  have SM := hide sm
  clear sm
  by_cases n0 : x.next = 0
  case neg =>
    have H := hide (mayI_no (x := x) (by have := HK.out; unfold mayI; omega))
    have v : (x.next != 0) = true := by simp [n0]
    clear n0
    go_enter Try.func12, Try.ntmps12
    go_wp2_with fail
    go_ret
    exact ⟨ret_bool H.out, (Below.refl _ _).alloc (Nat.le_refl _) _⟩
  have N0 := hide n0
  rw [n0] at cn
  clear n0
  by_cases s1 : x.size ≤ 16777216
  case neg =>
    have H := hide (mayI_no (x := x) (by have := HK.out; unfold mayI; omega))
    have v : decide (x.size ≤ 16777216) = false := decide_eq_false s1
    clear s1
    go_enter Try.func12, Try.ntmps12
    go_wp2_with fail
    go_ret
    exact ⟨ret_bool H.out, (Below.refl _ _).alloc (Nat.le_refl _) _⟩
  have H := hide (mayI_yes (x := x) (.inr (.inr ⟨HK.out, L1.out, ⟨s0, s1⟩, SM.out, N0.out⟩)))
  go_enter Try.func12, Try.ntmps12
  go_wp2_with fail
  go_ret
  exact ⟨ret_bool H.out, (Below.refl _ _).alloc (Nat.le_refl _) _⟩

set_option maxRecDepth 100000 in
set_option maxHeartbeats 2000000 in
theorem imay_else (x : Ino) (w : World) (h0 : x.kind ≠ 0) (h1 : x.kind ≠ 1) (h2 : x.kind ≠ 2) :
    Calls Try.prog 12 #[inoV x] w fun e w' => e = .returned (.bool (mayIB x)) ∧ Below w.heap.size w w' := by
  have G0 := hide (IAt.new w 27 x)
  have c0 := G0.out.c0
  have v0 : (x.kind == 0) = false := by simp [h0]
  have v1 : (x.kind == 1) = false := by simp [h1]
  have v2 : (x.kind == 2) = false := by simp [h2]
  have H := hide (mayI_no (x := x) (by unfold mayI; omega))
  clear h0 h1 h2
  unfold inoV
  go_enter Try.func12, Try.ntmps12
  go_wp2_with fail
  go_ret
  exact ⟨ret_bool H.out, (Below.refl _ _).alloc (Nat.le_refl _) _⟩
theorem imay_any (x : Ino) (w : World) :
    Calls Try.prog 12 #[inoV x] w fun e w' => e = .returned (.bool (mayIB x)) ∧ Below w.heap.size w w' := by
  by_cases h0 : x.kind = 0
  · exact imay_free x w h0
  by_cases h1 : x.kind = 1
  · exact imay_file x w h1
  by_cases h2 : x.kind = 2
  · exact imay_dir x w h2
  exact imay_else x w h0 h1 h2

/-- Is a place one? -/
def placeP (n : Int) : Prop := 0 ≤ n ∧ n < 256 ∧ n % 64 = 0
instance (n : Int) : Decidable (placeP n) := by unfold placeP; infer_instance
def placeB (n : Int) : Bool := decide (placeP n)
theorem place_any (n : Int) (w : World) : Calls Try.prog 17 #[.int .i64 n] w fun e w' => e = .returned (.bool (placeB n)) ∧ w = w' := by
  by_cases h0 : 0 ≤ n
  case neg =>
    have H : Hid (false = placeB n) := (decide_eq_false (fun h => h0 h.1)).symm
    have v : decide (0 ≤ n) = false := decide_eq_false h0
    clear h0
    go_enter Try.func17, Try.ntmps17
    go_wp2_with fail
    go_ret
    exact ⟨ret_bool H.out, rfl⟩
  by_cases h1 : n < 256
  case neg =>
    have H : Hid (false = placeB n) := (decide_eq_false (fun h => h1 h.2.1)).symm
    have v : decide (n < 256) = false := decide_eq_false h1
    clear h1
    go_enter Try.func17, Try.ntmps17
    go_wp2_with fail
    go_ret
    exact ⟨ret_bool H.out, rfl⟩
  by_cases h2 : n % 64 = 0
  case neg =>
    have H : Hid (false = placeB n) := (decide_eq_false (fun h => h2 h.2.2)).symm
    have v : (n % 64 == 0) = false := by simp [h2]
    clear h2
    go_enter Try.func17, Try.ntmps17
    go_wp2_with fail
    go_ret
    exact ⟨ret_bool H.out, rfl⟩
  have H : Hid (true = placeB n) := (decide_eq_true ⟨h0, h1, h2⟩).symm
  have v : (n % 64 == 0) = true := by simp [h2]
  clear h2
  go_enter Try.func17, Try.ntmps17
  go_wp2_with fail
  go_ret
  exact ⟨ret_bool H.out, rfl⟩
theorem placeP_four {n : Int} : placeP n ↔ n = 0 ∨ n = 64 ∨ n = 128 ∨ n = 192 := by unfold placeP; omega
theorem rPlace_any (n : Int) (w : World) : Calls Try.prog 19 #[.int .i64 n] w fun e w' => e = .returned (.bool (placeB n)) ∧ w = w' := by
  by_cases h : placeP n
  · have H : Hid (true = placeB n) := (decide_eq_true h).symm
    rcases placeP_four.1 h with rfl | rfl | rfl | rfl
    all_goals
      clear h
      go_enter Try.func19, Try.ntmps19
      go_wp2_with fail
      go_ret
      exact ⟨ret_bool H.out, rfl⟩
  · have H : Hid (false = placeB n) := (decide_eq_false h).symm
    rw [placeP_four] at h
    have v0 : (n == 0) = false := by simp; omega
    have v1 : (n == 64) = false := by simp; omega
    have v2 : (n == 128) = false := by simp; omega
    have v3 : (n == 192) = false := by simp; omega
    clear h
    go_enter Try.func19, Try.ntmps19
    go_wp2_with fail
    go_ret
    exact ⟨ret_bool H.out, rfl⟩
end Go.Proofs.Ytdnalmikndilpaa

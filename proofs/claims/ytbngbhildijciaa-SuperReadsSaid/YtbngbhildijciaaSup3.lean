/- The walk of seal. -/
import Derived.Test.YtbngbhildijciaaSup2
namespace Go.Proofs.Ytbngbhildijciaa
open Go.RowKit
set_option linter.unusedVariables false

/-- A block with its sum. -/
def sealF (f : Nat → Int) : Nat → Int := putB f 252 ((sumF f 252 : Nat) : Int) 4
/-- A slot that holds the slice of a row that was made. -/
def Bx (v : World) (s : Value) (cells : Array Value) (n : Nat) : Prop := ∃ g t, s = .slice (some ⟨g, 0, none⟩) n n ∧ v.heap[g]? = some (.cells cells t (0, 0))
theorem Bx.below {v v' : World} {s : Value} {cells : Array Value} {n : Nat} (h : Bx v s cells n) (k : Below v.heap.size v v') : Bx v' s cells n := by
  obtain ⟨g, t, e, m⟩ := h
  exact ⟨g, t, e, (k.block g (lt_of_block m)).trans m⟩
theorem Bx.new (v : World) (cells : Array Value) (n : Nat) (t : TypeId) : Bx (v.alloc (.cells cells t)) (.slice (some ⟨v.heap.size, 0, none⟩) n n) cells n := ⟨_, _, rfl, heap_alloc_new v _⟩
theorem Bx.only {v v' : World} {s : Value} {cells : Array Value} {g : Nat} {f : Nat → Int} (h : Bx v s cells 1) (k : Only g v v') (hp : Row v g 256 f) (hs : cells.size = 1 := by rfl) : Bx v' s cells 1 := by
  obtain ⟨b, t, e, m⟩ := h
  refine ⟨b, t, e, (k.block b (lt_of_block m) (fun x => ?_)).trans m⟩
  injection x with x
  subst x
  obtain ⟨t', hp⟩ := hp
  rw [m] at hp
  injection hp with hp
  injection hp with h1 _ _
  have h2 := congrArg Array.size h1
  rw [bytesOf_size, hs] at h2
  omega
structure SealSt (w : World) (g : Nat) (F : Nat → Int) (v : World) : Prop where
  lt : g < w.heap.size
  page : Row v g 256 F
  res : Row v w.heap.size 256 zeroF
  old : Below g w v
theorem SealSt.size {w v : World} {g : Nat} {F : Nat → Int} (h : SealSt w g F v) : w.heap.size < v.heap.size := h.res.lt
theorem SealSt.below {w v v' : World} {g : Nat} {F : Nat → Int} (h : SealSt w g F v) (k : Below v.heap.size v v') : SealSt w g F v' := ⟨h.lt, h.page.below k h.page.lt, h.res.below k h.res.lt, h.old.trans (k.mono (by have := h.page.lt; omega))⟩
theorem SealSt.drew {w v : World} {g : Nat} {F : Nat → Int} (h : SealSt w g F v) : SealSt w g F v.drew := ⟨h.lt, h.page, h.res, h.old.drew⟩
theorem SealSt.only {w v v' : World} {g : Nat} {F G : Nat → Int} (h : SealSt w g F v) (k : Only g v v') (r : Row v' g 256 G) : SealSt w g G v' := ⟨h.lt, r, h.res.only k (by have := h.lt; omega), h.old.trans (k.below (Nat.le_refl _) (by have := h.page.lt; omega))⟩
def Seal1 (w : World) (g : Nat) (f : Nat → Int) (p1 : Value) (d : Nat → Bool) (a : Act) (v : World) : Prop := ∃ s3 s4 s5 s6 s7 s8 s9 s10 s11, a = { tmps := (Value.pointer (some ⟨g, 0, none⟩) :: p1 :: Value.pointer (some ⟨w.heap.size, 0, none⟩) :: s3 :: s4 :: s5 :: s6 :: s7 :: s8 :: s9 :: s10 :: s11 :: undef :: undef :: undef :: undef :: []).toArray, defers := [] } ∧ SealSt w g (bif d 8 then sealF f else f) v ∧ (d 0 = true → s3 = Value.pointer (some ⟨g, 0, none⟩)) ∧ (d 1 = true → s4 = Value.slice (some ⟨g, 0, none⟩) 256 256) ∧ (d 2 = true → s5 = Value.pointer (some ⟨g, 0, none⟩)) ∧ (d 3 = true → s6 = Value.pointer (some ⟨g, 0, none⟩)) ∧ (d 4 = true → s7 = Value.pointer (some ⟨g, 0, none⟩)) ∧ (d 5 = true → s8 = Value.slice (some ⟨g, 0, none⟩) 252 256) ∧ (d 6 = true → Bx v s9 #[.slice (some ⟨g, 0, none⟩) 252 256] 1) ∧ (d 7 = true → s10 = Value.int .u32 ((sumF f 252 : Nat) : Int)) ∧ (d 8 = true → s11 = Value.bool true ∧ d 7 = true)
theorem Seal1.elim {w : World} {g : Nat} {f : Nat → Int} {p1 : Value} {d : Nat → Bool} {a : Act} {v : World} (H : Seal1 w g f p1 d a v) {G : Prop} (k : ∀ s3 s4 s5 s6 s7 s8 s9 s10 s11, a = { tmps := (Value.pointer (some ⟨g, 0, none⟩) :: p1 :: Value.pointer (some ⟨w.heap.size, 0, none⟩) :: s3 :: s4 :: s5 :: s6 :: s7 :: s8 :: s9 :: s10 :: s11 :: undef :: undef :: undef :: undef :: []).toArray, defers := [] } → SealSt w g (bif d 8 then sealF f else f) v → (d 0 = true → s3 = Value.pointer (some ⟨g, 0, none⟩)) → (d 1 = true → s4 = Value.slice (some ⟨g, 0, none⟩) 256 256) → (d 2 = true → s5 = Value.pointer (some ⟨g, 0, none⟩)) → (d 3 = true → s6 = Value.pointer (some ⟨g, 0, none⟩)) → (d 4 = true → s7 = Value.pointer (some ⟨g, 0, none⟩)) → (d 5 = true → s8 = Value.slice (some ⟨g, 0, none⟩) 252 256) → (d 6 = true → Bx v s9 #[.slice (some ⟨g, 0, none⟩) 252 256] 1) → (d 7 = true → s10 = Value.int .u32 ((sumF f 252 : Nat) : Int)) → (d 8 = true → s11 = Value.bool true ∧ d 7 = true) → G) : G := by
  obtain ⟨s3, s4, s5, s6, s7, s8, s9, s10, s11, e, HS, h0, h1, h2, h3, h4, h5, h6, h7, h8⟩ := H
  exact k s3 s4 s5 s6 s7 s8 s9 s10 s11 e HS h0 h1 h2 h3 h4 h5 h6 h7 h8
theorem results_blk1 {fn : Func} {p : Tmp} (h : fn.results = #[.cell p 29]) (tmps : Array Value) (w : World) (g : Nat) (f : Nat → Int)
    (hp : tmps.getD p undef = .pointer (some ⟨g, 0, none⟩)) (hr : Row w g 256 f) : (results fn tmps).run Try.prog w = .ok (.agg (bytesOf 256 f)) w := by
  obtain ⟨t, hg⟩ := hr
  exact results_cell_row h _ _ g t _ (0, 0) _ hp hg Try.underlying29 rfl (by rw [bytesOf_size]; exact info256)
set_option maxRecDepth 100000 in
set_option maxHeartbeats 1000000 in
theorem seal_any (g : Nat) (f : Nat → Int) (w : World) (hf : IsByte f) (hr : Row w g 256 f) :
    Calls Try.prog 26 #[.pointer (some ⟨g, 0, none⟩)] w fun e w' => e = .returned (.agg (bytesOf 256 (sealF f))) ∧ Row w' g 256 (sealF f) ∧ Below g w w' := by
  have HF := hide hf
  have S0 : Hid (SealSt w g f (w.alloc (.cells (bytesOf 256 zeroF) 29))) := ⟨hr.lt, hr.alloc _, Row.new w _ _ _, (Below.refl g w).alloc (Nat.le_of_lt hr.lt) _⟩
  clear hf hr
  go_enter Try.func26, Try.ntmps26
  go_wp2_with (refine allocB rfl rfl ?_)
  refine wp_region_steps (by kernel_rfl) (by kernel_rfl) (Seal1 w g f _) ⟨_, _, _, _, _, _, _, _, _, rfl, S0.out.drew, (fun e => Bool.noConfusion e), (fun e => Bool.noConfusion e), (fun e => Bool.noConfusion e), (fun e => Bool.noConfusion e), (fun e => Bool.noConfusion e), (fun e => Bool.noConfusion e), (fun e => Bool.noConfusion e), (fun e => Bool.noConfusion e), (fun e => Bool.noConfusion e)⟩ ?hs ?he
  case hs =>
    go_tidy
    refine ⟨?o0, ?o1, ?o2, ?o3, ?o4, ?o5, ?o6, ?o7, ?o8, trivial⟩
    case o0 =>
      intro d a v hd hr hJ; refine Seal1.elim hJ ?_; intro s3 s4 s5 s6 s7 s8 s9 s10 s11 e HS h0 h1 h2 h3 h4 h5 h6 h7 h8; subst e
      go_wp2_with fail
      exact ⟨_, s4, s5, s6, s7, s8, s9, s10, s11, rfl, HS, fun _ => rfl, h1, h2, h3, h4, h5, h6, h7, fun q => ⟨(h8 q).1, by have := (h8 q).2; simp [setB, this]⟩⟩
    case o1 =>
      intro d a v hd hr hJ; refine Seal1.elim hJ ?_; intro s3 s4 s5 s6 s7 s8 s9 s10 s11 e HS h0 h1 h2 h3 h4 h5 h6 h7 h8; subst e
      have e0 : d 0 = true := by first | exact hr.1 rfl | exact hr.2.1 rfl | exact hr.2.2.1 rfl | exact hr.2.2.2.1 rfl | exact hr.2.2.2.2.1 rfl
      obtain rfl := h0 e0
      go_wp2_with fail
      refine (bytes_any g _).mono ?_
      rintro e v' ⟨rfl, rfl⟩
      go_wp2_with fail
      exact ⟨_, _, s5, s6, s7, s8, s9, s10, s11, rfl, HS, fun _ => rfl, fun _ => rfl, h2, h3, h4, h5, h6, h7, fun q => ⟨(h8 q).1, by have := (h8 q).2; simp [setB, this]⟩⟩
    case o2 =>
      intro d a v hd hr hJ; refine Seal1.elim hJ ?_; intro s3 s4 s5 s6 s7 s8 s9 s10 s11 e HS h0 h1 h2 h3 h4 h5 h6 h7 h8; subst e
      go_wp2_with fail
      exact ⟨s3, s4, _, s6, s7, s8, s9, s10, s11, rfl, HS, h0, h1, fun _ => rfl, h3, h4, h5, h6, h7, fun q => ⟨(h8 q).1, by have := (h8 q).2; simp [setB, this]⟩⟩
    case o3 =>
      intro d a v hd hr hJ; refine Seal1.elim hJ ?_; intro s3 s4 s5 s6 s7 s8 s9 s10 s11 e HS h0 h1 h2 h3 h4 h5 h6 h7 h8; subst e
      have e2 : d 2 = true := by first | exact hr.1 rfl | exact hr.2.1 rfl | exact hr.2.2.1 rfl | exact hr.2.2.2.1 rfl | exact hr.2.2.2.2.1 rfl
      obtain rfl := h2 e2
      go_wp2_with fail
      exact ⟨s3, s4, _, _, s7, s8, s9, s10, s11, rfl, HS, h0, h1, fun _ => rfl, fun _ => rfl, h4, h5, h6, h7, fun q => ⟨(h8 q).1, by have := (h8 q).2; simp [setB, this]⟩⟩
    case o4 =>
      intro d a v hd hr hJ; refine Seal1.elim hJ ?_; intro s3 s4 s5 s6 s7 s8 s9 s10 s11 e HS h0 h1 h2 h3 h4 h5 h6 h7 h8; subst e
      have e3 : d 3 = true := by first | exact hr.1 rfl | exact hr.2.1 rfl | exact hr.2.2.1 rfl | exact hr.2.2.2.1 rfl | exact hr.2.2.2.2.1 rfl
      obtain rfl := h3 e3
      go_wp2_with fail
      exact ⟨s3, s4, s5, _, _, s8, s9, s10, s11, rfl, HS, h0, h1, h2, fun _ => rfl, fun _ => rfl, h5, h6, h7, fun q => ⟨(h8 q).1, by have := (h8 q).2; simp [setB, this]⟩⟩
    case o5 =>
      intro d a v hd hr hJ; refine Seal1.elim hJ ?_; intro s3 s4 s5 s6 s7 s8 s9 s10 s11 e HS h0 h1 h2 h3 h4 h5 h6 h7 h8; subst e
      have e4 : d 4 = true := by first | exact hr.1 rfl | exact hr.2.1 rfl | exact hr.2.2.1 rfl | exact hr.2.2.2.1 rfl | exact hr.2.2.2.2.1 rfl
      obtain rfl := h4 e4
      go_wp2_with fail
      exact ⟨s3, s4, s5, s6, _, _, s9, s10, s11, rfl, HS, h0, h1, h2, h3, fun _ => rfl, fun _ => rfl, h6, h7, fun q => ⟨(h8 q).1, by have := (h8 q).2; simp [setB, this]⟩⟩
    case o6 =>
      intro d a v hd hr hJ; refine Seal1.elim hJ ?_; intro s3 s4 s5 s6 s7 s8 s9 s10 s11 e HS h0 h1 h2 h3 h4 h5 h6 h7 h8; subst e
      have e5 : d 5 = true := by first | exact hr.1 rfl | exact hr.2.1 rfl | exact hr.2.2.1 rfl | exact hr.2.2.2.1 rfl | exact hr.2.2.2.2.1 rfl
      obtain rfl := h5 e5
      go_wp2_with fail
      exact ⟨s3, s4, s5, s6, s7, _, _, s10, s11, rfl, HS.below ((Below.refl _ v).alloc (Nat.le_refl _) _), h0, h1, h2, h3, h4, fun _ => rfl, fun _ => Bx.new _ _ _ _, h7, fun q => ⟨(h8 q).1, by have := (h8 q).2; simp [setB, this]⟩⟩
    case o7 =>
      intro d a v hd hr hJ; refine Seal1.elim hJ ?_; intro s3 s4 s5 s6 s7 s8 s9 s10 s11 e HS h0 h1 h2 h3 h4 h5 h6 h7 h8; subst e
      have e6 : d 6 = true := by first | exact hr.1 rfl | exact hr.2.1 rfl | exact hr.2.2.1 rfl | exact hr.2.2.2.1 rfl | exact hr.2.2.2.2.1 rfl
      obtain ⟨g6, t6, rfl, m6⟩ := h6 e6
      go_wp2_with fail
      have e8 : d 8 = false := by cases q : d 8 with | true => exact absurd (h8 q).2 (by rw [hd]; decide) | false => rfl
      have hp := HS.page
      rw [e8] at hp
      refine (sum1_any g6 t6 _ 252 256 1 f _ m6 (hp.bs (by omega)) HF.out (by omega) (by omega)).mono ?_
      rintro e v' ⟨rfl, hw⟩
      go_wp2_with fail
      exact ⟨s3, s4, s5, s6, s7, s8, _, _, s11, rfl, HS.below hw, h0, h1, h2, h3, h4, h5, fun _ => Bx.below ⟨g6, t6, rfl, m6⟩ hw, fun _ => rfl, fun q => absurd (h8 q).2 (by rw [hd]; decide)⟩
    case o8 =>
      intro d a v hd hr hJ; refine Seal1.elim hJ ?_; intro s3 s4 s5 s6 s7 s8 s9 s10 s11 e HS h0 h1 h2 h3 h4 h5 h6 h7 h8; subst e
      have e1 : d 1 = true := by first | exact hr.1 rfl | exact hr.2.1 rfl | exact hr.2.2.1 rfl | exact hr.2.2.2.1 rfl | exact hr.2.2.2.2.1 rfl
      obtain rfl := h1 e1
      have e7 : d 7 = true := by first | exact hr.1 rfl | exact hr.2.1 rfl | exact hr.2.2.1 rfl | exact hr.2.2.2.1 rfl | exact hr.2.2.2.2.1 rfl
      obtain rfl := h7 e7
      go_wp2_with fail
      have hp := HS.page
      rw [hd] at hp
      refine (Put32_in g 256 252 252 f _ _ rfl hp (by omega) (by omega) (by have := sumF_lt HF.out 252; omega) (by omega)).mono ?_
      rintro e v' ⟨rfl, hr', ho'⟩
      go_wp2_with fail
      have hb := HS.only ho' hr'
      exact ⟨s3, _, s5, s6, s7, s8, s9, _, _, rfl, hb, h0, fun _ => rfl, h2, h3, h4, h5, fun q => (h6 q).only ho' hp, fun _ => rfl, fun _ => ⟨rfl, e7⟩⟩
  case he =>
    intro d a v hd hJ; refine Seal1.elim hJ ?_; intro s3 s4 s5 s6 s7 s8 s9 s10 s11 e HS _ _ _ _ _ _ _ _ _; subst e
    rw [hd 8 (by decide)] at HS
    have S1 := hide HS
    clear HS S0
    go_wp2_with (first
      | (refine ld256 rfl (.tmp 14) rfl _ _ rfl S1.out.page ?_)
      | (refine st256 rfl (.tmp 2) (.tmp 15) rfl w.heap.size zeroF (sealF f) rfl rfl S1.out.res ?_; intro w2 hr2 ho2; have HR2 := hide hr2; have HO2 := hide ho2; clear hr2 ho2))
    refine bodyPost_ret (results_blk1 rfl _ _ w.heap.size _ rfl HR2.out) rfl ?_
    have hl := S1.out.lt
    exact ⟨rfl, S1.out.page.only HO2.out (by omega), S1.out.old.trans (HO2.out.below (by omega) (by have := S1.out.page.lt; omega))⟩
end Go.Proofs.Ytbngbhildijciaa

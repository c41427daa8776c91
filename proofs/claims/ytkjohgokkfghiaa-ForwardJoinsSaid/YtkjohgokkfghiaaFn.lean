/-
  Contracts of the small functions: serial's, and the sizes, cuts and tests of what is told.
-/
import Derived.Test.YtkjohgokkfghiaaSk
import Derived.Test.YtkjohgokkfghiaaPl
set_option linter.unusedVariables false
set_option linter.unusedSimpArgs false
namespace Go.Proofs.Ytkjohgokkfghiaa.Fn
open Go.RowKit Wd Pl Sk

theorem ret_int {k : IntKind} {a b : Int} (h : b = a) : Ending.returned (.int k a) = .returned (.int k b) := by rw [h]
theorem bx32 : bits BinOp.xor IntKind.u32 IntKind.u32.max 0 / 2 = 2147483647 := by decide
theorem bx16 : bits BinOp.xor IntKind.u16 IntKind.u16.max 0 / 2 = 32767 := by decide

theorem c19 (a b : Int) (w : World) : Calls Try.prog 19 #[.int .u32 a, .int .u32 b] w fun e w' => e = .returned (.int .u32 (ah32 a b)) ∧ w = w' := by
  go_enter Try.func19, Try.ntmps19
  go_wp2
  go_ret
  exact ⟨rfl, rfl⟩

theorem c26 (a b : Int) (w : World) : Calls Try.prog 26 #[.int .u16 a, .int .u16 b] w fun e w' => e = .returned (.int .u16 (ah16 a b)) ∧ w = w' := by
  go_enter Try.func26, Try.ntmps26
  go_wp2
  go_ret
  exact ⟨rfl, rfl⟩

theorem c23 (a b : Int) (w : World) : Calls Try.prog 23 #[.int .u32 a, .int .u32 b] w fun e w' => e = .returned (.bool (ls32 a b)) ∧ w = w' := by
  go_enter Try.func23, Try.ntmps23
  go_wp2
  all_goals go_ret
  all_goals refine ⟨ret_bool (ls32_of ?_), rfl⟩
  all_goals simp only [ah32, bx32, IntKind.wrap_u16, decide_eq_true_eq, reduceCtorEq, iff_false, iff_true, Bool.false_eq_true] at *
  all_goals omega

theorem c25 (a b : Int) (w : World) : Calls Try.prog 25 #[.int .u16 a, .int .u16 b] w fun e w' => e = .returned (.bool (ls16 a b)) ∧ w = w' := by
  go_enter Try.func25, Try.ntmps25
  go_wp2
  all_goals go_ret
  all_goals refine ⟨ret_bool (ls16_of ?_), rfl⟩
  all_goals simp only [ah16, bx16, IntKind.wrap_u16, decide_eq_true_eq, reduceCtorEq, iff_false, iff_true, Bool.false_eq_true] at *
  all_goals omega

theorem c24 (a b : Int) (w : World) : Calls Try.prog 24 #[.int .u32 a, .int .u32 b] w fun e w' => e = .returned (.bool (ls32 a b)) ∧ w = w' := by
  go_enter Try.func24, Try.ntmps24
  go_wp2
  all_goals go_ret
  all_goals refine ⟨ret_bool (ls32_of ?_), rfl⟩
  all_goals simp only [ah32, bx32, IntKind.wrap_u16, decide_eq_true_eq, reduceCtorEq, iff_false, iff_true, Bool.false_eq_true] at *
  all_goals omega

theorem c21 (a b : Int) (w : World) : Calls Try.prog 21 #[.int .u16 a, .int .u16 b] w fun e w' => e = .returned (.bool (ls16 a b)) ∧ w = w' := by
  go_enter Try.func21, Try.ntmps21
  go_wp2
  all_goals go_ret
  all_goals refine ⟨ret_bool (ls16_of ?_), rfl⟩
  all_goals simp only [ah16, bx16, IntKind.wrap_u16, decide_eq_true_eq, reduceCtorEq, iff_false, iff_true, Bool.false_eq_true] at *
  all_goals omega

theorem c20 (a b : Int) (w : World) : Calls Try.prog 20 #[.int .u16 a, .int .u16 b] w fun e w' => e = .returned (.int .u16 (mx16 a b)) ∧ w = w' := by
  cases h : ls16 a b
  all_goals
    go_enter Try.func20, Try.ntmps20
    go_wp2_with (go_at_call 25; refine (c25 _ _ _).mono ?_; rintro e w' ⟨rfl, rfl⟩)
    go_ret
    exact ⟨ret_int (by simp [mx16, h]), rfl⟩

theorem info41 : (Try.prog.info? 41).map (fun i => (i.zero, i.size, i.bytes)) = some (some (.agg #[.int .u16 0, .int .u16 0]), 2, 4) := by kernel_rfl

/-- 'slices.Clone' of skips: nil of nil, else a row of its own. -/
theorem c22 (A : Option Addr) (n c B : Nat) (l : List (Int × Int)) (w : World) (hn : n ≤ 1000000) (hB : B ≤ w.heap.size) (h : Reads w B 2 A n (sks l)) (hnil : A = none → n = 0 ∧ c = 0) :
    Calls Try.prog 22 #[.slice A n c] w fun e w' => ∃ v, e = .returned v ∧ w'.ownsRow w.heap.size 41 2 v n (sks l) ∧ Below w.heap.size w w' := by
  obtain ⟨i0, hi0, hz0, hz1, hz2⟩ := info_parts info41
  rcases A with _ | ad
  · obtain ⟨rfl, rfl⟩ := hnil rfl
    have hl : l = [] := List.eq_nil_of_length_eq_zero (len_ h)
    subst hl
    have k1 := fun W => Lib.run_eql_slice_nil (P := Try.prog) W
    go_enter Try.func22, Try.ntmps22
    go_wp2
    go_ret
    exact ⟨_, rfl, ⟨by simp [sks], .inl ⟨rfl, rfl⟩⟩, Below.refl _ _⟩
  · have k1 := fun W => Lib.run_eql_slice_nil (P := Try.prog) W
    go_enter Try.func22, Try.ntmps22
    go_wp2_with (at_builtin; refine wpList_append_any _ rfl (.tmp 5) (.tmp 6) _ rfl w.heap.size 41 i0 _ 2 4 Try.underlying25 hi0 hz0 hz1 hz2 rfl (by omega) (.slice (some ⟨w.heap.size, 0, none⟩) 0 0) 0 [] rfl (own_empty w _ 41 2 (Nat.le_refl _)) B (some ad) n c (sks l) rfl (h.alloc hB _) (sks_one l) (by simp only [maxLen]; omega) (by omega) (by simp) ?_; intro v1 w1 hown1 hg1 hat1)
    go_ret
    refine ⟨v1, rfl, by simpa using hown1, ?_⟩
    exact below_app ((Below.refl _ _).alloc (Nat.le_refl _) _) (own_empty w _ 41 2 (Nat.le_refl _)) hg1 (by simp)


theorem c13 (cum : Int) (A : Option Addr) (n c : Nat) (w : World) (hn : n ≤ 1000000) :
    Calls Try.prog 13 #[.agg #[.int .u32 cum, .slice A n c]] w fun e w' => e = .returned (.int .i64 (4 + 4 * n)) ∧ Below w.heap.size w w' := by
  go_enter Try.func13, Try.ntmps13
  go_wp2
  go_ret
  exact ⟨rfl, (Below.refl _ _).alloc (Nat.le_refl _) _⟩
theorem c14 (cum : Int) (A : Option Addr) (n c : Nat) (w : World) (hn : n ≤ 1000000) :
    Calls Try.prog 14 #[.agg #[.int .u32 cum, .slice A n c]] w fun e w' => e = .returned (.int .i64 (4 + 4 * n)) ∧ Below w.heap.size w w' := by
  go_enter Try.func14, Try.ntmps14
  go_wp2
  go_ret
  exact ⟨rfl, (Below.refl _ _).alloc (Nat.le_refl _) _⟩
/-- Over: is it the cumulative one, or behind it? -/
def over (cum tsn : Int) : Bool := decide (tsn = cum) || ls32 tsn cum
theorem over_t {cum tsn : Int} (h : tsn = cum) : over cum tsn = true := by simp [over, h]
theorem over_f {cum tsn : Int} (h : ¬ tsn = cum) : over cum tsn = ls32 tsn cum := by simp [over, h]

theorem c17 (cum tsn : Int) (A : Option Addr) (n c : Nat) (w : World) :
    Calls Try.prog 17 #[.agg #[.int .u32 cum, .slice A n c], .int .u32 tsn] w fun e w' => e = .returned (.bool (over cum tsn)) ∧ Below w.heap.size w w' := by
  by_cases h : tsn = cum
  · have k := hide (over_t h)
    have k1 : (tsn == cum) = true := by rw [beq_iff_eq]; exact h
    clear h
    go_enter Try.func17, Try.ntmps17
    go_wp2
    go_ret
    exact ⟨ret_bool (unhide k), (Below.refl _ _).alloc (Nat.le_refl _) _⟩
  · have k := hide (over_f h)
    have k1 : (tsn == cum) = false := by rw [beq_eq_false_iff_ne]; exact h
    clear h
    go_enter Try.func17, Try.ntmps17
    go_wp2_with (go_at_call 23; refine (c23 _ _ _).mono ?_; rintro e w' ⟨rfl, rfl⟩)
    go_ret
    exact ⟨ret_bool (unhide k), (Below.refl _ _).alloc (Nat.le_refl _) _⟩

theorem c18 (cum tsn : Int) (A : Option Addr) (n c : Nat) (w : World) :
    Calls Try.prog 18 #[.agg #[.int .u32 cum, .slice A n c], .int .u32 tsn] w fun e w' => e = .returned (.bool (over cum tsn)) ∧ Below w.heap.size w w' := by
  by_cases h : tsn = cum
  · have k := hide (over_t h)
    have k1 : (tsn == cum) = true := by rw [beq_iff_eq]; exact h
    clear h
    go_enter Try.func18, Try.ntmps18
    go_wp2
    go_ret
    exact ⟨ret_bool (unhide k), (Below.refl _ _).alloc (Nat.le_refl _) _⟩
  · have k := hide (over_f h)
    have k1 : (tsn == cum) = false := by rw [beq_eq_false_iff_ne]; exact h
    clear h
    go_enter Try.func18, Try.ntmps18
    go_wp2_with (go_at_call 24; refine (c24 _ _ _).mono ?_; rintro e w' ⟨rfl, rfl⟩)
    go_ret
    exact ⟨ret_bool (unhide k), (Below.refl _ _).alloc (Nat.le_refl _) _⟩

theorem c11 (cum cum' : Int) (A A' : Option Addr) (n m c d B B' : Nat) (l l' : List (Int × Int)) (w : World) (hn : n ≤ 1000000) (hm : m ≤ 1000000) (hB : B ≤ w.heap.size) (hB' : B' ≤ w.heap.size) (h : Reads w B 2 A n (sks l)) (h' : Reads w B' 2 A' m (sks l')) :
    Calls Try.prog 11 #[.agg #[.int .u32 cum, .slice A n c], .agg #[.int .u32 cum', .slice A' m d]] w fun e w' => e = .returned (.bool (decide (cum = cum' ∧ l = l'))) ∧ Below w.heap.size w w' := by
  by_cases hc : cum = cum'
  · have k1 : (cum == cum') = true := by rw [beq_iff_eq]; exact hc
    have k := hide hc
    clear hc
    go_enter Try.func11, Try.ntmps11
    go_wp2_with (go_at_call 15; refine (same A A' n m c d B B' l l' _ (by omega) (by omega) (by simp; omega) (by simp; omega) ((h.alloc hB _).alloc (by simp; omega) _) ((h'.alloc hB' _).alloc (by simp; omega) _)).mono ?_; rintro e w1 ⟨rfl, hb⟩)
    go_ret
    exact ⟨ret_bool (by simp [unhide k]), below_then (((Below.refl _ _).alloc (Nat.le_refl _) _).alloc (by simp) _) (by simp; omega) hb⟩
  · have k1 : (cum == cum') = false := by rw [beq_eq_false_iff_ne]; exact hc
    have k := hide hc
    clear hc
    go_enter Try.func11, Try.ntmps11
    go_wp2
    go_ret
    exact ⟨ret_bool (by simp [unhide k]), ((Below.refl _ _).alloc (Nat.le_refl _) _).alloc (by simp) _⟩

end Go.Proofs.Ytkjohgokkfghiaa.Fn
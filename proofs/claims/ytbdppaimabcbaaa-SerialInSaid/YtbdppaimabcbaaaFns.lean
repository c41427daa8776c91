/-
  Contracts of the small functions of package serial and of the document's answer for it, each said once, for every two numbers.
-/
import Derived.Test.YtbdppaimabcbaaaProg
import Derived.WalkKit
import Derived.WalkLawsBesides
import Derived.WalkSpells
import Derived.Laws.BitsAllLaws
set_option linter.unusedVariables false
set_option linter.unusedSimpArgs false
namespace Go.Proofs.Ytbdppaimabcbaaa.Fns
open Go.RowKit

def ah32 (a b : Int) : Int := (b - a) % 4294967296
def ah16 (a b : Int) : Int := (b - a) % 65536
def ls32 (a b : Int) : Bool := decide (0 < ah32 a b) && decide (ah32 a b ≤ 2147483647)
def ls16 (a b : Int) : Bool := decide (0 < ah16 a b) && decide (ah16 a b ≤ 32767)
def mx32 (a b : Int) : Int := if ls32 a b = true then b else a
def mx16 (a b : Int) : Int := if ls16 a b = true then b else a
def in32 (x base width : Int) : Bool := decide (0 < ah32 base x) && (decide (0 < width) && decide (ah32 base x ≤ IntKind.u64.wrap width))
def in16 (x base width : Int) : Bool := decide (0 < ah16 base x) && (decide (0 < width) && decide (ah16 base x ≤ IntKind.u64.wrap width))

theorem ls32_of {a b : Int} {r : Bool} (h : (0 < ah32 a b ∧ ah32 a b ≤ 2147483647) ↔ r = true) : ls32 a b = r := by
  unfold ls32
  cases r <;> simp_all
theorem ls16_of {a b : Int} {r : Bool} (h : (0 < ah16 a b ∧ ah16 a b ≤ 32767) ↔ r = true) : ls16 a b = r := by
  unfold ls16
  cases r <;> simp_all
theorem in32_of {x base width : Int} {r : Bool} (h : (0 < ah32 base x ∧ 0 < width ∧ ah32 base x ≤ IntKind.u64.wrap width) ↔ r = true) : in32 x base width = r := by
  unfold in32
  cases r <;> simp_all
theorem in16_of {x base width : Int} {r : Bool} (h : (0 < ah16 base x ∧ 0 < width ∧ ah16 base x ≤ IntKind.u64.wrap width) ↔ r = true) : in16 x base width = r := by
  unfold in16
  cases r <;> simp_all
theorem ret_bool {a b : Bool} (h : b = a) : Ending.returned (.bool a) = .returned (.bool b) := by rw [h]
theorem ret_int {k : IntKind} {a b : Int} (h : b = a) : Ending.returned (.int k a) = .returned (.int k b) := by rw [h]
theorem bx32 : bits BinOp.xor IntKind.u32 IntKind.u32.max 0 / 2 = 2147483647 := by decide
theorem bx16 : bits BinOp.xor IntKind.u16 IntKind.u16.max 0 / 2 = 32767 := by decide

theorem c10 (a b : Int) (w : World) : Calls Try.prog 10 #[.int .u32 a, .int .u32 b] w fun e w' => e = .returned (.int .u32 (ah32 a b)) ∧ w = w' := by
  go_enter Try.func10, Try.ntmps10
  go_wp2
  go_ret
  exact ⟨rfl, rfl⟩

theorem c11 (a b : Int) (w : World) : Calls Try.prog 11 #[.int .u32 a, .int .u32 b] w fun e w' => e = .returned (.int .u32 (ah32 a b)) ∧ w = w' := by
  go_enter Try.func11, Try.ntmps11
  go_wp2
  go_ret
  exact ⟨rfl, rfl⟩

theorem c12 (a b : Int) (w : World) : Calls Try.prog 12 #[.int .u32 a, .int .u32 b] w fun e w' => e = .returned (.int .u32 (ah32 a b)) ∧ w = w' := by
  go_enter Try.func12, Try.ntmps12
  go_wp2
  go_ret
  exact ⟨rfl, rfl⟩

theorem c13 (a b : Int) (w : World) : Calls Try.prog 13 #[.int .u16 a, .int .u16 b] w fun e w' => e = .returned (.int .u16 (ah16 a b)) ∧ w = w' := by
  go_enter Try.func13, Try.ntmps13
  go_wp2
  go_ret
  exact ⟨rfl, rfl⟩

theorem c14 (a b : Int) (w : World) : Calls Try.prog 14 #[.int .u16 a, .int .u16 b] w fun e w' => e = .returned (.int .u16 (ah16 a b)) ∧ w = w' := by
  go_enter Try.func14, Try.ntmps14
  go_wp2
  go_ret
  exact ⟨rfl, rfl⟩

theorem c15 (a b : Int) (w : World) : Calls Try.prog 15 #[.int .u16 a, .int .u16 b] w fun e w' => e = .returned (.int .u16 (ah16 a b)) ∧ w = w' := by
  go_enter Try.func15, Try.ntmps15
  go_wp2
  go_ret
  exact ⟨rfl, rfl⟩

theorem c17 (a b : Int) (w : World) : Calls Try.prog 17 #[.int .u32 a, .int .u32 b] w fun e w' => e = .returned (.bool (ls32 a b)) ∧ w = w' := by
  go_enter Try.func17, Try.ntmps17
  go_wp2
  all_goals go_ret
  all_goals refine ⟨ret_bool (ls32_of ?_), rfl⟩
  all_goals simp only [ah32, bx32, IntKind.wrap_u16, decide_eq_true_eq, reduceCtorEq, iff_false, iff_true, Bool.false_eq_true] at *
  all_goals omega

theorem c19 (a b : Int) (w : World) : Calls Try.prog 19 #[.int .u32 a, .int .u32 b] w fun e w' => e = .returned (.bool (ls32 a b)) ∧ w = w' := by
  go_enter Try.func19, Try.ntmps19
  go_wp2
  all_goals go_ret
  all_goals refine ⟨ret_bool (ls32_of ?_), rfl⟩
  all_goals simp only [ah32, bx32, IntKind.wrap_u16, decide_eq_true_eq, reduceCtorEq, iff_false, iff_true, Bool.false_eq_true] at *
  all_goals omega

theorem c20 (a b : Int) (w : World) : Calls Try.prog 20 #[.int .u16 a, .int .u16 b] w fun e w' => e = .returned (.bool (ls16 a b)) ∧ w = w' := by
  go_enter Try.func20, Try.ntmps20
  go_wp2
  all_goals go_ret
  all_goals refine ⟨ret_bool (ls16_of ?_), rfl⟩
  all_goals simp only [ah16, bx16, IntKind.wrap_u16, decide_eq_true_eq, reduceCtorEq, iff_false, iff_true, Bool.false_eq_true] at *
  all_goals omega

theorem c22 (a b : Int) (w : World) : Calls Try.prog 22 #[.int .u16 a, .int .u16 b] w fun e w' => e = .returned (.bool (ls16 a b)) ∧ w = w' := by
  go_enter Try.func22, Try.ntmps22
  go_wp2
  all_goals go_ret
  all_goals refine ⟨ret_bool (ls16_of ?_), rfl⟩
  all_goals simp only [ah16, bx16, IntKind.wrap_u16, decide_eq_true_eq, reduceCtorEq, iff_false, iff_true, Bool.false_eq_true] at *
  all_goals omega

theorem c18 (a b : Int) (w : World) : Calls Try.prog 18 #[.int .u32 a, .int .u32 b] w fun e w' => e = .returned (.bool (ls32 a b)) ∧ w = w' := by
  go_enter Try.func18, Try.ntmps18
  go_wp2
  all_goals go_ret
  all_goals refine ⟨ret_bool (ls32_of ?_), rfl⟩
  all_goals simp only [ah32, bx32, IntKind.wrap_u16, decide_eq_true_eq, reduceCtorEq, iff_false, iff_true, Bool.false_eq_true] at *
  all_goals omega

theorem c21 (a b : Int) (w : World) : Calls Try.prog 21 #[.int .u16 a, .int .u16 b] w fun e w' => e = .returned (.bool (ls16 a b)) ∧ w = w' := by
  go_enter Try.func21, Try.ntmps21
  go_wp2
  all_goals go_ret
  all_goals refine ⟨ret_bool (ls16_of ?_), rfl⟩
  all_goals simp only [ah16, bx16, IntKind.wrap_u16, decide_eq_true_eq, reduceCtorEq, iff_false, iff_true, Bool.false_eq_true] at *
  all_goals omega

theorem c23 (a b : Int) (w : World) : Calls Try.prog 23 #[.int .u32 a, .int .u32 b] w fun e w' => e = .returned (.int .u32 (mx32 a b)) ∧ w = w' := by
  cases h : ls32 a b
  all_goals
    go_enter Try.func23, Try.ntmps23
    go_wp2_with (go_at_call 17; refine (c17 _ _ _).mono ?_; rintro e w' ⟨rfl, rfl⟩)
    go_ret
    exact ⟨ret_int (by simp [mx32, h]), rfl⟩

theorem c25 (a b : Int) (w : World) : Calls Try.prog 25 #[.int .u32 a, .int .u32 b] w fun e w' => e = .returned (.int .u32 (mx32 a b)) ∧ w = w' := by
  cases h : ls32 a b
  all_goals
    go_enter Try.func25, Try.ntmps25
    go_wp2_with (go_at_call 19; refine (c19 _ _ _).mono ?_; rintro e w' ⟨rfl, rfl⟩)
    go_ret
    exact ⟨ret_int (by simp [mx32, h]), rfl⟩

theorem c26 (a b : Int) (w : World) : Calls Try.prog 26 #[.int .u16 a, .int .u16 b] w fun e w' => e = .returned (.int .u16 (mx16 a b)) ∧ w = w' := by
  cases h : ls16 a b
  all_goals
    go_enter Try.func26, Try.ntmps26
    go_wp2_with (go_at_call 20; refine (c20 _ _ _).mono ?_; rintro e w' ⟨rfl, rfl⟩)
    go_ret
    exact ⟨ret_int (by simp [mx16, h]), rfl⟩

theorem c28 (a b : Int) (w : World) : Calls Try.prog 28 #[.int .u16 a, .int .u16 b] w fun e w' => e = .returned (.int .u16 (mx16 a b)) ∧ w = w' := by
  cases h : ls16 a b
  all_goals
    go_enter Try.func28, Try.ntmps28
    go_wp2_with (go_at_call 22; refine (c22 _ _ _).mono ?_; rintro e w' ⟨rfl, rfl⟩)
    go_ret
    exact ⟨ret_int (by simp [mx16, h]), rfl⟩

theorem c24 (a b : Int) (w : World) : Calls Try.prog 24 #[.int .u32 a, .int .u32 b] w fun e w' => e = .returned (.int .u32 (mx32 a b)) ∧ w = w' := by
  cases h : ls32 a b
  all_goals
    go_enter Try.func24, Try.ntmps24
    go_wp2_with (go_at_call 18; refine (c18 _ _ _).mono ?_; rintro e w' ⟨rfl, rfl⟩)
    go_ret
    exact ⟨ret_int (by simp [mx32, h]), rfl⟩

theorem c27 (a b : Int) (w : World) : Calls Try.prog 27 #[.int .u16 a, .int .u16 b] w fun e w' => e = .returned (.int .u16 (mx16 a b)) ∧ w = w' := by
  cases h : ls16 a b
  all_goals
    go_enter Try.func27, Try.ntmps27
    go_wp2_with (go_at_call 21; refine (c21 _ _ _).mono ?_; rintro e w' ⟨rfl, rfl⟩)
    go_ret
    exact ⟨ret_int (by simp [mx16, h]), rfl⟩

theorem c29 (x base width : Int) (w : World) (h0 : 0 ≤ x) (h1 : x < 4294967296) (h2 : 0 ≤ base) (h3 : base < 4294967296) : Calls Try.prog 29 #[.int .u32 x, .int .u32 base, .int .i64 width] w fun e w' => e = .returned (.bool (in32 x base width)) ∧ w = w' := by
  go_enter Try.func29, Try.ntmps29
  go_wp2
  all_goals go_ret
  all_goals refine ⟨ret_bool (in32_of ?_), rfl⟩
  all_goals simp only [ah32, IntKind.wrap_u16, IntKind.wrap_u64, decide_eq_true_eq, reduceCtorEq, iff_false, iff_true, Bool.false_eq_true, Bool.and_eq_true, bne_iff_ne, ne_eq] at *
  all_goals omega

theorem c31 (x base width : Int) (w : World) (h0 : 0 ≤ x) (h1 : x < 4294967296) (h2 : 0 ≤ base) (h3 : base < 4294967296) : Calls Try.prog 31 #[.int .u32 x, .int .u32 base, .int .i64 width] w fun e w' => e = .returned (.bool (in32 x base width)) ∧ w = w' := by
  go_enter Try.func31, Try.ntmps31
  go_wp2
  all_goals go_ret
  all_goals refine ⟨ret_bool (in32_of ?_), rfl⟩
  all_goals simp only [ah32, IntKind.wrap_u16, IntKind.wrap_u64, decide_eq_true_eq, reduceCtorEq, iff_false, iff_true, Bool.false_eq_true, Bool.and_eq_true, bne_iff_ne, ne_eq] at *
  all_goals omega

theorem c32 (x base width : Int) (w : World) (h0 : 0 ≤ x) (h1 : x < 65536) (h2 : 0 ≤ base) (h3 : base < 65536) : Calls Try.prog 32 #[.int .u16 x, .int .u16 base, .int .i64 width] w fun e w' => e = .returned (.bool (in16 x base width)) ∧ w = w' := by
  go_enter Try.func32, Try.ntmps32
  go_wp2
  all_goals go_ret
  all_goals refine ⟨ret_bool (in16_of ?_), rfl⟩
  all_goals simp only [ah16, IntKind.wrap_u16, IntKind.wrap_u64, decide_eq_true_eq, reduceCtorEq, iff_false, iff_true, Bool.false_eq_true, Bool.and_eq_true, bne_iff_ne, ne_eq] at *
  all_goals omega

theorem c34 (x base width : Int) (w : World) (h0 : 0 ≤ x) (h1 : x < 65536) (h2 : 0 ≤ base) (h3 : base < 65536) : Calls Try.prog 34 #[.int .u16 x, .int .u16 base, .int .i64 width] w fun e w' => e = .returned (.bool (in16 x base width)) ∧ w = w' := by
  go_enter Try.func34, Try.ntmps34
  go_wp2
  all_goals go_ret
  all_goals refine ⟨ret_bool (in16_of ?_), rfl⟩
  all_goals simp only [ah16, IntKind.wrap_u16, IntKind.wrap_u64, decide_eq_true_eq, reduceCtorEq, iff_false, iff_true, Bool.false_eq_true, Bool.and_eq_true, bne_iff_ne, ne_eq] at *
  all_goals omega

theorem c30 (x base width : Int) (w : World) (h0 : 0 ≤ x) (h1 : x < 4294967296) (h2 : 0 ≤ base) (h3 : base < 4294967296) : Calls Try.prog 30 #[.int .u32 x, .int .u32 base, .int .i64 width] w fun e w' => e = .returned (.bool (in32 x base width)) ∧ w = w' := by
  go_enter Try.func30, Try.ntmps30
  go_wp2
  all_goals go_ret
  all_goals refine ⟨ret_bool (in32_of ?_), rfl⟩
  all_goals simp only [ah32, IntKind.wrap_u16, IntKind.wrap_u64, decide_eq_true_eq, reduceCtorEq, iff_false, iff_true, Bool.false_eq_true, Bool.and_eq_true, bne_iff_ne, ne_eq] at *
  all_goals omega

theorem c33 (x base width : Int) (w : World) (h0 : 0 ≤ x) (h1 : x < 65536) (h2 : 0 ≤ base) (h3 : base < 65536) : Calls Try.prog 33 #[.int .u16 x, .int .u16 base, .int .i64 width] w fun e w' => e = .returned (.bool (in16 x base width)) ∧ w = w' := by
  go_enter Try.func33, Try.ntmps33
  go_wp2
  all_goals go_ret
  all_goals refine ⟨ret_bool (in16_of ?_), rfl⟩
  all_goals simp only [ah16, IntKind.wrap_u16, IntKind.wrap_u64, decide_eq_true_eq, reduceCtorEq, iff_false, iff_true, Bool.false_eq_true, Bool.and_eq_true, bne_iff_ne, ne_eq] at *
  all_goals omega

theorem c16 (w : World) : Calls Try.prog 16 #[] w fun e w' => e = .returned (.bool true) ∧ w = w' := by
  have e1 : ls32 4294967295 0 = true := by decide
  have e2 : ls32 0 2147483648 = false := by decide
  have e3 : ah16 65530 4 = 10 := by decide
  have e4 : mx32 4294967295 0 = 0 := by decide
  have e5 : in16 0 65535 1 = true := by decide
  go_enter Try.func16, Try.ntmps16
  go_wp2_with (first | (go_at_call 17; refine (c17 _ _ _).mono ?_; rintro e w' ⟨rfl, rfl⟩) | (go_at_call 13; refine (c13 _ _ _).mono ?_; rintro e w' ⟨rfl, rfl⟩) | (go_at_call 25; refine (c25 _ _ _).mono ?_; rintro e w' ⟨rfl, rfl⟩) | (go_at_call 34; refine (c34 _ _ _ _ (by decide) (by decide) (by decide) (by decide)).mono ?_; rintro e w' ⟨rfl, rfl⟩))
  go_ret
  exact ⟨rfl, rfl⟩

end Go.Proofs.Ytbdppaimabcbaaa.Fns
/-
  Plain laws on numbers that begin again behind their greatest one: the four ways in which two of them can lie.
-/
import Derived.Test.YtbdppaimabcbaaaFns
set_option linter.unusedVariables false
set_option linter.unusedSimpArgs false
namespace Go.Proofs.Ytbdppaimabcbaaa.Fns
open Go.RowKit

theorem ls32_t {a b : Int} (h : 0 < (b - a) % 4294967296 ∧ (b - a) % 4294967296 ≤ 2147483647) : ls32 a b = true := by
  simp [ls32, ah32, h.1, h.2]
theorem ls32_f {a b : Int} (h : ¬ (0 < (b - a) % 4294967296 ∧ (b - a) % 4294967296 ≤ 2147483647)) : ls32 a b = false := by
  cases e : ls32 a b
  · rfl
  · exfalso; apply h; rw [ls32, Bool.and_eq_true, decide_eq_true_iff, decide_eq_true_iff] at e; exact e
theorem ls16_t {a b : Int} (h : 0 < (b - a) % 65536 ∧ (b - a) % 65536 ≤ 32767) : ls16 a b = true := by
  simp [ls16, ah16, h.1, h.2]
theorem ls16_f {a b : Int} (h : ¬ (0 < (b - a) % 65536 ∧ (b - a) % 65536 ≤ 32767)) : ls16 a b = false := by
  cases e : ls16 a b
  · rfl
  · exfalso; apply h; rw [ls16, Bool.and_eq_true, decide_eq_true_iff, decide_eq_true_iff] at e; exact e

/-- How two of 32 bits lie: just one is less; or they are the same; or a half apart. -/
def Way32 (a b : Int) : Prop :=
  (ls32 a b = true ∧ ls32 b a = false ∧ mx32 a b = b ∧ mx32 b a = b ∧ ((a - b) % 4294967296 == 2147483648) = false) ∨
  (ls32 a b = false ∧ ls32 b a = true ∧ ((a - b) % 4294967296 == 2147483648) = false) ∨
  (a = b ∧ ls32 b b = false) ∨
  (ls32 a b = false ∧ ls32 b a = false ∧ a ≠ b ∧ (a - b) % 4294967296 = 2147483648)
theorem way32 (a b : Int) (h0 : 0 ≤ a) (h1 : a ≤ 4294967295) (h2 : 0 ≤ b) (h3 : b ≤ 4294967295) : Way32 a b := by
  unfold Way32
  by_cases e : a = b
  · subst e
    exact .inr (.inr (.inl ⟨rfl, ls32_f (by omega)⟩))
  · by_cases l : 0 < (b - a) % 4294967296 ∧ (b - a) % 4294967296 ≤ 2147483647
    · have g1 := ls32_t l
      have g2 : ls32 b a = false := ls32_f (by omega)
      exact .inl ⟨g1, g2, by simp [mx32, g1], by simp [mx32, g2], by simp; omega⟩
    · have g1 := ls32_f l
      by_cases l2 : 0 < (a - b) % 4294967296 ∧ (a - b) % 4294967296 ≤ 2147483647
      · exact .inr (.inl ⟨g1, ls32_t l2, by simp; omega⟩)
      · exact .inr (.inr (.inr ⟨g1, ls32_f l2, e, by omega⟩))
def Way16 (a b : Int) : Prop :=
  (ls16 a b = true ∧ ls16 b a = false ∧ mx16 a b = b ∧ mx16 b a = b ∧ (IntKind.u16.wrap (a - b) == 32768) = false) ∨
  (ls16 a b = false ∧ ls16 b a = true ∧ (IntKind.u16.wrap (a - b) == 32768) = false) ∨
  (a = b ∧ ls16 b b = false) ∨
  (ls16 a b = false ∧ ls16 b a = false ∧ a ≠ b ∧ IntKind.u16.wrap (a - b) = 32768)
theorem way16 (a b : Int) (h0 : 0 ≤ a) (h1 : a ≤ 65535) (h2 : 0 ≤ b) (h3 : b ≤ 65535) : Way16 a b := by
  unfold Way16
  simp only [IntKind.wrap_u16]
  by_cases e : a = b
  · subst e
    exact .inr (.inr (.inl ⟨rfl, ls16_f (by omega)⟩))
  · by_cases l : 0 < (b - a) % 65536 ∧ (b - a) % 65536 ≤ 32767
    · have g1 := ls16_t l
      have g2 : ls16 b a = false := ls16_f (by omega)
      exact .inl ⟨g1, g2, by simp [mx16, g1], by simp [mx16, g2], by simp; omega⟩
    · have g1 := ls16_f l
      by_cases l2 : 0 < (a - b) % 65536 ∧ (a - b) % 65536 ≤ 32767
      · exact .inr (.inl ⟨g1, ls16_t l2, by simp; omega⟩)
      · exact .inr (.inr (.inr ⟨g1, ls16_f l2, e, by omega⟩))
theorem ls32_self (a : Int) : ls32 a a = false := ls32_f (by omega)
theorem ls16_self (a : Int) : ls16 a a = false := ls16_f (by omega)
end Go.Proofs.Ytbdppaimabcbaaa.Fns

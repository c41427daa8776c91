/-
  Pieces in memory: a slice of pieces reads as a list of heads.
-/
import Derived.Test.YtkjohgokkfghiaaFn
set_option linter.unusedVariables false
set_option linter.unusedSimpArgs false
namespace Go.Proofs.Ytkjohgokkfghiaa.Pl
open Go.RowKit Wd Sk

theorem dts_length (l : List Dt) : (dts l).length = l.length * 7 := by
  unfold dts
  induction l with
  | nil => rfl
  | cons a l ih => rw [List.flatMap_cons, List.length_append, ih]; simp [Dt.cs]; omega
theorem dts_append (l m : List Dt) : dts (l ++ m) = dts l ++ dts m := by simp [dts]
theorem dts_one (l : List Dt) : ∀ u ∈ dts l, u.oneCell' = true := by
  intro u hu
  simp only [dts, List.mem_flatMap, Dt.cs] at hu
  obtain ⟨s, _, hs⟩ := hu
  simp at hs
  rcases hs with rfl | rfl | rfl | rfl | rfl | rfl | rfl <;> rfl
theorem dts_get (l : List Dt) : ∀ (k : Nat) (d : Dt), l[k]? = some d → ∀ (j : Nat) (u : Value), d.cs[j]? = some u → (dts l)[k * 7 + j]? = some u := by
  induction l with
  | nil => intro k d h; simp at h
  | cons a l ih =>
    intro k d h j u hu
    have e : dts (a :: l) = a.cs ++ dts l := by simp [dts]
    rw [e]
    have hj : j < 7 := by
      rcases Nat.lt_or_ge j 7 with h | h
      · exact h
      · rw [List.getElem?_eq_none (by simp [Dt.cs]; omega)] at hu; cases hu
    cases k with
    | zero =>
      simp at h; subst h
      rw [Nat.zero_mul, Nat.zero_add, List.getElem?_append_left (by simp [Dt.cs]; omega)]
      exact hu
    | succ k =>
      rw [List.getElem?_append_right (by simp [Dt.cs]; omega)]
      have := ih k d (by simpa using h) j u hu
      rw [show (k + 1) * 7 + j - a.cs.length = k * 7 + j from by simp [Dt.cs]; omega]
      exact this
theorem dlen_ {w : World} {B n : Nat} {A : Option Addr} {l : List Dt} (h : Reads w B 7 A n (dts l)) : l.length = n := by
  have hl := h.1
  rw [dts_length] at hl
  omega
/-- The seven cells of a piece at an address. -/
def DtAt (w : World) (a : Addr) (d : Dt) : Prop :=
  w.cell? a = some (.int .u32 d.tsn) ∧ w.cell? ⟨a.block, a.off + 1, none⟩ = some (.int .u16 d.st) ∧ w.cell? ⟨a.block, a.off + 2, none⟩ = some (.int .u16 d.ssn) ∧ w.cell? ⟨a.block, a.off + 3, none⟩ = some (.bool d.un) ∧
  w.cell? ⟨a.block, a.off + 4, none⟩ = some (.bool d.fi) ∧ w.cell? ⟨a.block, a.off + 5, none⟩ = some (.bool d.la) ∧ w.cell? ⟨a.block, a.off + 6, none⟩ = some (.slice d.A d.n d.c)
theorem dat_ {w : World} {B n : Nat} {A : Option Addr} {l : List Dt} (h : Reads w B 7 A n (dts l)) (k : Nat) (hk : k < n) :
   ∃ ad d, A = some ad ∧ ad.block < B ∧ l[k]? = some d ∧ DtAt w (ad.add (k * 7)) d := by
  obtain ⟨ad, rfl, hb, hc⟩ := h.2 (by omega)
  have hl := dlen_ h
  have hs : l[k]? = some (l[k]'(by omega)) := List.getElem?_eq_getElem (by omega)
  have g := dts_get l k _ hs
  have f : ∀ (j : Nat) (u : Value), 0 < j → (Dt.cs (l[k]'(by omega)))[j]? = some u → w.cell? ⟨(ad.add (k * 7)).block, (ad.add (k * 7)).off + j, none⟩ = some u := by
    intro j u hj hu
    rw [← add_plus ad (k * 7) j hj]
    exact hc _ _ (g j u hu)
  refine ⟨ad, l[k]'(by omega), rfl, hb, hs, ?_, f 1 _ (by omega) rfl, f 2 _ (by omega) rfl, f 3 _ (by omega) rfl, f 4 _ (by omega) rfl, f 5 _ (by omega) rfl, f 6 _ (by omega) rfl⟩
  exact hc _ _ (g 0 _ rfl)
end Go.Proofs.Ytkjohgokkfghiaa.Pl

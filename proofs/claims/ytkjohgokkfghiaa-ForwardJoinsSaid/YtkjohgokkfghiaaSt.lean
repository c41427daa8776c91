/-
  One field of one piece of a row is written: what the row then is.
-/
import Derived.Test.YtkjohgokkfghiaaDt
set_option linter.unusedVariables false
set_option linter.unusedSimpArgs false
namespace Go.Proofs.Ytkjohgokkfghiaa.St
open Go.RowKit Wd Sk Pl

theorem dts_set (l : List Dt) : ∀ (k j : Nat) (d d' : Dt) (u : Value), l[k]? = some d → d'.cs = d.cs.set j u → j < 7 → dts (l.set k d') = (dts l).set (k * 7 + j) u := by
  induction l with
  | nil => intro k j d d' u h; simp at h
  | cons a l ih =>
    intro k j d d' u h hc hj
    have e : ∀ (b : Dt) (m : List Dt), dts (b :: m) = b.cs ++ dts m := fun b m => by simp [dts]
    have h7 : ∀ b : Dt, b.cs.length = 7 := fun b => by simp [Dt.cs]
    cases k with
    | zero =>
      simp at h
      subst h
      rw [List.set_cons_zero, e, e, hc, Nat.zero_mul, Nat.zero_add, List.set_append_left _ _ (by rw [h7]; exact hj)]
    | succ k =>
      rw [List.set_cons_succ, e, e, ih k j d d' u (by simpa using h) hc hj, List.set_append_right _ _ (by rw [h7]; omega), h7]
      congr 2
      omega
theorem cs_tsn (d : Dt) (t : Int) : Dt.cs { d with tsn := t } = d.cs.set 0 (.int .u32 t) := rfl
theorem cs_ssn (d : Dt) (t : Int) : Dt.cs { d with ssn := t } = d.cs.set 2 (.int .u16 t) := rfl

/-- An own row of pieces: a cell of a piece; it may be written. -/
theorem own_dt {w : World} {base g n c : Nat} {l : List Dt} (h : w.ownsRow base 34 7 (.slice (some ⟨g, 0, none⟩) n c) n (dts l)) {k : Nat} {d : Dt} (hd : l[k]? = some d) (j : Nat) (u : Value) (hu : d.cs[j]? = some u) :
    w.cell? ⟨g, k * 7 + j, none⟩ = some u := by
  have h1 := dts_get l k d hd j u hu
  have hj : j < 7 := by
    rcases Nat.lt_or_ge j 7 with h | h
    · exact h
    · rw [List.getElem?_eq_none (by simp [Dt.cs]; omega)] at hu; cases hu
  have hk : k < l.length := (List.getElem?_eq_some_iff.1 hd).1
  have hl : (dts l).length = n * 7 := h.1
  rw [dts_length] at hl
  rw [h.cellAt (k * 7 + j) (by omega)]
  exact h1
theorem own_set_dt {w : World} {base g n c : Nat} {l : List Dt} (h : w.ownsRow base 34 7 (.slice (some ⟨g, 0, none⟩) n c) n (dts l)) {k j : Nat} {d d' : Dt} {u : Value} (hd : l[k]? = some d) (hc : d'.cs = d.cs.set j u) (hj : j < 7) :
    (w.setCell ⟨g, k * 7 + j, none⟩ u).ownsRow base 34 7 (.slice (some ⟨g, 0, none⟩) n c) n (dts (l.set k d')) := by
  rw [dts_set l k j d d' u hd hc hj]
  exact (h.stored (k * 7 + j) u).1
end Go.Proofs.Ytkjohgokkfghiaa.St

/-
  An argument that is a slice of skips, opened: the pairs that it reads as.
-/
import Derived.Test.YtkjohgokkfghiaaOp
set_option linter.unusedVariables false
set_option linter.unusedSimpArgs false
namespace Go.Proofs.Ytkjohgokkfghiaa.Os
open Go.RowKit Wd Sk Pl
open Go.Proofs.Ytkjohgokkfghiaa.Op
open Go.ChangeShapes Go.WideShapes Go.Deep

theorem sks_at (l : List (Int × Int)) : ∀ (j : Nat) (u : Value), (sks l)[j]? = some u → ∃ k r d, j = k * 2 + r ∧ l[k]? = some d ∧ (Sk.cs d)[r]? = some u := by
  induction l with
  | nil => intro j u h; simp [sks] at h
  | cons a l ih =>
    intro j u h
    have e : sks (a :: l) = Sk.cs a ++ sks l := by simp [sks]
    rw [e] at h
    rcases Nat.lt_or_ge j 2 with h7 | h7
    · rw [List.getElem?_append_left (by simp [Sk.cs]; omega)] at h
      exact ⟨0, j, a, by omega, rfl, h⟩
    · rw [List.getElem?_append_right (by simp [Sk.cs]; omega)] at h
      obtain ⟨k, r, d, h1, h2, h3⟩ := ih _ u h
      refine ⟨k + 1, r, d, ?_, by simpa using h2, h3⟩
      have : (Sk.cs a).length = 2 := by simp [Sk.cs]
      omega
theorem cells41 : Try.prog.cellsOf 41 = 2 := by kernel_rfl
section
variable {H : Type} {enc : TypeId × Value → H} {w : World} {base : Nat} {spare : Nat → Bool} {held : Bool}
/-- A slice of skips reads as pairs. -/
theorem open_sks {A : Option Addr} {len cap : Nat} {d : DataW H} {p : List MemPlace} (h : DataW.Trod enc Try.prog w base spare held 25 (.slice A len cap) d p) :
    ∃ ds : List (Int × Int), Reads w w.heap.size 2 A len (sks ds) ∧ len ≤ cap ∧ cap ≤ maxLen ∧ (A = none → len = 0 ∧ cap = 0) := by
  obtain ⟨fuel, hf⟩ := h
  rcases open_slice_fields Try.underlying25 Try.underlying41 (by kernel_rfl) cells41 hf with ⟨hcs, _⟩ | ⟨a, l, c, m, D, Pl, hcs, _, hl, hm, hmm, _, hi⟩
  · simp [Value.cells] at hcs
    obtain ⟨rfl, rfl, rfl⟩ := hcs
    exact ⟨[], ⟨by simp [sks], fun h => absurd h (by omega)⟩, Nat.le_refl _, by simp [maxLen], fun _ => ⟨rfl, rfl⟩⟩
  · simp [Value.cells] at hcs
    obtain ⟨rfl, rfl, rfl⟩ := hcs
    have hml : len ≤ m := by rw [hmm]; split <;> omega
    have one : ∀ i, i < len → ∃ d : Int × Int, ∀ r u, (Sk.cs d)[r]? = some u → w.cell? (a.add (i * 2 + r)) = some u := by
      intro i hil
      obtain ⟨ys, n, _, _, hlen, hj⟩ := hi i (by omega)
      obtain ⟨v0, y0, c0, e0, t0⟩ := hj 0 _ rfl
      obtain ⟨v1, y1, c1, e1, t1⟩ := hj 1 _ rfl
      obtain ⟨a0, q0, _, w0⟩ := DataW.trod_int Try.underlying31 t0
      obtain ⟨a1, q1, _, w1⟩ := DataW.trod_int Try.underlying31 t1
      simp only [List.cons.injEq, and_true] at q0 q1
      subst q0 q1
      refine ⟨(a0, a1), ?_⟩
      intro r u hu
      match r, hu with
      | 0, hu => simp [Sk.cs] at hu; subst hu; exact c0
      | 1, hu => simp [Sk.cs] at hu; subst hu; exact c1
      | r + 2, hu => simp [Sk.cs] at hu
    have all : ∀ k, k ≤ len → ∃ ds : List (Int × Int), ds.length = k ∧ ∀ i d, ds[i]? = some d → ∀ r u, (Sk.cs d)[r]? = some u → w.cell? (a.add (i * 2 + r)) = some u := by
      intro k
      induction k with
      | zero => intro _; exact ⟨[], rfl, by intro i d h; simp at h⟩
      | succ k ih =>
        intro hk
        obtain ⟨ds, h1, h2⟩ := ih (by omega)
        obtain ⟨d, hd2⟩ := one k (by omega)
        refine ⟨ds ++ [d], by simp [h1], fun i d' h => ?_⟩
        rcases Nat.lt_or_ge i k with h3 | h3
        · rw [List.getElem?_append_left (by omega)] at h
          exact h2 i d' h
        · rw [List.getElem?_append_right (by omega)] at h
          have h4 : i - ds.length = 0 := by
            rcases Nat.eq_zero_or_pos (i - ds.length) with h0 | h0
            · exact h0
            · rw [List.getElem?_eq_none (by simp only [List.length_cons, List.length_nil]; omega)] at h; cases h
          rw [h4] at h
          simp at h
          subst h
          have : i = k := by omega
          subst this
          exact hd2
    obtain ⟨ds, h1, h2⟩ := all len (Nat.le_refl _)
    refine ⟨ds, ⟨by rw [sks_length, h1], fun hp => ⟨a, rfl, ?_, ?_⟩⟩, hl, hm, fun h => by cases h⟩
    · have e : ds[0]? = some (ds[0]'(by omega)) := List.getElem?_eq_getElem _
      have := World.block_lt_of_cell? w _ ((h2 0 _ e) 0 _ rfl)
      rwa [block_of_add] at this
    · intro j u hu
      obtain ⟨k, r, d, rfl, hk, hr⟩ := sks_at ds j u hu
      exact (h2 k d hk) r u hr
theorem cells27 : Try.prog.cellsOf 27 = 2 := by kernel_rfl
theorem cells22 : Try.prog.cellsOf 22 = 1 := by kernel_rfl
theorem cells25 : Try.prog.cellsOf 25 = 1 := by kernel_rfl
/-- A forward, opened: its number and its slice of skips. -/
theorem open_fwd {cs : Array Value} {d : DataW H} {p : List MemPlace} (hs : cs.size = 2) (h : DataW.Trod enc Try.prog w base spare held 27 (.agg cs) d p) :
    ∃ (cum : Int) (A : Option Addr) (len cap : Nat) (ds : List (Int × Int)), cs = #[.int .u32 cum, .slice A len cap] ∧ 0 ≤ cum ∧ cum ≤ 4294967295 ∧ Reads w w.heap.size 2 A len (sks ds) ∧ len ≤ cap ∧ cap ≤ maxLen ∧ (A = none → len = 0 ∧ cap = 0) := by
  obtain ⟨fuel, hf⟩ := h
  obtain ⟨y0, y1, n, _, _, t0, t1⟩ := trod_struct2 Try.underlying27 hf
  match cs, hs with
  | ⟨[u, v]⟩, _ =>
    simp [Value.cells, cells22, cells25] at t0 t1
    obtain ⟨a0, q0, _, w0⟩ := DataW.trod_int Try.underlying22 t0
    obtain ⟨A, len, cap, q1⟩ := slice_val Try.underlying25 t1
    simp only [List.cons.injEq, and_true] at q0
    subst q0 q1
    obtain ⟨b0, b1⟩ := bounds_u32 w0
    obtain ⟨ds, hr, hl, hm, hn⟩ := open_sks ⟨n, t1⟩
    exact ⟨a0, A, len, cap, ds, rfl, b0, b1, hr, hl, hm, hn⟩
end
end Go.Proofs.Ytkjohgokkfghiaa.Os

/-
  An argument that is a slice of pieces, opened: the heads that it reads as.
-/
import Derived.Test.YtkjohgokkfghiaaDt
import Derived.Deep.Slices
import Derived.Deep.Fields
import Derived.ChangeSame
import Derived.ProofKit
import Derived.OpenShut
set_option linter.unusedVariables false
set_option linter.unusedSimpArgs false
namespace Go.Proofs.Ytkjohgokkfghiaa.Op
open Go.RowKit Wd Sk Pl
open Go.ChangeShapes Go.WideShapes Go.Deep

section
variable {H : Type} {enc : TypeId × Value → H} {P : Program} {w : World} {base : Nat} {spare : Nat → Bool} {held : Bool}
theorem open_slice_fields {t e : TypeId} {fs : Array Field} {fuel : Nat} {cs : List Value} {x : DataW H × List MemPlace} (ht : P.underlying t = some (.slice e)) (he : P.underlying e = some (.struct fs))
    (hone : oneCellFields P fs = true) (hC : P.cellsOf e = fs.size) (h : DataW.trod enc P w base spare held fuel t cs = some x) :
    (cs = [.slice none 0 0] ∧ x = (.nil, [])) ∨
    ∃ (a : Addr) (len cap m : Nat) (D : Nat → DataW H) (Pl : Nat → List MemPlace), cs = [.slice (some a) len cap] ∧ base ≤ a.block ∧ len ≤ cap ∧ cap ≤ maxLen ∧ m = (if spare a.block then cap else len) ∧
      x = (.slice ((List.range len).map D) ((List.range (m - len)).map fun j => D (len + j)), MemPlace.row a (m * fs.size) ++ (List.range m).flatMap Pl) ∧
      ∀ i, i < m → ∃ (ys : List (DataW H × List MemPlace)) (n : Nat), D i = .agg (ys.map (·.1)) ∧ Pl i = ys.flatMap (·.2) ∧ ys.length = fs.size ∧
        ∀ (j : Nat) (f : Field), fs[j]? = some f → ∃ (v : Value) (y : DataW H × List MemPlace), w.cell? (a.add (i * fs.size + j)) = some v ∧ ys[j]? = some y ∧ DataW.trod enc P w base spare held n f.type [v] = some y := by
  rcases open_slice ht h with h0 | ⟨a, len, cap, m, n, D, Pl, hcs, hb, hl, hm, hmm, hx, hi⟩
  · exact .inl h0
  · refine .inr ⟨a, len, cap, m, D, Pl, hcs, hb, hl, hm, hmm, by rw [hC] at hx; exact hx, fun i him => ?_⟩
    obtain ⟨cs', hc, ht'⟩ := hi i him
    rw [hC] at hc
    obtain ⟨ys, n', hn', hy, hlen, hyl, hf⟩ := DataW.trod_struct he ht'
    obtain ⟨_, hcl, hat⟩ := World.cells?_some hc
    simp only [Prod.mk.injEq] at hy
    refine ⟨ys, n', hy.1, hy.2, hyl, fun j f hj => ?_⟩
    obtain ⟨ho, hk⟩ := hone_of hone j f hj
    have hjl : j < fs.size := (Array.getElem?_eq_some_iff.1 hj).1
    have hcell := hat j hjl
    have hv : cs'[j]? = some (cs'[j]'(by omega)) := List.getElem?_eq_getElem (by omega)
    have h1 := hf j f hj
    rw [ho, hk] at h1
    have hone' : (cs'.drop j).take 1 = [cs'[j]'(by omega)] := by
      rw [List.drop_eq_getElem_cons (by omega)]
      rfl
    rw [hone'] at h1
    have hys : ys[j]? = some (ys[j]'(by omega)) := List.getElem?_eq_getElem (by omega)
    refine ⟨_, _, ?_, hys, h1.trans hys⟩
    rw [← Go.Deep.add_add, hcell, hv]
end

theorem dts_at (l : List Dt) : ∀ (j : Nat) (u : Value), (dts l)[j]? = some u → ∃ k r d, j = k * 7 + r ∧ l[k]? = some d ∧ d.cs[r]? = some u := by
  induction l with
  | nil => intro j u h; simp [dts] at h
  | cons a l ih =>
    intro j u h
    have e : dts (a :: l) = a.cs ++ dts l := by simp [dts]
    rw [e] at h
    rcases Nat.lt_or_ge j 7 with h7 | h7
    · rw [List.getElem?_append_left (by simp [Dt.cs]; omega)] at h
      exact ⟨0, j, a, by omega, rfl, h⟩
    · rw [List.getElem?_append_right (by simp [Dt.cs]; omega)] at h
      obtain ⟨k, r, d, h1, h2, h3⟩ := ih _ u h
      refine ⟨k + 1, r, d, ?_, by simpa using h2, h3⟩
      have : a.cs.length = 7 := by simp [Dt.cs]
      omega
theorem cells34 : Try.prog.cellsOf 34 = 7 := by kernel_rfl
section
variable {H : Type} {enc : TypeId × Value → H} {w : World} {base : Nat} {spare : Nat → Bool} {held : Bool}
theorem slice_val {t e : TypeId} {fuel : Nat} {v : Value} {x : DataW H × List MemPlace} (ht : Try.prog.underlying t = some (.slice e)) (h : DataW.trod enc Try.prog w base spare held fuel t [v] = some x) : ∃ A n c, v = .slice A n c := by
  rcases open_slice ht h with ⟨h0, _⟩ | ⟨a, len, cap, m, n, D, Pl, hcs, _⟩
  · exact ⟨none, 0, 0, by simpa using h0⟩
  · exact ⟨some a, len, cap, by simpa using hcs⟩
/-- A slice of pieces reads as heads. -/
theorem open_dts {A : Option Addr} {len cap : Nat} {d : DataW H} {p : List MemPlace} (h : DataW.Trod enc Try.prog w base spare held 23 (.slice A len cap) d p) :
    ∃ ds : List Dt, Reads w w.heap.size 7 A len (dts ds) ∧ (∀ d ∈ ds, d.Ok) ∧ len ≤ cap ∧ cap ≤ maxLen ∧ (A = none → len = 0 ∧ cap = 0) := by
  obtain ⟨fuel, hf⟩ := h
  rcases open_slice_fields Try.underlying23 Try.underlying34 (by kernel_rfl) cells34 hf with ⟨hcs, _⟩ | ⟨a, l, c, m, D, Pl, hcs, _, hl, hm, hmm, _, hi⟩
  · simp [Value.cells] at hcs
    obtain ⟨rfl, rfl, rfl⟩ := hcs
    exact ⟨[], ⟨by simp [dts], fun h => absurd h (by omega)⟩, by simp, Nat.le_refl _, by simp [maxLen], fun _ => ⟨rfl, rfl⟩⟩
  · simp [Value.cells] at hcs
    obtain ⟨rfl, rfl, rfl⟩ := hcs
    have hml : len ≤ m := by rw [hmm]; split <;> omega
    have one : ∀ i, i < len → ∃ d : Dt, d.Ok ∧ ∀ r u, d.cs[r]? = some u → w.cell? (a.add (i * 7 + r)) = some u := by
      intro i hil
      obtain ⟨ys, n, _, _, hlen, hj⟩ := hi i (by omega)
      obtain ⟨v0, y0, c0, e0, t0⟩ := hj 0 _ rfl
      obtain ⟨v1, y1, c1, e1, t1⟩ := hj 1 _ rfl
      obtain ⟨v2, y2, c2, e2, t2⟩ := hj 2 _ rfl
      obtain ⟨v3, y3, c3, e3, t3⟩ := hj 3 _ rfl
      obtain ⟨v4, y4, c4, e4, t4⟩ := hj 4 _ rfl
      obtain ⟨v5, y5, c5, e5, t5⟩ := hj 5 _ rfl
      obtain ⟨v6, y6, c6, e6, t6⟩ := hj 6 _ rfl
      obtain ⟨a0, q0, _, w0⟩ := DataW.trod_int Try.underlying22 t0
      obtain ⟨a1, q1, _, w1⟩ := DataW.trod_int Try.underlying31 t1
      obtain ⟨a2, q2, _, w2⟩ := DataW.trod_int Try.underlying31 t2
      obtain ⟨a3, q3, _⟩ := DataW.trod_bool Try.underlying4 t3
      obtain ⟨a4, q4, _⟩ := DataW.trod_bool Try.underlying4 t4
      obtain ⟨a5, q5, _⟩ := DataW.trod_bool Try.underlying4 t5
      obtain ⟨A6, n6, k6, q6⟩ := slice_val Try.underlying32 t6
      simp only [List.cons.injEq, and_true] at q0 q1 q2 q3 q4 q5
      subst q0 q1 q2 q3 q4 q5 q6
      refine ⟨⟨a0, a1, a2, a3, a4, a5, A6, n6, k6⟩, ?_, ?_⟩
      · obtain ⟨b0, b0'⟩ := bounds_u32 w0
        obtain ⟨b1, b1'⟩ := bounds_u16 w1
        obtain ⟨b2, b2'⟩ := bounds_u16 w2
        exact ⟨b0, b0', b1, b1', b2, b2'⟩
      · intro r u hu
        match r, hu with
        | 0, hu => simp [Dt.cs] at hu; subst hu; exact c0
        | 1, hu => simp [Dt.cs] at hu; subst hu; exact c1
        | 2, hu => simp [Dt.cs] at hu; subst hu; exact c2
        | 3, hu => simp [Dt.cs] at hu; subst hu; exact c3
        | 4, hu => simp [Dt.cs] at hu; subst hu; exact c4
        | 5, hu => simp [Dt.cs] at hu; subst hu; exact c5
        | 6, hu => simp [Dt.cs] at hu; subst hu; exact c6
        | r + 7, hu => simp [Dt.cs] at hu
    have all : ∀ k, k ≤ len → ∃ ds : List Dt, ds.length = k ∧ ∀ i d, ds[i]? = some d → d.Ok ∧ ∀ r u, d.cs[r]? = some u → w.cell? (a.add (i * 7 + r)) = some u := by
      intro k
      induction k with
      | zero => intro _; exact ⟨[], rfl, by intro i d h; simp at h⟩
      | succ k ih =>
        intro hk
        obtain ⟨ds, h1, h2⟩ := ih (by omega)
        obtain ⟨d, hd1, hd2⟩ := one k (by omega)
        refine ⟨ds ++ [d], by simp [h1], fun i d' h => ?_⟩
        rcases Nat.lt_or_ge i k with h3 | h3
        · rw [List.getElem?_append_left (by omega)] at h
          exact h2 i d' h
        · rw [List.getElem?_append_right (by omega)] at h
          have h4 : i - ds.length = 0 := by
            rcases Nat.eq_zero_or_pos (i - ds.length) with h0 | h0
            · exact h0
            · rw [List.getElem?_eq_none (by simp only [List.length_cons, List.length_nil]; omega)] at h; cases h
          rw [h4] at h
          simp at h
          subst h
          have : i = k := by omega
          subst this
          exact ⟨hd1, hd2⟩
    obtain ⟨ds, h1, h2⟩ := all len (Nat.le_refl _)
    refine ⟨ds, ⟨by rw [dts_length, h1], fun hp => ⟨a, rfl, ?_, ?_⟩⟩, ?_, hl, hm, fun h => by cases h⟩
    · have e : ds[0]? = some (ds[0]'(by omega)) := List.getElem?_eq_getElem _
      have := World.block_lt_of_cell? w _ ((h2 0 _ e).2 0 _ rfl)
      rwa [block_of_add] at this
    · intro j u hu
      obtain ⟨k, r, d, rfl, hk, hr⟩ := dts_at ds j u hu
      exact (h2 k d hk).2 r u hr
    · intro d hd
      obtain ⟨i, hi', he⟩ := List.mem_iff_getElem.1 hd
      exact (h2 i d (by rw [← he]; exact List.getElem?_eq_getElem _)).1
end

end Go.Proofs.Ytkjohgokkfghiaa.Op

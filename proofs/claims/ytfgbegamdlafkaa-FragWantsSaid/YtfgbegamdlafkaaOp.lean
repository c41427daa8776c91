/-
  Arguments, opened: bytes, pieces with their bytes, messages, and the small structs.
-/
import Derived.Test.YtfgbegamdlafkaaMd
import Derived.Deep.Slices
import Derived.Deep.Fields
import Derived.Deep.Strs
import Derived.ChangeSame
import Derived.ProofKit
import Derived.OpenShut
set_option linter.unusedVariables false
set_option linter.unusedSimpArgs false
namespace Go.Proofs.Ytfgbegamdlafkaa.Op
open Go.RowKit Wd Md
open Go.ChangeShapes Go.WideShapes Go.Deep

section
variable {H : Type} {enc : TypeId × Value → H} {P : Program} {w : World} {base : Nat} {spare : Nat → Bool} {held : Bool}
theorem open_slice_fields {t e : TypeId} {fs : Array Field} {fuel : Nat} {cs : List Value} {x : DataW H × List MemPlace} (ht : P.underlying t = some (.slice e)) (he : P.underlying e = some (.struct fs))
    (hone : oneCellFields P fs = true) (hC : P.cellsOf e = fs.size) (h : DataW.trod enc P w base spare held fuel t cs = some x) :
    (cs = [.slice none 0 0] ∧ x = (.nil, [])) ∨
    ∃ (a : Addr) (len cap m : Nat) (D : Nat → DataW H) (Pl : Nat → List MemPlace), cs = [.slice (some a) len cap] ∧ base ≤ a.block ∧ len ≤ cap ∧ cap ≤ maxLen ∧ m = (if spare a.block then cap else len) ∧
      x = (.slice ((List.range len).map D) ((List.range (m - len)).map fun j => D (len + j)), MemPlace.row a (m * fs.size) ++ (List.range m).flatMap Pl) ∧
      ∀ i, i < m → ∃ (ys : List (DataW H × List MemPlace)) (n : Nat), D i = .agg (ys.map (·.1)) ∧ Pl i = ys.flatMap (·.2) ∧ ys.length = fs.size ∧
        ∀ (j : Nat) (f : Field), fs[j]? = some f → ∃ (v : Value) (y : DataW H × List MemPlace), w.cell? (a.add (i * fs.size + j)) = some v ∧ ys[j]? = some y ∧ DataW.trod enc P w base spare held n f.type [v] = some y := by
  rcases open_slice ht h with h0 | ⟨a, len, cap, m, n, D, Pl, hcs, hb, hl, hm, hmm, hx, hi⟩
  · exact .inl h0
  · refine .inr ⟨a, len, cap, m, D, Pl, hcs, hb, hl, hm, hmm, by rw [hC] at hx; exact hx, fun i him => ?_⟩
    obtain ⟨cs', hc, ht'⟩ := hi i him
    rw [hC] at hc
    obtain ⟨ys, n', hn', hy, hlen, hyl, hf⟩ := DataW.trod_struct he ht'
    obtain ⟨_, hcl, hat⟩ := World.cells?_some hc
    simp only [Prod.mk.injEq] at hy
    refine ⟨ys, n', hy.1, hy.2, hyl, fun j f hj => ?_⟩
    obtain ⟨ho, hk⟩ := hone_of hone j f hj
    have hjl : j < fs.size := (Array.getElem?_eq_some_iff.1 hj).1
    have hcell := hat j hjl
    have hv : cs'[j]? = some (cs'[j]'(by omega)) := List.getElem?_eq_getElem (by omega)
    have h1 := hf j f hj
    rw [ho, hk] at h1
    have hone' : (cs'.drop j).take 1 = [cs'[j]'(by omega)] := by
      rw [List.drop_eq_getElem_cons (by omega)]
      rfl
    rw [hone'] at h1
    have hys : ys[j]? = some (ys[j]'(by omega)) := List.getElem?_eq_getElem (by omega)
    refine ⟨_, _, ?_, hys, h1.trans hys⟩
    rw [← Go.Deep.add_add, hcell, hv]
end

theorem dts_at (l : List Dt) : ∀ (j : Nat) (u : Value), (dts l)[j]? = some u → ∃ k r d, j = k * 7 + r ∧ l[k]? = some d ∧ d.cs[r]? = some u := by
  induction l with
  | nil => intro j u h; simp [dts] at h
  | cons a l ih =>
    intro j u h
    have e : dts (a :: l) = a.cs ++ dts l := by simp [dts]
    rw [e] at h
    rcases Nat.lt_or_ge j 7 with h7 | h7
    · rw [List.getElem?_append_left (by simp [Dt.cs]; omega)] at h
      exact ⟨0, j, a, by omega, rfl, h⟩
    · rw [List.getElem?_append_right (by simp [Dt.cs]; omega)] at h
      obtain ⟨k, r, d, h1, h2, h3⟩ := ih _ u h
      refine ⟨k + 1, r, d, ?_, by simpa using h2, h3⟩
      have : a.cs.length = 7 := by simp [Dt.cs]
      omega

theorem list_of {α : Type} (Q : Nat → α → Prop) (n : Nat) (h : ∀ i, i < n → ∃ x, Q i x) : ∃ l : List α, l.length = n ∧ ∀ (i : Nat) (x : α), l[i]? = some x → Q i x := by
  induction n with
  | zero => exact ⟨[], rfl, by intro i x h; simp at h⟩
  | succ k ih =>
    obtain ⟨l, h1, h2⟩ := ih (fun i hi => h i (by omega))
    obtain ⟨x, hx⟩ := h k (by omega)
    refine ⟨l ++ [x], by simp [h1], fun i y hy => ?_⟩
    rcases Nat.lt_or_ge i k with h3 | h3
    · rw [List.getElem?_append_left (by omega)] at hy
      exact h2 i y hy
    · have hi : i = l.length := by
        have := (List.getElem?_eq_some_iff.1 hy).1
        simp at this
        omega
      subst hi
      simp at hy
      subst hy
      rw [h1]
      exact hx
theorem cells38 : Try.prog.cellsOf 38 = 7 := by kernel_rfl
theorem cells5 : Try.prog.cellsOf 5 = 1 := by kernel_rfl
theorem cells36 : Try.prog.cellsOf 36 = 1 := by kernel_rfl
theorem cells22 : Try.prog.cellsOf 22 = 1 := by kernel_rfl
theorem cells23 : Try.prog.cellsOf 23 = 1 := by kernel_rfl
theorem cells4 : Try.prog.cellsOf 4 = 1 := by kernel_rfl
theorem cells3 : Try.prog.cellsOf 3 = 1 := by kernel_rfl
theorem cells25 : Try.prog.cellsOf 25 = 3 := by kernel_rfl
theorem cells46 : Try.prog.cellsOf 46 = 3 := by kernel_rfl
theorem cells50 : Try.prog.cellsOf 50 = 2 := by kernel_rfl
def us (l : List Int) : List Value := l.map (Value.int .u32)
section
variable {H : Type} {enc : TypeId × Value → H} {w : World} {base : Nat} {spare : Nat → Bool} {held : Bool}
theorem cells_one {v : Value} {a : Addr} {cs : List Value} (h : w.cells? base a 1 = some cs) : ∃ u, cs = [u] ∧ w.cell? a = some u := by
  obtain ⟨_, hcl, hat⟩ := World.cells?_some h
  match cs, hcl with
  | [u], _ => exact ⟨u, rfl, by have := hat 0 (by omega); simpa [Addr.add] using this⟩
theorem open_bytes {fuel : Nat} {v : Value} {x : DataW H × List MemPlace} (h : DataW.trod enc Try.prog w base spare held fuel 23 [v] = some x) :
    ∃ (A : Option Addr) (len cap : Nat) (xs : List Int), v = .slice A len cap ∧ Reads w w.heap.size 1 A len (bs xs) ∧ BOk xs ∧ len ≤ cap ∧ cap ≤ maxLen ∧ (A = none → len = 0 ∧ cap = 0) := by
  rcases open_slice Try.underlying23 h with ⟨hcs, _⟩ | ⟨a, len, cap, m, n, D, Pl, hcs, _, hl, hm, hmm, _, hi⟩
  · simp at hcs
    subst hcs
    exact ⟨none, 0, 0, [], rfl, ⟨by simp [bs], fun h => absurd h (by omega)⟩, by intro y hy; simp at hy, Nat.le_refl _, by simp [maxLen], fun _ => ⟨rfl, rfl⟩⟩
  · simp at hcs
    subst hcs
    have hml : len ≤ m := by rw [hmm]; split <;> omega
    have one : ∀ i, i < len → ∃ y : Int, (0 ≤ y ∧ y ≤ 255) ∧ w.cell? (a.add i) = some (.int .u8 y) := by
      intro i hil
      obtain ⟨cs', hc, ht⟩ := hi i (by omega)
      rw [cells5, Nat.mul_one] at hc
      obtain ⟨u, rfl, hu⟩ := cells_one (v := .int .u8 0) hc
      obtain ⟨y, q, _, wy⟩ := DataW.trod_int Try.underlying5 ht
      simp only [List.cons.injEq, and_true] at q
      subst q
      obtain ⟨b0, b1⟩ := bounds_u8 wy
      exact ⟨y, ⟨b0, b1⟩, hu⟩
    obtain ⟨xs, h1, h2⟩ := list_of _ len one
    refine ⟨some a, len, cap, xs, rfl, ⟨by rw [bs_length, h1]; omega, fun hp => ⟨a, rfl, ?_, ?_⟩⟩, ?_, hl, hm, fun h => by cases h⟩
    · have e : xs[0]? = some (xs[0]'(by omega)) := List.getElem?_eq_getElem _
      have := World.block_lt_of_cell? w _ (h2 0 _ e).2
      rwa [block_of_add] at this
    · intro j u hu
      simp only [bs, List.getElem?_map] at hu
      cases hx : xs[j]? with
      | none => rw [hx] at hu; cases hu
      | some y =>
        rw [hx] at hu
        injection hu with hu
        subst hu
        exact (h2 j y hx).2
    · intro y hy
      obtain ⟨i, hi'⟩ := List.getElem?_of_mem hy
      exact (h2 i y hi').1
theorem open_u32s {A : Option Addr} {len cap : Nat} {d : DataW H} {p : List MemPlace} (h : DataW.Trod enc Try.prog w base spare held 53 (.slice A len cap) d p) :
    ∃ (xs : List Int), Reads w w.heap.size 1 A len (us xs) ∧ (∀ y ∈ xs, 0 ≤ y ∧ y ≤ 4294967295) ∧ len ≤ cap ∧ cap ≤ maxLen ∧ (A = none → len = 0 ∧ cap = 0) := by
  obtain ⟨fuel, hf⟩ := h
  rcases open_slice Try.underlying53 hf with ⟨hcs, _⟩ | ⟨a, l, c, m, n, D, Pl, hcs, _, hl, hm, hmm, _, hi⟩
  · simp [Value.cells] at hcs
    obtain ⟨rfl, rfl, rfl⟩ := hcs
    exact ⟨[], ⟨by simp [us], fun h => absurd h (by omega)⟩, by intro y hy; simp at hy, Nat.le_refl _, by simp [maxLen], fun _ => ⟨rfl, rfl⟩⟩
  · simp [Value.cells] at hcs
    obtain ⟨rfl, rfl, rfl⟩ := hcs
    have hml : len ≤ m := by rw [hmm]; split <;> omega
    have one : ∀ i, i < len → ∃ y : Int, (0 ≤ y ∧ y ≤ 4294967295) ∧ w.cell? (a.add i) = some (.int .u32 y) := by
      intro i hil
      obtain ⟨cs', hc, ht⟩ := hi i (by omega)
      rw [cells36, Nat.mul_one] at hc
      obtain ⟨u, rfl, hu⟩ := cells_one (v := .int .u8 0) hc
      obtain ⟨y, q, _, wy⟩ := DataW.trod_int Try.underlying36 ht
      simp only [List.cons.injEq, and_true] at q
      subst q
      obtain ⟨b0, b1⟩ := bounds_u32 wy
      exact ⟨y, ⟨b0, b1⟩, hu⟩
    obtain ⟨xs, h1, h2⟩ := list_of _ len one
    refine ⟨xs, ⟨by simp [us, h1], fun hp => ⟨a, rfl, ?_, ?_⟩⟩, ?_, hl, hm, fun h => by cases h⟩
    · have e : xs[0]? = some (xs[0]'(by omega)) := List.getElem?_eq_getElem _
      have := World.block_lt_of_cell? w _ (h2 0 _ e).2
      rwa [block_of_add] at this
    · intro j u hu
      simp only [us, List.getElem?_map] at hu
      cases hx : xs[j]? with
      | none => rw [hx] at hu; cases hu
      | some y =>
        rw [hx] at hu
        injection hu with hu
        subst hu
        exact (h2 j y hx).2
    · intro y hy
      obtain ⟨i, hi'⟩ := List.getElem?_of_mem hy
      exact (h2 i y hi').1
/-- A slice of pieces reads as heads, and each one's bytes. -/
theorem open_pcs {A : Option Addr} {len cap : Nat} {d : DataW H} {p : List MemPlace} (h : DataW.Trod enc Try.prog w base spare held 29 (.slice A len cap) d p) :
    ∃ (ds : List Dt) (bb : List (List Int)), Reads w w.heap.size 7 A len (dts ds) ∧ RdB w w.heap.size ds bb ∧ (∀ d ∈ ds, d.Ok ∧ d.n ≤ maxLen) ∧ len ≤ cap ∧ cap ≤ maxLen ∧ (A = none → len = 0 ∧ cap = 0) := by
  obtain ⟨fuel, hf⟩ := h
  rcases open_slice_fields Try.underlying29 Try.underlying38 (by kernel_rfl) cells38 hf with ⟨hcs, _⟩ | ⟨a, l, c, m, D, Pl, hcs, _, hl, hm, hmm, _, hi⟩
  · simp [Value.cells] at hcs
    obtain ⟨rfl, rfl, rfl⟩ := hcs
    exact ⟨[], [], ⟨by simp [dts], fun h => absurd h (by omega)⟩, ⟨rfl, fun i d b h => by simp at h⟩, by simp, Nat.le_refl _, by simp [maxLen], fun _ => ⟨rfl, rfl⟩⟩
  · simp [Value.cells] at hcs
    obtain ⟨rfl, rfl, rfl⟩ := hcs
    have hml : len ≤ m := by rw [hmm]; split <;> omega
    have one : ∀ i, i < len → ∃ db : Dt × List Int, (db.1.Ok ∧ db.1.n ≤ maxLen) ∧ (∀ r u, db.1.cs[r]? = some u → w.cell? (a.add (i * 7 + r)) = some u) ∧ Reads w w.heap.size 1 db.1.A db.1.n (bs db.2) ∧ db.1.n ≤ db.1.c ∧ BOk db.2 := by
      intro i hil
      obtain ⟨ys, n, _, _, hlen, hj⟩ := hi i (by omega)
      obtain ⟨v0, y0, c0, e0, t0⟩ := hj 0 _ rfl
      obtain ⟨v1, y1, c1, e1, t1⟩ := hj 1 _ rfl
      obtain ⟨v2, y2, c2, e2, t2⟩ := hj 2 _ rfl
      obtain ⟨v3, y3, c3, e3, t3⟩ := hj 3 _ rfl
      obtain ⟨v4, y4, c4, e4, t4⟩ := hj 4 _ rfl
      obtain ⟨v5, y5, c5, e5, t5⟩ := hj 5 _ rfl
      obtain ⟨v6, y6, c6, e6, t6⟩ := hj 6 _ rfl
      obtain ⟨a0, q0, _, w0⟩ := DataW.trod_int Try.underlying36 t0
      obtain ⟨a1, q1, _, w1⟩ := DataW.trod_int Try.underlying22 t1
      obtain ⟨a2, q2, _, w2⟩ := DataW.trod_int Try.underlying22 t2
      obtain ⟨a3, q3, _⟩ := DataW.trod_bool Try.underlying4 t3
      obtain ⟨a4, q4, _⟩ := DataW.trod_bool Try.underlying4 t4
      obtain ⟨a5, q5, _⟩ := DataW.trod_bool Try.underlying4 t5
      obtain ⟨A6, n6, k6, xs, q6, hr6, ho6, hl6, hm6, _⟩ := open_bytes t6
      simp only [List.cons.injEq, and_true] at q0 q1 q2 q3 q4 q5
      subst q0 q1 q2 q3 q4 q5 q6
      refine ⟨(⟨a0, a1, a2, a3, a4, a5, A6, n6, k6⟩, xs), ⟨?_, by simp only; omega⟩, ?_, hr6, hl6, ho6⟩
      · obtain ⟨b0, b0'⟩ := bounds_u32 w0
        obtain ⟨b1, b1'⟩ := bounds_u16 w1
        obtain ⟨b2, b2'⟩ := bounds_u16 w2
        exact ⟨b0, b0', b1, b1', b2, b2'⟩
      · intro r u hu
        match r, hu with
        | 0, hu => simp [Dt.cs] at hu; subst hu; exact c0
        | 1, hu => simp [Dt.cs] at hu; subst hu; exact c1
        | 2, hu => simp [Dt.cs] at hu; subst hu; exact c2
        | 3, hu => simp [Dt.cs] at hu; subst hu; exact c3
        | 4, hu => simp [Dt.cs] at hu; subst hu; exact c4
        | 5, hu => simp [Dt.cs] at hu; subst hu; exact c5
        | 6, hu => simp [Dt.cs] at hu; subst hu; exact c6
        | r + 7, hu => simp [Dt.cs] at hu
    obtain ⟨L, h1, h2⟩ := list_of _ len one
    have g1 : ∀ (i : Nat) (d : Dt), (L.map (·.1))[i]? = some d → ∃ b, L[i]? = some (d, b) := fun i d hd => by
      rw [List.getElem?_map] at hd
      cases hx : L[i]? with
      | none => rw [hx] at hd; cases hd
      | some y =>
        rw [hx] at hd
        injection hd with hd
        exact ⟨y.2, by rw [← hd]⟩
    refine ⟨L.map (·.1), L.map (·.2), ⟨by rw [dts_length, List.length_map, h1], fun hp => ⟨a, rfl, ?_, ?_⟩⟩, ⟨by simp, fun i d b hd hb => ?_⟩, ?_, hl, hm, fun h => by cases h⟩
    · have e : L[0]? = some (L[0]'(by omega)) := List.getElem?_eq_getElem _
      have := World.block_lt_of_cell? w _ ((h2 0 _ e).2.1 0 _ rfl)
      rwa [block_of_add] at this
    · intro j u hu
      obtain ⟨k, r, d, rfl, hk, hr⟩ := dts_at (L.map (·.1)) j u hu
      obtain ⟨b, hb⟩ := g1 k d hk
      exact (h2 k _ hb).2.1 r u hr
    · obtain ⟨b', hb'⟩ := g1 i d hd
      rw [List.getElem?_map, hb'] at hb
      injection hb with hb
      simp only at hb
      subst hb
      exact (h2 i _ hb').2.2
    · intro d hd
      obtain ⟨i, hi'⟩ := List.getElem?_of_mem hd
      obtain ⟨b, hb⟩ := g1 i d hi'
      exact (h2 i _ hb).1
/-- A message, opened. -/
theorem open_msg {cs : Array Value} {d : DataW H} {p : List MemPlace} (hs : cs.size = 3) (h : DataW.Trod enc Try.prog w base spare held 25 (.agg cs) d p) :
    ∃ (st : Int) (o : Bool) (A : Option Addr) (len cap : Nat) (xs : List Int), cs = #[.int .u16 st, .bool o, .slice A len cap] ∧ 0 ≤ st ∧ st ≤ 65535 ∧ Reads w w.heap.size 1 A len (bs xs) ∧ BOk xs ∧ len ≤ cap ∧ cap ≤ maxLen ∧ (A = none → len = 0 ∧ cap = 0) := by
  obtain ⟨fuel, hf⟩ := h
  obtain ⟨y0, y1, y2, n, _, _, t0, t1, t2⟩ := trod_struct3 Try.underlying25 hf
  match cs, hs with
  | ⟨[u, v, x]⟩, _ =>
    simp [Value.cells, cells22, cells4, cells23] at t0 t1 t2
    obtain ⟨a0, q0, _, w0⟩ := DataW.trod_int Try.underlying22 t0
    obtain ⟨a1, q1, _⟩ := DataW.trod_bool Try.underlying4 t1
    obtain ⟨A, len, cap, xs, q2, hr, ho, hl, hm, hn⟩ := open_bytes t2
    simp only [List.cons.injEq, and_true] at q0 q1
    subst q0 q1 q2
    obtain ⟨b0, b1⟩ := bounds_u16 w0
    exact ⟨a0, a1, A, len, cap, xs, rfl, b0, b1, hr, ho, hl, hm, hn⟩
/-- A number and two sizes, opened. -/
theorem open_sizes {cs : Array Value} {d : DataW H} {p : List MemPlace} (hs : cs.size = 3) (h : DataW.Trod enc Try.prog w base spare held 46 (.agg cs) d p) :
    ∃ (s a b : Int), cs = #[.int .u16 s, .int .i64 a, .int .i64 b] ∧ (0 ≤ s ∧ s ≤ 65535) ∧ (-9223372036854775808 ≤ a ∧ a ≤ 9223372036854775807) ∧ (-9223372036854775808 ≤ b ∧ b ≤ 9223372036854775807) := by
  obtain ⟨fuel, hf⟩ := h
  obtain ⟨y0, y1, y2, n, _, _, t0, t1, t2⟩ := trod_struct3 Try.underlying46 hf
  match cs, hs with
  | ⟨[u, v, x]⟩, _ =>
    simp [Value.cells, cells22, cells3] at t0 t1 t2
    obtain ⟨a0, q0, _, w0⟩ := DataW.trod_int Try.underlying22 t0
    obtain ⟨a1, q1, _, w1⟩ := DataW.trod_int Try.underlying3 t1
    obtain ⟨a2, q2, _, w2⟩ := DataW.trod_int Try.underlying3 t2
    simp only [List.cons.injEq, and_true] at q0 q1 q2
    subst q0 q1 q2
    exact ⟨a0, a1, a2, rfl, bounds_u16 w0, bounds_i64 w1, bounds_i64 w2⟩
/-- A skip, opened. -/
theorem open_skip {cs : Array Value} {d : DataW H} {p : List MemPlace} (hs : cs.size = 2) (h : DataW.Trod enc Try.prog w base spare held 50 (.agg cs) d p) :
    ∃ (s a : Int), cs = #[.int .u16 s, .int .u16 a] ∧ (0 ≤ s ∧ s ≤ 65535) ∧ (0 ≤ a ∧ a ≤ 65535) := by
  obtain ⟨fuel, hf⟩ := h
  obtain ⟨y0, y1, n, _, _, t0, t1⟩ := trod_struct2 Try.underlying50 hf
  match cs, hs with
  | ⟨[u, v]⟩, _ =>
    simp [Value.cells, cells22] at t0 t1
    obtain ⟨a0, q0, _, w0⟩ := DataW.trod_int Try.underlying22 t0
    obtain ⟨a1, q1, _, w1⟩ := DataW.trod_int Try.underlying22 t1
    simp only [List.cons.injEq, and_true] at q0 q1
    subst q0 q1
    exact ⟨a0, a1, rfl, bounds_u16 w0, bounds_u16 w1⟩
end
end Go.Proofs.Ytfgbegamdlafkaa.Op

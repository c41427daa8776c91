/-
  Arguments, opened: bytes, messages, what is done with a queue, and rows of these.
-/
import Derived.Test.YtmidnfkmefoleaaQm
import Derived.Deep.Slices
import Derived.Deep.Fields
import Derived.Deep.Strs
import Derived.Lib.SmallJoins
import Derived.ChangeSame
import Derived.ProofKit
import Derived.OpenShut
set_option linter.unusedVariables false
set_option linter.unusedSimpArgs false
namespace Go.Proofs.Ytmidnfkmefoleaa.Oq
open Go.RowKit Wd Qm
open Go.ChangeShapes Go.WideShapes Go.Deep Go.Joins

theorem list_of {α : Type} (Q : Nat → α → Prop) (n : Nat) (h : ∀ i, i < n → ∃ x, Q i x) : ∃ l : List α, l.length = n ∧ ∀ (i : Nat) (x : α), l[i]? = some x → Q i x := by
  induction n with
  | zero => exact ⟨[], rfl, by intro i x h; simp at h⟩
  | succ k ih =>
    obtain ⟨l, h1, h2⟩ := ih (fun i hi => h i (by omega))
    obtain ⟨x, hx⟩ := h k (by omega)
    refine ⟨l ++ [x], by simp [h1], fun i y hy => ?_⟩
    rcases Nat.lt_or_ge i k with h3 | h3
    · rw [List.getElem?_append_left (by omega)] at hy
      exact h2 i y hy
    · have hi : i = l.length := by
        have := (List.getElem?_eq_some_iff.1 hy).1
        simp at this
        omega
      subst hi
      simp at hy
      subst hy
      rw [h1]
      exact hx

theorem cells5 : Try.prog.cellsOf 5 = 1 := by kernel_rfl
theorem cells22 : Try.prog.cellsOf 22 = 1 := by kernel_rfl
theorem cells30 : Try.prog.cellsOf 30 = 1 := by kernel_rfl
theorem cells4 : Try.prog.cellsOf 4 = 1 := by kernel_rfl
theorem cells3 : Try.prog.cellsOf 3 = 1 := by kernel_rfl
theorem cells2 : Try.prog.cellsOf 2 = 1 := by kernel_rfl
theorem cells32 : Try.prog.cellsOf 32 = 3 := by kernel_rfl
theorem cells42 : Try.prog.cellsOf 42 = 6 := by kernel_rfl
/-- A message: its stream, its kind, its bytes' header, its bytes. -/
structure MV where
  st : Int
  o : Bool
  A : Option Addr
  n : Nat
  c : Nat
  xs : List Int
def MV.cs (m : MV) : List Value := [.int .u16 m.st, .bool m.o, .slice m.A m.n m.c]
/-- Something done: its kind, a message, a moment, a number. -/
structure OV where
  kind : Int
  m : MV
  un : Int
  k : Int
def OV.cs (x : OV) : List Value := [.int .i64 x.kind, .int .u16 x.m.st, .bool x.m.o, .slice x.m.A x.m.n x.m.c, .int .i64 x.un, .int .i64 x.k]
def I64 (n : Int) : Prop := -9223372036854775808 ≤ n ∧ n ≤ 9223372036854775807
def MV.Ok (m : MV) (w : World) : Prop := 0 ≤ m.st ∧ m.st ≤ 65535 ∧ Reads w w.heap.size 1 m.A m.n (bs m.xs) ∧ BOk m.xs ∧ m.n ≤ m.c ∧ m.c ≤ maxLen ∧ (m.A = none → m.n = 0 ∧ m.c = 0)
def OV.Ok (x : OV) (w : World) : Prop := I64 x.kind ∧ x.m.Ok w ∧ I64 x.un ∧ I64 x.k
section
variable {H : Type} {enc : TypeId × Value → H} {w : World} {base : Nat} {spare : Nat → Bool} {held : Bool}
theorem cells_one {v : Value} {a : Addr} {cs : List Value} (h : w.cells? base a 1 = some cs) : ∃ u, cs = [u] ∧ w.cell? a = some u := by
  obtain ⟨_, hcl, hat⟩ := World.cells?_some h
  match cs, hcl with
  | [u], _ => exact ⟨u, rfl, by have := hat 0 (by omega); simpa [Addr.add] using this⟩
theorem open_bytes {fuel : Nat} {v : Value} {x : DataW H × List MemPlace} (h : DataW.trod enc Try.prog w base spare held fuel 22 [v] = some x) :
    ∃ (A : Option Addr) (len cap : Nat) (xs : List Int), v = .slice A len cap ∧ Reads w w.heap.size 1 A len (bs xs) ∧ BOk xs ∧ len ≤ cap ∧ cap ≤ maxLen ∧ (A = none → len = 0 ∧ cap = 0) := by
  rcases open_slice Try.underlying22 h with ⟨hcs, _⟩ | ⟨a, len, cap, m, n, D, Pl, hcs, _, hl, hm, hmm, _, hi⟩
  · simp at hcs
    subst hcs
    exact ⟨none, 0, 0, [], rfl, ⟨by simp [bs], fun h => absurd h (by omega)⟩, by intro y hy; simp at hy, Nat.le_refl _, by simp [maxLen], fun _ => ⟨rfl, rfl⟩⟩
  · simp at hcs
    subst hcs
    have hml : len ≤ m := by rw [hmm]; split <;> omega
    have one : ∀ i, i < len → ∃ y : Int, (0 ≤ y ∧ y ≤ 255) ∧ w.cell? (a.add i) = some (.int .u8 y) := by
      intro i hil
      obtain ⟨cs', hc, ht⟩ := hi i (by omega)
      rw [cells5, Nat.mul_one] at hc
      obtain ⟨u, rfl, hu⟩ := cells_one (v := .int .u8 0) hc
      obtain ⟨y, q, _, wy⟩ := DataW.trod_int Try.underlying5 ht
      simp only [List.cons.injEq, and_true] at q
      subst q
      obtain ⟨b0, b1⟩ := bounds_u8 wy
      exact ⟨y, ⟨b0, b1⟩, hu⟩
    obtain ⟨xs, h1, h2⟩ := list_of _ len one
    refine ⟨some a, len, cap, xs, rfl, ⟨by rw [bs_length, h1]; omega, fun hp => ⟨a, rfl, ?_, ?_⟩⟩, ?_, hl, hm, fun h => by cases h⟩
    · have e : xs[0]? = some (xs[0]'(by omega)) := List.getElem?_eq_getElem _
      have := World.block_lt_of_cell? w _ (h2 0 _ e).2
      rwa [block_of_add] at this
    · intro j u hu
      simp only [bs, List.getElem?_map] at hu
      cases hx : xs[j]? with
      | none => rw [hx] at hu; cases hu
      | some y =>
        rw [hx] at hu
        injection hu with hu
        subst hu
        exact (h2 j y hx).2
    · intro y hy
      obtain ⟨i, hi'⟩ := List.getElem?_of_mem hy
      exact (h2 i y hi').1

theorem open_bytes' {A : Option Addr} {len cap : Nat} {d : DataW H} {p : List MemPlace} (h : DataW.Trod enc Try.prog w base spare held 22 (.slice A len cap) d p) :
    ∃ (xs : List Int), Reads w w.heap.size 1 A len (bs xs) ∧ BOk xs ∧ len ≤ cap ∧ cap ≤ maxLen ∧ (A = none → len = 0 ∧ cap = 0) := by
  obtain ⟨fuel, hf⟩ := h
  obtain ⟨A', n', c', xs, h1, h2, h3, h4, h5, h6⟩ := open_bytes (v := .slice A len cap) (by simpa [Value.cells] using hf)
  injection h1 with e1 e2 e3
  subst e1 e2 e3
  exact ⟨xs, h2, h3, h4, h5, h6⟩
theorem open_msg {fuel : Nat} {cs : List Value} {x : DataW H × List MemPlace} (hs : cs.length = 3) (h : DataW.trod enc Try.prog w base spare held fuel 32 cs = some x) : ∃ m : MV, cs = m.cs ∧ m.Ok w := by
  obtain ⟨y0, y1, y2, n, _, _, t0, t1, t2⟩ := trod_struct3 Try.underlying32 h
  match cs, hs with
  | [u, v, x], _ =>
    simp [cells22, cells4, cells30] at t0 t1 t2
    obtain ⟨a0, q0, _, w0⟩ := DataW.trod_int Try.underlying30 t0
    obtain ⟨a1, q1, _⟩ := DataW.trod_bool Try.underlying4 t1
    obtain ⟨A, len, cap, xs, q2, hr, ho, hl, hm, hn⟩ := open_bytes t2
    simp only [List.cons.injEq, and_true] at q0 q1
    subst q0 q1 q2
    obtain ⟨b0, b1⟩ := bounds_u16 w0
    exact ⟨⟨a0, a1, A, len, cap, xs⟩, rfl, b0, b1, hr, ho, hl, hm, hn⟩
theorem open_ov {fuel : Nat} {cs : List Value} {x : DataW H × List MemPlace} (hs : cs.length = 6) (h : DataW.trod enc Try.prog w base spare held fuel 42 cs = some x) : ∃ v : OV, cs = v.cs ∧ v.Ok w := by
  obtain ⟨y0, y1, y2, y3, n, _, _, t0, t1, t2, t3⟩ := trod_struct4 Try.underlying42 h
  match cs, hs with
  | [c0, c1, c2, c3, c4, c5], _ =>
    simp [cells32, cells3, cells2] at t0 t1 t2 t3
    obtain ⟨a0, q0, _, w0⟩ := DataW.trod_int Try.underlying3 t0
    obtain ⟨m, hm, hmo⟩ := open_msg rfl t1
    obtain ⟨a2, q2, _, w2⟩ := DataW.trod_int Try.underlying2 t2
    obtain ⟨a3, q3, _, w3⟩ := DataW.trod_int Try.underlying3 t3
    simp only [List.cons.injEq, and_true] at q0 q2 q3
    simp only [MV.cs, List.cons.injEq, and_true] at hm
    obtain ⟨h1, h2, h3⟩ := hm
    subst q0 q2 q3 h1 h2 h3
    exact ⟨⟨a0, m, a2, a3⟩, rfl, bounds_i64 w0, hmo, bounds_i64 w2, bounds_i64 w3⟩
theorem open_opv {cs : Array Value} {d : DataW H} {p : List MemPlace} (hs : cs.size = 6) (h : DataW.Trod enc Try.prog w base spare held 42 (.agg cs) d p) : ∃ v : OV, cs = v.cs.toArray ∧ v.Ok w := by
  obtain ⟨fuel, hf⟩ := h
  obtain ⟨v, h1, h2⟩ := open_ov (by simpa [Value.cells] using hs) hf
  refine ⟨v, ?_, h2⟩
  apply Array.toList_inj.1
  simpa [Value.cells] using h1
end

section
variable {α : Type}
theorem flat_at (f : α → List Value) (C : Nat) (hf : ∀ x, (f x).length = C) (hC : 0 < C) (l : List α) : ∀ (j : Nat) (u : Value), (l.flatMap f)[j]? = some u → ∃ (k r : Nat) (d : α), j = k * C + r ∧ l[k]? = some d ∧ (f d)[r]? = some u := by
  induction l with
  | nil => intro j u h; simp at h
  | cons a l ih =>
    intro j u h
    rw [List.flatMap_cons] at h
    rcases Nat.lt_or_ge j C with h7 | h7
    · rw [List.getElem?_append_left (by rw [hf]; exact h7)] at h
      exact ⟨0, j, a, by omega, rfl, h⟩
    · rw [List.getElem?_append_right (by rw [hf]; exact h7)] at h
      rw [hf] at h
      obtain ⟨k, r, d, h1, h2, h3⟩ := ih _ u h
      refine ⟨k + 1, r, d, ?_, by simpa using h2, h3⟩
      rw [Nat.add_mul]
      omega
theorem flat_get (f : α → List Value) (C : Nat) (hf : ∀ x, (f x).length = C) (l : List α) : ∀ (k : Nat) (d : α), l[k]? = some d → ∀ (j : Nat) (u : Value), (f d)[j]? = some u → (l.flatMap f)[k * C + j]? = some u := by
  induction l with
  | nil => intro k d h; simp at h
  | cons a l ih =>
    intro k d h j u hu
    rw [List.flatMap_cons]
    have hj : j < C := by rw [← hf d]; exact (List.getElem?_eq_some_iff.1 hu).1
    cases k with
    | zero =>
      simp at h; subst h
      rw [Nat.zero_mul, Nat.zero_add, List.getElem?_append_left (by rw [hf]; exact hj)]
      exact hu
    | succ k =>
      rw [List.getElem?_append_right (by rw [hf, Nat.add_mul]; omega)]
      have := ih k d (by simpa using h) j u hu
      rw [show (k + 1) * C + j - (f a).length = k * C + j from by rw [hf, Nat.add_mul]; omega]
      exact this
theorem flat_length (f : α → List Value) (C : Nat) (hf : ∀ x, (f x).length = C) (l : List α) : (l.flatMap f).length = l.length * C := by
  induction l with
  | nil => simp
  | cons a l ih => rw [List.flatMap_cons, List.length_append, ih, hf, List.length_cons, Nat.add_mul]; omega
end
section
variable {H : Type} {enc : TypeId × Value → H} {w : World} {base : Nat} {spare : Nat → Bool} {held : Bool}
/-- A slice of whatever is opened, element by element. -/
theorem open_row {α : Type} {t e : TypeId} {C : Nat} (f : α → List Value) (Ok : α → Prop) (ht : Try.prog.underlying t = some (.slice e)) (hC : Try.prog.cellsOf e = C) (hf : ∀ x, (f x).length = C) (hC0 : 0 < C)
    (hd : ∀ (fuel : Nat) (cs : List Value) (x : DataW H × List MemPlace), cs.length = C → DataW.trod enc Try.prog w base spare held fuel e cs = some x → ∃ m : α, cs = f m ∧ Ok m)
    {A : Option Addr} {len cap : Nat} {d : DataW H} {p : List MemPlace} (h : DataW.Trod enc Try.prog w base spare held t (.slice A len cap) d p) :
    ∃ (l : List α), l.length = len ∧ Reads w w.heap.size C A len (l.flatMap f) ∧ (∀ x ∈ l, Ok x) ∧ len ≤ cap ∧ cap ≤ maxLen ∧ (A = none → len = 0 ∧ cap = 0) := by
  obtain ⟨fuel, hf'⟩ := h
  rcases open_slice ht hf' with ⟨hcs, _⟩ | ⟨a, l, c, m, n, D, Pl, hcs, _, hl, hm, hmm, _, hi⟩
  · simp [Value.cells] at hcs
    obtain ⟨rfl, rfl, rfl⟩ := hcs
    exact ⟨[], rfl, ⟨by simp, fun h => absurd h (by omega)⟩, by simp, Nat.le_refl _, by simp [maxLen], fun _ => ⟨rfl, rfl⟩⟩
  · simp [Value.cells] at hcs
    obtain ⟨rfl, rfl, rfl⟩ := hcs
    have hml : len ≤ m := by rw [hmm]; split <;> omega
    have one : ∀ i, i < len → ∃ x : α, Ok x ∧ ∀ r u, (f x)[r]? = some u → w.cell? (a.add (i * C + r)) = some u := by
      intro i hil
      obtain ⟨cs', hc, ht'⟩ := hi i (by omega)
      rw [hC] at hc
      obtain ⟨_, hcl, hat⟩ := World.cells?_some hc
      obtain ⟨x, h1, h2⟩ := hd _ cs' _ hcl ht'
      refine ⟨x, h2, fun r u hu => ?_⟩
      rw [← h1] at hu
      have hr : r < C := by rw [← hcl]; exact (List.getElem?_eq_some_iff.1 hu).1
      rw [← Go.Deep.add_add, hat r hr]
      exact hu
    obtain ⟨L, h1, h2⟩ := list_of _ len one
    refine ⟨L, h1, ⟨by rw [flat_length f C hf, h1], fun hp => ⟨a, rfl, ?_, ?_⟩⟩, fun x hx => ?_, hl, hm, fun h => by cases h⟩
    · have e0 : L[0]? = some (L[0]'(by omega)) := List.getElem?_eq_getElem _
      have hz : (f (L[0]'(by omega)))[0]? = some ((f (L[0]'(by omega)))[0]'(by rw [hf]; exact hC0)) := List.getElem?_eq_getElem _
      have := World.block_lt_of_cell? w _ ((h2 0 _ e0).2 0 _ hz)
      rwa [block_of_add] at this
    · intro j u hu
      obtain ⟨k, r, x, rfl, hk, hr⟩ := flat_at f C hf hC0 L j u hu
      exact (h2 k x hk).2 r u hr
    · obtain ⟨i, hi'⟩ := List.getElem?_of_mem hx
      exact (h2 i x hi').1
theorem open_ops {A : Option Addr} {len cap : Nat} {d : DataW H} {p : List MemPlace} (h : DataW.Trod enc Try.prog w base spare held 44 (.slice A len cap) d p) :
    ∃ (l : List OV), l.length = len ∧ Reads w w.heap.size 6 A len (l.flatMap OV.cs) ∧ (∀ x ∈ l, x.Ok w) ∧ len ≤ cap ∧ cap ≤ maxLen ∧ (A = none → len = 0 ∧ cap = 0) :=
  open_row OV.cs (fun x => x.Ok w) Try.underlying44 cells42 (fun _ => rfl) (by omega) (fun _ _ _ hs ht => open_ov hs ht) h
theorem open_msgs {A : Option Addr} {len cap : Nat} {d : DataW H} {p : List MemPlace} (h : DataW.Trod enc Try.prog w base spare held 56 (.slice A len cap) d p) :
    ∃ (l : List MV), l.length = len ∧ Reads w w.heap.size 3 A len (l.flatMap MV.cs) ∧ (∀ x ∈ l, x.Ok w) ∧ len ≤ cap ∧ cap ≤ maxLen ∧ (A = none → len = 0 ∧ cap = 0) :=
  open_row MV.cs (fun x => x.Ok w) Try.underlying56 cells32 (fun _ => rfl) (by omega) (fun _ _ _ hs ht => open_msg hs ht) h
end
end Go.Proofs.Ytmidnfkmefoleaa.Oq

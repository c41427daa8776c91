/-
  Arguments, opened: how long their bytes can be.
-/
import Derived.Test.YtmidnfkmefoleaaOq
import Derived.SizedLaws
set_option linter.unusedVariables false
set_option linter.unusedSimpArgs false
namespace Go.Proofs.Ytmidnfkmefoleaa.Ow
open Go.RowKit Wd Qm Oq
open Go.ChangeShapes Go.WideShapes Go.Deep Go.Joins

theorem bytesOf5 : Try.prog.bytesOf 5 = 1 := by kernel_rfl
section
variable {H : Type} {enc : TypeId × Value → H} {w : World} {base : Nat} {spare : Nat → Bool} {held : Bool}
def Wt (d : DataW H) (t : TypeId) : Prop := ∀ n ∈ d.weights Try.prog t, n ≤ reachBytes
theorem bytes_w {fuel : Nat} {A : Option Addr} {len cap : Nat} {x : DataW H × List MemPlace} (h : DataW.trod enc Try.prog w base spare held fuel 22 [.slice A len cap] = some x) (hw : Wt x.1 22) : len ≤ 140737488355328 := by
  rcases open_slice Try.underlying22 h with ⟨hcs, _⟩ | ⟨a, len', cap', m, n, D, Pl, hcs, _, hl, hm, hmm, rfl, hi⟩
  · simp at hcs
    omega
  · simp at hcs
    obtain ⟨rfl, rfl, rfl⟩ := hcs
    have := hw ((((List.range len).map D).length + ((List.range (m - len)).map fun j => D (len + j)).length) * Try.prog.bytesOf 5) (by simp only [DataW.weights, Try.underlying22]; exact List.mem_cons_self)
    rw [bytesOf5] at this
    simp [reachBytes] at this
    omega
theorem msg_w {fuel : Nat} {a b : Value} {A : Option Addr} {len cap : Nat} {x : DataW H × List MemPlace} (h : DataW.trod enc Try.prog w base spare held fuel 32 [a, b, .slice A len cap] = some x) (hw : Wt x.1 32) : len ≤ 140737488355328 := by
  obtain ⟨y0, y1, y2, n, rfl, _, t0, t1, t2⟩ := trod_struct3 Try.underlying32 h
  simp [cells22, cells4, cells30] at t0 t1 t2
  refine bytes_w t2 fun k hk => hw k ?_
  simp only [DataW.weights, Try.underlying32, DataW.weightsEach, List.map_cons, List.map_nil, List.append_nil, List.mem_append]
  exact .inr (.inr hk)
theorem ov_w {fuel : Nat} {v : OV} {x : DataW H × List MemPlace} (h : DataW.trod enc Try.prog w base spare held fuel 42 v.cs = some x) (hw : Wt x.1 42) : v.m.n ≤ 140737488355328 := by
  obtain ⟨y0, y1, y2, y3, n, rfl, _, t0, t1, t2, t3⟩ := trod_struct4 Try.underlying42 h
  simp [cells32, cells3, cells2, OV.cs] at t0 t1 t2 t3
  refine msg_w t1 fun k hk => hw k ?_
  simp only [DataW.weights, Try.underlying42, DataW.weightsEach, List.map_cons, List.map_nil, List.append_nil, List.mem_append]
  exact .inr (.inl hk)
theorem all_w {e : TypeId} : ∀ {l : List (DataW H)} {d : DataW H}, d ∈ l → ∀ n ∈ d.weights Try.prog e, n ∈ DataW.weightsAll Try.prog e l
  | [], d, hd, n, hn => by cases hd
  | a :: l, d, hd, n, hn => by
    simp only [DataW.weightsAll, List.mem_append]
    rcases List.mem_cons.1 hd with rfl | hd
    · exact .inl hn
    · exact .inr (all_w hd n hn)
/-- A slice of whatever is opened, element by element, with its weights. -/
theorem open_row_w {α : Type} {t e : TypeId} {C : Nat} (f : α → List Value) (Ok : α → Prop) (ht : Try.prog.underlying t = some (.slice e)) (hC : Try.prog.cellsOf e = C) (hf : ∀ x, (f x).length = C) (hC0 : 0 < C)
    (hd : ∀ (fuel : Nat) (cs : List Value) (x : DataW H × List MemPlace), cs.length = C → DataW.trod enc Try.prog w base spare held fuel e cs = some x → Wt x.1 e → ∃ m : α, cs = f m ∧ Ok m)
    {A : Option Addr} {len cap : Nat} {d : DataW H} {p : List MemPlace} (h : DataW.Trod enc Try.prog w base spare held t (.slice A len cap) d p) (hw : Wt d t) :
    ∃ (l : List α), l.length = len ∧ Reads w w.heap.size C A len (l.flatMap f) ∧ (∀ x ∈ l, Ok x) ∧ len ≤ cap ∧ cap ≤ maxLen ∧ (A = none → len = 0 ∧ cap = 0) := by
  obtain ⟨fuel, hf'⟩ := h
  rcases open_slice ht hf' with ⟨hcs, _⟩ | ⟨a, l, c, m, n, D, Pl, hcs, _, hl, hm, hmm, hx, hi⟩
  · simp [Value.cells] at hcs
    obtain ⟨rfl, rfl, rfl⟩ := hcs
    exact ⟨[], rfl, ⟨by simp, fun h => absurd h (by omega)⟩, by simp, Nat.le_refl _, by simp [maxLen], fun _ => ⟨rfl, rfl⟩⟩
  · simp [Value.cells] at hcs
    obtain ⟨rfl, rfl, rfl⟩ := hcs
    injection hx with hx hx2
    subst hx
    have hml : len ≤ m := by rw [hmm]; split <;> omega
    have one : ∀ i, i < len → ∃ x : α, Ok x ∧ ∀ r u, (f x)[r]? = some u → w.cell? (a.add (i * C + r)) = some u := by
      intro i hil
      obtain ⟨cs', hc, ht'⟩ := hi i (by omega)
      rw [hC] at hc
      obtain ⟨_, hcl, hat⟩ := World.cells?_some hc
      obtain ⟨x, h1, h2⟩ := hd _ cs' _ hcl ht' (fun k hk => hw k (by
        simp only [DataW.weights, ht, List.mem_cons, List.mem_append]
        exact .inr (.inl (all_w (List.mem_map.2 ⟨i, List.mem_range.2 hil, rfl⟩) k hk))))
      refine ⟨x, h2, fun r u hu => ?_⟩
      rw [← h1] at hu
      have hr : r < C := by rw [← hcl]; exact (List.getElem?_eq_some_iff.1 hu).1
      rw [← Go.Deep.add_add, hat r hr]
      exact hu
    obtain ⟨L, h1, h2⟩ := list_of _ len one
    refine ⟨L, h1, ⟨by rw [flat_length f C hf, h1], fun hp => ⟨a, rfl, ?_, ?_⟩⟩, fun x hx => ?_, hl, hm, fun h => by cases h⟩
    · have e0 : L[0]? = some (L[0]'(by omega)) := List.getElem?_eq_getElem _
      have hz : (f (L[0]'(by omega)))[0]? = some ((f (L[0]'(by omega)))[0]'(by rw [hf]; exact hC0)) := List.getElem?_eq_getElem _
      have := World.block_lt_of_cell? w _ ((h2 0 _ e0).2 0 _ hz)
      rwa [block_of_add] at this
    · intro j u hu
      obtain ⟨k, r, x, rfl, hk, hr⟩ := flat_at f C hf hC0 L j u hu
      exact (h2 k x hk).2 r u hr
    · obtain ⟨i, hi'⟩ := List.getElem?_of_mem hx
      exact (h2 i x hi').1
def OkW (w : World) (x : OV) : Prop := x.Ok w ∧ x.m.n ≤ 140737488355328
theorem open_ops_w {A : Option Addr} {len cap : Nat} {d : DataW H} {p : List MemPlace} (h : DataW.Trod enc Try.prog w base spare held 44 (.slice A len cap) d p) (hw : Wt d 44) :
    ∃ (l : List OV), l.length = len ∧ Reads w w.heap.size 6 A len (l.flatMap OV.cs) ∧ (∀ x ∈ l, OkW w x) ∧ len ≤ cap ∧ cap ≤ maxLen ∧ (A = none → len = 0 ∧ cap = 0) :=
  open_row_w OV.cs (OkW w) Try.underlying44 cells42 (fun _ => rfl) (by omega) (fun fuel cs x hs ht hx => by
    obtain ⟨m, rfl, hm⟩ := open_ov hs ht
    exact ⟨m, rfl, hm, ov_w ht hx⟩) h hw
theorem open_opv_w {cs : Array Value} {d : DataW H} {p : List MemPlace} (hs : cs.size = 6) (h : DataW.Trod enc Try.prog w base spare held 42 (.agg cs) d p) (hw : Wt d 42) : ∃ v : OV, cs = v.cs.toArray ∧ OkW w v := by
  obtain ⟨v, h1, h2⟩ := open_opv hs h
  refine ⟨v, h1, h2, ?_⟩
  obtain ⟨fuel, hf⟩ := h
  subst h1
  exact ov_w (v := v) (by simpa [Value.cells] using hf) hw
end
theorem OkW.keep {w w' : World} {x : OV} (h : OkW w x) (hb : Below w.heap.size w w') : OkW w' x := by
  obtain ⟨⟨h1, ⟨h2, h3, h4, h5⟩, h6⟩, h7⟩ := h
  have h8 := h4.keep (w' := w') fun p hp => hb.cell (by omega)
  exact ⟨⟨h1, ⟨h2, h3, ⟨h8.1, fun hp => let ⟨ad, e1, e2, e3⟩ := h8.2 hp; ⟨ad, e1, Nat.lt_of_lt_of_le e2 hb.size, e3⟩⟩, h5⟩, h6⟩, h7⟩
end Go.Proofs.Ytmidnfkmefoleaa.Ow

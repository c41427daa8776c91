/-
  Join, told at once; and the bytes that it tells.
-/
import Derived.Test.YtfgbegamdlafkaaWk
set_option linter.unusedVariables false
set_option linter.unusedSimpArgs false
namespace Go.Proofs.Ytfgbegamdlafkaa.Jt
open Go.RowKit Wd Md Cm Cb Ch Ct Cu Jo Bk

/-- Join, told at once for pieces that differ in their numbers alone. -/
theorem join_told {ds : List Dt} {bb : List (List Int)} {w w' : World} {e : Ending} (h : JoinOut ds bb w e w') : ∃ (st : Int) (o : Bool) (ys : List Int) (A : Option Addr) (c : Nat) (r : Bool), e = .returned (.tuple #[.agg #[.int .u16 st, .bool o, .slice A ys.length c], .bool r]) ∧ w'.ownsRow w.heap.size 5 1 (.slice A ys.length c) ys.length (bs ys) ∧ Below w.heap.size w w' ∧
    ((Fits ds bb ∧ r = true ∧ ys = bb.flatten ∧ ∃ d0, ds[0]? = some d0 ∧ st = d0.st ∧ o = !d0.un) ∨ (¬ Fits ds bb ∧ r = false ∧ ys = [] ∧ st = 0 ∧ o = false)) := by
  rcases h with ⟨d0, A, c, h0, hR, ht, he, ho, hb⟩ | ⟨hn, he, hb⟩
  · exact ⟨_, _, bb.flatten, A, c, true, he, ho, hb, .inl ⟨⟨d0, h0, hR, ht⟩, rfl, rfl, d0, h0, rfl, rfl⟩⟩
  · exact ⟨0, false, [], none, 0, false, he, by simpa [bs] using own_none w' w.heap.size 5 1, hb, .inr ⟨hn, rfl, rfl, rfl, rfl⟩⟩
theorem rd_more {w : World} {B B' : Nat} {ds : List Dt} {bb : List (List Int)} (h : RdB w B ds bb) (hB : B ≤ B') : RdB w B' ds bb :=
  ⟨h.1, fun i d b hd hb => let ⟨r1, r2, r3⟩ := h.2 i d b hd hb; ⟨r1.more hB, r2, r3⟩⟩
theorem flat_ok {w : World} {B : Nat} {ds : List Dt} {bb : List (List Int)} (h : RdB w B ds bb) : BOk bb.flatten := by
  intro y hy
  rw [List.mem_flatten] at hy
  obtain ⟨b, hb, hyb⟩ := hy
  obtain ⟨i, hi⟩ := List.getElem?_of_mem hb
  have hd : ds[i]? = some (ds[i]'(by have := (List.getElem?_eq_some_iff.1 hi).1; have := h.1; omega)) := List.getElem?_eq_getElem _
  exact (h.2 i _ b hd hi).2.2 y hyb

end Go.Proofs.Ytfgbegamdlafkaa.Jt

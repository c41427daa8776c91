/-
  Both Makes by one contract: whether pieces are a row, and what is told of them, is the same.
-/
import Derived.Test.YtkjohgokkfghiaaRm
set_option linter.unusedVariables false
set_option linter.unusedSimpArgs false
namespace Go.Proofs.Ytkjohgokkfghiaa.Mb
open Go.RowKit Wd Sk Pl Mk Rm
open Go.Proofs.Ytkjohgokkfghiaa.Fn

/-- Are pieces a row? -/
noncomputable def mkB (cum : Int) (ds : List Dt) : Bool := @decide (ds ≠ [] ∧ RowOk cum ds) (Classical.propDecidable _)
theorem mkB_t {cum : Int} {ds : List Dt} (h : ds ≠ []) (hr : RowOk cum ds) : mkB cum ds = true := by unfold mkB; exact @decide_eq_true _ (Classical.propDecidable _) ⟨h, hr⟩
theorem mkB_f {cum : Int} {ds : List Dt} (h : ds = [] ∨ ¬ RowOk cum ds) : mkB cum ds = false := by
  unfold mkB
  refine @decide_eq_false _ (Classical.propDecidable _) (fun hh => ?_)
  rcases h with h | h
  · exact hh.1 h
  · exact h hh.2
noncomputable def mkC (cum : Int) (ds : List Dt) : Int := if mkB cum ds = true then (cum + ds.length) % 4294967296 else 0
noncomputable def mkL (cum : Int) (ds : List Dt) : List (Int × Int) := if mkB cum ds = true then skips ds else []
def MkOut (cum : Int) (ds : List Dt) (w : World) (e : Ending) (w' : World) : Prop :=
  ∃ A c, e = .returned (.tuple #[.agg #[.int .u32 (mkC cum ds), .slice A (mkL cum ds).length c], .bool (mkB cum ds)]) ∧ w'.ownsRow w.heap.size 41 2 (.slice A (mkL cum ds).length c) (mkL cum ds).length (sks (mkL cum ds)) ∧ Below w.heap.size w w'
theorem out_of_post {cum : Int} {ds : List Dt} {w w' : World} {e : Ending} (h0 : ds ≠ []) (h : MkPost cum ds w e w') : MkOut cum ds w e w' := by
  rcases h with ⟨hr, v, rfl, hv, hb⟩ | ⟨hr, rfl, hb⟩
  · have hB := mkB_t h0 hr
    have e1 : mkC cum ds = (cum + ds.length) % 4294967296 := by unfold mkC; rw [if_pos hB]
    have e2 : mkL cum ds = skips ds := by unfold mkL; rw [if_pos hB]
    unfold MkOut
    rw [hB, e1, e2]
    obtain ⟨A, c, rfl, _, _⟩ := own_slice hv
    exact ⟨A, c, rfl, hv, hb⟩
  · have hB := mkB_f (.inr hr : ds = [] ∨ ¬ RowOk cum ds)
    have e1 : mkC cum ds = 0 := by unfold mkC; rw [if_neg (by rw [hB]; simp)]
    have e2 : mkL cum ds = [] := by unfold mkL; rw [if_neg (by rw [hB]; simp)]
    unfold MkOut
    rw [hB, e1, e2]
    exact ⟨none, 0, rfl, own_none _ _ _ _, hb⟩
theorem out_of_none {cum : Int} {w w' : World} {e : Ending} (he : e = .returned (.tuple #[.agg #[.int .u32 0, .slice none 0 0], .bool false])) (hb : Below w.heap.size w w') : MkOut cum [] w e w' := by
  subst he
  have hB := mkB_f (.inl rfl : ([] : List Dt) = [] ∨ ¬ RowOk cum [])
  have e1 : mkC cum [] = 0 := by unfold mkC; rw [if_neg (by rw [hB]; simp)]
  have e2 : mkL cum [] = [] := by unfold mkL; rw [if_neg (by rw [hB]; simp)]
  unfold MkOut
  rw [hB, e1, e2]
  exact ⟨none, 0, rfl, own_none _ _ _ _, hb⟩

/-- forward.Make. -/
theorem make (cum : Int) (A : Option Addr) (n c B : Nat) (ds : List Dt) (w : World) (hn : n ≤ 1000000) (h0 : 0 ≤ cum) (h1 : cum ≤ 4294967295) (hB : B ≤ w.heap.size) (h : Reads w B 7 A n (dts ds)) (hok : Hid (∀ d ∈ ds, d.Ok)) :
    Calls Try.prog 9 #[.int .u32 cum, .slice A n c] w (MkOut cum ds w) := by
  have hl := dlen_ h
  rcases Nat.eq_zero_or_pos n with rfl | hp
  · obtain rfl : ds = [] := List.eq_nil_of_length_eq_zero hl
    exact (c9z cum A c w).mono fun e w' h => out_of_none h.1 h.2
  · obtain ⟨m, rfl⟩ : ∃ m, n = m + 1 := ⟨n - 1, by omega⟩
    exact (c9 cum A m c B ds w hn h0 h1 hB h hok).mono fun e w' h => out_of_post (fun e0 => by subst e0; simp at hl) h
/-- The document's Make. -/
theorem ref (cum : Int) (A : Option Addr) (n c B : Nat) (ds : List Dt) (w : World) (hn : n ≤ 1000000) (h0 : 0 ≤ cum) (h1 : cum ≤ 4294967295) (hB : B ≤ w.heap.size) (h : Reads w B 7 A n (dts ds)) (hok : Hid (∀ d ∈ ds, d.Ok)) :
    Calls Try.prog 10 #[.int .u32 cum, .slice A n c] w (MkOut cum ds w) := by
  have hl := dlen_ h
  rcases Nat.eq_zero_or_pos n with rfl | hp
  · obtain rfl : ds = [] := List.eq_nil_of_length_eq_zero hl
    exact (c10z cum A c w).mono fun e w' h => out_of_none h.1 h.2
  · obtain ⟨m, rfl⟩ : ∃ m, n = m + 1 := ⟨n - 1, by omega⟩
    exact (c10 cum A m c B ds w hn h0 h1 hB h hok).mono fun e w' h => out_of_post (fun e0 => by subst e0; simp at hl) h
theorem mkL_le (cum : Int) (ds : List Dt) : (mkL cum ds).length ≤ ds.length := by
  unfold mkL
  split
  · have := skips_length ds ds.length (Nat.le_refl _)
    rwa [List.take_length] at this
  · simp
end Go.Proofs.Ytkjohgokkfghiaa.Mb

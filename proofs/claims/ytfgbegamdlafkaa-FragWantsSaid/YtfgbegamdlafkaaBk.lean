/-
  What is cut is joined: the pieces of a message fit, and their bytes are the message's; contracts of both cuts and both joins.
-/
import Derived.Test.YtfgbegamdlafkaaCu
import Derived.Test.YtfgbegamdlafkaaJr
set_option linter.unusedVariables false
set_option linter.unusedSimpArgs false
namespace Go.Proofs.Ytfgbegamdlafkaa.Bk
open Go.RowKit Wd Md Cm Cb Ch Ct Cu Jo

set_option maxRecDepth 100000 in
/-- The document's Cut. -/
theorem ref (st ssn : Int) (o : Bool) (A : Option Addr) (N c B : Nat) (most : Int) (xs : List Int) (w : World) (hn : N ≤ 9223372036854775807) (h0 : -9223372036854775808 ≤ most) (h1 : most ≤ 9223372036854775807) (hc : N ≤ c) (hB : B ≤ w.heap.size) (h : Reads w B 1 A N (bs xs)) (hok : Hid (BOk xs)) :
    Calls Try.prog 14 #[.agg #[.int .u16 st, .bool o, .slice A N c], .int .u16 ssn, .int .i64 most] w (CutOut st ssn o xs most w) := by
  have hl := hide (blen_ h)
  by_cases hm : most < 1
  · go_enter Try.func14, Try.ntmps14
    go_wp2
    go_ret2
    exact .inl ⟨hm, rfl, (Below.refl _ _).alloc (Nat.le_refl _) _⟩
  · have hm1 : 1 ≤ most := by omega
    by_cases hN : N = 0 ∨ 1048576 < N
    · have hN2 : Hid (xs.length = 0 ∨ 1048576 < xs.length) := by show _ ∨ _; rw [unhide hl]; exact hN
      by_cases hN0 : N = 0
      · subst hN0
        go_enter Try.func14, Try.ntmps14
        go_wp2
        go_ret2
        exact .inr (.inl ⟨hm1, unhide hN2, rfl, (Below.refl _ _).alloc (Nat.le_refl _) _⟩)
      · have hN3 : 1048576 < N := by omega
        have hnz : ((N : Int) == 0) = false := by rw [beq_eq_false_iff_ne]; omega
        go_enter Try.func14, Try.ntmps14
        go_wp2
        go_ret2
        exact .inr (.inl ⟨hm1, unhide hN2, rfl, (Below.refl _ _).alloc (Nat.le_refl _) _⟩)
    · obtain ⟨mm, rfl⟩ := Int.eq_ofNat_of_zero_le (show 0 ≤ most by omega)
      refine (ref_main st ssn o A N c B mm xs w (by omega) (by omega) (by omega) (by omega) hc hB h hok).mono ?_
      intro e w' hp
      exact .inr (.inr ⟨mm, rfl, by omega, by rw [unhide hl]; omega, by rw [unhide hl]; omega, hp⟩)

theorem chk_flat (mm : Nat) (xs : List Int) (k : Nat) : ((List.range k).map (chk mm xs)).flatten = xs.take (k * mm) := by
  induction k with
  | zero => simp
  | succ k ih =>
    rw [List.range_succ, List.map_append, List.flatten_append, ih]
    simp only [List.map_cons, List.map_nil, List.flatten_cons, List.flatten_nil, List.append_nil]
    unfold chk
    rw [Nat.add_mul, Nat.one_mul, List.take_add]
theorem chk_all {mm : Nat} (hm : 0 < mm) (xs : List Int) : ((List.range (nch mm xs.length)).map (chk mm xs)).flatten = xs := by
  rw [chk_flat, List.take_of_length_le]
  have := nch_lt (mm := mm) (n := xs.length) (k := nch mm xs.length) hm
  omega
theorem chk_pos {mm : Nat} (hm : 0 < mm) (xs : List Int) {i : Nat} (hi : i < nch mm xs.length) : 0 < (chk mm xs i).length := by
  have := (nch_lt (mm := mm) (n := xs.length) hm).1 hi
  rw [chk_length]
  omega
/-- A piece of a cut at its place. -/
def PieceAt (st ssn : Int) (o : Bool) (K : Nat) (i : Nat) (d : Dt) : Prop := d.tsn = 0 ∧ d.st = st ∧ d.ssn = (if o = true then ssn else 0) ∧ d.un = !o ∧ d.fi = decide (i = 0) ∧ d.la = decide (i + 1 = K)
theorem cut_len {st ssn : Int} {o : Bool} {xs : List Int} {mm base : Nat} {ds : List Dt} {w : World} (hO : OwB w base ds ((List.range (nch mm xs.length)).map (chk mm xs))) {i : Nat} {d : Dt} (hd : ds[i]? = some d) : d.n = (chk mm xs i).length := by
  have hi := (List.getElem?_eq_some_iff.1 hd).1
  have hl := hO.1
  rw [List.length_map, List.length_range] at hl
  have hb : ((List.range (nch mm xs.length)).map (chk mm xs))[i]? = some (chk mm xs i) := by
    rw [List.getElem?_map, List.getElem?_range (by omega)]
    rfl
  exact (own_bytes (hO.2 i d _ hd hb).1).symm
/-- The pieces of a cut are those of a message. -/
theorem cut_rights {st ssn : Int} {o : Bool} {xs : List Int} {mm base : Nat} {ds : List Dt} {w : World} (hm : 0 < mm) (hl : ds.length = nch mm xs.length) (hO : OwB w base ds ((List.range (nch mm xs.length)).map (chk mm xs)))
    (hH : ∀ (i : Nat) (d : Dt), ds[i]? = some d → PieceAt st ssn o (nch mm xs.length) i d) {d0 : Dt} (h0 : ds[0]? = some d0) : Rights ds d0 ds.length := fun i d hi hd => by
  obtain ⟨a1, a2, a3, a4, a5, a6⟩ := hH i d hd
  obtain ⟨b1, b2, b3, b4, b5, b6⟩ := hH 0 d0 h0
  refine ⟨a5, by rw [a6, hl], ?_, by rw [a2, b2], by rw [a3, b3], by rw [a4, b4]⟩
  rw [cut_len (st := st) (ssn := ssn) (o := o) hO hd]
  exact chk_pos hm xs (by omega)
theorem cut_tot {mm : Nat} (hm : 0 < mm) (xs : List Int) : tot ((List.range (nch mm xs.length)).map (chk mm xs)) = xs.length := by
  unfold tot
  rw [chk_all hm]
end Go.Proofs.Ytfgbegamdlafkaa.Bk

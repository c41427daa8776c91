/-
  What a join says of pieces that are wanting, laid wrong, or turned in one place.
-/
import Derived.Test.YtfgbegamdlafkaaJt
set_option linter.unusedVariables false
set_option linter.unusedSimpArgs false
namespace Go.Proofs.Ytfgbegamdlafkaa.Wt
open Go.RowKit Wd Md Cm Cb Ch Ct Cu Jo Bk Jt

/-- Pieces of a cut. -/
def Pcs (st s : Int) (o : Bool) (N : Nat) (ds : List Dt) : Prop := ds.length = N ∧ ∀ (i : Nat) (d : Dt), ds[i]? = some d → PieceAt st s o N i d
theorem Pcs.at_ {st s : Int} {o : Bool} {N : Nat} {ds : List Dt} (h : Pcs st s o N ds) {i : Nat} (hi : i < N) : ∃ d, ds[i]? = some d ∧ PieceAt st s o N i d := by
  have hd : ds[i]? = some (ds[i]'(by have := h.1; omega)) := List.getElem?_eq_getElem _
  exact ⟨_, hd, h.2 i _ hd⟩
theorem apart_not {es : List Dt} {bb : List (List Int)} {i j : Nat} {d e : Dt} (hi : es[i]? = some d) (hj : es[j]? = some e) (hne : d.st ≠ e.st ∨ d.ssn ≠ e.ssn ∨ d.un ≠ e.un) : ¬ Fits es bb := by
  rintro ⟨d0, h0, hR, _⟩
  obtain ⟨_, _, _, a1, a2, a3⟩ := hR i d (List.getElem?_eq_some_iff.1 hi).1 hi
  obtain ⟨_, _, _, b1, b2, b3⟩ := hR j e (List.getElem?_eq_some_iff.1 hj).1 hj
  rcases hne with h | h | h
  · exact h (by rw [a1, b1])
  · exact h (by rw [a2, b2])
  · exact h (by rw [a3, b3])
/-- Without the first. -/
theorem no_first {st s : Int} {o : Bool} {N : Nat} {ds : List Dt} {bb : List (List Int)} (h : Pcs st s o N ds) (hN : 2 ≤ N) : ¬ Fits (ds.drop 1) bb := by
  obtain ⟨d, hd, _, _, _, _, a5, _⟩ := h.at_ (i := 1) (by omega)
  have h0 : (ds.drop 1)[0]? = some d := by rw [List.getElem?_drop]; exact hd
  refine fits_not h0 h0 (fun hr => ?_)
  have := hr.1
  rw [a5] at this
  simp at this
/-- Without the last. -/
theorem no_last {st s : Int} {o : Bool} {N : Nat} {ds : List Dt} {bb : List (List Int)} (h : Pcs st s o N ds) (hN : 2 ≤ N) : ¬ Fits (ds.take (N - 1)) bb := by
  obtain ⟨d, hd, _, _, _, _, _, a6⟩ := h.at_ (i := N - 2) (by omega)
  obtain ⟨d0, hd0, _⟩ := h.at_ (i := 0) (by omega)
  have h0 : (ds.take (N - 1))[0]? = some d0 := by rw [List.getElem?_take, if_pos (by omega)]; exact hd0
  have h1 : (ds.take (N - 1))[N - 2]? = some d := by rw [List.getElem?_take, if_pos (by omega)]; exact hd
  refine fits_not h0 h1 (fun hr => ?_)
  have := hr.2.1
  rw [a6, List.length_take, h.1, decide_eq_false (show ¬ N - 2 + 1 = N by omega), decide_eq_true (show N - 2 + 1 = min (N - 1) N by omega)] at this
  exact absurd this (by decide)
/-- The last laid first. -/
theorem no_swap {st s : Int} {o : Bool} {N : Nat} {ds : List Dt} {bb : List (List Int)} {x y : Dt} (h : Pcs st s o N ds) (hN : 2 ≤ N) (hx : ds[N - 1]? = some x) : ¬ Fits ((ds.set 0 x).set (N - 1) y) bb := by
  obtain ⟨_, _, _, _, a5, _⟩ := h.2 _ x hx
  have h0 : ((ds.set 0 x).set (N - 1) y)[0]? = some x := by
    rw [List.getElem?_set_ne (by omega), List.getElem?_set_self (by have := h.1; omega)]
  refine fits_not h0 h0 (fun hr => ?_)
  have := hr.1
  rw [a5, decide_eq_false (show ¬ N - 1 = 0 by omega)] at this
  simp at this
/-- One piece turned. -/
theorem no_turn {st s : Int} {o : Bool} {N : Nat} {ds : List Dt} {bb : List (List Int)} {p : Nat} {d e : Dt} (h : Pcs st s o N ds) (hN : 2 ≤ N) (hd : ds[p]? = some d) (hne : e.st ≠ d.st ∨ e.ssn ≠ d.ssn ∨ e.un ≠ d.un) : ¬ Fits (ds.set p e) bb := by
  have hp := (List.getElem?_eq_some_iff.1 hd).1
  obtain ⟨q, hq, hqp⟩ : ∃ q, q < N ∧ p ≠ q := by
    by_cases e : p = 0
    · exact ⟨1, by omega, by omega⟩
    · exact ⟨0, by omega, e⟩
  obtain ⟨f, hf, b1, b2, b3, b4, _⟩ := h.at_ hq
  obtain ⟨a1, a2, a3, a4, _⟩ := h.2 p d hd
  refine apart_not (i := p) (j := q) (d := e) (e := f) (List.getElem?_set_self hp) ((List.getElem?_set_ne hqp).trans hf) ?_
  rcases hne with g | g | g
  · exact .inl (by rw [b2, ← a2]; exact g)
  · exact .inr (.inl (by rw [b3, ← a3]; exact g))
  · exact .inr (.inr (by rw [b4, ← a4]; exact g))
/-- One piece's stream sequence number set. -/
theorem ssn_iff {st s : Int} {o : Bool} {N : Nat} {ds : List Dt} {bb : List (List Int)} {p : Nat} {d : Dt} (h : Pcs st s o N ds) (hN : 2 ≤ N) (hd : ds[p]? = some d) (hf : Fits ds bb) (v : Int) : Fits (ds.set p { d with ssn := v }) bb ↔ v = d.ssn := by
  constructor
  · intro hr
    by_cases e : v = d.ssn
    · exact e
    · exact absurd hr (no_turn h hN hd (.inr (.inl e)))
  · rintro rfl
    have : ds.set p { d with ssn := d.ssn } = ds := by
      apply List.ext_getElem?
      intro i
      by_cases e : p = i
      · subst e
        rw [List.getElem?_set_self (List.getElem?_eq_some_iff.1 hd).1, hd]
      · rw [List.getElem?_set_ne e]
    rw [this]
    exact hf
theorem reads_drop1 {w : World} {B M g : Nat} {ds : List Dt} (h : Reads w B 7 (some ⟨g, 0, none⟩) (M + 1) (dts ds)) : Reads w B 7 (some ⟨g, 7, none⟩) M (dts (ds.drop 1)) := by
  have hl := dlen_ h
  have h1 := h.cut (k := 1) (cap := M + 2) (by omega) (by omega)
  rw [if_neg (by omega), Nat.add_sub_cancel, ← dts_drop ds 1 (by omega)] at h1
  exact h1
theorem reads_init {w : World} {B M g : Nat} {ds : List Dt} (h : Reads w B 7 (some ⟨g, 0, none⟩) (M + 1) (dts ds)) : Reads w B 7 (some ⟨g, 0, none⟩) M (dts (ds.take M)) := by
  have h1 := reads_pre h (k := M) (by omega)
  rw [← dts_take] at h1
  exact h1
theorem rdb_drop1 {w : World} {B : Nat} {ds : List Dt} {bb : List (List Int)} (h : RdB w B ds bb) : RdB w B (ds.drop 1) (bb.drop 1) :=
  ⟨by rw [List.length_drop, List.length_drop, h.1], fun i d b hd hb => h.2 (1 + i) d b (by rw [List.getElem?_drop] at hd; exact hd) (by rw [List.getElem?_drop] at hb; exact hb)⟩
theorem rdb_take {w : World} {B : Nat} {ds : List Dt} {bb : List (List Int)} (h : RdB w B ds bb) (k : Nat) : RdB w B (ds.take k) (bb.take k) :=
  ⟨by rw [List.length_take, List.length_take, h.1], fun i d b hd hb => by
    rw [List.getElem?_take] at hd hb
    split at hd
    · rename_i hi
      rw [if_pos hi] at hb
      exact h.2 i d b hd hb
    · cases hd⟩
theorem tot_drop_le (bb : List (List Int)) (k : Nat) : tot (bb.drop k) ≤ tot bb := by
  unfold tot
  have : bb.flatten = (bb.take k).flatten ++ (bb.drop k).flatten := by rw [← List.flatten_append, List.take_append_drop]
  rw [this, List.length_append]
  omega
/-- A whole piece laid over another. -/
theorem own_put_dt {w : World} {base g n c : Nat} {l : List Dt} (h : w.ownsRow base 38 7 (.slice (some ⟨g, 0, none⟩) n c) n (dts l)) {k : Nat} {d : Dt} (e : Dt) (hd : l[k]? = some d) :
    (((((((w.setCell ⟨g, k * 7, none⟩ (.int .u32 e.tsn)).setCell ⟨g, k * 7 + 1, none⟩ (.int .u16 e.st)).setCell ⟨g, k * 7 + 2, none⟩ (.int .u16 e.ssn)).setCell ⟨g, k * 7 + 3, none⟩ (.bool e.un)).setCell ⟨g, k * 7 + 4, none⟩ (.bool e.fi)).setCell ⟨g, k * 7 + 5, none⟩ (.bool e.la)).setCell ⟨g, k * 7 + 6, none⟩ (.slice e.A e.n e.c)).ownsRow base 38 7 (.slice (some ⟨g, 0, none⟩) n c) n (dts (l.set k e)) := by
  have hk := (List.getElem?_eq_some_iff.1 hd).1
  have h1 := own_set_dt (j := 0) (u := .int .u32 e.tsn) h hd (d' := { d with tsn := e.tsn }) rfl (by omega)
  have h2 := own_set_dt (j := 1) (u := .int .u16 e.st) h1 (List.getElem?_set_self hk) (d' := { d with tsn := e.tsn, st := e.st }) rfl (by omega)
  have h3 := own_set_dt (j := 2) (u := .int .u16 e.ssn) h2 (List.getElem?_set_self (by simpa using hk)) (d' := { d with tsn := e.tsn, st := e.st, ssn := e.ssn }) rfl (by omega)
  have h4 := own_set_dt (j := 3) (u := .bool e.un) h3 (List.getElem?_set_self (by simpa using hk)) (d' := { d with tsn := e.tsn, st := e.st, ssn := e.ssn, un := e.un }) rfl (by omega)
  have h5 := own_set_dt (j := 4) (u := .bool e.fi) h4 (List.getElem?_set_self (by simpa using hk)) (d' := { d with tsn := e.tsn, st := e.st, ssn := e.ssn, un := e.un, fi := e.fi }) rfl (by omega)
  have h6 := own_set_dt (j := 5) (u := .bool e.la) h5 (List.getElem?_set_self (by simpa using hk)) (d' := { d with tsn := e.tsn, st := e.st, ssn := e.ssn, un := e.un, fi := e.fi, la := e.la }) rfl (by omega)
  have h7 := own_set_dt (j := 6) (u := .slice e.A e.n e.c) h6 (List.getElem?_set_self (by simpa using hk)) (d' := e) rfl (by omega)
  simp only [List.set_set] at h7
  exact h7
theorem rdb_set {w : World} {B : Nat} {ds : List Dt} {bb : List (List Int)} (h : RdB w B ds bb) {p : Nat} {d e : Dt} (hd : ds[p]? = some d) (hA : e.A = d.A) (hn : e.n = d.n) (hc : e.c = d.c) : RdB w B (ds.set p e) bb :=
  ⟨by rw [List.length_set, h.1], fun i x b hx hb => by
    rw [List.getElem?_set] at hx
    split at hx
    · rename_i hi
      subst hi
      rw [if_pos (List.getElem?_eq_some_iff.1 hd).1] at hx
      injection hx with hx
      subst hx
      obtain ⟨r1, r2, r3⟩ := h.2 p d b hd hb
      rw [hA, hn, hc]
      exact ⟨r1, r2, r3⟩
    · exact h.2 i x b hx hb⟩
theorem rdb_put {w : World} {B : Nat} {ds : List Dt} {bb : List (List Int)} (h : RdB w B ds bb) (p : Nat) {e : Dt} {b : List Int} (hr : Reads w B 1 e.A e.n (bs b) ∧ e.n ≤ e.c ∧ BOk b) : RdB w B (ds.set p e) (bb.set p b) :=
  ⟨by rw [List.length_set, List.length_set, h.1], fun i x c hx hc => by
    rw [List.getElem?_set] at hx hc
    split at hx
    · rename_i hi
      rw [if_pos hi] at hc
      split at hx
      · rename_i h2
        rw [if_pos (by rw [← h.1]; exact h2)] at hc
        injection hx with hx
        injection hc with hc
        subst hx
        subst hc
        exact hr
      · cases hx
    · rename_i hi
      rw [if_neg hi] at hc
      exact h.2 i x c hx hc⟩
theorem tot_set_le (bb : List (List Int)) (p : Nat) (b : List Int) : tot (bb.set p b) ≤ tot bb + b.length := by
  unfold tot
  induction bb generalizing p with
  | nil => simp
  | cons a l ih =>
    cases p with
    | zero => simp; omega
    | succ q =>
      have := ih q
      simp only [List.set_cons_succ, List.flatten_cons, List.length_append] at this ⊢
      omega
end Go.Proofs.Ytfgbegamdlafkaa.Wt

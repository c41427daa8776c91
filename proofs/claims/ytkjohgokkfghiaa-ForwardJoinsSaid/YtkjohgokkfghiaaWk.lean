/-
  The anchor of chapter 22 answers true.
-/
import Derived.Test.YtkjohgokkfghiaaMk
import Derived.Test.YtkjohgokkfghiaaCt
set_option linter.unusedVariables false
set_option linter.unusedSimpArgs false
namespace Go.Proofs.Ytkjohgokkfghiaa.Wk
open Go.RowKit Wd Sk Pl Mk Ct
open Go.Proofs.Ytkjohgokkfghiaa.Fn

/-- forward.Make at a row. -/
theorem mk_yes (cum : Int) (A : Option Addr) (m c B : Nat) (ds : List Dt) (w : World) (hn : m + 1 ≤ 1000000) (h0 : 0 ≤ cum) (h1 : cum ≤ 4294967295) (hB : B ≤ w.heap.size) (h : Reads w B 7 A (m + 1) (dts ds)) (hok : Hid (∀ d ∈ ds, d.Ok)) (hr : RowOk cum ds) :
    Calls Try.prog 9 #[.int .u32 cum, .slice A (m + 1) c] w fun e w' => ∃ v, e = .returned (.tuple #[.agg #[.int .u32 ((cum + ds.length) % 4294967296), v], .bool true]) ∧ w'.ownsRow w.heap.size 41 2 v (skips ds).length (sks (skips ds)) ∧ Below w.heap.size w w' := by
  refine (c9 cum A m c B ds w hn h0 h1 hB h hok).mono ?_
  rintro e w' (⟨_, h⟩ | ⟨hno, _⟩)
  · exact h
  · exact absurd hr hno
/-- forward.Make at what is no row. -/
theorem mk_no (cum : Int) (A : Option Addr) (m c B : Nat) (ds : List Dt) (w : World) (hn : m + 1 ≤ 1000000) (h0 : 0 ≤ cum) (h1 : cum ≤ 4294967295) (hB : B ≤ w.heap.size) (h : Reads w B 7 A (m + 1) (dts ds)) (hok : Hid (∀ d ∈ ds, d.Ok)) (hr : ¬ RowOk cum ds) :
    Calls Try.prog 9 #[.int .u32 cum, .slice A (m + 1) c] w fun e w' => e = .returned (.tuple #[.agg #[.int .u32 0, .slice none 0 0], .bool false]) ∧ Below w.heap.size w w' := by
  refine (c9 cum A m c B ds w hn h0 h1 hB h hok).mono ?_
  rintro e w' (⟨hy, _⟩ | ⟨_, h⟩)
  · exact absurd hy hr
  · exact h

def d1 : Dt := ⟨10, 1, 4, false, false, false, none, 0, 0⟩
def d2 : Dt := ⟨11, 0, 0, true, false, false, none, 0, 0⟩
def d3 : Dt := ⟨12, 1, 5, false, false, false, none, 0, 0⟩
def d4 : Dt := ⟨11, 0, 0, false, false, false, none, 0, 0⟩
theorem ok3 : ∀ d ∈ [d1, d2, d3], d.Ok := by
  intro d hd
  simp at hd
  rcases hd with rfl | rfl | rfl <;> simp [Dt.Ok, d1, d2, d3]
theorem ok4 : ∀ d ∈ [d4], d.Ok := by
  intro d hd
  simp at hd
  subst hd
  simp [Dt.Ok, d4]
theorem row3 : RowOk 9 [d1, d2, d3] := by
  intro j d hd
  match j, hd with
  | 0, hd => simp at hd; subst hd; rfl
  | 1, hd => simp at hd; subst hd; rfl
  | 2, hd => simp at hd; subst hd; rfl
  | j + 3, hd => simp at hd
theorem row4 : ¬ RowOk 9 [d4] := by
  intro h
  have := h 0 d4 rfl
  simp [d4] at this
theorem sk3 : skips [d1, d2, d3] = [(1, 5)] := by decide
theorem ov1 : over 12 12 = true := by decide
theorem ov2 : over 12 13 = false := by decide

theorem mk3 (w : World) : Calls Try.prog 9 #[.int .u32 9, .slice (some ⟨w.heap.size, 0, none⟩) 3 3] (w.alloc (.cells #[.int .u32 10, .int .u16 1, .int .u16 4, .bool false, .bool false, .bool false, .slice none 0 0, .int .u32 11, .int .u16 0, .int .u16 0, .bool true, .bool false, .bool false, .slice none 0 0, .int .u32 12, .int .u16 1, .int .u16 5, .bool false, .bool false, .bool false, .slice none 0 0] 34)) fun e w' =>
    ∃ g cap, e = .returned (.tuple #[.agg #[.int .u32 12, .slice (some ⟨g, 0, none⟩) 1 cap], .bool true]) ∧ w'.ownsRow (w.heap.size + 1) 41 2 (.slice (some ⟨g, 0, none⟩) 1 cap) 1 (sks [(1, 5)]) ∧ Below (w.heap.size + 1) (w.alloc (.cells #[.int .u32 10, .int .u16 1, .int .u16 4, .bool false, .bool false, .bool false, .slice none 0 0, .int .u32 11, .int .u16 0, .int .u16 0, .bool true, .bool false, .bool false, .slice none 0 0, .int .u32 12, .int .u16 1, .int .u16 5, .bool false, .bool false, .bool false, .slice none 0 0] 34)) w' := by
  have hrd : Reads (w.alloc (.cells #[.int .u32 10, .int .u16 1, .int .u16 4, .bool false, .bool false, .bool false, .slice none 0 0, .int .u32 11, .int .u16 0, .int .u16 0, .bool true, .bool false, .bool false, .slice none 0 0, .int .u32 12, .int .u16 1, .int .u16 5, .bool false, .bool false, .bool false, .slice none 0 0] 34)) (w.heap.size + 1) 7 (some ⟨w.heap.size, 0, none⟩) 3 (dts [d1, d2, d3]) := reads_new w #[.int .u32 10, .int .u16 1, .int .u16 4, .bool false, .bool false, .bool false, .slice none 0 0, .int .u32 11, .int .u16 0, .int .u16 0, .bool true, .bool false, .bool false, .slice none 0 0, .int .u32 12, .int .u16 1, .int .u16 5, .bool false, .bool false, .bool false, .slice none 0 0] 34 7 3 rfl
  refine (mk_yes 9 _ 2 3 _ [d1, d2, d3] _ (by omega) (by omega) (by omega) (by simp) hrd ok3 row3).mono ?_
  rintro e w' ⟨v, he, hv, hb⟩
  rw [sk3] at hv
  obtain ⟨g, cap, rfl, _, _⟩ := hv.form (by simp)
  refine ⟨g, cap, he, by simpa using hv, by simpa using hb⟩
theorem mk4 (w : World) (gg : Nat) (hgg : w.heap.size = gg) : Calls Try.prog 9 #[.int .u32 9, .slice (some ⟨gg, 0, none⟩) 1 1] (w.alloc (.cells #[.int .u32 11, .int .u16 0, .int .u16 0, .bool false, .bool false, .bool false, .slice none 0 0] 34)) fun e w' =>
    e = .returned (.tuple #[.agg #[.int .u32 0, .slice none 0 0], .bool false]) ∧ Below (w.heap.size + 1) (w.alloc (.cells #[.int .u32 11, .int .u16 0, .int .u16 0, .bool false, .bool false, .bool false, .slice none 0 0] 34)) w' := by
  subst hgg
  have hrd : Reads (w.alloc (.cells #[.int .u32 11, .int .u16 0, .int .u16 0, .bool false, .bool false, .bool false, .slice none 0 0] 34)) (w.heap.size + 1) 7 (some ⟨w.heap.size, 0, none⟩) 1 (dts [d4]) := reads_new w #[.int .u32 11, .int .u16 0, .int .u16 0, .bool false, .bool false, .bool false, .slice none 0 0] 34 7 1 rfl
  refine (mk_no 9 _ 0 1 _ [d4] _ (by omega) (by omega) (by omega) (by simp) hrd ok4 row4).mono ?_
  rintro e w' ⟨he, hb⟩
  exact ⟨he, by simpa using hb⟩

set_option maxRecDepth 100000 in
set_option maxHeartbeats 1000000 in
theorem works (w : World) : Calls Try.prog 8 #[] w fun e w' => e = .returned (.bool true) ∧ Below w.heap.size w w' := by
  have hcut : cutN 1 7 = 0 := by decide
  have Q := run_eq
  have q1 : pEq 1 5 1 5 = true := by decide
  go_enter Try.func8, Try.ntmps8
  go_wp2_with fail
  refine (mk3 w).mono ?_
  rintro e w1 ⟨g, cap, rfl, hv, hb1⟩
  have hg := own_lt hv g (by simp [Value.ownBlock])
  have hs1 := hb1.size
  have hcap : 1 ≤ cap := by obtain ⟨A, c, he, hle, _⟩ := own_slice hv; injection he with _ _ h3; omega
  go_wp2_with fail
  refine (mk4 (w1.alloc (.cells #[.int .u32 12, .slice (some ⟨g, 0, none⟩) 1 cap] 27)) _ (by simp)).mono ?_
  rintro e w2 ⟨rfl, hb2⟩
  have hf : Blk (w1.alloc (.cells #[.int .u32 12, .slice (some ⟨g, 0, none⟩) 1 cap] 27)) w1.heap.size 27 #[.int .u32 12, .slice (some ⟨g, 0, none⟩) 1 cap] := Blk.new w1 27 _
  have hf2 : Blk w2 w1.heap.size 27 #[.int .u32 12, .slice (some ⟨g, 0, none⟩) 1 cap] := (hf.alloc _).below hb2 (by simp; omega)
  have hv2 : w2.ownsRow (w.heap.size + 1) 41 2 (.slice (some ⟨g, 0, none⟩) 1 cap) 1 (sks [(1, 5)]) := own_below ((hv.alloc _).alloc _) (by simpa using hb2)
  have hsz : w1.heap.size + 2 ≤ w2.heap.size := by have := hb2.size; simpa using this
  have hbA : Below w.heap.size w w2 := by
    have e1 : Below w.heap.size w w1 := ((Below.refl _ _).alloc (Nat.le_refl _) _).trans ⟨hb1.os, hb1.tape, hb1.output, hb1.size, fun i hi => hb1.block i (by omega)⟩
    have e2 := (e1.alloc (o := .cells #[.int .u32 12, .slice (some ⟨g, 0, none⟩) 1 cap] 27) e1.size).alloc (o := .cells #[.int .u32 11, .int .u16 0, .int .u16 0, .bool false, .bool false, .bool false, .slice none 0 0] 34) (by have := e1.size; simp; omega)
    exact e2.trans ⟨hb2.os, hb2.tape, hb2.output, hb2.size, fun i hi => hb2.block i (by have := e1.size; simp; omega)⟩
  have hrd : Reads w2 w2.heap.size 2 (some ⟨g, 0, none⟩) 1 (sks [(1, 5)]) := Reads.of_own hv2
  -- the world behind both calls, the second result laid in it
  have hbB := hbA.alloc hbA.size (.cells #[.int .u32 0, .slice none 0 0] 27)
  have hfB := hf2.alloc (.cells #[.int .u32 0, .slice none 0 0] 27)
  have hrB := hrd.alloc (Nat.le_refl _) (.cells #[.int .u32 0, .slice none 0 0] 27)
  have HV := hide hrB
  have HB := hide hbB
  have HF := hide hfB
  have x0 := hfB.cell 0
  have x1 := hfB.cell 1
  have hgl : g < w2.heap.size := by omega
  have hwl : w1.heap.size < w2.heap.size := by omega
  have x2 : w2.cell? ⟨g, 0, none⟩ = some (.int .u16 1) := (hv2.cellAt 0 (by omega)).trans rfl
  have x3 : w2.cell? ⟨g, 1, none⟩ = some (.int .u16 5) := (hv2.cellAt 1 (by omega)).trans rfl
  clear hb2 hb1 hv hv2 hf hf2 hrd hbA hs1 hbB hfB hrB
  go_wp2_with fail
  refine (c13 12 _ 1 cap _ (by omega)).mono ?_
  rintro e w3 ⟨rfl, hb3⟩
  have hs3 := hb3.size
  simp only [World.size_alloc] at hs3
  have h3f := (unhide HF).below hb3 (by simp; omega)
  have h3r := (unhide HV).more (B' := w2.heap.size) (Nat.le_refl _)
  have h3r := h3r.keep (w' := w3) (fun p hp => hb3.cell (by simp; omega))
  have h3b := below_then (unhide HB) (by have := (unhide HB).size; exact this) hb3
  have y0 := h3f.cell 0
  have y1 := h3f.cell 1
  have H3R := hide h3r
  have H3B := hide h3b
  have H3F := hide h3f
  clear x0 x1 x2 x3 hb3 h3f h3r h3b HV HB HF
  go_wp2_with fail
  refine (c12 12 7 _ 1 cap _ [(1, 5)] _ (by omega) (by omega) (by omega) (by omega) (unhide H3R) hcap (by simp)).mono ?_
  rintro e w4 ⟨v, rfl, hv4, hb4⟩
  obtain ⟨A4, c4, rfl, _, _⟩ := own_slice hv4
  have h4f := (unhide H3F).below hb4 (by omega)
  have h4b := below_then (unhide H3B) (unhide H3B).size hb4
  have z0 := h4f.cell 0
  have z1 := h4f.cell 1
  have H4B := hide h4b
  have H4F := hide h4f
  have hs4 := hb4.size
  clear y0 y1 hb4 h4f h4b hv4
  go_wp2_with fail
  refine (c17 12 12 _ 1 cap _).mono ?_
  rw [ov1]
  rintro e w5 ⟨rfl, hb5⟩
  have h5f := (unhide H4F).below hb5 (by omega)
  have h5b := below_then (unhide H4B) (unhide H4B).size hb5
  have z0 := h5f.cell 0
  have z1 := h5f.cell 1
  have H5B := hide h5b
  clear hb5 h5f h5b
  go_wp2_with fail
  refine (c17 12 13 _ 1 cap _).mono ?_
  rw [ov2]
  rintro e w6 ⟨rfl, hb6⟩
  have h6b := below_then (unhide H5B) (unhide H5B).size hb6
  go_wp2
  go_ret
  exact ⟨rfl, h6b⟩
end Go.Proofs.Ytkjohgokkfghiaa.Wk

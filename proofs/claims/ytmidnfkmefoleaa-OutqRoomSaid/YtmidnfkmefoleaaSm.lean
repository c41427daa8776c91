/-
  Contract of SameData, where the two are the same.
-/
import Derived.Test.YtmidnfkmefoleaaQk
set_option linter.unusedVariables false
set_option linter.unusedSimpArgs false
namespace Go.Proofs.Ytmidnfkmefoleaa.Sm
open Go.RowKit Wd Ra Qm Qs Qp Qn Qe Qd Qx Ql Qt

set_option maxRecDepth 100000 in
set_option maxHeartbeats 1000000 in
theorem same_true (d : PD) (A A' : Option Addr) (n c n' c' B B' : Nat) (w : World) (hB : B ≤ w.heap.size) (hB' : B' ≤ w.heap.size) (h : Reads w B 1 A n (bs d.xs)) (h' : Reads w B' 1 A' n' (bs d.xs)) :
    Calls Try.prog 18 #[.agg #[.int .u32 0, .int .u16 d.st, .int .u16 d.ssn, .bool d.un, .bool d.fi, .bool d.la, .slice A n c], .agg #[.int .u32 0, .int .u16 d.st, .int .u16 d.ssn, .bool d.un, .bool d.fi, .bool d.la, .slice A' n' c']] w fun e w' => e = .returned (.bool true) ∧ Below w.heap.size w w' := by
  have hc1 := conv_ (c := c) ((h.alloc hB (.cells #[.int .u32 0, .int .u16 d.st, .int .u16 d.ssn, .bool d.un, .bool d.fi, .bool d.la, .slice A n c] 35)).alloc (by simp; omega) (.cells #[.int .u32 0, .int .u16 d.st, .int .u16 d.ssn, .bool d.un, .bool d.fi, .bool d.la, .slice A' n' c'] 35))
  have hc2 := conv_ (c := c') ((h'.alloc hB' (.cells #[.int .u32 0, .int .u16 d.st, .int .u16 d.ssn, .bool d.un, .bool d.fi, .bool d.la, .slice A n c] 35)).alloc (by simp; omega) (.cells #[.int .u32 0, .int .u16 d.st, .int .u16 d.ssn, .bool d.un, .bool d.fi, .bool d.la, .slice A' n' c'] 35))
  have b1 : (d.st == d.st) = true := by simp
  have b2 : (d.ssn == d.ssn) = true := by simp
  have b3 : (d.un == d.un) = true := by simp
  have b4 : (d.fi == d.fi) = true := by simp
  have b5 : (d.la == d.la) = true := by simp
  clear h h'
  generalize strOfNums d.xs = S at *
  go_enter Try.func18, Try.ntmps18
  go_wp2
  go_ret
  exact ⟨rfl, ((Below.refl _ _).alloc (Nat.le_refl _) _).alloc (by simp) _⟩

/-- A store of a whole piece into a box of its own. -/
theorem put7 {b : Nat} {F : Nat → Prop} {w0 : World} {q : PQ} {W : World} {k : Nat} {c0 c1 c2 c3 c4 c5 c6 : Value} (h : St b F w0 q W) (hk : Blk W k 35 #[c0, c1, c2, c3, c4, c5, c6]) (hb : b < k) (u0 u1 u2 u3 u4 u5 u6 : Value) :
    St b F w0 q (((((((W.setCell ⟨k, 0, none⟩ u0).setCell ⟨k, 1, none⟩ u1).setCell ⟨k, 2, none⟩ u2).setCell ⟨k, 3, none⟩ u3).setCell ⟨k, 4, none⟩ u4).setCell ⟨k, 5, none⟩ u5).setCell ⟨k, 6, none⟩ u6) ∧ Blk (((((((W.setCell ⟨k, 0, none⟩ u0).setCell ⟨k, 1, none⟩ u1).setCell ⟨k, 2, none⟩ u2).setCell ⟨k, 3, none⟩ u3).setCell ⟨k, 4, none⟩ u4).setCell ⟨k, 5, none⟩ u5).setCell ⟨k, 6, none⟩ u6) k 35 #[u0, u1, u2, u3, u4, u5, u6] ∧ (∀ (base : Nat) (v : Value) (n : Nat) (xs : List Value), W.ownsRow base 5 1 v n xs → World.ownsRow (((((((W.setCell ⟨k, 0, none⟩ u0).setCell ⟨k, 1, none⟩ u1).setCell ⟨k, 2, none⟩ u2).setCell ⟨k, 3, none⟩ u3).setCell ⟨k, 4, none⟩ u4).setCell ⟨k, 5, none⟩ u5).setCell ⟨k, 6, none⟩ u6) base 5 1 v n xs) ∧ (((((((W.setCell ⟨k, 0, none⟩ u0).setCell ⟨k, 1, none⟩ u1).setCell ⟨k, 2, none⟩ u2).setCell ⟨k, 3, none⟩ u3).setCell ⟨k, 4, none⟩ u4).setCell ⟨k, 5, none⟩ u5).setCell ⟨k, 6, none⟩ u6).heap.size = W.heap.size := by
  have k0 := hk.set_ 0 u0
  have k1 := k0.set_ 1 u1
  have k2 := k1.set_ 2 u2
  have k3 := k2.set_ 3 u3
  have k4 := k3.set_ 4 u4
  have k5 := k4.set_ 5 u5
  have k6 := k5.set_ 6 u6
  have T := (((((((h.far hk hb (by decide) (fun h => absurd h (by decide)) 0 u0).far k0 hb (by decide) (fun h => absurd h (by decide)) 1 u1).far k1 hb (by decide) (fun h => absurd h (by decide)) 2 u2).far k2 hb (by decide) (fun h => absurd h (by decide)) 3 u3).far k3 hb (by decide) (fun h => absurd h (by decide)) 4 u4).far k4 hb (by decide) (fun h => absurd h (by decide)) 5 u5).far k5 hb (by decide) (fun h => absurd h (by decide)) 6 u6)
  refine ⟨T, ?_, ?_, by simp only [World.size_setCell]⟩
  · simp only [List.setIfInBounds_toArray, List.set_cons_zero, List.set_cons_succ] at k6
    exact k6
  · intro base v n xs h0
    have h1 := own_keep h0 fun j hj => Below.heap_setCell _ ⟨k, 0, none⟩ u0 j (fun e1 => own_ne_blk h0 hk (by decide) (by rw [hj]; exact congrArg some e1))
    have h2 := own_keep h1 fun j hj => Below.heap_setCell _ ⟨k, 1, none⟩ u1 j (fun e1 => own_ne_blk h1 k0 (by decide) (by rw [hj]; exact congrArg some e1))
    have h3 := own_keep h2 fun j hj => Below.heap_setCell _ ⟨k, 2, none⟩ u2 j (fun e1 => own_ne_blk h2 k1 (by decide) (by rw [hj]; exact congrArg some e1))
    have h4 := own_keep h3 fun j hj => Below.heap_setCell _ ⟨k, 3, none⟩ u3 j (fun e1 => own_ne_blk h3 k2 (by decide) (by rw [hj]; exact congrArg some e1))
    have h5 := own_keep h4 fun j hj => Below.heap_setCell _ ⟨k, 4, none⟩ u4 j (fun e1 => own_ne_blk h4 k3 (by decide) (by rw [hj]; exact congrArg some e1))
    have h6 := own_keep h5 fun j hj => Below.heap_setCell _ ⟨k, 5, none⟩ u5 j (fun e1 => own_ne_blk h5 k4 (by decide) (by rw [hj]; exact congrArg some e1))
    have h7 := own_keep h6 fun j hj => Below.heap_setCell _ ⟨k, 6, none⟩ u6 j (fun e1 => own_ne_blk h6 k5 (by decide) (by rw [hj]; exact congrArg some e1))
    exact h7
end Go.Proofs.Ytmidnfkmefoleaa.Sm

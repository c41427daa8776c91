/-
  What a call of does keeps, whether there is a queue or none.
-/
import Derived.Test.YtmidnfkmefoleaaVs
import Derived.Deep.DeepCutAuto
set_option linter.unusedVariables false
set_option linter.unusedSimpArgs false
namespace Go.Proofs.Ytmidnfkmefoleaa.Dk
open Go.RowKit Wd Ra Qm Qs Qp Qn Qe Qd Qx Ql Qt Oq Vs

/-- What stands from k0 on. -/
structure Sd (k0 : Nat) (W w' : World) : Prop where
  blk : ∀ (k : Nat) (t : TypeId) (cs : Array Value), k0 ≤ k → ¬ Mine t → Blk W k t cs → Blk w' k t cs
  own : ∀ (base : Nat) (v : Value) (n : Nat) (xs : List Value), k0 ≤ base → W.ownsRow base 5 1 v n xs → w'.ownsRow base 5 1 v n xs
  size : W.heap.size ≤ w'.heap.size
theorem Sd.of_fr {b k0 : Nat} {W w' : World} (h : Fr b b W w') (hb : b < k0) : Sd k0 W w' :=
  ⟨fun k t cs hk ht hB => blk_fr hB h (by omega) ht, fun base v n xs hl ho => own_fr ho h (fun e => by have := own_base ho _ e; omega) (not_mine (by decide)), h.size⟩
theorem Sd.of_below {k0 : Nat} {W w' : World} (h : Below W.heap.size W w') : Sd k0 W w' :=
  ⟨fun k t cs hk ht hB => hB.below h hB.lt, fun base v n xs hl ho => own_keep ho fun g hg => h.block g (own_lt ho g hg), h.size⟩
/-- What is said of a world stays so, whatever is done to the blocks from k0 on (to rows of bytes: those in F alone). -/
structure Kp (k0 : Nat) (F : Nat → Prop) (I : World → Prop) : Prop where
  step : ∀ (W W' : World), I W → Below W.heap.size W W' → I W'
  far : ∀ (W : World) (k : Nat) (t : TypeId) (cs : Array Value) (i : Nat) (u : Value), I W → Blk W k t cs → k0 ≤ k → (t = 32 ∨ t = 35 ∨ t = 42 ∨ t = 46) → I (W.setCell ⟨k, i, none⟩ u)
  row : ∀ (W : World) (v : Value) (n : Nat) (xs : List Value) (g i : Nat) (u : Value), I W → W.ownsRow k0 5 1 v n xs → v.ownBlock = some g → F g → I (W.setCell ⟨g, i, none⟩ u)
  grown : ∀ (W W' : World) (v : Value) (n : Nat) (xs : List Value), I W → W.ownsRow k0 5 1 v n xs → (∀ g, v.ownBlock = some g → F g) → W.grownBy W' v.ownBlock → I W'
theorem Kp.alloc {k0 : Nat} {F : Nat → Prop} {I : World → Prop} (K : Kp k0 F I) {W : World} (h : I W) (o : Obj) : I (W.alloc o) := K.step _ _ h ((Below.refl _ _).alloc (Nat.le_refl _) o)
theorem fr_grown {b : Nat} {w W W' : World} {row : Option Nat} (h : Fr b b w W) (hg : W.grownBy W' row) (hr : ∀ k, row = some k → w.heap.size ≤ k) : Fr b b w W' :=
  ⟨hg.os.trans h.os, hg.tape.trans h.tape, hg.output.trans h.output, Nat.le_trans h.size hg.size, fun k hk hc => (hg.block k (by have := h.size; omega) (fun e => by have := hr k e.symm; omega)).trans (h.block k hk hc)⟩
theorem Kp.queue (b : Nat) (F : Nat → Prop) (w0 : World) (q : PQ) (w : World) (hb : b < w.heap.size) : Kp w.heap.size F (fun W => St b F w0 q W ∧ Fr b b w W) where
  step := fun W W' h hW => ⟨h.1.step hW, h.2.trans (Fr.of_below hW)⟩
  far := fun W k t cs i u h hk hl ht => ⟨h.1.far hk (by omega) (by rcases ht with rfl | rfl | rfl | rfl <;> decide) (by rcases ht with rfl | rfl | rfl | rfl <;> exact fun h => absurd h (by decide)) i u, h.2.new (p := ⟨k, i, none⟩) hl u⟩
  row := fun W v n xs g i u h ho hv hF => by
    obtain ⟨cur, hc⟩ := own_cells ho hv
    exact ⟨h.1.far (k := g) (t := 5) (cs := cur) hc (by have := own_base ho g hv; omega) (by decide) (fun _ => hF) i u, h.2.new (p := ⟨g, i, none⟩) (own_base ho g hv) u⟩
  grown := fun W W' v n xs h ho hF hg => ⟨h.1.grown hg (fun k hk _ => ⟨by have := own_base ho k hk; omega, fun cs t m hc => by
    obtain ⟨cur, hcur⟩ := own_cells ho hk
    rw [hc] at hcur
    injection hcur with hcur
    injection hcur with _ e9
    subst e9
    exact ⟨not_mine (by decide), fun _ => hF k hk⟩⟩) (fun k hk => by have := own_base ho k hk; omega), fr_grown h.2 hg fun k hk => own_base ho k hk⟩
theorem Kp.none_ (F : Nat → Prop) (w : World) : Kp w.heap.size F (fun W => Below w.heap.size w W) where
  step := fun W W' h hW => below_then h h.size hW
  far := fun W k t cs i u h hk hl ht => h.setCell hl u
  row := fun W v n xs g i u h ho hv hF => h.setCell (own_base ho g hv) u
  grown := fun W W' v n xs h ho hF hg => h.grown hg h.size fun k hk => own_base ho k hk
/-- A row that has grown: what else stands. -/
theorem Sd.grown {k0 n : Nat} {v : Value} {xs : List Value} {W W' : World} (h : W.ownsRow k0 5 1 v n xs) (hg : W.grownBy W' v.ownBlock) (k : Nat) (t : TypeId) (cs : Array Value) (ht : 5 ≠ t) (hB : Blk W k t cs) : Blk W' k t cs :=
  (hg.block k hB.lt fun e => own_ne_blk h hB ht e.symm).trans hB
theorem Kp.put10 {k0 : Nat} {F : Nat → Prop} {I : World → Prop} (K : Kp k0 F I) {W : World} {k : Nat} {c0 c1 c2 c3 c4 c5 c6 c7 c8 c9 : Value} (h : I W) (hk : Blk W k 46 #[c0, c1, c2, c3, c4, c5, c6, c7, c8, c9]) (hb : k0 ≤ k) (u0 u1 u2 u3 u4 u5 u6 u7 u8 u9 : Value) :
    I ((((((((((W.setCell ⟨k, 0, none⟩ u0).setCell ⟨k, 1, none⟩ u1).setCell ⟨k, 2, none⟩ u2).setCell ⟨k, 3, none⟩ u3).setCell ⟨k, 4, none⟩ u4).setCell ⟨k, 5, none⟩ u5).setCell ⟨k, 6, none⟩ u6).setCell ⟨k, 7, none⟩ u7).setCell ⟨k, 8, none⟩ u8).setCell ⟨k, 9, none⟩ u9) ∧ Blk ((((((((((W.setCell ⟨k, 0, none⟩ u0).setCell ⟨k, 1, none⟩ u1).setCell ⟨k, 2, none⟩ u2).setCell ⟨k, 3, none⟩ u3).setCell ⟨k, 4, none⟩ u4).setCell ⟨k, 5, none⟩ u5).setCell ⟨k, 6, none⟩ u6).setCell ⟨k, 7, none⟩ u7).setCell ⟨k, 8, none⟩ u8).setCell ⟨k, 9, none⟩ u9) k 46 #[u0, u1, u2, u3, u4, u5, u6, u7, u8, u9] ∧ (∀ (base : Nat) (v : Value) (n : Nat) (xs : List Value), W.ownsRow base 5 1 v n xs → World.ownsRow ((((((((((W.setCell ⟨k, 0, none⟩ u0).setCell ⟨k, 1, none⟩ u1).setCell ⟨k, 2, none⟩ u2).setCell ⟨k, 3, none⟩ u3).setCell ⟨k, 4, none⟩ u4).setCell ⟨k, 5, none⟩ u5).setCell ⟨k, 6, none⟩ u6).setCell ⟨k, 7, none⟩ u7).setCell ⟨k, 8, none⟩ u8).setCell ⟨k, 9, none⟩ u9) base 5 1 v n xs) ∧ (∀ j, j ≠ k → ((((((((((W.setCell ⟨k, 0, none⟩ u0).setCell ⟨k, 1, none⟩ u1).setCell ⟨k, 2, none⟩ u2).setCell ⟨k, 3, none⟩ u3).setCell ⟨k, 4, none⟩ u4).setCell ⟨k, 5, none⟩ u5).setCell ⟨k, 6, none⟩ u6).setCell ⟨k, 7, none⟩ u7).setCell ⟨k, 8, none⟩ u8).setCell ⟨k, 9, none⟩ u9).heap[j]? = W.heap[j]?) ∧ ((((((((((W.setCell ⟨k, 0, none⟩ u0).setCell ⟨k, 1, none⟩ u1).setCell ⟨k, 2, none⟩ u2).setCell ⟨k, 3, none⟩ u3).setCell ⟨k, 4, none⟩ u4).setCell ⟨k, 5, none⟩ u5).setCell ⟨k, 6, none⟩ u6).setCell ⟨k, 7, none⟩ u7).setCell ⟨k, 8, none⟩ u8).setCell ⟨k, 9, none⟩ u9).heap.size = W.heap.size := by
  have k0 := hk.set_ 0 u0
  have k1 := k0.set_ 1 u1
  have k2 := k1.set_ 2 u2
  have k3 := k2.set_ 3 u3
  have k4 := k3.set_ 4 u4
  have k5 := k4.set_ 5 u5
  have k6 := k5.set_ 6 u6
  have k7 := k6.set_ 7 u7
  have k8 := k7.set_ 8 u8
  have k9 := k8.set_ 9 u9
  have i0 := K.far _ k 46 _ 0 u0 h hk hb (.inr (.inr (.inr rfl)))
  have i1 := K.far _ k 46 _ 1 u1 i0 k0 hb (.inr (.inr (.inr rfl)))
  have i2 := K.far _ k 46 _ 2 u2 i1 k1 hb (.inr (.inr (.inr rfl)))
  have i3 := K.far _ k 46 _ 3 u3 i2 k2 hb (.inr (.inr (.inr rfl)))
  have i4 := K.far _ k 46 _ 4 u4 i3 k3 hb (.inr (.inr (.inr rfl)))
  have i5 := K.far _ k 46 _ 5 u5 i4 k4 hb (.inr (.inr (.inr rfl)))
  have i6 := K.far _ k 46 _ 6 u6 i5 k5 hb (.inr (.inr (.inr rfl)))
  have i7 := K.far _ k 46 _ 7 u7 i6 k6 hb (.inr (.inr (.inr rfl)))
  have i8 := K.far _ k 46 _ 8 u8 i7 k7 hb (.inr (.inr (.inr rfl)))
  have i9 := K.far _ k 46 _ 9 u9 i8 k8 hb (.inr (.inr (.inr rfl)))
  refine ⟨i9, ?_, ?_, ?_, by simp only [World.size_setCell]⟩
  · simp only [List.setIfInBounds_toArray, List.set_cons_zero, List.set_cons_succ] at k9
    exact k9
  · intro base v n xs h0
    refine own_keep h0 fun j hj => ?_
    have hne : j ≠ k := fun e1 => own_ne_blk h0 hk (by decide) (by rw [hj]; exact congrArg some e1)
    repeat rw [Below.heap_setCell _ _ _ j hne]
  · intro j hne
    repeat rw [Below.heap_setCell _ _ _ j hne]

theorem blk_other {W W' : World} {k : Nat} {t : TypeId} {cs : Array Value} (h : Blk W k t cs) (e : W'.heap[k]? = W.heap[k]?) : Blk W' k t cs := e.trans h
theorem own_set {W : World} {base k i n : Nat} {v u : Value} {xs : List Value} {t : TypeId} {cs : Array Value} (h : W.ownsRow base 5 1 v n xs) (hk : Blk W k t cs) (ht : 5 ≠ t) : (W.setCell ⟨k, i, none⟩ u).ownsRow base 5 1 v n xs :=
  own_keep h fun j hj => Below.heap_setCell _ ⟨k, i, none⟩ u j (fun e1 => own_ne_blk h hk ht (by rw [hj]; exact congrArg some e1))
theorem blk_set {W : World} {k j i : Nat} {u : Value} {t : TypeId} {cs : Array Value} (h : Blk W j t cs) (hne : j ≠ k) : Blk (W.setCell ⟨k, i, none⟩ u) j t cs := (Below.heap_setCell _ ⟨k, i, none⟩ u j hne).trans h
theorem blk_row {W : World} {base j i n g : Nat} {v u : Value} {xs : List Value} {t : TypeId} {cs : Array Value} (h : Blk W j t cs) (ho : W.ownsRow base 5 1 v n xs) (hv : v.ownBlock = some g) (ht : 5 ≠ t) : Blk (W.setCell ⟨g, i, none⟩ u) j t cs := blk_set h fun e => own_ne_blk ho h ht (by rw [hv, e])
end Go.Proofs.Ytmidnfkmefoleaa.Dk

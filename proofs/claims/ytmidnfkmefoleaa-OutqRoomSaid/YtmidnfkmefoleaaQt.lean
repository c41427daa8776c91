/-
  The queue's contracts, said of one state: where the queue lies, what it holds, what stands since the beginning.
-/
import Derived.Test.YtmidnfkmefoleaaQl
set_option linter.unusedVariables false
set_option linter.unusedSimpArgs false
namespace Go.Proofs.Ytmidnfkmefoleaa.Qt
open Go.RowKit Wd Ra Qm Qs Qp Qn Qe Qd Qx Ql

/-- The queue q that was made at the world w0 (its numbers at block b, its head behind them); what lay below b stands. -/
structure St (b : Nat) (F : Nat → Prop) (w0 : World) (q : PQ) (W : World) : Prop where
  qi : Qin W b (b + 1) b F q
  below : Below b w0 W
  ok : q.Ok
section
variable {b : Nat} {F F' : Nat → Prop} {w0 W W' : World} {q : PQ}
theorem St.size (h : St b F w0 q W) : b + 1 < W.heap.size := by
  obtain ⟨A, c, ls, hq⟩ := h.qi
  exact hq.hd.lt
theorem St.step (h : St b F w0 q W) (hb : Below W.heap.size W W') : St b F w0 q W' :=
  ⟨h.qi.below hb, below_then h.below (by have := h.size; omega) hb, h.ok⟩
theorem St.alloc (h : St b F w0 q W) (o : Obj) : St b F w0 q (W.alloc o) := h.step ((Below.refl _ _).alloc (Nat.le_refl _) o)
theorem St.drew (h : St b F w0 q W) : St b F w0 q W.drew := h.step (Below.refl _ _).drew
theorem St.drewN (h : St b F w0 q W) (n : Nat) : St b F w0 q (W.drewN n) := h.step (below_drewN (Below.refl _ _) n)
theorem St.weaken (h : St b F w0 q W) (hF : ∀ k, F' k → F k) : St b F' w0 q W := ⟨h.qi.weaken hF, h.below, h.ok⟩
theorem St.none_ (h : St b F w0 q W) : St b (fun _ => False) w0 q W := h.weaken fun _ h => h.elim
theorem St.fr (h : St b F w0 q W) {q' : PQ} (hq : Qin W' b (b + 1) b F' q') (hf : Fr b b W W') (ok : q'.Ok) : St b F' w0 q' W' :=
  ⟨hq, h.below.trans (hf.below (by have := h.size; omega)), ok⟩
/-- A store into a block of another type, made since. -/
theorem St.far (h : St b F w0 q W) {k : Nat} {t : TypeId} {cs : Array Value} (hk : Blk W k t cs) (hb : b < k) (ht : t ≠ 65 ∧ t ≠ 67 ∧ t ≠ 69) (h5 : t = 5 → F k) (i : Nat) (u : Value) : St b F w0 q (W.setCell ⟨k, i, none⟩ u) :=
  ⟨h.qi.far hk (by omega) (not_mine ht) h5 (sp := none) u, h.below.setCell (by show b ≤ k; omega) u, h.ok⟩
theorem St.grown (h : St b F w0 q W) {row : Option Nat} (hg : W.grownBy W' row) (hr : ∀ k, row = some k → k < W.heap.size → b < k ∧ ∀ cs t m, W.heap[k]? = some (.cells cs t m) → ¬ Mine t ∧ (t = 5 → F k)) (hlt : ∀ k, row = some k → b ≤ k) : St b F w0 q W' := by
  refine ⟨h.qi.grown hg fun k hk hl => ?_, ?_, h.ok⟩
  · obtain ⟨h1, h2⟩ := hr k hk hl
    exact ⟨by omega, fun cs t m hc => ⟨(h2 cs t m hc).1, fun h5 => .inl ((h2 cs t m hc).2 h5)⟩⟩
  · exact h.below.grown hg (by have := h.size; omega) hlt
end
theorem newS (m room : Nat) (w : World) (hm : 1 ≤ m) (hm2 : m ≤ 16) (hr : 1 ≤ room) (hr2 : room ≤ 1048576) :
    Calls Try.prog 10 #[.int .i64 m, .int .i64 room] w fun e w' => e = .returned (.tuple #[.pointer (some ⟨w.heap.size + 1, 0, none⟩), .int .i64 0]) ∧ St w.heap.size (fun _ => False) w (fresh m room) w' := by
  refine (c10 m room w hm hm2 hr hr2).mono ?_
  rintro e w' ⟨rfl, h1, h2, _⟩
  exact ⟨rfl, h1.weaken (fun _ h => h.elim), h2, fresh_ok m room hm hm2 hr hr2⟩
section
variable (b : Nat) (F : Nat → Prop) (w0 : World) (q : PQ) (W : World)
theorem putS (st : Int) (o : Bool) (A : Option Addr) (n c B : Nat) (un : Int) (xs : List Int) (h : St b F w0 q W) (hy : why q st n un = 0) (hs : 0 ≤ st ∧ st ≤ 65535) (hu : un ≤ 9223372036854775807)
    (hr : Reads W B 1 A n (bs xs)) (hB : B ≤ W.heap.size) (hnil : A = none → n = 0 ∧ c = 0) (hF : Hid (∀ k, F k → k < W.heap.size)) (hb : Hid (BOk xs)) (hm : q.many < 1000000) :
    Calls Try.prog 11 #[.pointer (some ⟨b + 1, 0, none⟩), .agg #[.int .u16 st, .bool o, .slice A n c], .int .i64 un] W fun e w' => e = .returned (.tuple #[.int .i64 q.many, .int .i64 0]) ∧ St b F w0 (put q st o xs un) w' ∧ Fr b b W w' := by
  refine (c11 b (b + 1) b F q st o A n c B un xs W h.qi h.ok hy hs hu hr hB hnil hF).mono ?_
  rintro e w' ⟨rfl, h1, h2⟩
  have hl := blen_ hr
  exact ⟨rfl, h.fr h1 h2 (put_ok h.ok (by rw [hl]; exact hy) hb hs.1 hu hm), h2⟩
theorem putxS (st : Int) (o : Bool) (A : Option Addr) (n c : Nat) (un : Int) (y : Int) (h : St b F w0 q W) (hy : why q st n un = y) (hne : y ≠ 0) (hn : n ≤ 9223372036854775807) (hs : 0 ≤ st ∧ st ≤ 65535) :
    Calls Try.prog 11 #[.pointer (some ⟨b + 1, 0, none⟩), .agg #[.int .u16 st, .bool o, .slice A n c], .int .i64 un] W fun e w' => e = .returned (.tuple #[.int .i64 0, .int .i64 y]) ∧ St b F w0 q w' ∧ Below W.heap.size W w' := by
  refine (c11x b (b + 1) b F q st o A n c un y W h.qi h.ok hy hne hn hs).mono ?_
  rintro e w' ⟨rfl, h1⟩
  exact ⟨rfl, h.step h1, h1⟩
theorem nextS (p : PI) (r : List PI) (m : Nat) (h : St b F w0 q W) (hi : Hid (q.its = p :: r)) (hm : 1 ≤ m) (hm2 : m ≤ 9223372036854775807) :
    Calls Try.prog 15 #[.pointer (some ⟨b + 1, 0, none⟩), .int .i64 m] W fun e w' => ∃ A c, e = .returned (.tuple #[.agg ((nxD q p m).cs A (nxLen p m) c), .int .i64 p.id, .bool true]) ∧ w'.ownsRow W.heap.size 5 1 (.slice A (nxLen p m) c) (nxLen p m) (bs (nxD q p m).xs) ∧
      St b (fun k => F k ∨ W.heap.size ≤ k) w0 (nxQ q p r m) w' ∧ Fr b b W w' := by
  refine (c15 b (b + 1) b F q p r m W h.qi h.ok hi hm hm2).mono ?_
  rintro e w' ⟨A, c, rfl, h1, h2, h3⟩
  exact ⟨A, c, rfl, h1, h.fr h2 h3 (nx_ok h.ok hi hm), h3⟩
theorem nextxS (most : Int) (h : St b F w0 q W) (hm : q.its = [] ∨ most < 1) :
    Calls Try.prog 15 #[.pointer (some ⟨b + 1, 0, none⟩), .int .i64 most] W fun e w' => e = .returned (.tuple #[.agg #[.int .u32 0, .int .u16 0, .int .u16 0, .bool false, .bool false, .bool false, .slice none 0 0], .int .i64 0, .bool false]) ∧ St b F w0 q w' ∧ Below W.heap.size W w' := by
  refine (c15x b (b + 1) b F q most W h.qi h.ok hm).mono ?_
  rintro e w' ⟨rfl, h1⟩
  exact ⟨rfl, h.step h1, h1⟩
theorem expS (now : Int) (h : St b F w0 q W) :
    Calls Try.prog 12 #[.pointer (some ⟨b + 1, 0, none⟩), .int .i64 now] W fun e w' => ∃ A n c, e = .returned (.tuple #[.agg ((lastD (exX now q).2).cs A n c), .int .i64 (lastI (exX now q).2), .bool (exX now q).2.isSome]) ∧ w'.ownsRow W.heap.size 5 1 (.slice A n c) n (bs (lastD (exX now q).2).xs) ∧
      St b (fun k => F k ∨ W.heap.size ≤ k) w0 (exQ now q) w' ∧ Fr b b W w' := by
  refine (c12 b (b + 1) b F q now W h.qi h.ok).mono ?_
  rintro e w' ⟨A, n, c, rfl, h1, h2, h3⟩
  exact ⟨A, n, c, rfl, h1, h.fr h2 h3 (ex_ok h.ok now), h3⟩
theorem freeS (n : Int) (h : St b F w0 q W) (n0 : -9223372036854775808 ≤ n) (n1 : n ≤ 9223372036854775807) :
    Calls Try.prog 25 #[.pointer (some ⟨b + 1, 0, none⟩), .int .i64 n] W fun e w' => e = .returned (.tuple #[]) ∧ St b F w0 { q with used := q.used - n.toNat } w' ∧ Fr b b W w' := by
  refine (c25 b (b + 1) b F q n W h.qi h.ok n0 n1).mono ?_
  rintro e w' ⟨rfl, h1, h2⟩
  exact ⟨rfl, h.fr h1 h2 (free_ok h.ok _), h2⟩
theorem usedS (h : St b F w0 q W) : Calls Try.prog 13 #[.pointer (some ⟨b + 1, 0, none⟩)] W fun e w' => e = .returned (.int .i64 q.used) ∧ W = w' := c13 b (b + 1) b F q W h.qi
theorem waitS (h : St b F w0 q W) : Calls Try.prog 14 #[.pointer (some ⟨b + 1, 0, none⟩)] W fun e w' => e = .returned (.int .i64 (waits q.its : Int)) ∧ ∃ k, w' = W.drewN k := c14 b (b + 1) b F q W h.qi h.ok
/-- How many bytes of the front are left. -/
def front (l : List PI) : Nat := match l with | [] => 0 | p :: _ => p.left
theorem sizeS (h : St b F w0 q W) : Calls Try.prog 19 #[.pointer (some ⟨b + 1, 0, none⟩)] W fun e w' => e = .returned (.int .i64 (front q.its : Int)) ∧ ∃ k, w' = W.drewN k := c19 b (b + 1) b F q W h.qi h.ok
end
end Go.Proofs.Ytmidnfkmefoleaa.Qt

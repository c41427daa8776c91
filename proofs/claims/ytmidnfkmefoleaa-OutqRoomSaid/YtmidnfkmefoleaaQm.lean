/-
  The queue in memory: what its blocks hold, told by plain data; what a step on it leaves alone.
-/
import Derived.Test.YtmidnfkmefoleaaRa
set_option linter.unusedVariables false
set_option linter.unusedSimpArgs false
namespace Go.Proofs.Ytmidnfkmefoleaa.Qm
open Go.RowKit Wd Ra

/-! ### Bytes -/
def bs (l : List Int) : List Value := l.map (Value.int .u8)
def us (l : List Int) : List Value := l.map (Value.int .u16)
def BOk (l : List Int) : Prop := ∀ x ∈ l, 0 ≤ x ∧ x ≤ 255
theorem bs_length (l : List Int) : (bs l).length = l.length := by simp [bs]
theorem us_length (l : List Int) : (us l).length = l.length := by simp [us]
theorem bs_append (l m : List Int) : bs (l ++ m) = bs l ++ bs m := by simp [bs]
theorem bs_one (l : List Int) : ∀ u ∈ bs l, u.oneCell' = true := by
  intro u hu
  simp only [bs, List.mem_map] at hu
  obtain ⟨x, _, rfl⟩ := hu
  rfl
theorem bs_get (l : List Int) (k : Nat) (x : Int) (h : l[k]? = some x) : (bs l)[k]? = some (.int .u8 x) := by simp [bs, h]
theorem bs_set (l : List Int) (k : Nat) (x : Int) : bs (l.set k x) = (bs l).set k (.int .u8 x) := by simp [bs, List.map_set]
theorem bs_take (l : List Int) (k : Nat) : bs (l.take k) = (bs l).take k := by simp [bs, List.map_take]
theorem bs_drop (l : List Int) (k : Nat) : bs (l.drop k) = (bs l).drop k := by simp [bs, List.map_drop]
theorem blen_ {w : World} {B n : Nat} {A : Option Addr} {l : List Int} (h : Reads w B 1 A n (bs l)) : l.length = n := by
  have hl := h.1
  rw [bs_length] at hl
  omega
theorem own_bytes {w : World} {base n : Nat} {v : Value} {l : List Int} (h : w.ownsRow base 5 1 v n (bs l)) : l.length = n := by
  have := h.1
  rw [bs_length] at this
  omega
theorem bat_ {w : World} {B n : Nat} {A : Option Addr} {l : List Int} (h : Reads w B 1 A n (bs l)) (k : Nat) (hk : k < n) :
    ∃ ad x, A = some ad ∧ ad.block < B ∧ l[k]? = some x ∧ w.cell? (ad.add k) = some (.int .u8 x) := by
  obtain ⟨ad, rfl, hb, hc⟩ := h.2 (by omega)
  have hl := blen_ h
  have hs : l[k]? = some (l[k]'(by omega)) := List.getElem?_eq_getElem (by omega)
  exact ⟨ad, _, rfl, hb, hs, hc k _ (bs_get l k _ hs)⟩
theorem reads_pre {w : World} {B size n k : Nat} {A : Option Addr} {xs : List Value} (h : Reads w B size A n xs) (hk : k ≤ n) : Reads w B size A k (xs.take (k * size)) := by
  have hl := h.1
  refine ⟨by rw [List.length_take, hl]; exact Nat.min_eq_left (Nat.mul_le_mul_right _ hk), fun hp => ?_⟩
  obtain ⟨ad, e, hb, hc⟩ := h.2 (by omega)
  refine ⟨ad, e, hb, fun j u hu => hc j u ?_⟩
  rw [List.getElem?_take] at hu
  split at hu
  · exact hu
  · cases hu
theorem bok_sub {l m : List Int} (h : BOk l) (hm : ∀ x ∈ m, x ∈ l) : BOk m := fun x hx => h x (hm x hx)

/-! ### What a step of the queue leaves alone -/
/-- The types of the queue's own blocks: the queue, its row of pointers, its messages. -/
def Mine (t : TypeId) : Prop := t = 65 ∨ t = 67 ∨ t = 69
/-- All blocks but the queue's own (and the row s of its numbers) stand; below base all stand. -/
structure Fr (base s : Nat) (w w' : World) : Prop where
  os : w'.os = w.os
  tape : w'.tape = w.tape
  output : w'.output = w.output
  size : w.heap.size ≤ w'.heap.size
  block : ∀ b, b < w.heap.size → (b < base ∨ (b ≠ s ∧ ∀ cs t m, w.heap[b]? = some (.cells cs t m) → ¬ Mine t)) → w'.heap[b]? = w.heap[b]?

section
variable {base s : Nat} {w w' w'' : World}
theorem Fr.refl (base s : Nat) (w : World) : Fr base s w w := ⟨rfl, rfl, rfl, Nat.le_refl _, fun _ _ _ => rfl⟩
theorem Fr.trans (h : Fr base s w w') (k : Fr base s w' w'') : Fr base s w w'' :=
  ⟨k.os.trans h.os, k.tape.trans h.tape, k.output.trans h.output, Nat.le_trans h.size k.size, fun b hb hc => by
    have e := h.block b hb hc
    exact (k.block b (Nat.lt_of_lt_of_le hb h.size) (by rw [e]; exact hc)).trans e⟩
theorem Fr.of_below (h : Below w.heap.size w w') : Fr base s w w' := ⟨h.os, h.tape, h.output, h.size, fun b hb _ => h.block b hb⟩
theorem Fr.below (h : Fr base s w w') (hb : base ≤ w.heap.size) : Below base w w' := ⟨h.os, h.tape, h.output, h.size, fun b hk => h.block b (by omega) (.inl hk)⟩
theorem Fr.alloc (h : Fr base s w w') (o : Obj) : Fr base s w (w'.alloc o) := h.trans (Fr.of_below ((Below.refl _ _).alloc (Nat.le_refl _) o))
theorem Fr.drew (h : Fr base s w w') : Fr base s w w'.drew := ⟨h.os, h.tape, h.output, h.size, h.block⟩
theorem Fr.drewN (h : Fr base s w w') (n : Nat) : Fr base s w (w'.drewN n) := ⟨h.os, h.tape, h.output, h.size, h.block⟩
/-- A store into a block that was made since. -/
theorem Fr.new (h : Fr base s w w') {p : Addr} (hp : w.heap.size ≤ p.block) (u : Value) : Fr base s w (w'.setCell p u) :=
  ⟨h.os, h.tape, h.output, by simpa [World.setCell] using h.size, fun b hb hc => (Below.heap_setCell w' p u b (by omega)).trans (h.block b hb hc)⟩
/-- A store into a block of the queue's own. -/
theorem Fr.set_ (h : Fr base s w w') {k : Nat} {t : TypeId} {cs : Array Value} (hk : Blk w' k t cs) (hb : base ≤ k) (ht : k = s ∨ Mine t) (i : Nat) (u : Value) : Fr base s w (w'.setCell ⟨k, i, none⟩ u) := by
  refine h.trans ⟨rfl, rfl, rfl, by simp [World.setCell], fun b hlt hc => Below.heap_setCell w' _ u b ?_⟩
  intro he
  have he : b = k := he
  rw [he] at hc
  rcases hc with hc | ⟨h1, h2⟩
  · omega
  · rcases ht with rfl | ht
    · exact h1 rfl
    · exact h2 _ _ _ hk ht
theorem Fr.grown {row : Option Nat} (h : Fr base s w w') (hg : w'.grownBy w'' row) (hr : ∀ k, row = some k → base ≤ k ∧ (k = s ∨ ∃ cs t m, w'.heap[k]? = some (.cells cs t m) ∧ Mine t)) : Fr base s w w'' := by
  refine h.trans ⟨hg.os, hg.tape, hg.output, hg.size, fun b hlt hc => hg.block b hlt ?_⟩
  intro he
  obtain ⟨h1, h2⟩ := hr b he.symm
  rcases hc with hc | ⟨h3, h4⟩
  · omega
  · rcases h2 with rfl | ⟨cs, t, m, h5, h6⟩
    · exact h3 rfl
    · exact h4 _ _ _ h5 h6
theorem blk_fr {k : Nat} {t : TypeId} {cs : Array Value} (h : Blk w k t cs) (hf : Fr base s w w') (hk : k ≠ s) (ht : ¬ Mine t) : Blk w' k t cs :=
  (hf.block k h.lt (.inr ⟨hk, fun cs' t' m' h' => by
    unfold Blk at h
    rw [h] at h'
    injection h' with h'
    injection h' with _ h2
    rw [← h2]; exact ht⟩)).trans h
theorem own_cells {e : TypeId} {b size n g : Nat} {v : Value} {xs : List Value} (h : w.ownsRow b e size v n xs) (hg : v.ownBlock = some g) : ∃ cur, w.heap[g]? = some (.cells cur e (0, 0)) := by
  rcases h.2 with ⟨rfl, _⟩ | ⟨g', cap, cur, rfl, _, hh, _⟩
  · simp [Value.ownBlock] at hg
  · have : g' = g := by simpa [Value.ownBlock] using hg
    subst this
    exact ⟨_, hh⟩
theorem own_keep {e : TypeId} {b size n : Nat} {v : Value} {xs : List Value} (h : w.ownsRow b e size v n xs) (hk : ∀ g, v.ownBlock = some g → w'.heap[g]? = w.heap[g]?) : w'.ownsRow b e size v n xs := by
  refine ⟨h.1, ?_⟩
  rcases h.2 with h | ⟨g, cap, cur, rfl, h2, h3, h4⟩
  · exact .inl h
  · exact .inr ⟨g, cap, cur, rfl, h2, (hk g rfl).trans h3, h4⟩
theorem own_fr {e : TypeId} {b size n : Nat} {v : Value} {xs : List Value} (h : w.ownsRow b e size v n xs) (hf : Fr base s w w') (hs : v.ownBlock ≠ some s) (ht : ¬ Mine e) : w'.ownsRow b e size v n xs :=
  own_keep h fun g hg => by
    obtain ⟨cur, hc⟩ := own_cells h hg
    refine hf.block g (own_lt h g hg) (.inr ⟨fun e1 => hs (by rw [hg, e1]), fun cs t m h' => ?_⟩)
    rw [hc] at h'
    injection h' with h'
    injection h' with _ h2
    rw [← h2]; exact ht
theorem reads_fr {B size n : Nat} {A : Option Addr} {xs : List Value} (h : Reads w B size A n xs) (hf : Fr base s w w') (hB : B ≤ base) (hb : base ≤ w.heap.size) : Reads w' B size A n xs :=
  h.keep fun p hp => (hf.below hb).cell (by omega)
end

/-! ### The queue as plain data -/
/-- A message that waits. -/
structure PI where
  st : Int
  o : Bool
  xs : List Int
  id : Nat
  un : Int
  at_ : Nat
  ssn : Int
def PI.left (p : PI) : Nat := p.xs.length - p.at_
/-- The queue. -/
structure PQ where
  its : List PI
  many : Nat
  room : Nat
  used : Nat
  ssn : List Int
def PI.Ok (room m : Nat) (p : PI) : Prop := 0 ≤ p.st ∧ p.st < m ∧ BOk p.xs ∧ 0 ≤ p.un ∧ p.un ≤ 9223372036854775807 ∧ 0 ≤ p.ssn ∧ p.ssn ≤ 65535 ∧ p.at_ < p.xs.length ∧ p.xs.length ≤ room
structure PQ.Ok (q : PQ) : Prop where
  room1 : 1 ≤ q.room
  room2 : q.room ≤ 1048576
  used : q.used ≤ q.room
  ssn1 : 1 ≤ q.ssn.length
  ssn2 : q.ssn.length ≤ 16
  ssn : ∀ x ∈ q.ssn, 0 ≤ x ∧ x ≤ 65535
  its : ∀ p ∈ q.its, p.Ok q.room q.ssn.length
  len : q.its.length ≤ q.many
  many : q.many ≤ 1000000

/-- Where a message lies: its block; its bytes' header. -/
structure Lc where
  b : Nat
  A : Option Addr
  c : Nat
def PI.cs (p : PI) (l : Lc) : Array Value := #[.int .u16 p.st, .bool p.o, .slice l.A p.xs.length l.c, .int .i64 p.id, .int .i64 p.un, .int .i64 p.at_, .int .u16 p.ssn]
structure ItAt (w : World) (bse : Nat) (F : Nat → Prop) (l : Lc) (p : PI) : Prop where
  base : bse ≤ l.b
  blk : Blk w l.b 69 (p.cs l)
  row : w.ownsRow bse 5 1 (.slice l.A p.xs.length l.c) p.xs.length (bs p.xs)
  free : ∀ k, (Value.slice l.A p.xs.length l.c).ownBlock = some k → ¬ F k
def ptrs (ls : List Lc) : List Value := ls.map fun l => .pointer (some ⟨l.b, 0, none⟩)
/-- The queue's head cells. -/
def PQ.cs (q : PQ) (s : Nat) (A : Option Addr) (c : Nat) : Array Value := #[.slice A q.its.length c, .int .i64 q.many, .int .i64 q.room, .int .i64 q.used, .slice (some ⟨s, 0, none⟩) q.ssn.length q.ssn.length]
/-- The queue q lies at block g, its numbers at block s; no row of bytes of its own lies in F. -/
structure QAt (w : World) (base g s : Nat) (F : Nat → Prop) (q : PQ) (A : Option Addr) (c : Nat) (ls : List Lc) : Prop where
  bg : base ≤ g
  bs : base ≤ s
  hd : Blk w g 65 (q.cs s A c)
  sn : Blk w s 30 (us q.ssn).toArray
  row : At w base 67 1 (.slice A q.its.length c) q.its.length (ptrs ls)
  len : ls.length = q.its.length
  nod : (ls.map Lc.b).Nodup
  it : ∀ (i : Nat) (l : Lc) (p : PI), ls[i]? = some l → q.its[i]? = some p → ItAt w base F l p
def Qin (w : World) (base g s : Nat) (F : Nat → Prop) (q : PQ) : Prop := ∃ A c ls, QAt w base g s F q A c ls

theorem mine65 : Mine 65 := .inl rfl
theorem mine67 : Mine 67 := .inr (.inl rfl)
theorem mine69 : Mine 69 := .inr (.inr rfl)
theorem not_mine {t : TypeId} (h : t ≠ 65 ∧ t ≠ 67 ∧ t ≠ 69) : ¬ Mine t := by
  rintro (e | e | e)
  · exact h.1 e
  · exact h.2.1 e
  · exact h.2.2 e

section
variable {w w' : World} {base g s : Nat} {F F' : Nat → Prop} {q : PQ}
theorem ItAt.keep {l : Lc} {p : PI} (h : ItAt w base F l p) (h1 : w'.heap[l.b]? = w.heap[l.b]?) (h2 : ∀ k, (Value.slice l.A p.xs.length l.c).ownBlock = some k → w'.heap[k]? = w.heap[k]?) : ItAt w' base F l p :=
  ⟨h.base, h1.trans h.blk, own_keep h.row h2, h.free⟩
/-- The queue is kept where its blocks are. -/
theorem QAt.keep {A : Option Addr} {c : Nat} {ls : List Lc} (h : QAt w base g s F q A c ls) (hk : ∀ b, b < w.heap.size → (b = s ∨ ∃ cs t m, w.heap[b]? = some (.cells cs t m) ∧ (Mine t ∨ (t = 5 ∧ base ≤ b ∧ ¬ F b))) → w'.heap[b]? = w.heap[b]?) : QAt w' base g s F q A c ls := by
  refine ⟨h.bg, h.bs, (hk g h.hd.lt (.inr ⟨_, _, _, h.hd, .inl mine65⟩)).trans h.hd, (hk s h.sn.lt (.inl rfl)).trans h.sn, h.row.keep fun k hv => ?_, h.len, h.nod, fun i l p hl hp => ?_⟩
  · obtain ⟨_, h2, cur, h3⟩ := h.row.own hv
    exact hk k h2 (.inr ⟨_, _, _, h3, .inl mine67⟩)
  · have hi := h.it i l p hl hp
    refine hi.keep (hk _ hi.blk.lt (.inr ⟨_, _, _, hi.blk, .inl mine69⟩)) fun k hv => ?_
    obtain ⟨cur, hc⟩ := own_cells hi.row hv
    exact hk k (own_lt hi.row k hv) (.inr ⟨_, _, _, hc, .inr ⟨rfl, own_base hi.row k hv, hi.free k hv⟩⟩)
theorem Qin.below (h : Qin w base g s F q) (hb : Below w.heap.size w w') : Qin w' base g s F q := by
  obtain ⟨A, c, ls, h⟩ := h
  exact ⟨A, c, ls, h.keep fun b hlt _ => hb.block b hlt⟩
theorem Qin.alloc (h : Qin w base g s F q) (o : Obj) : Qin (w.alloc o) base g s F q := h.below ((Below.refl _ _).alloc (Nat.le_refl _) o)
theorem Qin.drew (h : Qin w base g s F q) : Qin w.drew base g s F q := h.below (Below.refl _ _).drew
theorem Qin.drewN (h : Qin w base g s F q) (n : Nat) : Qin (w.drewN n) base g s F q := h.below (below_drewN (Below.refl _ _) n)
/-- A store elsewhere: into a block of another type, or of bytes in F. -/
theorem Qin.far (h : Qin w base g s F q) {k : Nat} {t : TypeId} {cs : Array Value} {m : Nat × Nat} (hk : w.heap[k]? = some (.cells cs t m)) (hs : k ≠ s) (ht : ¬ Mine t) (h5 : t = 5 → F k) {i : Nat} {sp : Option Nat} (u : Value) : Qin (w.setCell ⟨k, i, none⟩ u) base g s F q := by
  obtain ⟨A, c, ls, h⟩ := h
  refine ⟨A, c, ls, h.keep fun b hlt hc => Below.heap_setCell w _ u b ?_⟩
  intro he
  have he : b = k := he
  rw [he] at hc
  rcases hc with hc | ⟨cs', t', m', h1', h2⟩
  · exact hs hc
  · rw [hk] at h1'
    injection h1' with h1'
    injection h1' with _ e2
    subst e2
    rcases h2 with h2 | ⟨h2, _, h3⟩
    · exact ht h2
    · exact h3 (h5 h2)
/-- A row elsewhere that grew. -/
theorem Qin.grown (h : Qin w base g s F q) {row : Option Nat} (hg : w.grownBy w' row) (hr : ∀ k, row = some k → k < w.heap.size → k ≠ s ∧ ∀ cs t m, w.heap[k]? = some (.cells cs t m) → ¬ Mine t ∧ (t = 5 → F k ∨ k < base)) : Qin w' base g s F q := by
  obtain ⟨A, c, ls, h⟩ := h
  refine ⟨A, c, ls, h.keep fun b hlt hc => hg.block b hlt ?_⟩
  intro he
  obtain ⟨h1, h2⟩ := hr b he.symm hlt
  rcases hc with hc | ⟨cs', t', m', h3, h4⟩
  · exact h1 hc
  · obtain ⟨h5, h6⟩ := h2 _ _ _ h3
    rcases h4 with h4 | ⟨h4, h7, h8⟩
    · exact h5 h4
    · rcases h6 h4 with h9 | h9
      · exact h8 h9
      · omega
theorem Qin.weaken (h : Qin w base g s F q) (hF : ∀ k, F' k → F k) : Qin w base g s F' q := by
  obtain ⟨A, c, ls, h⟩ := h
  exact ⟨A, c, ls, h.bg, h.bs, h.hd, h.sn, h.row, h.len, h.nod, fun i l p hl hp => let hi := h.it i l p hl hp; ⟨hi.base, hi.blk, hi.row, fun k hk hf => hi.free k hk (hF k hf)⟩⟩
/-- What is not made yet is free. -/
theorem Qin.free (h : Qin w base g s F q) : Qin w base g s (fun k => F k ∨ w.heap.size ≤ k) q := by
  obtain ⟨A, c, ls, h⟩ := h
  refine ⟨A, c, ls, h.bg, h.bs, h.hd, h.sn, h.row, h.len, h.nod, fun i l p hl hp => let hi := h.it i l p hl hp; ⟨hi.base, hi.blk, hi.row, fun k hk hf => ?_⟩⟩
  rcases hf with hf | hf
  · exact hi.free k hk hf
  · have := own_lt hi.row k hk
    omega
end
section
variable {w : World} {base g s : Nat} {F : Nat → Prop} {q : PQ} {A : Option Addr} {c : Nat} {ls : List Lc}
theorem QAt.c0 (h : QAt w base g s F q A c ls) : w.cell? ⟨g, 0, none⟩ = some (.slice A q.its.length c) := h.hd.cell 0
theorem QAt.c1 (h : QAt w base g s F q A c ls) : w.cell? ⟨g, 1, none⟩ = some (.int .i64 q.many) := h.hd.cell 1
theorem QAt.c2 (h : QAt w base g s F q A c ls) : w.cell? ⟨g, 2, none⟩ = some (.int .i64 q.room) := h.hd.cell 2
theorem QAt.c3 (h : QAt w base g s F q A c ls) : w.cell? ⟨g, 3, none⟩ = some (.int .i64 q.used) := h.hd.cell 3
theorem QAt.c4 (h : QAt w base g s F q A c ls) : w.cell? ⟨g, 4, none⟩ = some (.slice (some ⟨s, 0, none⟩) q.ssn.length q.ssn.length) := h.hd.cell 4
end
section
variable {w : World} {base : Nat} {F : Nat → Prop} {l : Lc} {p : PI}
theorem it0 (h : ItAt w base F l p) : w.cell? ⟨l.b, 0, none⟩ = some (.int .u16 p.st) := h.blk.cell 0
theorem it1 (h : ItAt w base F l p) : w.cell? ⟨l.b, 1, none⟩ = some (.bool p.o) := h.blk.cell 1
theorem it2 (h : ItAt w base F l p) : w.cell? ⟨l.b, 2, none⟩ = some (.slice l.A p.xs.length l.c) := h.blk.cell 2
theorem it3 (h : ItAt w base F l p) : w.cell? ⟨l.b, 3, none⟩ = some (.int .i64 p.id) := h.blk.cell 3
theorem it4 (h : ItAt w base F l p) : w.cell? ⟨l.b, 4, none⟩ = some (.int .i64 p.un) := h.blk.cell 4
theorem it5 (h : ItAt w base F l p) : w.cell? ⟨l.b, 5, none⟩ = some (.int .i64 p.at_) := h.blk.cell 5
theorem it6 (h : ItAt w base F l p) : w.cell? ⟨l.b, 6, none⟩ = some (.int .u16 p.ssn) := h.blk.cell 6
end

theorem blk_ne_blk {w : World} {k g : Nat} {t t' : TypeId} {cs cs' : Array Value} (h : Blk w k t cs) (h' : Blk w g t' cs') (hne : t ≠ t') : k ≠ g := Blk.ne_ h h' hne
theorem own_ne_blk {w : World} {base g : Nat} {e t : TypeId} {size n : Nat} {v : Value} {xs : List Value} {cs : Array Value} (h : w.ownsRow base e size v n xs) (hg : Blk w g t cs) (hne : e ≠ t) : v.ownBlock ≠ some g := own_blk_ne h hg hne
/-- An item stands where a block of another kind is written. -/
theorem ItAt.far {w : World} {base : Nat} {F : Nat → Prop} {l : Lc} {p : PI} (h : ItAt w base F l p) {g : Nat} {t : TypeId} {cs : Array Value} (hg : Blk w g t cs) (ht : t ≠ 69 ∧ t ≠ 5) (i : Nat) (u : Value) : ItAt (w.setCell ⟨g, i, none⟩ u) base F l p :=
  h.keep (Below.heap_setCell w _ u _ (blk_ne_blk h.blk hg (Ne.symm ht.1))) fun k hk => Below.heap_setCell w _ u _ (fun e1 => own_ne_blk h.row hg (Ne.symm ht.2) (by rw [hk]; exact congrArg some e1))
/-- A cell of the head is written. -/
theorem hset_ {w : World} {base g s : Nat} {F : Nat → Prop} {q : PQ} {A : Option Addr} {c : Nat} (bg : base ≤ g) (bs : base ≤ s) (hd : Blk w g 65 (q.cs s A c)) (sn : Blk w s 30 (us q.ssn).toArray) (q' : PQ) (A' : Option Addr) (c' : Nat) (ls' : List Lc) (i : Nat) (u : Value) (hc : (q.cs s A c).setIfInBounds i u = q'.cs s A' c') (hs : q'.ssn = q.ssn)
    (row : At w base 67 1 (.slice A' q'.its.length c') q'.its.length (ptrs ls')) (len : ls'.length = q'.its.length) (nod : (ls'.map Lc.b).Nodup) (it : ∀ (i : Nat) (l : Lc) (p : PI), ls'[i]? = some l → q'.its[i]? = some p → ItAt w base F l p) :
    QAt (w.setCell ⟨g, i, none⟩ u) base g s F q' A' c' ls' := by
  refine ⟨bg, bs, by rw [← hc]; exact hd.set_ i u, ?_, row.far (row.ne_blk hd (by decide)) u, len, nod, fun j l p hl hp => (it j l p hl hp).far hd (by decide) i u⟩
  rw [hs]
  exact sn.far (p := ⟨g, i, none⟩) (blk_ne_blk sn hd (by decide)) u
theorem QAt.hset {w : World} {base g s : Nat} {F : Nat → Prop} {q : PQ} {A : Option Addr} {c : Nat} {ls : List Lc} (h : QAt w base g s F q A c ls) (q' : PQ) (A' : Option Addr) (c' : Nat) (ls' : List Lc) (i : Nat) (u : Value) (hc : (q.cs s A c).setIfInBounds i u = q'.cs s A' c') (hs : q'.ssn = q.ssn)
    (row : At w base 67 1 (.slice A' q'.its.length c') q'.its.length (ptrs ls')) (len : ls'.length = q'.its.length) (nod : (ls'.map Lc.b).Nodup) (it : ∀ (i : Nat) (l : Lc) (p : PI), ls'[i]? = some l → q'.its[i]? = some p → ItAt w base F l p) :
    QAt (w.setCell ⟨g, i, none⟩ u) base g s F q' A' c' ls' := hset_ h.bg h.bs h.hd h.sn q' A' c' ls' i u hc hs row len nod it
/-- A cell of the head is written; the messages stay. -/
theorem QAt.hput {w : World} {base g s : Nat} {F : Nat → Prop} {q : PQ} {A : Option Addr} {c : Nat} {ls : List Lc} (h : QAt w base g s F q A c ls) (q' : PQ) (i : Nat) (u : Value) (hc : (q.cs s A c).setIfInBounds i u = q'.cs s A c) (hs : q'.ssn = q.ssn) (hi : q'.its = q.its) :
    QAt (w.setCell ⟨g, i, none⟩ u) base g s F q' A c ls := h.hset q' A c ls i u hc hs (by rw [hi]; exact h.row) (by rw [hi]; exact h.len) h.nod (by rw [hi]; exact h.it)
theorem ItAt.below {w w' : World} {base : Nat} {F : Nat → Prop} {l : Lc} {p : PI} (h : ItAt w base F l p) (hb : Below w.heap.size w w') : ItAt w' base F l p :=
  h.keep (hb.block _ h.blk.lt) fun k hk => hb.block k (own_lt h.row k hk)
/-- An item stands where a row of pointers grows. -/
theorem ItAt.grown {w w' : World} {base : Nat} {F : Nat → Prop} {l : Lc} {p : PI} (h : ItAt w base F l p) {row : Option Nat} (hg : w.grownBy w' row) (hr : ∀ k, row = some k → ∃ cs m, w.heap[k]? = some (.cells cs 67 m)) : ItAt w' base F l p := by
  refine h.keep (hg.block _ h.blk.lt fun e => ?_) fun k hk => hg.block k (own_lt h.row k hk) fun e => ?_
  · obtain ⟨cs, m, hc⟩ := hr _ e.symm
    have := h.blk
    unfold Blk at this
    rw [hc] at this
    injection this with this
    injection this with _ e2
    cases e2
  · obtain ⟨cs, m, hc⟩ := hr _ e.symm
    obtain ⟨cur, hd⟩ := own_cells h.row hk
    rw [hc] at hd
    injection hd with hd
    injection hd with _ e2
    cases e2
/-- A cell of a message that waits is written. -/
theorem QAt.iset {w : World} {base g s : Nat} {F : Nat → Prop} {q : PQ} {A : Option Addr} {c : Nat} {ls : List Lc} (h : QAt w base g s F q A c ls) {i : Nat} {l : Lc} {p : PI} (hl : ls[i]? = some l) (hp : q.its[i]? = some p) (p' : PI) (j : Nat) (u : Value) (hc : (p.cs l).setIfInBounds j u = p'.cs l) (hx : p'.xs = p.xs) :
    QAt (w.setCell ⟨l.b, j, none⟩ u) base g s F { q with its := q.its.set i p' } A c ls := by
  have hi := h.it i l p hl hp
  have hcs : ({ q with its := q.its.set i p' } : PQ).cs s A c = q.cs s A c := by simp [PQ.cs]
  refine ⟨h.bg, h.bs, ?_, h.sn.far (p := ⟨l.b, j, none⟩) (blk_ne_blk h.sn hi.blk (by decide)) u, ?_, by simpa using h.len, h.nod, fun k l' p2 hl' hp2 => ?_⟩
  · rw [hcs]
    exact h.hd.far (p := ⟨l.b, j, none⟩) (blk_ne_blk h.hd hi.blk (by decide)) u
  · have hr : At w base 67 1 (.slice A (q.its.set i p').length c) (q.its.set i p').length (ptrs ls) := by simpa using h.row
    exact hr.far (hr.ne_blk hi.blk (by decide)) u
  · by_cases hki : i = k
    · subst hki
      rw [hl] at hl'
      injection hl' with hl'
      subst hl'
      rw [List.getElem?_set_self (List.getElem?_eq_some_iff.1 hp).1] at hp2
      injection hp2 with hp2
      subst hp2
      refine ⟨hi.base, by rw [← hc]; exact hi.blk.set_ j u, ?_, by rw [hx]; exact hi.free⟩
      rw [hx]
      exact own_keep hi.row fun k hk => Below.heap_setCell w _ u _ (fun e1 => own_ne_blk hi.row hi.blk (by decide) (by rw [hk]; exact congrArg some e1))
    · rw [List.getElem?_set_ne hki] at hp2
      have h2 := h.it k l' p2 hl' hp2
      refine h2.keep (Below.heap_setCell w _ u _ ?_) fun k hk => Below.heap_setCell w _ u _ (fun e1 => own_ne_blk h2.row hi.blk (by decide) (by rw [hk]; exact congrArg some e1))
      intro e1
      have e2 : l'.b = l.b := e1
      have hn := h.nod
      have a1 : (ls.map Lc.b)[i]? = some l.b := by rw [List.getElem?_map, hl]; rfl
      have a2 : (ls.map Lc.b)[k]? = some l.b := by rw [List.getElem?_map, hl']; exact congrArg some e2
      have := (List.getElem?_inj (List.getElem?_eq_some_iff.1 a1).1 hn).1 (a1.trans a2.symm)
      exact hki this
/-- A stream's number is written. -/
theorem QAt.sset {w : World} {base g s : Nat} {F : Nat → Prop} {q : PQ} {A : Option Addr} {c : Nat} {ls : List Lc} (h : QAt w base g s F q A c ls) (k : Nat) (v : Int) :
    QAt (w.setCell ⟨s, k, none⟩ (.int .u16 v)) base g s F { q with ssn := q.ssn.set k v } A c ls := by
  have hcs : ({ q with ssn := q.ssn.set k v } : PQ).cs s A c = q.cs s A c := by simp [PQ.cs]
  refine ⟨h.bg, h.bs, ?_, ?_, h.row.far (h.row.ne_blk h.sn (by decide)) _, h.len, h.nod, fun k l' p2 hl' hp2 => (h.it k l' p2 hl' hp2).far h.sn (by decide) _ _⟩
  · rw [hcs]
    exact h.hd.far (p := ⟨s, k, none⟩) (Ne.symm (blk_ne_blk h.sn h.hd (by decide))) _
  · have := h.sn.set_ k (.int .u16 v)
    have e : (us (q.ssn.set k v)).toArray = (us q.ssn).toArray.setIfInBounds k (.int .u16 v) := by simp [us, List.map_set]
    show Blk _ s 30 (us (q.ssn.set k v)).toArray
    rw [e]
    exact this
/-- The front leaves the row. -/
theorem QAt.tail {w : World} {base g s : Nat} {F : Nat → Prop} {q : PQ} {A : Option Addr} {c : Nat} {ls : List Lc} (h : QAt w base g s F q A c ls) {p : PI} {r : List PI} (hi : q.its = p :: r) :
    QAt (w.setCell ⟨g, 0, none⟩ (.slice (if c = 1 then A else A.map (·.add 1)) r.length (c - 1))) base g s F { q with its := r } (if c = 1 then A else A.map (·.add 1)) (c - 1) ls.tail := by
  have hl := h.len
  have hn : q.its.length = r.length + 1 := by rw [hi]; rfl
  refine h.hset { q with its := r } _ _ ls.tail 0 _ (by simp [PQ.cs]) rfl ?_ (by rw [List.length_tail, hl, hn]; rfl) ?_ fun i l p' h1 h2 => ?_
  · have := h.row.cut (k := 1) (by omega)
    rw [hn] at this
    simp only [Nat.one_mul, Nat.add_sub_cancel] at this
    have e : (ptrs ls).drop 1 = ptrs ls.tail := by rw [List.drop_one]; simp [ptrs]
    rw [e] at this
    exact this
  · have := h.nod
    cases hls : ls with
    | nil => simp
    | cons a b => rw [hls] at this; simp only [List.map_cons, List.nodup_cons] at this; exact this.2
  · rw [List.getElem?_tail] at h1
    exact h.it (i + 1) l p' h1 (by rw [hi]; simpa using h2)
/-- The item at a place: where its pointer lies, and what it holds. -/
theorem item_at {w : World} {base g s : Nat} {F : Nat → Prop} {q : PQ} {A : Option Addr} {c : Nat} {ls : List Lc} (h : QAt w base g s F q A c ls) {k : Nat} (hk : k < q.its.length) :
    ∃ ad l p, A = some ad ∧ ls[k]? = some l ∧ q.its[k]? = some p ∧ w.cell? (ad.add k) = some (.pointer (some ⟨l.b, 0, none⟩)) ∧ ItAt w base F l p := by
  obtain ⟨ad, u, e1, _, hu, hc⟩ := h.row.reads.at_ hk
  have hl : ls[k]? = some (ls[k]'(by have := h.len; omega)) := List.getElem?_eq_getElem _
  have hp : q.its[k]? = some (q.its[k]'hk) := List.getElem?_eq_getElem _
  refine ⟨ad, _, _, e1, hl, hp, ?_, h.it k _ _ hl hp⟩
  rw [hc, ← hu, ptrs, List.getElem?_map, hl]
  rfl
end Go.Proofs.Ytmidnfkmefoleaa.Qm

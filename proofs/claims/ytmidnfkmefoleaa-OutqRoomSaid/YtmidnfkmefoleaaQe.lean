/-
  Contracts of what Expire calls: rest, the function that it hands on, IndexFunc and DeleteFunc.
-/
import Derived.Test.YtmidnfkmefoleaaQn
set_option linter.unusedVariables false
set_option linter.unusedSimpArgs false
namespace Go.Proofs.Ytmidnfkmefoleaa.Qe
open Go.RowKit Wd Ra Qm Qs Zr Qn

/-- What stands for all that was left of a message. -/
def restD (p : PI) : PD := ⟨p.st, p.ssn, !p.o, false, true, [0]⟩
set_option maxRecDepth 100000 in
set_option maxHeartbeats 1000000 in
/-- rest. -/
theorem c30 (base : Nat) (F : Nat → Prop) (l : Lc) (p : PI) (w : World) (h : ItAt w base F l p) :
    Calls Try.prog 30 #[.pointer (some ⟨l.b, 0, none⟩)] w fun e w' => ∃ A c, e = .returned (.agg #[.int .u32 0, .int .u16 p.st, .int .u16 p.ssn, .bool (!p.o), .bool false, .bool true, .slice A 1 c]) ∧ w'.ownsRow w.heap.size 5 1 (.slice A 1 c) 1 (bs (restD p).xs) ∧ Below w.heap.size w w' := by
  have i0 := it0 h
  have i1 := it1 h
  have i6 := it6 h
  have hlt := h.blk.lt
  clear h
  go_enter Try.func30, Try.ntmps30
  go_upto_region 1 with fail
  have hlt2 : l.b < (w.alloc (.cells #[.int .u32 0, .int .u16 0, .int .u16 0, .bool false, .bool false, .bool false, .slice none 0 0] 35)).heap.size := by simp; omega
  refine wp_regionZ (fun w' => w'.cell? ⟨l.b, 0, none⟩ = some (.int .u16 p.st) ∧ w'.cell? ⟨l.b, 1, none⟩ = some (.bool p.o) ∧ w'.cell? ⟨l.b, 6, none⟩ = some (.int .u16 p.ssn)) 17 (by kernel_rfl) ⟨(World.cell?_alloc_lt w _ _ hlt).trans i0, (World.cell?_alloc_lt w _ _ hlt).trans i1, (World.cell?_alloc_lt w _ _ hlt).trans i6⟩ (fun hHeld => ?_)
  refine anyZ_take (i := 0) (oi := _) (v := ?_) [17] rfl (by kernel_rfl) (fun _ _ _ h => h) (Or.inl ⟨by rfl, ?_⟩) (by assumption) ?_
  rotate_left
  · intro w' hSw
    (try dsimp only at hSw)
    go_simp
    with_reducible rfl
  (try simp only [Act.put, List.setIfInBounds_toArray, List.set_cons_zero, List.set_cons_succ])
  refine anyZ_take (i := 1) (oi := _) (v := ?_) [17] rfl (by kernel_rfl) (fun _ _ _ h => h) (Or.inl ⟨by rfl, ?_⟩) (by assumption) ?_
  rotate_left
  · intro w' hSw
    (try dsimp only at hSw)
    go_simp
    with_reducible rfl
  (try simp only [Act.put, List.setIfInBounds_toArray, List.set_cons_zero, List.set_cons_succ])
  refine anyZ_take (i := 2) (oi := _) (v := ?_) [17] rfl (by kernel_rfl) (fun _ _ _ h => h) (Or.inl ⟨by rfl, ?_⟩) (by assumption) ?_
  rotate_left
  · intro w' hSw
    (try dsimp only at hSw)
    go_simp
    with_reducible rfl
  (try simp only [Act.put, List.setIfInBounds_toArray, List.set_cons_zero, List.set_cons_succ])
  refine anyZ_take (i := 3) (oi := _) (v := ?_) [17] rfl (by kernel_rfl) (fun _ _ _ h => h) (Or.inl ⟨by rfl, ?_⟩) (by assumption) ?_
  rotate_left
  · intro w' hSw
    (try dsimp only at hSw)
    go_simp
    with_reducible rfl
  (try simp only [Act.put, List.setIfInBounds_toArray, List.set_cons_zero, List.set_cons_succ])
  refine anyZ_take (i := 4) (oi := _) (v := ?_) [17] rfl (by kernel_rfl) (fun _ _ _ h => h) (Or.inl ⟨by rfl, ?_⟩) (by assumption) ?_
  rotate_left
  · intro w' hSw
    (try dsimp only at hSw)
    go_simp
    with_reducible rfl
  (try simp only [Act.put, List.setIfInBounds_toArray, List.set_cons_zero, List.set_cons_succ])
  refine anyZ_take (i := 5) (oi := _) (v := ?_) [17] rfl (by kernel_rfl) (fun _ _ _ h => h) (Or.inl ⟨by rfl, ?_⟩) (by assumption) ?_
  rotate_left
  · intro w' hSw
    (try dsimp only at hSw)
    go_simp
    with_reducible rfl
  (try simp only [Act.put, List.setIfInBounds_toArray, List.set_cons_zero, List.set_cons_succ])
  refine anyZ_take (i := 6) (oi := _) (v := ?_) [17] rfl (by kernel_rfl) (fun _ _ _ h => h) (Or.inl ⟨by rfl, ?_⟩) (by assumption) ?_
  rotate_left
  · intro w' hSw
    (try dsimp only at hSw)
    go_simp
    with_reducible rfl
  (try simp only [Act.put, List.setIfInBounds_toArray, List.set_cons_zero, List.set_cons_succ])
  refine anyZ_take (i := 7) (oi := _) (v := ?_) [17] rfl (by kernel_rfl) (fun _ _ _ h => h) (Or.inl ⟨by rfl, ?_⟩) (by assumption) ?_
  rotate_left
  · intro w' hSw
    (try dsimp only at hSw)
    go_simp
    with_reducible rfl
  (try simp only [Act.put, List.setIfInBounds_toArray, List.set_cons_zero, List.set_cons_succ])
  refine anyZ_take (i := 8) (oi := _) (v := ?_) [17] rfl (by kernel_rfl) (fun _ _ _ h => h) (Or.inl ⟨by rfl, ?_⟩) (by assumption) ?_
  rotate_left
  · intro w' hSw
    (try dsimp only at hSw)
    go_simp
    with_reducible rfl
  (try simp only [Act.put, List.setIfInBounds_toArray, List.set_cons_zero, List.set_cons_succ])
  refine anyZ_take (i := 9) (oi := _) (v := ?_) [17] rfl (by kernel_rfl) (fun _ _ _ h => h) (Or.inl ⟨by rfl, ?_⟩) (by assumption) ?_
  rotate_left
  · intro w' hSw
    (try dsimp only at hSw)
    go_simp
    with_reducible rfl
  (try simp only [Act.put, List.setIfInBounds_toArray, List.set_cons_zero, List.set_cons_succ])
  refine anyZ_take (i := 10) (oi := _) (v := ?_) [17] rfl (by kernel_rfl) (fun _ _ _ h => h) (Or.inl ⟨by rfl, ?_⟩) (by assumption) ?_
  rotate_left
  · intro w' hSw
    (try dsimp only at hSw)
    go_simp
    with_reducible rfl
  (try simp only [Act.put, List.setIfInBounds_toArray, List.set_cons_zero, List.set_cons_succ])
  refine anyZ_take (i := 11) (oi := _) (v := ?_) [17] rfl (by kernel_rfl) (fun _ _ _ h => h) (Or.inl ⟨by rfl, ?_⟩) (by assumption) ?_
  rotate_left
  · intro w' hSw
    (try dsimp only at hSw)
    go_simp
    with_reducible rfl
  (try simp only [Act.put, List.setIfInBounds_toArray, List.set_cons_zero, List.set_cons_succ])
  refine anyZ_take (i := 12) (oi := _) (v := ?_) [17] rfl (by kernel_rfl) (fun _ _ _ h => h) (Or.inl ⟨by rfl, ?_⟩) (by assumption) ?_
  rotate_left
  · intro w' hSw
    (try dsimp only at hSw)
    go_simp
    with_reducible rfl
  (try simp only [Act.put, List.setIfInBounds_toArray, List.set_cons_zero, List.set_cons_succ])
  refine anyZ_take (i := 13) (oi := _) (v := ?_) [17] rfl (by kernel_rfl) (fun _ _ _ h => h) (Or.inl ⟨by rfl, ?_⟩) (by assumption) ?_
  rotate_left
  · intro w' hSw
    (try dsimp only at hSw)
    go_simp
    with_reducible rfl
  (try simp only [Act.put, List.setIfInBounds_toArray, List.set_cons_zero, List.set_cons_succ])
  refine anyZ_take (i := 14) (oi := _) (v := ?_) [17] rfl (by kernel_rfl) (fun _ _ _ h => h) (Or.inl ⟨by rfl, ?_⟩) (by assumption) ?_
  rotate_left
  · intro w' hSw
    (try dsimp only at hSw)
    go_simp
    with_reducible rfl
  (try simp only [Act.put, List.setIfInBounds_toArray, List.set_cons_zero, List.set_cons_succ])
  refine anyZ_one (i := 15) (o := _) rfl (by kernel_rfl) (fun K hK => ?_)
  go_simp
  refine hK.out _ _ (fun _ => ⟨(World.cell?_alloc_lt _ _ _ hlt2).trans hHeld.1, (World.cell?_alloc_lt _ _ _ hlt2).trans hHeld.2.1, (World.cell?_alloc_lt _ _ _ hlt2).trans hHeld.2.2⟩) (fun hS1 => ?_)
  have hSx := hS1 (by decide)
  clear hS1 hK K hHeld
  (try simp only [Act.put, List.setIfInBounds_toArray, List.set_cons_zero, List.set_cons_succ])
  refine anyZ_take (i := 16) (oi := _) (v := ?_) [17] rfl (by kernel_rfl) (fun _ _ _ h => h) (Or.inl ⟨by rfl, ?_⟩) (by assumption) ?_
  rotate_left
  · intro w' hSw
    (try dsimp only at hSw)
    go_simp
    with_reducible rfl
  (try simp only [Act.put, List.setIfInBounds_toArray, List.set_cons_zero, List.set_cons_succ])
  refine anyZ_one (i := 17) (o := _) rfl (by kernel_rfl) (fun K hK => ?_)
  go_simp
  refine hK.out _ _ (fun h => absurd rfl h) (fun _ => ?_)
  clear hK K hSx
  refine anyZ_done (by kernel_rfl) ?_
  go_wp2
  have hD := Blk.new w 35 #[.int .u32 0, .int .u16 p.st, .int .u16 p.ssn, .bool (!p.o), .bool false, .bool true, .slice (some ⟨w.heap.size + 1, 0, none⟩) 1 1]
  have hO := World.ownsRow_lit (base := w.heap.size) (e := 5) (size := 1) (w.alloc (.cells #[.int .u32 0, .int .u16 p.st, .int .u16 p.ssn, .bool (!p.o), .bool false, .bool true, .slice (some ⟨w.heap.size + 1, 0, none⟩) 1 1] 35)) #[.int .u8 0] 1 (by simp) (by simp [maxLen]) (by simp)
  rw [World.size_alloc] at hO
  refine bodyPost_ret (results_c (P := Try.prog) Try.results30 _ _ w.heap.size 35 #[.int .u32 0, .int .u16 p.st, .int .u16 p.ssn, .bool (!p.o), .bool false, .bool true, .slice (some ⟨w.heap.size + 1, 0, none⟩) 1 1] _ rfl (hD.alloc _) Try.underlying35 rfl size35) rfl ⟨some ⟨w.heap.size + 1, 0, none⟩, 1, rfl, hO, ((((Below.refl _ _).alloc (Nat.le_refl _) _).alloc (by simp) _).drew)⟩

/-! ### The function that Expire hands on -/
def dead (now : Int) (p : PI) : Bool := decide (1 ≤ p.un) && decide (p.un ≤ now)
/-- What has been let go so far: how many bytes; the last message of it that was begun. -/
def exS (now : Int) (x : Nat × Option PI) (p : PI) : Nat × Option PI :=
  if dead now p then (if 0 < p.at_ then (x.1 + p.left - 1, some p) else (x.1 + p.left, x.2)) else x
def zeroD : PD := ⟨0, 0, false, false, false, []⟩
def lastD (o : Option PI) : PD := match o with | none => zeroD | some p => restD p
def lastI (o : Option PI) : Nat := match o with | none => 0 | some p => p.id
/-- The variables that it holds: the moment, the piece, its number, whether there is one, how many bytes are gone. -/
structure Bx (w : World) (b0 : Nat) (now : Int) (x : Nat × Option PI) : Prop where
  t : Blk w b0 2 #[.int .i64 now]
  d : ∃ A n c, Blk w (b0 + 1) 35 ((lastD x.2).cs A n c) ∧ w.ownsRow (b0 + 5) 5 1 (.slice A n c) n (bs (lastD x.2).xs)
  i : Blk w (b0 + 2) 3 #[.int .i64 (lastI x.2)]
  s : Blk w (b0 + 3) 4 #[.bool x.2.isSome]
  g : Blk w (b0 + 4) 3 #[.int .i64 x.1]
/-- All stands but those variables. -/
structure Fx (b0 : Nat) (w w' : World) : Prop where
  os : w'.os = w.os
  tape : w'.tape = w.tape
  output : w'.output = w.output
  size : w.heap.size ≤ w'.heap.size
  block : ∀ b, b < w.heap.size → (b ≤ b0 ∨ b0 + 4 < b) → w'.heap[b]? = w.heap[b]?
section
variable {b0 : Nat} {w w' w'' : World}
theorem Fx.refl (b0 : Nat) (w : World) : Fx b0 w w := ⟨rfl, rfl, rfl, Nat.le_refl _, fun _ _ _ => rfl⟩
theorem Fx.trans (h : Fx b0 w w') (k : Fx b0 w' w'') : Fx b0 w w'' :=
  ⟨k.os.trans h.os, k.tape.trans h.tape, k.output.trans h.output, Nat.le_trans h.size k.size, fun b hb hc => (k.block b (Nat.lt_of_lt_of_le hb h.size) hc).trans (h.block b hb hc)⟩
theorem Fx.of_below (h : Below w.heap.size w w') : Fx b0 w w' := ⟨h.os, h.tape, h.output, h.size, fun b hb _ => h.block b hb⟩
theorem Fx.set_ (h : Fx b0 w w') {p : Addr} (hp : b0 < p.block ∧ p.block ≤ b0 + 4) (u : Value) : Fx b0 w (w'.setCell p u) :=
  ⟨h.os, h.tape, h.output, by simpa [World.setCell] using h.size, fun b hb hc => (Below.heap_setCell w' p u b (by omega)).trans (h.block b hb hc)⟩
theorem ItAt.fx {base : Nat} {F : Nat → Prop} {l : Lc} {p : PI} (h : ItAt w base F l p) (hf : Fx b0 w w') (hl : l.b < b0) (hr : ∀ k, (Value.slice l.A p.xs.length l.c).ownBlock = some k → k < b0) : ItAt w' base F l p :=
  h.keep (hf.block _ h.blk.lt (.inl (by omega))) fun k hk => hf.block k (own_lt h.row k hk) (.inl (by have := hr k hk; omega))
end
set_option maxRecDepth 100000 in
set_option maxHeartbeats 1000000 in
/-- It, where the message stays. -/
theorem c28n (base b0 : Nat) (F : Nat → Prop) (l : Lc) (p : PI) (now : Int) (x : Nat × Option PI) (w : World) (h : ItAt w base F l p) (hx : Bx w b0 now x) (hd : dead now p = false) :
    Calls Try.prog 28 #[.pointer (some ⟨l.b, 0, none⟩), .pointer (some ⟨b0, 0, none⟩), .pointer (some ⟨b0 + 4, 0, none⟩), .pointer (some ⟨b0 + 1, 0, none⟩), .pointer (some ⟨b0 + 2, 0, none⟩), .pointer (some ⟨b0 + 3, 0, none⟩)] w fun e w' => e = .returned (.bool false) ∧ ∃ k, w' = w.drewN k := by
  have i4 := it4 h
  have t0 : w.cell? ⟨b0, 0, none⟩ = some (.int .i64 now) := hx.t.cell 0
  clear h hx
  by_cases a : p.un < 1
  · clear hd
    go_enter Try.func28, Try.ntmps28
    go_wp2
    go_quiet (fail)
    go_wp2
    go_ret
    exact ⟨rfl, _, rfl⟩
  · have a' : 1 ≤ p.un := by omega
    have b : now < p.un := by
      simp only [dead, Bool.and_eq_false_iff, decide_eq_false_iff_not] at hd
      omega
    clear hd
    go_enter Try.func28, Try.ntmps28
    go_wp2
    go_quiet (fail)
    go_wp2
    go_ret
    exact ⟨rfl, _, rfl⟩
theorem Bx.keep {w w' : World} {b0 : Nat} {now : Int} {x : Nat × Option PI} (h : Bx w b0 now x) (hk : ∀ b, b < w.heap.size → b0 ≤ b → w'.heap[b]? = w.heap[b]?) : Bx w' b0 now x := by
  obtain ⟨h1, ⟨A, n, c, h2, h3⟩, h4, h5, h6⟩ := h
  exact ⟨(hk _ h1.lt (Nat.le_refl _)).trans h1, ⟨A, n, c, (hk _ h2.lt (by omega)).trans h2, own_keep h3 fun k hv => hk k (own_lt h3 k hv) (by have := own_base h3 k hv; omega)⟩, (hk _ h4.lt (by omega)).trans h4, (hk _ h5.lt (by omega)).trans h5, (hk _ h6.lt (by omega)).trans h6⟩
theorem Bx.below {w w' : World} {b0 : Nat} {now : Int} {x : Nat × Option PI} (h : Bx w b0 now x) (hb : Below w.heap.size w w') : Bx w' b0 now x := h.keep fun b hlt _ => hb.block b hlt
theorem Bx.gset {w : World} {b0 : Nat} {now : Int} {x : Nat × Option PI} (h : Bx w b0 now x) (v : Nat) : Bx (w.setCell ⟨b0 + 4, 0, none⟩ (.int .i64 v)) b0 now (v, x.2) := by
  obtain ⟨h1, ⟨A, n, c, h2, h3⟩, h4, h5, h6⟩ := h
  refine ⟨h1.far (p := ⟨b0 + 4, 0, none⟩) (by show b0 ≠ b0 + 4; omega) _, ⟨A, n, c, h2.far (p := ⟨b0 + 4, 0, none⟩) (by show b0 + 1 ≠ b0 + 4; omega) _, ?_⟩, h4.far (p := ⟨b0 + 4, 0, none⟩) (by show b0 + 2 ≠ b0 + 4; omega) _, h5.far (p := ⟨b0 + 4, 0, none⟩) (by show b0 + 3 ≠ b0 + 4; omega) _, h6.set_ 0 _⟩
  exact own_keep h3 fun k hv => Below.heap_setCell w _ _ k (by have := own_base h3 k hv; show k ≠ b0 + 4; omega)
set_option maxRecDepth 100000 in
set_option maxHeartbeats 1000000 in
/-- It, where the message goes, and was not begun. -/
theorem c28d (base b0 : Nat) (F : Nat → Prop) (l : Lc) (p : PI) (now : Int) (x : Nat × Option PI) (w : World) (h : ItAt w base F l p) (hx : Bx w b0 now x) (hd : dead now p = true) (hx1 : x.1 ≤ 4611686018427387904) (ha : p.at_ = 0) (hn : p.xs.length ≤ 1048576) (hl : l.b < b0) :
    Calls Try.prog 28 #[.pointer (some ⟨l.b, 0, none⟩), .pointer (some ⟨b0, 0, none⟩), .pointer (some ⟨b0 + 4, 0, none⟩), .pointer (some ⟨b0 + 1, 0, none⟩), .pointer (some ⟨b0 + 2, 0, none⟩), .pointer (some ⟨b0 + 3, 0, none⟩)] w fun e w' => e = .returned (.bool true) ∧ Bx w' b0 now (exS now x p) ∧ Fx b0 w w' := by
  have i4 := it4 h
  have t0 : w.cell? ⟨b0, 0, none⟩ = some (.int .i64 now) := hx.t.cell 0
  have hex : exS now x p = (x.1 + p.left, x.2) := by simp [exS, hd, ha]
  have HX := hide hex
  simp only [dead, Bool.and_eq_true, decide_eq_true_eq] at hd
  obtain ⟨d1, d2⟩ := hd
  have H := hide (And.intro h hx)
  have hlf : p.left ≤ 1048576 := by unfold PI.left; omega
  have hal : p.at_ ≤ p.xs.length := by omega
  clear h hx hex
  go_enter Try.func28, Try.ntmps28
  go_wp2
  go_quiet (fail)
  have H2 : Hid (ItAt (w.drewN nq) base F l p ∧ Bx (w.drewN nq) b0 now x ∧ Fx b0 w (w.drewN nq)) :=
    ⟨(unhide H).1.keep rfl (fun _ _ => rfl), (unhide H).2.below (below_drewN (Below.refl _ _) nq), Fx.of_below (below_drewN (Below.refl _ _) nq)⟩
  generalize w.drewN nq = w1 at *
  clear i4 t0 H
  have g0 : w1.cell? ⟨b0 + 4, 0, none⟩ = some (.int .i64 x.1) := (unhide H2).2.1.g.cell 0
  have gf := (unhide H2).2.1.g.frozen 0
  have e1 : IntKind.i64.wrap ((x.1 : Int) + p.left) = x.1 + p.left := IntWalk.i64_in _ (by omega)
  go_upto_region 3 with fail
  refine wp_regionZ (fun w' => w'.cell? ⟨b0 + 4, 0, none⟩ = some (.int .i64 x.1)) 4 (by kernel_rfl) g0 (fun hHeld => ?_)
  refine anyZ_take (i := 0) (oi := _) (v := ?_) [4] rfl (by kernel_rfl) (fun _ _ _ h => h) (Or.inl ⟨by rfl, ?_⟩) (by assumption) ?_
  rotate_left
  · intro w' hSw
    (try dsimp only at hSw)
    go_simp
    with_reducible rfl
  (try simp only [Act.put, List.setIfInBounds_toArray, List.set_cons_zero, List.set_cons_succ])
  refine anyZ_take (i := 1) (oi := _) (v := ?_) [4] rfl (by kernel_rfl) (fun _ _ _ h => h) (Or.inl ⟨by rfl, ?_⟩) (by assumption) ?_
  rotate_left
  · intro w' hSw
    (try dsimp only at hSw)
    go_simp
    with_reducible rfl
  (try simp only [Act.put, List.setIfInBounds_toArray, List.set_cons_zero, List.set_cons_succ])
  refine anyZ_one (i := 2) (o := _) rfl (by kernel_rfl) (fun K hK => ?_)
  go_simp
  go_at_call 29
  refine (c29 base F l p w1.drew ((unhide H2).1.keep rfl (fun _ _ => rfl)) hal hn).mono ?_
  rintro e w2 ⟨rfl, k, rfl⟩
  refine hK.out _ _ (fun _ => g0) (fun hS1 => ?_)
  have hSx := hS1 (by decide)
  clear hS1 hK K hHeld
  (try simp only [Act.put, List.setIfInBounds_toArray, List.set_cons_zero, List.set_cons_succ])
  refine anyZ_take (i := 3) (oi := _) (v := ?_) [4] rfl (by kernel_rfl) (fun _ _ _ h => h) (Or.inl ⟨by rfl, ?_⟩) (by assumption) ?_
  rotate_left
  · intro w' hSw
    (try dsimp only at hSw)
    go_simp
    with_reducible rfl
  (try simp only [Act.put, List.setIfInBounds_toArray, List.set_cons_zero, List.set_cons_succ])
  refine anyZ_one (i := 4) (o := _) rfl (by kernel_rfl) (fun K hK => ?_)
  have H3 : Hid (ItAt (w1.drew.drewN k) base F l p ∧ Bx (w1.drew.drewN k) b0 now x ∧ Fx b0 w (w1.drew.drewN k)) :=
    ⟨(unhide H2).1.keep rfl (fun _ _ => rfl), (unhide H2).2.1.below (below_drewN (Below.refl _ _).drew k), (unhide H2).2.2.trans (Fx.of_below (below_drewN (Below.refl _ _).drew k))⟩
  have gf2 : (w1.drew.drewN k).frozen? ⟨b0 + 4, 0, none⟩ = false := gf
  generalize w1.drew.drewN k = w3 at *
  clear H2 g0 gf
  go_simp
  refine hK.out _ _ (fun h => absurd rfl h) (fun _ => ?_)
  clear hK K hSx
  refine anyZ_done (by kernel_rfl) ?_
  have H4 : Hid (ItAt (w3.setCell ⟨b0 + 4, 0, none⟩ (.int .i64 ((x.1 : Int) + p.left))) base F l p ∧ Bx (w3.setCell ⟨b0 + 4, 0, none⟩ (.int .i64 ((x.1 : Int) + p.left))) b0 now (x.1 + p.left, x.2) ∧ Fx b0 w (w3.setCell ⟨b0 + 4, 0, none⟩ (.int .i64 ((x.1 : Int) + p.left)))) := by
    obtain ⟨a1, a2, a3⟩ := unhide H3
    have a4 := a2.gset (x.1 + p.left)
    rw [Int.natCast_add] at a4
    exact ⟨a1.far a2.g (by decide) 0 _, a4, a3.set_ (p := ⟨b0 + 4, 0, none⟩) (by simp) _⟩
  go_upto_region 4 with fail
  generalize (w3.setCell ⟨b0 + 4, 0, none⟩ (.int .i64 ((x.1 : Int) + p.left))) = w4 at *
  have i5 := it5 (unhide H4).1
  rw [ha] at i5
  clear gf2
  go_wp2
  go_ret
  rw [unhide HX]
  exact ⟨rfl, (unhide H4).2.1, (unhide H4).2.2⟩
set_option maxRecDepth 100000 in
set_option maxHeartbeats 2000000 in
/-- It, where the message goes, and was begun. -/
theorem c28b (base b0 : Nat) (F : Nat → Prop) (l : Lc) (p : PI) (now : Int) (x : Nat × Option PI) (w : World) (h : ItAt w base F l p) (hx : Bx w b0 now x) (hd : dead now p = true) (hx1 : x.1 ≤ 4611686018427387904) (ha : 0 < p.at_) (hal : p.at_ < p.xs.length) (hbe : base ≤ b0) (hn : p.xs.length ≤ 1048576) (hl : l.b < b0) :
    Calls Try.prog 28 #[.pointer (some ⟨l.b, 0, none⟩), .pointer (some ⟨b0, 0, none⟩), .pointer (some ⟨b0 + 4, 0, none⟩), .pointer (some ⟨b0 + 1, 0, none⟩), .pointer (some ⟨b0 + 2, 0, none⟩), .pointer (some ⟨b0 + 3, 0, none⟩)] w fun e w' => e = .returned (.bool true) ∧ Bx w' b0 now (exS now x p) ∧ Fx b0 w w' := by
  have i4 := it4 h
  have t0 : w.cell? ⟨b0, 0, none⟩ = some (.int .i64 now) := hx.t.cell 0
  have hex : exS now x p = (x.1 + p.left - 1, some p) := by simp [exS, hd, ha]
  have HX := hide hex
  simp only [dead, Bool.and_eq_true, decide_eq_true_eq] at hd
  obtain ⟨d1, d2⟩ := hd
  have H := hide (And.intro h hx)
  have hlf : p.left ≤ 1048576 := by unfold PI.left; omega
  have hlf1 : 1 ≤ p.left := by unfold PI.left; omega
  clear h hx hex
  go_enter Try.func28, Try.ntmps28
  go_wp2
  go_quiet (fail)
  have H2 : Hid (ItAt (w.drewN nq) base F l p ∧ Bx (w.drewN nq) b0 now x ∧ Fx b0 w (w.drewN nq)) :=
    ⟨(unhide H).1.keep rfl (fun _ _ => rfl), (unhide H).2.below (below_drewN (Below.refl _ _) nq), Fx.of_below (below_drewN (Below.refl _ _) nq)⟩
  generalize w.drewN nq = w1 at *
  clear i4 t0 H
  have g0 : w1.cell? ⟨b0 + 4, 0, none⟩ = some (.int .i64 x.1) := (unhide H2).2.1.g.cell 0
  have gf := (unhide H2).2.1.g.frozen 0
  have e1 : IntKind.i64.wrap ((x.1 : Int) + p.left) = x.1 + p.left := IntWalk.i64_in _ (by omega)
  go_upto_region 3 with fail
  refine wp_regionZ (fun w' => w'.cell? ⟨b0 + 4, 0, none⟩ = some (.int .i64 x.1)) 4 (by kernel_rfl) g0 (fun hHeld => ?_)
  refine anyZ_take (i := 0) (oi := _) (v := ?_) [4] rfl (by kernel_rfl) (fun _ _ _ h => h) (Or.inl ⟨by rfl, ?_⟩) (by assumption) ?_
  rotate_left
  · intro w' hSw
    (try dsimp only at hSw)
    go_simp
    with_reducible rfl
  (try simp only [Act.put, List.setIfInBounds_toArray, List.set_cons_zero, List.set_cons_succ])
  refine anyZ_take (i := 1) (oi := _) (v := ?_) [4] rfl (by kernel_rfl) (fun _ _ _ h => h) (Or.inl ⟨by rfl, ?_⟩) (by assumption) ?_
  rotate_left
  · intro w' hSw
    (try dsimp only at hSw)
    go_simp
    with_reducible rfl
  (try simp only [Act.put, List.setIfInBounds_toArray, List.set_cons_zero, List.set_cons_succ])
  refine anyZ_one (i := 2) (o := _) rfl (by kernel_rfl) (fun K hK => ?_)
  go_simp
  go_at_call 29
  refine (c29 base F l p w1.drew ((unhide H2).1.keep rfl (fun _ _ => rfl)) (by omega) hn).mono ?_
  rintro e w2 ⟨rfl, k, rfl⟩
  refine hK.out _ _ (fun _ => g0) (fun hS1 => ?_)
  have hSx := hS1 (by decide)
  clear hS1 hK K hHeld
  (try simp only [Act.put, List.setIfInBounds_toArray, List.set_cons_zero, List.set_cons_succ])
  refine anyZ_take (i := 3) (oi := _) (v := ?_) [4] rfl (by kernel_rfl) (fun _ _ _ h => h) (Or.inl ⟨by rfl, ?_⟩) (by assumption) ?_
  rotate_left
  · intro w' hSw
    (try dsimp only at hSw)
    go_simp
    with_reducible rfl
  (try simp only [Act.put, List.setIfInBounds_toArray, List.set_cons_zero, List.set_cons_succ])
  refine anyZ_one (i := 4) (o := _) rfl (by kernel_rfl) (fun K hK => ?_)
  have H3 : Hid (ItAt (w1.drew.drewN k) base F l p ∧ Bx (w1.drew.drewN k) b0 now x ∧ Fx b0 w (w1.drew.drewN k)) :=
    ⟨(unhide H2).1.keep rfl (fun _ _ => rfl), (unhide H2).2.1.below (below_drewN (Below.refl _ _).drew k), (unhide H2).2.2.trans (Fx.of_below (below_drewN (Below.refl _ _).drew k))⟩
  have gf2 : (w1.drew.drewN k).frozen? ⟨b0 + 4, 0, none⟩ = false := gf
  generalize w1.drew.drewN k = w3 at *
  clear H2 g0 gf
  go_simp
  refine hK.out _ _ (fun h => absurd rfl h) (fun _ => ?_)
  clear hK K hSx
  refine anyZ_done (by kernel_rfl) ?_
  have H4 : Hid (ItAt (w3.setCell ⟨b0 + 4, 0, none⟩ (.int .i64 ((x.1 : Int) + p.left))) base F l p ∧ Bx (w3.setCell ⟨b0 + 4, 0, none⟩ (.int .i64 ((x.1 : Int) + p.left))) b0 now (x.1 + p.left, x.2) ∧ Fx b0 w (w3.setCell ⟨b0 + 4, 0, none⟩ (.int .i64 ((x.1 : Int) + p.left)))) := by
    obtain ⟨a1, a2, a3⟩ := unhide H3
    have a4 := a2.gset (x.1 + p.left)
    rw [Int.natCast_add] at a4
    exact ⟨a1.far a2.g (by decide) 0 _, a4, a3.set_ (p := ⟨b0 + 4, 0, none⟩) (by simp) _⟩
  go_upto_region 4 with fail
  generalize (w3.setCell ⟨b0 + 4, 0, none⟩ (.int .i64 ((x.1 : Int) + p.left))) = w4 at *
  have i5 := it5 (unhide H4).1
  have i3 := it3 (unhide H4).1
  have ha2 : (0 : Int) < p.at_ := by omega
  clear gf2
  obtain ⟨_, ⟨A, n, c, hD, hDo⟩, hI, hS, hG⟩ := (unhide H4).2.1
  have hlt4 : b0 + 4 < w4.heap.size := hG.lt
  clear hD hDo hI hS hG
  go_upto_region 5 with fail
  refine wp_regionZ (fun w' => w'.cell? ⟨l.b, 3, none⟩ = some (.int .i64 p.id)) 8 (by kernel_rfl) i3 (fun hHeld => ?_)
  refine anyZ_take (i := 0) (oi := _) (v := ?_) [8] rfl (by kernel_rfl) (fun _ _ _ h => h) (Or.inl ⟨by rfl, ?_⟩) (by assumption) ?_
  rotate_left
  · intro w' hSw
    (try dsimp only at hSw)
    go_simp
    with_reducible rfl
  (try simp only [Act.put, List.setIfInBounds_toArray, List.set_cons_zero, List.set_cons_succ])
  refine anyZ_take (i := 2) (oi := _) (v := ?_) [8] rfl (by kernel_rfl) (fun _ _ _ h => h) (Or.inl ⟨by rfl, ?_⟩) (by assumption) ?_
  rotate_left
  · intro w' hSw
    (try dsimp only at hSw)
    go_simp
    with_reducible rfl
  (try simp only [Act.put, List.setIfInBounds_toArray, List.set_cons_zero, List.set_cons_succ])
  refine anyZ_take (i := 3) (oi := _) (v := ?_) [8] rfl (by kernel_rfl) (fun _ _ _ h => h) (Or.inl ⟨by rfl, ?_⟩) (by assumption) ?_
  rotate_left
  · intro w' hSw
    (try dsimp only at hSw)
    go_simp
    with_reducible rfl
  (try simp only [Act.put, List.setIfInBounds_toArray, List.set_cons_zero, List.set_cons_succ])
  refine anyZ_take (i := 4) (oi := _) (v := ?_) [8] rfl (by kernel_rfl) (fun _ _ _ h => h) (Or.inl ⟨by rfl, ?_⟩) (by assumption) ?_
  rotate_left
  · intro w' hSw
    (try dsimp only at hSw)
    go_simp
    with_reducible rfl
  (try simp only [Act.put, List.setIfInBounds_toArray, List.set_cons_zero, List.set_cons_succ])
  refine anyZ_take (i := 5) (oi := _) (v := ?_) [8] rfl (by kernel_rfl) (fun _ _ _ h => h) (Or.inl ⟨by rfl, ?_⟩) (by assumption) ?_
  rotate_left
  · intro w' hSw
    (try dsimp only at hSw)
    go_simp
    with_reducible rfl
  (try simp only [Act.put, List.setIfInBounds_toArray, List.set_cons_zero, List.set_cons_succ])
  refine anyZ_one (i := 1) (o := _) rfl (by kernel_rfl) (fun K hK => ?_)
  go_simp
  go_at_call 30
  refine (c30 base F l p w4.drew ((unhide H4).1.keep rfl (fun _ _ => rfl))).mono ?_
  rintro e w5 ⟨A5, c5, rfl, ho5, hb5⟩
  have hb5 : Below w4.heap.size w4 w5 := ⟨hb5.os, hb5.tape, hb5.output, hb5.size, hb5.block⟩
  have ho5 : w5.ownsRow w4.heap.size 5 1 (.slice A5 1 c5) 1 (bs (restD p).xs) := ho5
  have hI5 := (unhide H4).1.below hb5
  have hX5 := (unhide H4).2.1.below hb5
  have hF5 := (unhide H4).2.2.trans (Fx.of_below (b0 := b0) hb5)
  have hs5 := hb5.size
  obtain ⟨_, ⟨A, n, c, hD, hDo⟩, hI, hS, hG⟩ := hX5
  have m0 : w5.cell? ⟨b0 + 1, 0, none⟩ = some (.int .u32 0) := hD.cell 0
  have m1 : w5.cell? ⟨b0 + 1, 1, none⟩ = some (.int .u16 (lastD x.2).st) := hD.cell 1
  have m2 : w5.cell? ⟨b0 + 1, 2, none⟩ = some (.int .u16 (lastD x.2).ssn) := hD.cell 2
  have m3 : w5.cell? ⟨b0 + 1, 3, none⟩ = some (.bool (lastD x.2).un) := hD.cell 3
  have m4 : w5.cell? ⟨b0 + 1, 4, none⟩ = some (.bool (lastD x.2).fi) := hD.cell 4
  have m5 : w5.cell? ⟨b0 + 1, 5, none⟩ = some (.bool (lastD x.2).la) := hD.cell 5
  have m6 : w5.cell? ⟨b0 + 1, 6, none⟩ = some (.slice A n c) := hD.cell 6
  have mf := fun i => hD.frozen i
  have n0 : w5.cell? ⟨b0 + 2, 0, none⟩ = some (.int .i64 (lastI x.2)) := hI.cell 0
  have nf := hI.frozen 0
  have s0 : w5.cell? ⟨b0 + 3, 0, none⟩ = some (.bool x.2.isSome) := hS.cell 0
  have sf := hS.frozen 0
  have HX5 := hide (And.intro hI5 (And.intro hF5 (And.intro hD (And.intro hI (And.intro hS hG)))))
  have hT5 := hide ((unhide H4).2.1.below hb5).t
  have hId5 := it3 hI5
  refine hK.out _ _ (fun _ => hId5) (fun hS1 => ?_)
  have hSx := hS1 (by decide)
  clear hS1 hK K hHeld hI5 hF5 hD hDo hI hS hG H4 H3 i5 i3 hb5
  (try simp only [Act.put, List.setIfInBounds_toArray, List.set_cons_zero, List.set_cons_succ])
  refine anyZ_one (i := 6) (o := _) rfl (by kernel_rfl) (fun K hK => ?_)
  go_simp
  have so : ∀ (W : World) (b i j : Nat) (u : Value), b0 < b → (W.setCell ⟨b, i, none⟩ u).cell? ⟨l.b, j, none⟩ = W.cell? ⟨l.b, j, none⟩ := fun W b i j u hb => World.cell?_setCell_other _ _ _ _ (by intro e; injection e with e1; omega)
  obtain ⟨w6, hw6⟩ : ∃ w6 : World, w6 = ((((((w5.setCell ⟨b0 + 1, 0, none⟩ (.int .u32 0)).setCell ⟨b0 + 1, 1, none⟩ (.int .u16 p.st)).setCell ⟨b0 + 1, 2, none⟩ (.int .u16 p.ssn)).setCell ⟨b0 + 1, 3, none⟩ (.bool (!p.o))).setCell ⟨b0 + 1, 4, none⟩ (.bool false)).setCell ⟨b0 + 1, 5, none⟩ (.bool true)).setCell ⟨b0 + 1, 6, none⟩ (.slice A5 1 c5) := ⟨_, rfl⟩
  rw [← hw6]
  have H6 : ItAt w6 base F l p ∧ Fx b0 w w6 ∧ Blk w6 (b0 + 1) 35 #[.int .u32 0, .int .u16 p.st, .int .u16 p.ssn, .bool (!p.o), .bool false, .bool true, .slice A5 1 c5] ∧ Blk w6 b0 2 #[.int .i64 now] ∧ Blk w6 (b0 + 2) 3 #[.int .i64 (lastI x.2)] ∧ Blk w6 (b0 + 3) 4 #[.bool x.2.isSome] ∧ Blk w6 (b0 + 4) 3 #[.int .i64 ((x.1 + p.left : Nat) : Int)] ∧ w6.ownsRow (b0 + 5) 5 1 (.slice A5 1 c5) 1 (bs (restD p).xs) := by
    obtain ⟨a1, a2, a3, a4, a5, a6⟩ := unhide HX5
    have a7 := unhide hT5
    have step : ∀ (W : World) (i : Nat) (u : Value), (ItAt W base F l p ∧ Fx b0 w W ∧ (∃ cs, Blk W (b0 + 1) 35 cs) ∧ Blk W b0 2 #[.int .i64 now] ∧ Blk W (b0 + 2) 3 #[.int .i64 (lastI x.2)] ∧ Blk W (b0 + 3) 4 #[.bool x.2.isSome] ∧ Blk W (b0 + 4) 3 #[.int .i64 ((x.1 + p.left : Nat) : Int)] ∧ W.ownsRow (b0 + 5) 5 1 (.slice A5 1 c5) 1 (bs (restD p).xs)) →
        (ItAt (W.setCell ⟨b0 + 1, i, none⟩ u) base F l p ∧ Fx b0 w (W.setCell ⟨b0 + 1, i, none⟩ u) ∧ (∃ cs, Blk (W.setCell ⟨b0 + 1, i, none⟩ u) (b0 + 1) 35 cs) ∧ Blk (W.setCell ⟨b0 + 1, i, none⟩ u) b0 2 #[.int .i64 now] ∧ Blk (W.setCell ⟨b0 + 1, i, none⟩ u) (b0 + 2) 3 #[.int .i64 (lastI x.2)] ∧ Blk (W.setCell ⟨b0 + 1, i, none⟩ u) (b0 + 3) 4 #[.bool x.2.isSome] ∧ Blk (W.setCell ⟨b0 + 1, i, none⟩ u) (b0 + 4) 3 #[.int .i64 ((x.1 + p.left : Nat) : Int)] ∧ (W.setCell ⟨b0 + 1, i, none⟩ u).ownsRow (b0 + 5) 5 1 (.slice A5 1 c5) 1 (bs (restD p).xs)) := by
      rintro W i u ⟨h1, h2, ⟨cs, h3⟩, h4, h5, h6, h7, h8⟩
      exact ⟨h1.far h3 (by decide) i u, h2.set_ (p := ⟨b0 + 1, i, none⟩) (by simp) u, ⟨_, h3.set_ i u⟩, h4.far (p := ⟨b0 + 1, i, none⟩) (by show b0 ≠ b0 + 1; omega) u, h5.far (p := ⟨b0 + 1, i, none⟩) (by show b0 + 2 ≠ b0 + 1; omega) u, h6.far (p := ⟨b0 + 1, i, none⟩) (by show b0 + 3 ≠ b0 + 1; omega) u, h7.far (p := ⟨b0 + 1, i, none⟩) (by show b0 + 4 ≠ b0 + 1; omega) u,
        own_keep h8 fun k hv => Below.heap_setCell W _ _ k (by have := own_base h8 k hv; show k ≠ b0 + 1; omega)⟩
    have s0 := step w5 0 (.int .u32 0) ⟨a1, a2, ⟨_, a3⟩, a7, a4, a5, a6, own_weaken ho5 (by omega)⟩
    have s1 := step _ 1 (.int .u16 p.st) s0
    have s2 := step _ 2 (.int .u16 p.ssn) s1
    have s3 := step _ 3 (.bool (!p.o)) s2
    have s4 := step _ 4 (.bool false) s3
    have s5 := step _ 5 (.bool true) s4
    have s6 := step _ 6 (.slice A5 1 c5) s5
    have b1 := ((((((a3.set_ 0 (.int .u32 0)).set_ 1 (.int .u16 p.st)).set_ 2 (.int .u16 p.ssn)).set_ 3 (.bool (!p.o))).set_ 4 (.bool false)).set_ 5 (.bool true)).set_ 6 (.slice A5 1 c5)
    simp only [PD.cs, List.setIfInBounds_toArray, List.set_cons_zero, List.set_cons_succ] at b1
    rw [← hw6] at s6 b1
    exact ⟨s6.1, s6.2.1, b1, s6.2.2.2⟩
  clear hw6 m0 m1 m2 m3 m4 m5 m6 mf n0 nf s0 sf HX5 hT5 hId5 ho5
  have H6' := hide H6
  have hId6 := it3 H6.1
  clear H6
  refine hK.out _ _ (fun _ => hId6) (fun hS1 => ?_)
  have hSx := hS1 (by decide)
  clear hS1 hK K
  have n0 : w6.cell? ⟨b0 + 2, 0, none⟩ = some (.int .i64 (lastI x.2)) := (unhide H6').2.2.2.2.1.cell 0
  have nf := (unhide H6').2.2.2.2.1.frozen 0
  (try simp only [Act.put, List.setIfInBounds_toArray, List.set_cons_zero, List.set_cons_succ])
  refine anyZ_one (i := 7) (o := _) rfl (by kernel_rfl) (fun K hK => ?_)
  go_simp
  have H7 : Hid (ItAt (w6.setCell ⟨b0 + 2, 0, none⟩ (.int .i64 p.id)) base F l p ∧ Fx b0 w (w6.setCell ⟨b0 + 2, 0, none⟩ (.int .i64 p.id)) ∧ Blk (w6.setCell ⟨b0 + 2, 0, none⟩ (.int .i64 p.id)) (b0 + 1) 35 #[.int .u32 0, .int .u16 p.st, .int .u16 p.ssn, .bool (!p.o), .bool false, .bool true, .slice A5 1 c5] ∧ Blk (w6.setCell ⟨b0 + 2, 0, none⟩ (.int .i64 p.id)) b0 2 #[.int .i64 now] ∧ Blk (w6.setCell ⟨b0 + 2, 0, none⟩ (.int .i64 p.id)) (b0 + 2) 3 #[.int .i64 p.id] ∧ Blk (w6.setCell ⟨b0 + 2, 0, none⟩ (.int .i64 p.id)) (b0 + 3) 4 #[.bool x.2.isSome] ∧ Blk (w6.setCell ⟨b0 + 2, 0, none⟩ (.int .i64 p.id)) (b0 + 4) 3 #[.int .i64 ((x.1 + p.left : Nat) : Int)] ∧ (w6.setCell ⟨b0 + 2, 0, none⟩ (.int .i64 p.id)).ownsRow (b0 + 5) 5 1 (.slice A5 1 c5) 1 (bs (restD p).xs)) := by
    obtain ⟨h1, h2, h3, h4, h5, h6, h7, h8⟩ := unhide H6'
    exact ⟨h1.far h5 (by decide) 0 _, h2.set_ (p := ⟨b0 + 2, 0, none⟩) (by simp) _, h3.far (p := ⟨b0 + 2, 0, none⟩) (by show b0 + 1 ≠ b0 + 2; omega) _, h4.far (p := ⟨b0 + 2, 0, none⟩) (by show b0 ≠ b0 + 2; omega) _, h5.set_ 0 _, h6.far (p := ⟨b0 + 2, 0, none⟩) (by show b0 + 3 ≠ b0 + 2; omega) _, h7.far (p := ⟨b0 + 2, 0, none⟩) (by show b0 + 4 ≠ b0 + 2; omega) _,
      own_keep h8 fun k hv => Below.heap_setCell w6 _ _ k (by have := own_base h8 k hv; show k ≠ b0 + 2; omega)⟩
  clear H6'
  have hId7 := it3 (unhide H7).1
  refine hK.out _ _ (fun _ => hId7) (fun hS1 => ?_)
  have hSx := hS1 (by decide)
  clear hS1 hK K n0 nf
  generalize (w6.setCell ⟨b0 + 2, 0, none⟩ (.int .i64 p.id)) = w7 at *
  have n0 : w7.cell? ⟨b0 + 3, 0, none⟩ = some (.bool x.2.isSome) := (unhide H7).2.2.2.2.2.1.cell 0
  have nf := (unhide H7).2.2.2.2.2.1.frozen 0
  (try simp only [Act.put, List.setIfInBounds_toArray, List.set_cons_zero, List.set_cons_succ])
  refine anyZ_one (i := 8) (o := _) rfl (by kernel_rfl) (fun K hK => ?_)
  go_simp
  refine hK.out _ _ (fun h => absurd rfl h) (fun _ => ?_)
  clear hK K
  refine anyZ_done (by kernel_rfl) ?_
  have H8 : Hid (Fx b0 w (w7.setCell ⟨b0 + 3, 0, none⟩ (.bool true)) ∧ Blk (w7.setCell ⟨b0 + 3, 0, none⟩ (.bool true)) (b0 + 1) 35 #[.int .u32 0, .int .u16 p.st, .int .u16 p.ssn, .bool (!p.o), .bool false, .bool true, .slice A5 1 c5] ∧ Bx (w7.setCell ⟨b0 + 3, 0, none⟩ (.bool true)) b0 now (x.1 + p.left, some p)) := by
    obtain ⟨h1, h2, h3, h4, h5, h6, h7, h8⟩ := unhide H7
    have k3 := h3.far (p := ⟨b0 + 3, 0, none⟩) (by show b0 + 1 ≠ b0 + 3; omega) (.bool true)
    exact ⟨h2.set_ (p := ⟨b0 + 3, 0, none⟩) (by simp) _, k3, h4.far (p := ⟨b0 + 3, 0, none⟩) (by show b0 ≠ b0 + 3; omega) _,
      ⟨A5, 1, c5, k3, own_keep h8 fun k hv => Below.heap_setCell w7 _ _ k (by have := own_base h8 k hv; show k ≠ b0 + 3; omega)⟩, h5.far (p := ⟨b0 + 3, 0, none⟩) (by show b0 + 2 ≠ b0 + 3; omega) _, h6.set_ 0 _, h7.far (p := ⟨b0 + 3, 0, none⟩) (by show b0 + 4 ≠ b0 + 3; omega) _⟩
  clear H7 n0 nf
  go_upto_region 6 with fail
  generalize (w7.setCell ⟨b0 + 3, 0, none⟩ (.bool true)) = w8 at *
  have d6 : w8.cell? ⟨b0 + 1, 6, none⟩ = some (.slice A5 1 c5) := (unhide H8).2.1.cell 6
  have g0 : w8.cell? ⟨b0 + 4, 0, none⟩ = some (.int .i64 ((x.1 + p.left : Nat) : Int)) := (unhide H8).2.2.g.cell 0
  have gf := (unhide H8).2.2.g.frozen 0
  have e2 : IntKind.i64.wrap (((x.1 + p.left : Nat) : Int) - 1) = ((x.1 + p.left : Nat) : Int) - 1 := IntWalk.i64_in _ (by omega)
  have H9 : Hid (Bx (w8.setCell ⟨b0 + 4, 0, none⟩ (.int .i64 (((x.1 + p.left : Nat) : Int) - 1))) b0 now (x.1 + p.left - 1, some p) ∧ Fx b0 w (w8.setCell ⟨b0 + 4, 0, none⟩ (.int .i64 (((x.1 + p.left : Nat) : Int) - 1)))) := by
    obtain ⟨h1, _, h2⟩ := unhide H8
    have h3 := h2.gset (x.1 + p.left - 1)
    rw [show ((x.1 + p.left - 1 : Nat) : Int) = ((x.1 + p.left : Nat) : Int) - 1 from by omega] at h3
    exact ⟨h3, h1.set_ (p := ⟨b0 + 4, 0, none⟩) (by simp) _⟩
  clear H8
  go_wp2
  go_ret
  rw [unhide HX]
  exact ⟨rfl, (unhide H9).1, (unhide H9).2⟩
end Go.Proofs.Ytmidnfkmefoleaa.Qe

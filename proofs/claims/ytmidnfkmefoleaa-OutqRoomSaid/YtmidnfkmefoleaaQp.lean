/-
  Contract of Put.
-/
import Derived.Test.YtmidnfkmefoleaaQs
import Derived.Test.YtmidnfkmefoleaaZr
set_option linter.unusedVariables false
set_option linter.unusedSimpArgs false
namespace Go.Proofs.Ytmidnfkmefoleaa.Qp
open Go.RowKit Wd Ra Qm Qs Zr

/-- Why a message is refused: 0: it is not. -/
def why (q : PQ) (st : Int) (n : Nat) (un : Int) : Int :=
  if un < 0 then 1 else if (q.ssn.length : Int) ≤ st then 4 else if n = 0 ∨ q.room < n then 5 else if q.room < q.used + n then 6 else 0
def put (q : PQ) (st : Int) (o : Bool) (xs : List Int) (un : Int) : PQ :=
  { q with its := q.its ++ [⟨st, o, xs, q.many, un, 0, 0⟩], used := q.used + xs.length, many := q.many + 1 }

set_option maxRecDepth 100000 in
set_option maxHeartbeats 1000000 in
/-- Put, where it refuses. -/
theorem c11x (base g s : Nat) (F : Nat → Prop) (q : PQ) (st : Int) (o : Bool) (A : Option Addr) (n c : Nat) (un : Int) (y : Int) (w : World) (h : Qin w base g s F q) (hq : Hid q.Ok) (hy : why q st n un = y) (hne : y ≠ 0) (hn : n ≤ 9223372036854775807) (hs : 0 ≤ st ∧ st ≤ 65535) :
    Calls Try.prog 11 #[.pointer (some ⟨g, 0, none⟩), .agg #[.int .u16 st, .bool o, .slice A n c], .int .i64 un] w fun e w' => e = .returned (.tuple #[.int .i64 0, .int .i64 y]) ∧ Below w.heap.size w w' := by
  obtain ⟨A', c', ls, h⟩ := h
  have hg := h.hd.lt
  have x2 := h.c2
  have x3 := h.c3
  have x4 := h.c4
  clear h
  have hm2 : q.ssn.length ≤ 16 := (unhide hq).ssn2
  have hr2 : q.room ≤ 1048576 := (unhide hq).room2
  have hu2 : q.used ≤ q.room := (unhide hq).used
  unfold why at hy
  generalize q.ssn.length = m at *
  generalize q.room = room at *
  generalize q.used = used at *
  obtain ⟨s0, s1⟩ := hs
  by_cases a : un < 0
  · rw [if_pos a] at hy
    subst hy
    go_enter Try.func11, Try.ntmps11
    go_wp2
    go_ret2
    exact ⟨rfl, (Below.refl _ _).alloc (Nat.le_refl _) _⟩
  · rw [if_neg a] at hy
    have a' : 0 ≤ un := by omega
    by_cases b : (m : Int) ≤ st
    · rw [if_pos b] at hy
      subst hy
      go_enter Try.func11, Try.ntmps11
      go_wp2
      go_quiet (fail)
      go_wp2
      go_ret2
      exact ⟨rfl, below_drewN ((Below.refl _ _).alloc (Nat.le_refl _) _) _⟩
    · rw [if_neg b] at hy
      have b' : st < m := by omega
      by_cases d : n = 0
      · rw [if_pos (.inl d)] at hy
        subst d
        subst hy
        go_enter Try.func11, Try.ntmps11
        go_wp2
        go_quiet (fail)
        go_wp2
        go_quiet (fail)
        go_wp2
        go_ret2
        exact ⟨rfl, below_drewN (below_drewN ((Below.refl _ _).alloc (Nat.le_refl _) _) _) _⟩
      · have d' : ((n : Int) == 0) = false := by rw [beq_eq_false_iff_ne]; omega
        by_cases e : room < n
        · rw [if_pos (.inr e)] at hy
          subst hy
          clear d
          go_enter Try.func11, Try.ntmps11
          go_wp2
          go_quiet (fail)
          go_wp2
          go_quiet (fail)
          go_wp2
          go_ret2
          exact ⟨rfl, below_drewN (below_drewN ((Below.refl _ _).alloc (Nat.le_refl _) _) _) _⟩
        · rw [if_neg (by omega)] at hy
          have e' : n ≤ room := by omega
          by_cases f : room < used + n
          · rw [if_pos f] at hy
            subst hy
            clear d
            have f1 : (room : Int) - used < n := by omega
            have f2 : IntKind.i64.wrap ((room : Int) - used) = room - used := IntWalk.i64_in _ (by omega)
            go_enter Try.func11, Try.ntmps11
            go_wp2
            go_quiet (fail)
            go_wp2
            go_quiet (fail)
            go_wp2
            go_quiet (fail)
            go_wp2
            go_ret2
            exact ⟨rfl, below_drewN (below_drewN (below_drewN ((Below.refl _ _).alloc (Nat.le_refl _) _) _) _) _⟩
          · rw [if_neg f] at hy
            exact absurd hy.symm hne

theorem why_zero {q : PQ} {st un : Int} {n : Nat} (h : why q st n un = 0) : 0 ≤ un ∧ st < q.ssn.length ∧ 0 < n ∧ n ≤ q.room ∧ q.used + n ≤ q.room := by
  unfold why at h
  split at h
  · cases h
  · split at h
    · cases h
    · split at h
      · cases h
      · split at h
        · cases h
        · omega
/-- A pointer more in the row, and the head turned to it. -/
theorem put_row {w w5 : World} {base g s H : Nat} {F : Nat → Prop} {q : PQ} {A : Option Addr} {c : Nat} {ls : List Lc} {st : Int} {o : Bool} {xs : List Int} {un : Int} {A2 : Option Addr} {c2 n b : Nat} {t : TypeId} {cs ics : Array Value} (hics : PI.cs ⟨st, o, xs, q.many, un, 0, 0⟩ ⟨H, A2, c2⟩ = ics) (h : QAt w base g s F q A c ls) (hz : w.heap.size = H)
    (hown : w.ownsRow b 5 1 (.slice A2 n c2) n (bs xs)) (hbb : base ≤ b) (hF : ∀ k, F k → k < b) {v' : Value}
    (hat : At w5 base 67 1 v' (q.its.length + 1) (ptrs ls ++ [.pointer (some ⟨H, 0, none⟩)]))
    (hg : ((w.alloc (.cells ics 69)).alloc (.cells cs t)).grownBy w5 (Value.slice A q.its.length c).ownBlock) :
    Fr base s w w5 ∧ ∃ A' c', v' = .slice A' (q.its.length + 1) c' ∧ Blk w5 g 65 (q.cs s A c) ∧ QAt (w5.setCell ⟨g, 0, none⟩ v') base g s F { q with its := q.its ++ [⟨st, o, xs, q.many, un, 0, 0⟩] } A' c' (ls ++ [⟨H, A2, c2⟩]) ∧ Fr base s w (w5.setCell ⟨g, 0, none⟩ v') := by
  subst hics
  obtain ⟨A', c', rfl, hle, hmx, hnil⟩ := hat.form
  have hrow2 := (h.row.alloc (.cells (PI.cs ⟨st, o, xs, q.many, un, 0, 0⟩ ⟨H, A2, c2⟩) 69)).alloc (.cells cs t)
  have hr : ∀ k, (Value.slice A q.its.length c).ownBlock = some k → ∃ cs' m, ((w.alloc (.cells (PI.cs ⟨st, o, xs, q.many, un, 0, 0⟩ ⟨H, A2, c2⟩) 69)).alloc (.cells cs t)).heap[k]? = some (.cells cs' 67 m) := fun k hk => by
    obtain ⟨_, _, cur, hc⟩ := hrow2.own hk
    exact ⟨_, _, hc⟩
  have hg' : ∀ k t' cs', Blk ((w.alloc (.cells (PI.cs ⟨st, o, xs, q.many, un, 0, 0⟩ ⟨H, A2, c2⟩) 69)).alloc (.cells cs t)) k t' cs' → t' ≠ 67 → Blk w5 k t' cs' := fun k t' cs' hk ht => hk.grown hg fun e => by
    obtain ⟨cs2, m, hc⟩ := hr k e.symm
    unfold Blk at hk
    rw [hc] at hk
    injection hk with hk
    injection hk with _ e2
    exact ht e2.symm
  have hd5 := hg' g 65 _ ((h.hd.alloc (.cells (PI.cs ⟨st, o, xs, q.many, un, 0, 0⟩ ⟨H, A2, c2⟩) 69)).alloc (.cells cs t)) (by decide)
  have hs5 := hg' s 30 _ ((h.sn.alloc (.cells (PI.cs ⟨st, o, xs, q.many, un, 0, 0⟩ ⟨H, A2, c2⟩) 69)).alloc (.cells cs t)) (by decide)
  have hnew := Blk.new w 69 (PI.cs ⟨st, o, xs, q.many, un, 0, 0⟩ ⟨H, A2, c2⟩)
  rw [hz] at hnew
  have hn5 := hg' H 69 _ (hnew.alloc (.cells cs t)) (by decide)
  have hbw : base ≤ w.heap.size := by have := h.bg; have := h.hd.lt; omega
  have f5 : Fr base s w w5 := (((Fr.refl base s w).alloc (.cells (PI.cs ⟨st, o, xs, q.many, un, 0, 0⟩ ⟨H, A2, c2⟩) 69)).alloc (.cells cs t)).grown hg fun k hk => by
    obtain ⟨cs2, m, hc⟩ := hr k hk
    exact ⟨(hrow2.own hk).1, .inr ⟨_, _, _, hc, mine67⟩⟩
  have ho5 : w5.ownsRow b 5 1 (.slice A2 n c2) n (bs xs) := own_keep ((hown.alloc (.cells (PI.cs ⟨st, o, xs, q.many, un, 0, 0⟩ ⟨H, A2, c2⟩) 69)).alloc (.cells cs t)) fun k hk => by
    have hown2 := (hown.alloc (.cells (PI.cs ⟨st, o, xs, q.many, un, 0, 0⟩ ⟨H, A2, c2⟩) 69)).alloc (.cells cs t)
    refine hg.block k (own_lt hown2 k hk) fun e => ?_
    obtain ⟨cs2, m, hc⟩ := hr k e.symm
    obtain ⟨cur, hd⟩ := own_cells hown2 hk
    rw [hc] at hd
    injection hd with hd
    injection hd with _ e2
    cases e2
  refine ⟨f5, A', c', rfl, hd5, hset_ h.bg h.bs hd5 hs5 _ A' c' _ 0 _ ?_ rfl ?_ ?_ ?_ ?_, f5.set_ hd5 h.bg (.inr mine65) 0 _⟩
  · simp [PQ.cs]
  · have e1 : ptrs (ls ++ [⟨H, A2, c2⟩]) = ptrs ls ++ [.pointer (some ⟨H, 0, none⟩)] := by simp [ptrs]
    rw [e1]
    simpa using hat
  · simp [h.len]
  · rw [List.map_append, List.nodup_append]
    refine ⟨h.nod, by simp, fun a ha b' hb' => ?_⟩
    simp at hb'
    subst hb'
    simp only [List.mem_map] at ha
    obtain ⟨l, hl, rfl⟩ := ha
    obtain ⟨i, hi⟩ := List.getElem?_of_mem hl
    have hil := (List.getElem?_eq_some_iff.1 hi).1
    have hp : q.its[i]? = some (q.its[i]'(by have := h.len; omega)) := List.getElem?_eq_getElem _
    have := (h.it i l _ hi hp).blk.lt
    omega
  · intro i l p hl hp
    rw [List.getElem?_append] at hl hp
    have hll := h.len
    split at hl
    · rw [if_pos (by omega)] at hp
      exact (((h.it i l p hl hp).below ((Below.refl _ _).alloc (Nat.le_refl _) _)).below ((Below.refl _ _).alloc (Nat.le_refl _) _)).grown hg hr
    · rw [if_neg (by omega)] at hp
      have e0 : i - ls.length = 0 := by
        rcases Nat.eq_zero_or_pos (i - ls.length) with h0 | h0
        · exact h0
        · rw [List.getElem?_eq_none (by simp only [List.length_cons, List.length_nil]; omega)] at hl
          cases hl
      rw [e0] at hl
      rw [← hll, e0] at hp
      simp at hl hp
      subst hl hp
      have hnl := own_bytes hown
      refine ⟨by simp only; omega, hn5, ?_, fun k hk hf => ?_⟩
      · simp only
        rw [hnl]
        exact own_weaken ho5 hbb
      · simp only at hk
        rw [hnl] at hk
        have := own_base hown k hk
        have := hF k hf
        omega
set_option maxRecDepth 100000 in
set_option maxHeartbeats 2000000 in
/-- Put, where it takes the message. -/
theorem c11 (base g s : Nat) (F : Nat → Prop) (q : PQ) (st : Int) (o : Bool) (A : Option Addr) (n c B : Nat) (un : Int) (xs : List Int) (w : World) (h : Qin w base g s F q) (hq : Hid q.Ok) (hy : why q st n un = 0) (hs : 0 ≤ st ∧ st ≤ 65535) (hu : un ≤ 9223372036854775807)
    (hr : Reads w B 1 A n (bs xs)) (hB : B ≤ w.heap.size) (hnil : A = none → n = 0 ∧ c = 0) (hF : Hid (∀ k, F k → k < w.heap.size)) :
    Calls Try.prog 11 #[.pointer (some ⟨g, 0, none⟩), .agg #[.int .u16 st, .bool o, .slice A n c], .int .i64 un] w fun e w' => e = .returned (.tuple #[.int .i64 q.many, .int .i64 0]) ∧ Qin w' base g s F (put q st o xs un) ∧ Fr base s w w' := by
  obtain ⟨A', c', ls, h⟩ := h
  obtain ⟨y1, y2, y3, y4, y5⟩ := why_zero hy
  have hg := h.hd.lt
  have hbw : base ≤ w.heap.size := by have := h.bg; omega
  have hsl : s < w.heap.size := h.sn.lt
  have x2 := h.c2
  have x3 := h.c3
  have x4 := h.c4
  have hm2 : q.ssn.length ≤ 16 := (unhide hq).ssn2
  have hr2 : q.room ≤ 1048576 := (unhide hq).room2
  have hu2 : q.used ≤ q.room := (unhide hq).used
  have hmany : q.many ≤ 1000000 := (unhide hq).many
  have hlen : q.its.length ≤ q.many := (unhide hq).len
  have HXL : Hid (xs.length = n) := blen_ hr
  have H := hide (And.intro h hr)
  clear h hy hr
  obtain ⟨s0, s1⟩ := hs
  have d' : ((n : Int) == 0) = false := by rw [beq_eq_false_iff_ne]; omega
  have f2 : IntKind.i64.wrap ((q.room : Int) - q.used) = q.room - q.used := IntWalk.i64_in _ (by omega)
  have f1 : (n : Int) ≤ (q.room : Int) - q.used := by omega
  go_enter Try.func11, Try.ntmps11
  go_wp2
  go_quiet (fail)
  revert nq
  intro n1
  go_wp2
  go_quiet (fail)
  revert nq
  intro n2
  go_wp2
  go_quiet (fail)
  obtain ⟨w1, hw1⟩ : ∃ w1 : World, w1 = (((w.alloc (.cells #[.int .u16 st, .bool o, .slice A n c] 32)).drewN n1).drewN n2).drewN nq := ⟨_, rfl⟩
  have hb1 : Below w.heap.size w w1 := by rw [hw1]; exact below_drewN (below_drewN (below_drewN ((Below.refl _ _).alloc (Nat.le_refl _) _) _) _) _
  have hz1 : w1.heap.size = w.heap.size + 1 := by rw [hw1]; simp
  have hm1 : Blk w1 w.heap.size 32 #[.int .u16 st, .bool o, .slice A n c] := by rw [hw1]; exact Blk.new w 32 _
  rw [← hw1]
  clear hw1 x2 x3 x4 f1 f2 d'
  have z0 := hm1.cell 0
  have z1 := hm1.cell 1
  have z2 := hm1.cell 2
  go_wp2_with fail
  refine (c26 A n c B xs w1 (by omega) (by omega) ((unhide H).2.keep (fun p hp => hb1.cell (by omega))) hnil).mono ?_
  rintro e w2 ⟨v, rfl, hown2, hb2⟩
  obtain ⟨A2, c2, rfl, hle2, hn2⟩ := own_slice hown2
  have hm2 := hm1.below hb2 (by omega)
  have hb12 := below_then hb1 hb1.size hb2
  have hs2 := hb2.size
  clear z0 z1 z2 hb1 hm1
  have zf := hm2.frozen 2
  have z2 := hm2.cell 2
  have hm3 := hm2.set_ 2 (.slice A2 n c2)
  have hown3 := own_set (g := w.heap.size) (i := 2) (u := .slice A2 n c2) hown2 (by omega)
  have hb3 := hb12.setCell (p := ⟨w.heap.size, 2, none⟩) (Nat.le_refl _) (.slice A2 n c2)
  go_upto_region 12 with fail
  obtain ⟨w3, hw3⟩ : ∃ w3 : World, w3 = w2.setCell ⟨w.heap.size, 2, none⟩ (.slice A2 n c2) := ⟨_, rfl⟩
  rw [← hw3] at hm3 hown3 hb3 ⊢
  have hs3 : w3.heap.size = w2.heap.size := by rw [hw3]; simp
  clear hw3 z2 zf hm2 hown2 hb2 hb12
  have H3 : Hid (QAt w3 base g s F q A' c' ls ∧ Fr base s w w3 ∧ Blk w3 w.heap.size 32 (#[.int .u16 st, .bool o, .slice A n c].setIfInBounds 2 (.slice A2 n c2)) ∧ w3.ownsRow w1.heap.size 5 1 (.slice A2 n c2) n (bs xs)) :=
    ⟨(unhide H).1.keep (fun b hlt _ => hb3.block b hlt), Fr.of_below hb3, hm3, hown3⟩
  clear hm3 hown3 hb3 H
  have hgl : g < w3.heap.size := by omega
  have hml : w.heap.size < w3.heap.size := by omega
  have x0 := (unhide H3).1.c0
  have x1 := (unhide H3).1.c1
  have z0 : w3.cell? ⟨w.heap.size, 0, none⟩ = some (.int .u16 st) := (unhide H3).2.2.1.cell 0
  have z1 : w3.cell? ⟨w.heap.size, 1, none⟩ = some (.bool o) := (unhide H3).2.2.1.cell 1
  have z2 : w3.cell? ⟨w.heap.size, 2, none⟩ = some (.slice A2 n c2) := (unhide H3).2.2.1.cell 2
  obtain ⟨i0, hi0, hi1, hi2, hi3⟩ := info_parts info67
  have HI : Hid (PI.cs ⟨st, o, xs, q.many, un, 0, 0⟩ ⟨w2.heap.size, A2, c2⟩ = #[.int .u16 st, .bool o, .slice A2 n c2, .int .i64 q.many, .int .i64 un, .int .i64 0, .int .u16 0]) := by
    have e1 := own_bytes (unhide H3).2.2.2
    show _ = _
    rw [← e1]
    rfl
  refine wp_regionZ (fun w' => w'.cell? ⟨g, 0, none⟩ = some (.slice A' q.its.length c') ∧ w'.cell? ⟨g, 1, none⟩ = some (.int .i64 q.many) ∧ w'.cell? ⟨w.heap.size, 0, none⟩ = some (.int .u16 st) ∧ w'.cell? ⟨w.heap.size, 1, none⟩ = some (.bool o) ∧ w'.cell? ⟨w.heap.size, 2, none⟩ = some (.slice A2 n c2)) 17 (by kernel_rfl) ⟨x0, x1, z0, z1, z2⟩ (fun hHeld => ?_)
  refine anyZ_take (i := 0) (oi := _) (v := ?_) [17] rfl (by kernel_rfl) (fun _ _ _ h => h) (Or.inl ⟨by rfl, ?_⟩) (by assumption) ?_
  rotate_left
  · intro w' hSw
    (try dsimp only at hSw)
    go_simp
    with_reducible rfl
  (try simp only [Act.put, List.setIfInBounds_toArray, List.set_cons_zero, List.set_cons_succ])
  refine anyZ_take (i := 1) (oi := _) (v := ?_) [17] rfl (by kernel_rfl) (fun _ _ _ h => h) (Or.inl ⟨by rfl, ?_⟩) (by assumption) ?_
  rotate_left
  · intro w' hSw
    (try dsimp only at hSw)
    go_simp
    with_reducible rfl
  (try simp only [Act.put, List.setIfInBounds_toArray, List.set_cons_zero, List.set_cons_succ])
  refine anyZ_take (i := 2) (oi := _) (v := ?_) [17] rfl (by kernel_rfl) (fun _ _ _ h => h) (Or.inl ⟨by rfl, ?_⟩) (by assumption) ?_
  rotate_left
  · intro w' hSw
    (try dsimp only at hSw)
    go_simp
    with_reducible rfl
  (try simp only [Act.put, List.setIfInBounds_toArray, List.set_cons_zero, List.set_cons_succ])
  refine anyZ_take (i := 3) (oi := _) (v := ?_) [17] rfl (by kernel_rfl) (fun _ _ _ h => h) (Or.inl ⟨by rfl, ?_⟩) (by assumption) ?_
  rotate_left
  · intro w' hSw
    (try dsimp only at hSw)
    go_simp
    with_reducible rfl
  (try simp only [Act.put, List.setIfInBounds_toArray, List.set_cons_zero, List.set_cons_succ])
  refine anyZ_take (i := 4) (oi := _) (v := ?_) [17] rfl (by kernel_rfl) (fun _ _ _ h => h) (Or.inl ⟨by rfl, ?_⟩) (by assumption) ?_
  rotate_left
  · intro w' hSw
    (try dsimp only at hSw)
    go_simp
    with_reducible rfl
  (try simp only [Act.put, List.setIfInBounds_toArray, List.set_cons_zero, List.set_cons_succ])
  refine anyZ_take (i := 5) (oi := _) (v := ?_) [17] rfl (by kernel_rfl) (fun _ _ _ h => h) (Or.inl ⟨by rfl, ?_⟩) (by assumption) ?_
  rotate_left
  · intro w' hSw
    (try dsimp only at hSw)
    go_simp
    with_reducible rfl
  (try simp only [Act.put, List.setIfInBounds_toArray, List.set_cons_zero, List.set_cons_succ])
  refine anyZ_take (i := 6) (oi := _) (v := ?_) [17] rfl (by kernel_rfl) (fun _ _ _ h => h) (Or.inl ⟨by rfl, ?_⟩) (by assumption) ?_
  rotate_left
  · intro w' hSw
    (try dsimp only at hSw)
    go_simp
    with_reducible rfl
  (try simp only [Act.put, List.setIfInBounds_toArray, List.set_cons_zero, List.set_cons_succ])
  refine anyZ_take (i := 7) (oi := _) (v := ?_) [17] rfl (by kernel_rfl) (fun _ _ _ h => h) (Or.inl ⟨by rfl, ?_⟩) (by assumption) ?_
  rotate_left
  · intro w' hSw
    (try dsimp only at hSw)
    go_simp
    with_reducible rfl
  (try simp only [Act.put, List.setIfInBounds_toArray, List.set_cons_zero, List.set_cons_succ])
  refine anyZ_take (i := 8) (oi := _) (v := ?_) [17] rfl (by kernel_rfl) (fun _ _ _ h => h) (Or.inl ⟨by rfl, ?_⟩) (by assumption) ?_
  rotate_left
  · intro w' hSw
    (try dsimp only at hSw)
    go_simp
    with_reducible rfl
  (try simp only [Act.put, List.setIfInBounds_toArray, List.set_cons_zero, List.set_cons_succ])
  refine anyZ_take (i := 9) (oi := _) (v := ?_) [17] rfl (by kernel_rfl) (fun _ _ _ h => h) (Or.inl ⟨by rfl, ?_⟩) (by assumption) ?_
  rotate_left
  · intro w' hSw
    (try dsimp only at hSw)
    go_simp
    with_reducible rfl
  (try simp only [Act.put, List.setIfInBounds_toArray, List.set_cons_zero, List.set_cons_succ])
  refine anyZ_take (i := 10) (oi := _) (v := ?_) [17] rfl (by kernel_rfl) (fun _ _ _ h => h) (Or.inl ⟨by rfl, ?_⟩) (by assumption) ?_
  rotate_left
  · intro w' hSw
    (try dsimp only at hSw)
    go_simp
    with_reducible rfl
  (try simp only [Act.put, List.setIfInBounds_toArray, List.set_cons_zero, List.set_cons_succ])
  refine anyZ_take (i := 11) (oi := _) (v := ?_) [17] rfl (by kernel_rfl) (fun _ _ _ h => h) (Or.inl ⟨by rfl, ?_⟩) (by assumption) ?_
  rotate_left
  · intro w' hSw
    (try dsimp only at hSw)
    go_simp
    with_reducible rfl
  (try simp only [Act.put, List.setIfInBounds_toArray, List.set_cons_zero, List.set_cons_succ])
  refine anyZ_one (i := 12) (o := _) rfl (by kernel_rfl) (fun K hK => ?_)
  go_simp
  refine hK.out _ _ (fun _ => ⟨(World.cell?_alloc_lt w3 _ _ hgl).trans x0, (World.cell?_alloc_lt w3 _ _ hgl).trans x1, (World.cell?_alloc_lt w3 _ _ hml).trans z0, (World.cell?_alloc_lt w3 _ _ hml).trans z1, (World.cell?_alloc_lt w3 _ _ hml).trans z2⟩) (fun hS1 => ?_)
  have hSx := hS1 (by decide)
  clear hS1 hK K hHeld
  (try simp only [Act.put, List.setIfInBounds_toArray, List.set_cons_zero, List.set_cons_succ])
  refine anyZ_one (i := 13) (o := _) rfl (by kernel_rfl) (fun K hK => ?_)
  go_simp
  refine hK.out _ _ (fun _ => ⟨(World.cell?_alloc_lt _ _ _ (by simp; omega)).trans hSx.1, (World.cell?_alloc_lt _ _ _ (by simp; omega)).trans hSx.2.1, (World.cell?_alloc_lt _ _ _ (by simp; omega)).trans hSx.2.2.1, (World.cell?_alloc_lt _ _ _ (by simp; omega)).trans hSx.2.2.2.1, (World.cell?_alloc_lt _ _ _ (by simp; omega)).trans hSx.2.2.2.2⟩) (fun hS1 => ?_)
  have hSy := hS1 (by decide)
  clear hS1 hK K hSx
  (try simp only [Act.put, List.setIfInBounds_toArray, List.set_cons_zero, List.set_cons_succ])
  refine anyZ_one (i := 14) (o := _) rfl (by kernel_rfl) (fun K hK => ?_)
  refine step_append_at _ rfl (.tmp 61) (.tmp 70) _ rfl base 67 i0 _ 1 8 Try.underlying63 hi0 hi1 hi2 hi3 rfl (by omega) (.slice A' q.its.length c') q.its.length (ptrs ls) rfl ((((unhide H3).1.row.alloc _).alloc _).drew) ⟨w2.heap.size + 1, 0, none⟩ 1 1 [.pointer (some ⟨w2.heap.size, 0, none⟩)] rfl rfl ?_ (by intro u hu; simp at hu; subst hu; rfl) (by simp only [maxLen]; omega) (by omega) (by simp; omega) ?_
  · intro j u hu
    have := cell_one_new (w3.alloc (.cells #[.int .u16 st, .bool o, .slice A2 n c2, .int .i64 q.many, .int .i64 un, .int .i64 0, .int .u16 0] 69)) (.pointer (some ⟨w2.heap.size, 0, none⟩)) 67 j u hu
    rw [World.size_alloc, hs3] at this
    exact this
  intro v5 w5 hat5 hg5 hwh5
  have hg5 : ((w3.alloc (.cells #[.int .u16 st, .bool o, .slice A2 n c2, .int .i64 q.many, .int .i64 un, .int .i64 0, .int .u16 0] 69)).alloc (.cells #[.pointer (some ⟨w2.heap.size, 0, none⟩)] 67)).grownBy w5 (Value.slice A' q.its.length c').ownBlock := ⟨hg5.os, hg5.tape, hg5.output, hg5.size, hg5.block⟩
  have hP := put_row (F := F) (st := st) (o := o) (xs := xs) (un := un) (A2 := A2) (c2 := c2) (H := w2.heap.size) (unhide HI) (unhide H3).1 hs3 (unhide H3).2.2.2 (by omega) (fun k hk => by have := unhide hF k hk; omega) hat5 hg5
  obtain ⟨f5, A6, c6, rfl, hd5, hq6, f6⟩ := hP
  have hm5 := blk_fr (unhide H3).2.2.1 f6 (by omega) (not_mine (by decide))
  have hm4 := blk_fr (unhide H3).2.2.1 f5 (by omega) (not_mine (by decide))
  have m0 : w5.cell? ⟨g, 0, none⟩ = some (.slice A' q.its.length c') := hd5.cell 0
  have mf := hd5.frozen 0
  have HQ := hide (And.intro hq6 (And.intro ((unhide H3).2.1.trans f6) hm5))
  refine hK.out _ _ (fun _ => ⟨hd5.cell 0, hd5.cell 1, hm4.cell 0, hm4.cell 1, hm4.cell 2⟩) (fun hS1 => ?_)
  have hSz := hS1 (by decide)
  clear hS1 hK K hSy hat5 hg5 hwh5 hq6 f5 f6 hm4 hm5 hd5 hi0 hi1 hi2 hi3 H3 HI
  (try simp only [Act.put, List.setIfInBounds_toArray, List.set_cons_zero, List.set_cons_succ])
  refine anyZ_take (i := 15) (oi := _) (v := ?_) [16, 17] rfl (by kernel_rfl) (fun _ _ _ h => h) (Or.inl ⟨by rfl, ?_⟩) (by assumption) ?_
  rotate_left
  · intro w' hSw
    (try dsimp only at hSw)
    go_simp
    with_reducible rfl
  (try simp only [Act.put, List.setIfInBounds_toArray, List.set_cons_zero, List.set_cons_succ])
  refine anyZ_take (i := 16) (oi := _) (v := ?_) [17] rfl (by kernel_rfl) (fun _ _ _ h => h) (Or.inl ⟨by rfl, ?_⟩) (by assumption) ?_
  rotate_left
  · intro w' hSw
    (try dsimp only at hSw)
    go_simp
    with_reducible rfl
  (try simp only [Act.put, List.setIfInBounds_toArray, List.set_cons_zero, List.set_cons_succ])
  refine anyZ_one (i := 17) (o := _) rfl (by kernel_rfl) (fun K hK => ?_)
  go_simp
  refine hK.out _ _ (fun h => absurd rfl h) (fun _ => ?_)
  clear hK K hSz
  refine anyZ_done (by kernel_rfl) ?_
  (try simp only [Act.put, List.setIfInBounds_toArray, List.set_cons_zero, List.set_cons_succ])
  obtain ⟨w6, hw6⟩ : ∃ w6 : World, w6 = w5.setCell ⟨g, 0, none⟩ (.slice A6 (q.its.length + 1) c6) := ⟨_, rfl⟩
  rw [← hw6] at HQ ⊢
  clear hw6 m0 mf x0 x1 z0 z1 z2
  have x3 : w6.cell? ⟨g, 3, none⟩ = some (.int .i64 q.used) := (unhide HQ).1.c3
  have xf := (unhide HQ).1.hd.frozen 3
  have z2 : w6.cell? ⟨w.heap.size, 2, none⟩ = some (.slice A2 n c2) := (unhide HQ).2.2.cell 2
  have e1 : IntKind.i64.wrap ((q.used : Int) + n) = q.used + n := IntWalk.i64_in _ (by omega)
  go_wp2
  refine still_tail 8 (by kernel_rfl) (by kernel_rfl) (fun W2 hW => ?_)
  simp only [List.take_succ_cons, List.take_zero, List.drop_succ_cons, List.drop_zero]
  have y3 : W2.cell? ⟨g, 3, none⟩ = some (.int .i64 q.used) := by rw [hW]; exact x3
  have yf : W2.frozen? ⟨g, 3, none⟩ = false := by rw [hW]; exact xf
  have y2 : W2.cell? ⟨w.heap.size, 2, none⟩ = some (.slice A2 n c2) := by rw [hW]; exact z2
  have HQ2 : Hid (QAt W2 base g s F { q with its := q.its ++ [⟨st, o, xs, q.many, un, 0, 0⟩] } A6 c6 (ls ++ [⟨w2.heap.size, A2, c2⟩]) ∧ Fr base s w W2) := by
    rw [hW]
    exact ⟨(unhide HQ).1.keep (fun _ _ _ => rfl), (unhide HQ).2.1.drew⟩
  clear hW x3 xf z2 HQ
  iterate 8 still_step
  refine wpStill_nil ?_
  have HP2 : Hid (QAt (W2.setCell ⟨g, 3, none⟩ (.int .i64 ((q.used : Int) + n))) base g s F { q with its := q.its ++ [⟨st, o, xs, q.many, un, 0, 0⟩], used := q.used + xs.length } A6 c6 (ls ++ [⟨w2.heap.size, A2, c2⟩]) ∧ Fr base s w (W2.setCell ⟨g, 3, none⟩ (.int .i64 ((q.used : Int) + n)))) := by
    obtain ⟨h2, f2⟩ := unhide HQ2
    refine ⟨h2.hput { q with its := q.its ++ [⟨st, o, xs, q.many, un, 0, 0⟩], used := q.used + xs.length } 3 _ ?_ rfl rfl, f2.set_ h2.hd h2.bg (.inr mine65) 3 _⟩
    simp [PQ.cs, unhide HXL]
  clear HQ2
  go_upto_region 14 with fail
  obtain ⟨w7, hw7⟩ : ∃ w7 : World, w7 = W2.setCell ⟨g, 3, none⟩ (.int .i64 ((q.used : Int) + n)) := ⟨_, rfl⟩
  rw [← hw7] at HP2 ⊢
  clear hw7 y3 yf y2
  have x1 : w7.cell? ⟨g, 1, none⟩ = some (.int .i64 q.many) := (unhide HP2).1.c1
  have xf := (unhide HP2).1.hd.frozen 1
  have HP3 : Hid (QAt (w7.setCell ⟨g, 1, none⟩ (.int .i64 ((q.many : Int) + 1))) base g s F (put q st o xs un) A6 c6 (ls ++ [⟨w2.heap.size, A2, c2⟩]) ∧ Fr base s w (w7.setCell ⟨g, 1, none⟩ (.int .i64 ((q.many : Int) + 1)))) := by
    obtain ⟨h2, f2⟩ := unhide HP2
    refine ⟨h2.hput (put q st o xs un) 1 _ ?_ rfl rfl, f2.set_ h2.hd h2.bg (.inr mine65) 1 _⟩
    simp [PQ.cs, put]
  clear HP2
  go_wp2
  go_ret2
  refine ⟨?_, ⟨_, _, _, (unhide HP3).1⟩, (unhide HP3).2⟩
  simp
end Go.Proofs.Ytmidnfkmefoleaa.Qp

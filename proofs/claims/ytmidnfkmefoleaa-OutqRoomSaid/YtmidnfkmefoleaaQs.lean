/-
  Contracts of the queue's small functions.
-/
import Derived.Test.YtmidnfkmefoleaaQm
import Derived.Deep.RegionHeld3
import Derived.IntWalk
set_option linter.unusedVariables false
set_option linter.unusedSimpArgs false
namespace Go.Proofs.Ytmidnfkmefoleaa.Qs
open Go.RowKit Wd Ra Qm

theorem ret_int {k : IntKind} {a b : Int} (h : a = b) : Ending.returned (.int k a) = .returned (.int k b) := by rw [h]

/-- Used. -/
theorem c13 (base g s : Nat) (F : Nat → Prop) (q : PQ) (w : World) (h : Qin w base g s F q) :
    Calls Try.prog 13 #[.pointer (some ⟨g, 0, none⟩)] w fun e w' => e = .returned (.int .i64 q.used) ∧ w = w' := by
  obtain ⟨A, c, ls, h⟩ := h
  have x3 := QAt.c3 h
  clear h
  go_enter Try.func13, Try.ntmps13
  go_wp2
  go_ret
  exact ⟨rfl, rfl⟩
theorem c13n (w : World) : Calls Try.prog 13 #[.pointer none] w fun e w' => e = .returned (.int .i64 0) ∧ w = w' := by
  go_enter Try.func13, Try.ntmps13
  go_wp2
  go_ret
  exact ⟨rfl, rfl⟩
/-- left. -/
theorem c29 (base : Nat) (F : Nat → Prop) (l : Lc) (p : PI) (w : World) (h : ItAt w base F l p) (h1 : p.at_ ≤ p.xs.length) (h2 : p.xs.length ≤ 1048576) :
    Calls Try.prog 29 #[.pointer (some ⟨l.b, 0, none⟩)] w fun e w' => e = .returned (.int .i64 (p.left : Int)) ∧ ∃ k, w' = w.drewN k := by
  have x2 := it2 h
  have x5 := it5 h
  have e1 : ((p.left : Nat) : Int) = (p.xs.length : Int) - (p.at_ : Int) := by unfold PI.left; omega
  have H1 := hide e1
  clear h e1
  generalize p.xs.length = n at *
  generalize p.at_ = a at *
  go_enter Try.func29, Try.ntmps29
  go_wp2
  go_quiet (fail)
  go_wp2
  go_ret
  exact ⟨ret_int (unhide H1).symm, _, rfl⟩
theorem c14n (w : World) : Calls Try.prog 14 #[.pointer none] w fun e w' => e = .returned (.int .i64 0) ∧ w = w' := by
  go_enter Try.func14, Try.ntmps14
  go_wp2
  go_ret
  exact ⟨rfl, rfl⟩
theorem c19n (w : World) : Calls Try.prog 19 #[.pointer none] w fun e w' => e = .returned (.int .i64 0) ∧ w = w' := by
  go_enter Try.func19, Try.ntmps19
  go_wp2
  go_ret
  exact ⟨rfl, rfl⟩
theorem c25n (n : Int) (w : World) : Calls Try.prog 25 #[.pointer none, .int .i64 n] w fun e w' => e = .returned (.tuple #[]) ∧ w = w' := by
  go_enter Try.func25, Try.ntmps25
  go_wp2
  go_end0
  exact ⟨rfl, rfl⟩

def waits (l : List PI) : Nat := (l.map PI.left).sum
theorem waits_next {l : List PI} {k : Nat} {p : PI} (h : l[k]? = some p) : waits (l.take (k + 1)) = waits (l.take k) + p.left := by
  unfold waits
  rw [List.take_add_one, h]
  simp
theorem ok_left {q : PQ} (h : q.Ok) {p : PI} (hp : p ∈ q.its) : p.at_ < p.xs.length ∧ p.xs.length ≤ 1048576 := by
  obtain ⟨_, _, _, _, _, _, _, h8, h9⟩ := h.its p hp
  have := h.room2
  exact ⟨h8, by omega⟩
theorem waits_le {q : PQ} (h : q.Ok) : ∀ k, waits (q.its.take k) ≤ k * 1048576 := by
  intro k
  induction k with
  | zero => simp [waits]
  | succ k ih =>
    rcases Nat.lt_or_ge k q.its.length with h1 | h1
    · have hp : q.its[k]? = some (q.its[k]'h1) := List.getElem?_eq_getElem _
      rw [waits_next hp]
      obtain ⟨h2, h3⟩ := ok_left h (List.mem_of_getElem? hp)
      generalize q.its[k] = p at h2 h3 ⊢
      unfold PI.left
      rw [Nat.add_mul]
      omega
    · have e1 : q.its.take (k + 1) = q.its := List.take_of_length_le (by omega)
      have e2 : q.its.take k = q.its := List.take_of_length_le h1
      rw [e1]
      rw [e2] at ih
      exact Nat.le_trans ih (Nat.mul_le_mul_right _ (Nat.le_succ k))

set_option maxHeartbeats 400000 in
/-- Waiting. -/
theorem c14 (base g s : Nat) (F : Nat → Prop) (q : PQ) (w : World) (h : Qin w base g s F q) (hq : Hid q.Ok) :
    Calls Try.prog 14 #[.pointer (some ⟨g, 0, none⟩)] w fun e w' => e = .returned (.int .i64 (waits q.its : Int)) ∧ ∃ k, w' = w.drewN k := by
  obtain ⟨A, c, ls, h⟩ := h
  have x0 := QAt.c0 h
  have H := hide h
  have hlen : q.its.length ≤ 1000000 := by have := (unhide hq).len; have := (unhide hq).many; omega
  clear h
  obtain ⟨n, hn⟩ : ∃ n, n = q.its.length := ⟨_, rfl⟩
  have HN := hide hn
  rw [← hn] at x0 hlen
  clear hn
  go_enter Try.func14, Try.ntmps14
  go_wp2
  go_loopw [3, 13] (fun t i wr => ∃ (k d v : Nat), k ≤ n ∧ i = .int .i64 k ∧ t = .int .i64 v ∧ v ≤ k * 1048576 ∧ Hid (v = waits (q.its.take k)) ∧ wr = w.drewN d) (fun _ i _ => n - (intOf i).toNat)
  case atStart => exact ⟨0, 0, 0, Nat.zero_le _, rfl, rfl, by omega, by show _ = _; simp [waits], rfl⟩
  case round =>
    obtain ⟨k, d, v, hk, rfl, rfl, hv, hT, rfl⟩ := hrel
    by_cases hlt : k < n
    · obtain ⟨ad, l, p, rfl, _, hp, hcell, hI⟩ := item_at (unhide H) (k := k) (by rw [← unhide HN]; exact hlt)
      obtain ⟨a1, a2⟩ := ok_left (unhide hq) (List.mem_of_getElem? hp)
      have HP := hide (waits_next hp)
      have hI' : ItAt (w.drewN d) base F l p := hI.keep rfl (fun _ _ => rfl)
      have hpl : p.left ≤ 1048576 := by unfold PI.left; omega
      clear hp hI
      go_wp2_with (go_at_call 29; refine (c29 base F l p _ hI' (by omega) a2).mono ?_; rintro e w1 ⟨rfl, d2, rfl⟩)
      go_roundw
      case rel => exact ⟨k + 1, d + d2, v + p.left, by omega, by go_num, by go_num, by omega, by show _ = _; rw [unhide HP, unhide hT], rfl⟩
      case measure => simp [intOf]; omega
    · obtain rfl : k = n := by omega
      go_wp2
      go_ret
      refine ⟨ret_int ?_, d, rfl⟩
      rw [unhide hT, unhide HN, List.take_of_length_le (by omega)]
/-- Size. -/
theorem c19 (base g s : Nat) (F : Nat → Prop) (q : PQ) (w : World) (h : Qin w base g s F q) (hq : Hid q.Ok) :
    Calls Try.prog 19 #[.pointer (some ⟨g, 0, none⟩)] w fun e w' => e = .returned (.int .i64 ((match q.its with | [] => 0 | p :: _ => p.left : Nat) : Int)) ∧ ∃ k, w' = w.drewN k := by
  obtain ⟨A, c, ls, h⟩ := h
  have x0 := QAt.c0 h
  cases hi : q.its with
  | nil =>
    rw [hi] at x0
    clear h
    simp only [List.length_nil] at x0
    go_enter Try.func19, Try.ntmps19
    go_wp2
    go_ret
    exact ⟨rfl, 0, rfl⟩
  | cons p r =>
    have hlen : q.its.length ≤ 1000000 := by have := (unhide hq).len; have := (unhide hq).many; omega
    have hpos : 0 < q.its.length := by rw [hi]; simp
    obtain ⟨ad, l, p', rfl, _, hp, hcell, hI⟩ := item_at h (k := 0) hpos
    obtain rfl : p' = p := by rw [hi] at hp; simpa using hp.symm
    obtain ⟨a1, a2⟩ := ok_left (unhide hq) (List.mem_of_getElem? hp)
    have had : ad.add 0 = ad := by simp [Addr.add]
    rw [had] at hcell
    generalize q.its.length = n at *
    have hnz : ((n : Int) == 0) = false := by rw [beq_eq_false_iff_ne]; omega
    clear h hp hi had
    go_enter Try.func19, Try.ntmps19
    go_wp2_with (go_at_call 29; refine (c29 base F l p' _ hI (by omega) a2).mono ?_; rintro e w1 ⟨rfl, d2, rfl⟩)
    go_ret
    exact ⟨rfl, d2, rfl⟩

theorem info5 : (Try.prog.info? 5).map (fun i => (i.zero, i.size, i.bytes)) = some (some (.int .u8 0), 1, 1) := by kernel_rfl
theorem info30 : (Try.prog.info? 30).map (fun i => (i.zero, i.size, i.bytes)) = some (some (.int .u16 0), 1, 2) := by kernel_rfl
theorem info67 : (Try.prog.info? 67).map (fun i => (i.zero, i.size, i.bytes)) = some (some (.pointer none), 1, 8) := by kernel_rfl
/-- 'slices.Clone' of bytes: nil of nil, else a row of its own. -/
theorem c26 (A : Option Addr) (n c B : Nat) (l : List Int) (w : World) (hn : n ≤ 1000000000) (hB : B ≤ w.heap.size) (h : Reads w B 1 A n (bs l)) (hnil : A = none → n = 0 ∧ c = 0) :
    Calls Try.prog 26 #[.slice A n c] w fun e w' => ∃ v, e = .returned v ∧ w'.ownsRow w.heap.size 5 1 v n (bs l) ∧ Below w.heap.size w w' := by
  obtain ⟨i0, hi0, hz0, hz1, hz2⟩ := info_parts info5
  rcases A with _ | ad
  · obtain ⟨rfl, rfl⟩ := hnil rfl
    have hl : l = [] := List.eq_nil_of_length_eq_zero (blen_ h)
    subst hl
    have k1 := fun W => Lib.run_eql_slice_nil (P := Try.prog) W
    go_enter Try.func26, Try.ntmps26
    go_wp2
    go_ret
    exact ⟨_, rfl, ⟨by simp [bs], .inl ⟨rfl, rfl⟩⟩, Below.refl _ _⟩
  · have k1 := fun W => Lib.run_eql_slice_nil (P := Try.prog) W
    go_enter Try.func26, Try.ntmps26
    go_wp2_with (at_builtin; refine wpList_append_any _ rfl (.tmp 5) (.tmp 6) _ rfl w.heap.size 5 i0 _ 1 1 Try.underlying22 hi0 hz0 hz1 hz2 rfl (by omega) (.slice (some ⟨w.heap.size, 0, none⟩) 0 0) 0 [] rfl (own_empty w _ 5 1 (Nat.le_refl _)) B (some ad) n c (bs l) rfl (h.alloc hB _) (bs_one l) (by simp only [maxLen]; omega) (by omega) (by simp) ?_; intro v1 w1 hown1 hg1 hat1)
    go_ret
    refine ⟨v1, rfl, by simpa using hown1, ?_⟩
    exact below_app ((Below.refl _ _).alloc (Nat.le_refl _) _) (own_empty w _ 5 1 (Nat.le_refl _)) hg1 (by simp)
/-- Free. -/
theorem min_fit (n : Int) (u : Nat) : (u : Int) - min (max n 0) (u : Int) = ((u - n.toNat : Nat) : Int) := by omega
theorem c25 (base g s : Nat) (F : Nat → Prop) (q : PQ) (n : Int) (w : World) (h : Qin w base g s F q) (hq : Hid q.Ok) (n0 : -9223372036854775808 ≤ n) (n1 : n ≤ 9223372036854775807) :
    Calls Try.prog 25 #[.pointer (some ⟨g, 0, none⟩), .int .i64 n] w fun e w' => e = .returned (.tuple #[]) ∧ Qin w' base g s F { q with used := q.used - n.toNat } ∧ Fr base s w w' := by
  obtain ⟨A, c, ls, h⟩ := h
  have x3 := QAt.c3 h
  have hu : q.used ≤ 1048576 := by have := (unhide hq).used; have := (unhide hq).room2; omega
  have H := hide h
  have hfz := h.hd.frozen 3
  clear h
  obtain ⟨u, hu'⟩ : ∃ u, u = q.used := ⟨_, rfl⟩
  rw [← hu'] at hu x3
  have HU := hide hu'
  clear hu'
  go_enter Try.func25, Try.ntmps25
  go_wp2
  refine still_tail 12 (by kernel_rfl) (by kernel_rfl) (fun W2 hW => ?_)
  simp only [List.take_succ_cons, List.take_zero, List.drop_succ_cons, List.drop_zero]
  have y3 : W2.cell? ⟨g, 3, none⟩ = some (.int .i64 u) := by rw [hW]; exact x3
  have yf : W2.frozen? ⟨g, 3, none⟩ = false := by rw [hW]; exact hfz
  have H2 : Hid (QAt W2 base g s F q A c ls ∧ Fr base s w W2) := by
    rw [hW]
    exact ⟨(unhide H).keep (fun _ _ _ => rfl), (Fr.refl _ _ _).drew⟩
  clear hW H x3 hfz
  iterate 12 still_step
  refine wpStill_nil ?_
  have fin : Hid (∀ v : Int, v = ((u - n.toNat : Nat) : Int) → Qin (W2.setCell ⟨g, 3, none⟩ (.int .i64 v)) base g s F { q with used := q.used - n.toNat } ∧ Fr base s w (W2.setCell ⟨g, 3, none⟩ (.int .i64 v))) := fun v hv => by
    obtain ⟨h2, f2⟩ := unhide H2
    refine ⟨⟨A, c, ls, h2.hset { q with used := q.used - n.toNat } A c ls 3 _ ?_ rfl h2.row h2.len h2.nod h2.it⟩, f2.set_ h2.hd h2.bg (.inr mine65) 3 _⟩
    rw [hv, unhide HU]
    rfl
  have e1 : ∀ a : Int, 0 ≤ a → a ≤ u → IntKind.i64.wrap ((u : Int) - a) = u - a := fun a h0 h1 => IntWalk.i64_in _ (by omega)
  go_wp2
  all_goals (go_end0; exact ⟨rfl, unhide fin _ (by omega)⟩)

theorem u16_wrap (x : Int) : IntKind.u16.wrap x = x % 65536 := by simp [IntKind.wrap, IntKind.signed, IntKind.bits]
/-- numbers.next: a stream's number, and one more behind it. -/
theorem c31 (s m : Nat) (k : Nat) (v : Int) (xs : List Int) (w : World) (hs : Blk w s 30 (us xs).toArray) (hl : xs.length = m) (hm : m ≤ 16) (hk : xs[k]? = some v) (h0 : 0 ≤ v) (h1 : v ≤ 65535) :
    Calls Try.prog 31 #[.slice (some ⟨s, 0, none⟩) m m, .int .u16 k] w fun e w' => e = .returned (.int .u16 v) ∧ w' = w.setCell ⟨s, k, none⟩ (.int .u16 ((v + 1) % 65536)) := by
  have hkl : k < m := by rw [← hl]; exact (List.getElem?_eq_some_iff.1 hk).1
  have hc : w.cell? ⟨s, k, none⟩ = some (.int .u16 v) := by
    rw [hs.cell k]
    simp [us, hk]
  have hf := hs.frozen k
  go_enter Try.func31, Try.ntmps31
  go_wp2
  go_ret
  refine ⟨ret_int ?_, ?_⟩
  · rw [u16_wrap, u16_wrap]
    omega
  · rw [u16_wrap]

def fresh (m room : Nat) : PQ := ⟨[], 0, room, 0, List.replicate m 0⟩
theorem fresh_ok (m room : Nat) (hm : 1 ≤ m) (hm2 : m ≤ 16) (hr : 1 ≤ room) (hr2 : room ≤ 1048576) : (fresh m room).Ok :=
  ⟨hr, hr2, Nat.zero_le _, by simpa [fresh] using hm, by simpa [fresh] using hm2, by intro x hx; simp [fresh] at hx; omega, by intro p hp; simp [fresh] at hp, Nat.le_refl _, by simp [fresh]⟩
/-- What stands where the numbers and the head have just been made. -/
theorem fresh_at (w : World) (m room : Nat) : Qin ((w.alloc (.cells (us (List.replicate m 0)).toArray 30)).alloc (.cells ((fresh m room).cs w.heap.size none 0) 65)) w.heap.size (w.heap.size + 1) w.heap.size (fun _ => True) (fresh m room) := by
  refine ⟨none, 0, [], by omega, Nat.le_refl _, ?_, ?_, ?_, rfl, by simp, fun i l p hl => by simp at hl⟩
  · have := Blk.new (w.alloc (.cells (us (List.replicate m 0)).toArray 30)) 65 ((fresh m room).cs w.heap.size none 0)
    rwa [World.size_alloc] at this
  · exact (Blk.new w 30 _).alloc _
  · exact At.nil _ _ _ _
/-- New, where it makes a queue. -/
theorem c10 (m room : Nat) (w : World) (hm : 1 ≤ m) (hm2 : m ≤ 16) (hr : 1 ≤ room) (hr2 : room ≤ 1048576) :
    Calls Try.prog 10 #[.int .i64 m, .int .i64 room] w fun e w' => e = .returned (.tuple #[.pointer (some ⟨w.heap.size + 1, 0, none⟩), .int .i64 0]) ∧ Qin w' w.heap.size (w.heap.size + 1) w.heap.size (fun _ => True) (fresh m room) ∧ Below w.heap.size w w' ∧ w.heap.size + 1 < w'.heap.size := by
  obtain ⟨i0, hi0, hz0, hz1, hz2⟩ := info_parts info30
  have hmk := fun W => run_make_rowN (P := Try.prog) 62 30 i0 _ Try.underlying62 hi0 hz0 .i64 .i64 m m (Nat.le_refl _) (by rw [hz2]; omega) (by omega) W
  have e1 : madeCells (Value.cells (.int .u16 0)) (m * i0.size) = (us (List.replicate m 0)).toArray := by
    rw [hz1, Nat.mul_one]
    apply Array.toList_inj.1
    show (madeCells #[Value.int .u16 0] m).toList = _
    rw [toList_madeCells_one]
    simp [us]
  rw [e1] at hmk
  have hfr := fresh_at w m room
  have e2 : (fresh m room).cs w.heap.size none 0 = #[Value.slice none 0 0, Value.int IntKind.i64 0, Value.int IntKind.i64 room, Value.int IntKind.i64 0, Value.slice (some ⟨w.heap.size, 0, none⟩) m m] := by simp [fresh, PQ.cs]
  rw [e2] at hfr
  have HF := hide hfr
  clear hfr e2
  clear hi0 hz0 hz1 hz2 e1
  go_enter Try.func10, Try.ntmps10
  go_wp2
  go_ret2
  exact ⟨rfl, unhide HF, ((Below.refl _ _).alloc (Nat.le_refl _) _).alloc (by simp) _, by simp⟩
/-- New, where it refuses. -/
theorem c10x (m room : Int) (w : World) (h : m < 1 ∨ 16 < m ∨ room < 1 ∨ 1048576 < room) :
    Calls Try.prog 10 #[.int .i64 m, .int .i64 room] w fun e w' => e = .returned (.tuple #[.pointer none, .int .i64 1]) ∧ w = w' := by
  by_cases a : m < 1
  · clear h
    go_enter Try.func10, Try.ntmps10
    go_wp2
    go_ret2
    exact ⟨rfl, rfl⟩
  · have a' : 1 ≤ m := by omega
    by_cases b : 16 < m
    · clear h
      go_enter Try.func10, Try.ntmps10
      go_wp2
      go_ret2
      exact ⟨rfl, rfl⟩
    · have b' : m ≤ 16 := by omega
      by_cases c : room < 1
      · clear h
        go_enter Try.func10, Try.ntmps10
        go_wp2
        go_ret2
        exact ⟨rfl, rfl⟩
      · have c' : 1 ≤ room := by omega
        have d : 1048576 < room := by omega
        clear h
        go_enter Try.func10, Try.ntmps10
        go_wp2
        go_ret2
        exact ⟨rfl, rfl⟩
end Go.Proofs.Ytmidnfkmefoleaa.Qs

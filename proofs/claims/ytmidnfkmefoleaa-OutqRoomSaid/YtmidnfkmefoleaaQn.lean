/-
  Contract of Next.
-/
import Derived.Test.YtmidnfkmefoleaaQs
import Derived.Test.YtmidnfkmefoleaaZr
set_option linter.unusedVariables false
set_option linter.unusedSimpArgs false
namespace Go.Proofs.Ytmidnfkmefoleaa.Qn
open Go.RowKit Wd Ra Qm Qs Zr

theorem size35 : (Try.prog.info? 35).map (·.size) = some 7 := by kernel_rfl
/-- A piece: what is told of it, and its bytes. -/
structure PD where
  st : Int
  ssn : Int
  un : Bool
  fi : Bool
  la : Bool
  xs : List Int
def PD.cs (d : PD) (A : Option Addr) (n c : Nat) : Array Value := #[.int .u32 0, .int .u16 d.st, .int .u16 d.ssn, .bool d.un, .bool d.fi, .bool d.la, .slice A n c]
/-- Does the front take a number now? -/
def nums (p : PI) : Bool := p.at_ == 0 && p.o
def nxSsn (q : PQ) (p : PI) : Int := if nums p then q.ssn.getD p.st.toNat 0 else p.ssn
def nxNum (q : PQ) (p : PI) : List Int := if nums p then q.ssn.set p.st.toNat ((q.ssn.getD p.st.toNat 0 + 1) % 65536) else q.ssn
def nxLen (p : PI) (most : Nat) : Nat := min most p.left
def nxEnd (p : PI) (most : Nat) : Nat := p.at_ + nxLen p most
def nxLast (p : PI) (most : Nat) : Bool := nxEnd p most == p.xs.length
def nxD (q : PQ) (p : PI) (most : Nat) : PD := ⟨p.st, nxSsn q p, !p.o, p.at_ == 0, nxLast p most, (p.xs.drop p.at_).take (nxLen p most)⟩
def nxI (q : PQ) (p : PI) (most : Nat) : PI := { p with at_ := nxEnd p most, ssn := nxSsn q p }
def nxQ (q : PQ) (p : PI) (r : List PI) (most : Nat) : PQ := { q with ssn := nxNum q p, its := if nxLast p most then r else nxI q p most :: r }

set_option maxHeartbeats 400000 in
/-- Next, where there is none. -/
theorem c15x (base g s : Nat) (F : Nat → Prop) (q : PQ) (most : Int) (w : World) (h : Qin w base g s F q) (hq : Hid q.Ok) (hm : q.its = [] ∨ most < 1) :
    Calls Try.prog 15 #[.pointer (some ⟨g, 0, none⟩), .int .i64 most] w fun e w' => e = .returned (.tuple #[.agg #[.int .u32 0, .int .u16 0, .int .u16 0, .bool false, .bool false, .bool false, .slice none 0 0], .int .i64 0, .bool false]) ∧ Below w.heap.size w w' := by
  obtain ⟨A', c', ls, h⟩ := h
  have hg := h.hd.lt
  have x0 := h.c0
  clear h
  by_cases h0 : q.its = []
  · rw [h0] at x0
    simp only [List.length_nil] at x0
    clear hm
    go_enter Try.func15, Try.ntmps15
    go_wp2
    refine bodyPost_ret (results_ctt (P := Try.prog) Try.results15 _ _ w.heap.size 35 #[.int .u32 0, .int .u16 0, .int .u16 0, .bool false, .bool false, .bool false, .slice none 0 0] _ rfl ?_ Try.underlying35 rfl size35) rfl ?_
    · exact (Blk.new w 35 _)
    · exact ⟨rfl, (Below.refl _ _).alloc (Nat.le_refl _) _⟩
  · have hm : most < 1 := by rcases hm with h | h; exact absurd h h0; exact h
    have hp : 0 < q.its.length := List.length_pos_iff.2 h0
    have hnz : ((q.its.length : Int) == 0) = false := by rw [beq_eq_false_iff_ne]; omega
    go_enter Try.func15, Try.ntmps15
    go_wp2
    refine bodyPost_ret (results_ctt (P := Try.prog) Try.results15 _ _ w.heap.size 35 #[.int .u32 0, .int .u16 0, .int .u16 0, .bool false, .bool false, .bool false, .slice none 0 0] _ rfl ?_ Try.underlying35 rfl size35) rfl ?_
    · exact (Blk.new w 35 _)
    · exact ⟨rfl, (Below.refl _ _).alloc (Nat.le_refl _) _⟩

theorem c31i (s m : Nat) (st v : Int) (xs : List Int) (w : World) (hs : Blk w s 30 (us xs).toArray) (hl : xs.length = m) (hm : m ≤ 16) (hst : 0 ≤ st) (hk : xs[st.toNat]? = some v) (h0 : 0 ≤ v) (h1 : v ≤ 65535) :
    Calls Try.prog 31 #[.slice (some ⟨s, 0, none⟩) m m, .int .u16 st] w fun e w' => e = .returned (.int .u16 v) ∧ w' = w.setCell ⟨s, st.toNat, none⟩ (.int .u16 ((v + 1) % 65536)) := by
  obtain ⟨k, rfl⟩ := Int.eq_ofNat_of_zero_le hst
  exact c31 s m k v xs w hs hl hm hk h0 h1
theorem qat_far {w : World} {base g s : Nat} {F : Nat → Prop} {q : PQ} {A : Option Addr} {c : Nat} {ls : List Lc} (h : QAt w base g s F q A c ls) {k : Nat} {t : TypeId} {cs : Array Value} (hk : Blk w k t cs) (hs : k ≠ s) (ht : ¬ Mine t) (h5 : t ≠ 5) (i : Nat) (u : Value) : QAt (w.setCell ⟨k, i, none⟩ u) base g s F q A c ls := by
  refine h.keep fun b hlt hc => Below.heap_setCell w _ u b ?_
  intro he
  have he : b = k := he
  rw [he] at hc
  rcases hc with hc | ⟨cs', t', m', h1', h2⟩
  · exact hs hc
  · unfold Blk at hk
    rw [hk] at h1'
    injection h1' with h1'
    injection h1' with _ e2
    subst e2
    rcases h2 with h2 | ⟨h2, _⟩
    · exact ht h2
    · exact h5 h2
theorem zero_spell (n : Nat) : ((n : Int) == 0) = (n == 0) := by
  cases n with
  | zero => rfl
  | succ k => rw [beq_eq_false_iff_ne.2 (by omega)]; rfl
set_option maxRecDepth 100000 in
set_option maxHeartbeats 2000000 in
/-- Next, where there is one. -/
theorem c15 (base g s : Nat) (F : Nat → Prop) (q : PQ) (p : PI) (r : List PI) (m : Nat) (w : World) (h : Qin w base g s F q) (hq : Hid q.Ok) (hi : Hid (q.its = p :: r)) (hm : 1 ≤ m) (hm2 : m ≤ 9223372036854775807) :
    Calls Try.prog 15 #[.pointer (some ⟨g, 0, none⟩), .int .i64 m] w fun e w' => ∃ A c, e = .returned (.tuple #[.agg ((nxD q p m).cs A (nxLen p m) c), .int .i64 p.id, .bool true]) ∧ w'.ownsRow w.heap.size 5 1 (.slice A (nxLen p m) c) (nxLen p m) (bs (nxD q p m).xs) ∧
      Qin w' base g s (fun k => F k ∨ w.heap.size ≤ k) (nxQ q p r m) ∧ Fr base s w w' := by
  obtain ⟨A', c', ls, h⟩ := h.free
  have hg := h.hd.lt
  have hbw : base ≤ w.heap.size := by have := h.bg; omega
  have hsl : s < w.heap.size := h.sn.lt
  have hlen : q.its.length ≤ 1000000 := by have := (unhide hq).len; have := (unhide hq).many; omega
  have hpos : 0 < q.its.length := by rw [unhide hi]; simp
  have hnz : ((q.its.length : Int) == 0) = false := by rw [beq_eq_false_iff_ne]; omega
  have x0 := h.c0
  obtain ⟨ad, l, p', rfl, hl0, hp0, hcell, hI⟩ := item_at h (k := 0) hpos
  obtain rfl : p' = p := by rw [unhide hi] at hp0; simpa using hp0.symm
  obtain ⟨pst0, pst1, pxs, pun0, pun1, ps0, ps1, pat, pn⟩ := (unhide hq).its p' (by rw [unhide hi]; simp)
  have hr2 : q.room ≤ 1048576 := (unhide hq).room2
  have had : ad.add 0 = ad := by simp [Addr.add]
  rw [had] at hcell
  have hlb := hI.blk.lt
  have hadb : ad.block < w.heap.size := World.block_lt_of_cell? w _ hcell
  have H := hide (And.intro h (And.intro hl0 (And.intro hp0 pxs)))
  have HB := hide hI.blk
  clear h hI had hl0 hp0 pxs
  generalize hL : q.its.length = L at *
  have HL := hide hL
  clear hL
  go_enter Try.func15, Try.ntmps15
  go_upto_region 4 with fail
  have hIw := (unhide H).1.it 0 l p' (unhide H).2.1 (unhide H).2.2.1
  have i0 := it0 hIw
  have i1 := it1 hIw
  have i5 := it5 hIw
  clear hIw
  refine still_tail 17 (by kernel_rfl) (by kernel_rfl) (fun W2 hW => ?_)
  simp only [List.take_succ_cons, List.take_zero, List.drop_succ_cons, List.drop_zero]
  have j0 : W2.cell? ⟨l.b, 0, none⟩ = some (.int .u16 p'.st) := by rw [hW]; exact (World.cell?_alloc_lt w _ _ hlb).trans i0
  have j1 : W2.cell? ⟨l.b, 1, none⟩ = some (.bool p'.o) := by rw [hW]; exact (World.cell?_alloc_lt w _ _ hlb).trans i1
  have j5 : W2.cell? ⟨l.b, 5, none⟩ = some (.int .i64 p'.at_) := by rw [hW]; exact (World.cell?_alloc_lt w _ _ hlb).trans i5
  have HW := hide hW
  clear hW
  iterate 17 still_step
  refine wpStill_nil ?_
  have hW := unhide HW
  subst hW
  clear j0 j1 j5 HW
  go_upto_region 5 with fail
  have h2 : Hid (QAt (w.alloc (.cells #[.int .u32 0, .int .u16 p'.st, .int .u16 0, .bool (!p'.o), .bool (((p'.at_ : Nat) : Int) == 0), .bool false, .slice none 0 0] 35)).drew base g s (fun k => F k ∨ w.heap.size ≤ k) q (some ad) c' ls ∧ Fr base s w (w.alloc (.cells #[.int .u32 0, .int .u16 p'.st, .int .u16 0, .bool (!p'.o), .bool (((p'.at_ : Nat) : Int) == 0), .bool false, .slice none 0 0] 35)).drew ∧ Blk (w.alloc (.cells #[.int .u32 0, .int .u16 p'.st, .int .u16 0, .bool (!p'.o), .bool (((p'.at_ : Nat) : Int) == 0), .bool false, .slice none 0 0] 35)).drew w.heap.size 35 #[.int .u32 0, .int .u16 p'.st, .int .u16 0, .bool (!p'.o), .bool (((p'.at_ : Nat) : Int) == 0), .bool false, .slice none 0 0]) :=
    ⟨(unhide H).1.keep (fun b hlt _ => Below.heap_alloc w _ b hlt), ((Fr.refl base s w).alloc _).drew, Blk.new w 35 _⟩
  have hz2 : (w.alloc (.cells #[.int .u32 0, .int .u16 p'.st, .int .u16 0, .bool (!p'.o), .bool (((p'.at_ : Nat) : Int) == 0), .bool false, .slice none 0 0] 35)).drew.heap.size = w.heap.size + 1 := by simp
  clear i0 i1 i5
  generalize (w.alloc (.cells #[.int .u32 0, .int .u16 p'.st, .int .u16 0, .bool (!p'.o), .bool (((p'.at_ : Nat) : Int) == 0), .bool false, .slice none 0 0] 35)).drew = w2 at *
  have t4 : w2.cell? ⟨w.heap.size, 4, none⟩ = some (.bool (((p'.at_ : Nat) : Int) == 0)) := (unhide h2).2.2.cell 4
  have hIw := (unhide h2).1.it 0 l p' (unhide H).2.1 (unhide H).2.2.1
  have i0 := it0 hIw
  have i1 := it1 hIw
  have x4 := (unhide h2).1.c4
  have hsw2 : s < w2.heap.size := by omega
  clear hIw
  go_cut [55] (fun s55 wx => s55 = .bool (nums p') ∧ wx = w2)
  case first =>
    by_cases ha : p'.at_ = 0
    · have ha' : (((p'.at_ : Nat) : Int) == 0) = true := by rw [ha]; rfl
      rw [ha'] at t4
      have hn : Hid (nums p' = p'.o) := by show _ = _; simp [nums, ha]
      clear ha ha'
      go_wp2
      go_meet
      exact ⟨by rw [unhide hn], rfl⟩
    · have ha' : (((p'.at_ : Nat) : Int) == 0) = false := by rw [beq_eq_false_iff_ne]; omega
      rw [ha'] at t4
      have hn : Hid (nums p' = false) := by show _ = _; simp [nums, ha]
      clear ha ha'
      go_wp2
      go_meet
      exact ⟨by rw [unhide hn], rfl⟩
  case rest =>
    obtain ⟨rfl, rfl⟩ := hcut
    go_upto_if 55 with fail
    go_cut [] (fun wx => QAt wx base g s (fun k => F k ∨ w.heap.size ≤ k) { q with ssn := nxNum q p', its := q.its.set 0 { p' with ssn := nxSsn q p' } } (some ad) c' ls ∧ Fr base s w wx ∧ Blk wx w.heap.size 35 #[.int .u32 0, .int .u16 p'.st, .int .u16 0, .bool (!p'.o), .bool (((p'.at_ : Nat) : Int) == 0), .bool false, .slice none 0 0])
    case first =>
      cases hn : nums p' with
      | true =>
        go_upto_region 6 with fail
        have hsn := (unhide h2).1.sn
        have hm2 : q.ssn.length ≤ 16 := (unhide hq).ssn2
        have hst : p'.st.toNat < q.ssn.length := by omega
        obtain ⟨v, hv⟩ : ∃ v, q.ssn[p'.st.toNat]? = some v := ⟨_, List.getElem?_eq_getElem hst⟩
        obtain ⟨v0, v1⟩ := (unhide hq).ssn v (List.mem_of_getElem? hv)
        have hIw := (unhide h2).1.it 0 l p' (unhide H).2.1 (unhide H).2.2.1
        have hsg : s ≠ g := blk_ne_blk hsn (unhide h2).1.hd (by decide)
        have hslb : s ≠ l.b := blk_ne_blk hsn hIw.blk (by decide)
        have hVV := hide hv
        have i6 := it6 hIw
        have f6 := hIw.blk.frozen 6
        clear hv hIw
        generalize hN : q.ssn.length = N at *
        have HN := hide hN
        clear hN
        refine wp_regionZ (fun w' => w'.cell? ⟨g, 4, none⟩ = some (.slice (some ⟨s, 0, none⟩) N N) ∧ w'.cell? ⟨l.b, 0, none⟩ = some (.int .u16 p'.st)) 13 (by kernel_rfl) ⟨x4, i0⟩ (fun hHeld => ?_)
        refine anyZ_take (i := 0) (oi := _) (v := ?_) [13] rfl (by kernel_rfl) (fun _ _ _ h => h) (Or.inl ⟨by rfl, ?_⟩) (by assumption) ?_
        rotate_left
        · intro w' hSw
          (try dsimp only at hSw)
          go_simp
          with_reducible rfl
        (try simp only [Act.put, List.setIfInBounds_toArray, List.set_cons_zero, List.set_cons_succ])
        refine anyZ_take (i := 1) (oi := _) (v := ?_) [13] rfl (by kernel_rfl) (fun _ _ _ h => h) (Or.inl ⟨by rfl, ?_⟩) (by assumption) ?_
        rotate_left
        · intro w' hSw
          (try dsimp only at hSw)
          go_simp
          with_reducible rfl
        (try simp only [Act.put, List.setIfInBounds_toArray, List.set_cons_zero, List.set_cons_succ])
        refine anyZ_take (i := 2) (oi := _) (v := ?_) [13] rfl (by kernel_rfl) (fun _ _ _ h => h) (Or.inl ⟨by rfl, ?_⟩) (by assumption) ?_
        rotate_left
        · intro w' hSw
          (try dsimp only at hSw)
          go_simp
          with_reducible rfl
        (try simp only [Act.put, List.setIfInBounds_toArray, List.set_cons_zero, List.set_cons_succ])
        refine anyZ_take (i := 3) (oi := _) (v := ?_) [13] rfl (by kernel_rfl) (fun _ _ _ h => h) (Or.inl ⟨by rfl, ?_⟩) (by assumption) ?_
        rotate_left
        · intro w' hSw
          (try dsimp only at hSw)
          go_simp
          with_reducible rfl
        (try simp only [Act.put, List.setIfInBounds_toArray, List.set_cons_zero, List.set_cons_succ])
        refine anyZ_take (i := 4) (oi := _) (v := ?_) [13] rfl (by kernel_rfl) (fun _ _ _ h => h) (Or.inl ⟨by rfl, ?_⟩) (by assumption) ?_
        rotate_left
        · intro w' hSw
          (try dsimp only at hSw)
          go_simp
          with_reducible rfl
        (try simp only [Act.put, List.setIfInBounds_toArray, List.set_cons_zero, List.set_cons_succ])
        refine anyZ_take (i := 5) (oi := _) (v := ?_) [13] rfl (by kernel_rfl) (fun _ _ _ h => h) (Or.inl ⟨by rfl, ?_⟩) (by assumption) ?_
        rotate_left
        · intro w' hSw
          (try dsimp only at hSw)
          go_simp
          with_reducible rfl
        (try simp only [Act.put, List.setIfInBounds_toArray, List.set_cons_zero, List.set_cons_succ])
        refine anyZ_take (i := 6) (oi := _) (v := ?_) [13] rfl (by kernel_rfl) (fun _ _ _ h => h) (Or.inl ⟨by rfl, ?_⟩) (by assumption) ?_
        rotate_left
        · intro w' hSw
          (try dsimp only at hSw)
          go_simp
          with_reducible rfl
        (try simp only [Act.put, List.setIfInBounds_toArray, List.set_cons_zero, List.set_cons_succ])
        refine anyZ_take (i := 7) (oi := _) (v := ?_) [13] rfl (by kernel_rfl) (fun _ _ _ h => h) (Or.inl ⟨by rfl, ?_⟩) (by assumption) ?_
        rotate_left
        · intro w' hSw
          (try dsimp only at hSw)
          go_simp
          with_reducible rfl
        (try simp only [Act.put, List.setIfInBounds_toArray, List.set_cons_zero, List.set_cons_succ])
        refine anyZ_take (i := 8) (oi := _) (v := ?_) [13] rfl (by kernel_rfl) (fun _ _ _ h => h) (Or.inl ⟨by rfl, ?_⟩) (by assumption) ?_
        rotate_left
        · intro w' hSw
          (try dsimp only at hSw)
          go_simp
          with_reducible rfl
        (try simp only [Act.put, List.setIfInBounds_toArray, List.set_cons_zero, List.set_cons_succ])
        refine anyZ_take (i := 9) (oi := _) (v := ?_) [13] rfl (by kernel_rfl) (fun _ _ _ h => h) (Or.inl ⟨by rfl, ?_⟩) (by assumption) ?_
        rotate_left
        · intro w' hSw
          (try dsimp only at hSw)
          go_simp
          with_reducible rfl
        (try simp only [Act.put, List.setIfInBounds_toArray, List.set_cons_zero, List.set_cons_succ])
        refine anyZ_one (i := 10) (o := _) rfl (by kernel_rfl) (fun K hK => ?_)
        go_simp
        go_at_call 31
        refine (c31i s N p'.st v q.ssn wc.drew hsn.drew (unhide HN) (by omega) (by omega) (unhide hVV) v0 v1).mono ?_
        rintro e w5 ⟨rfl, rfl⟩
        refine hK.out _ _ (fun _ => ⟨?_, ?_⟩) (fun hS1 => ?_)
        · exact (World.cell?_setCell_other _ _ _ _ (by intro e; injection e with e1; exact hsg e1)).trans x4
        · exact (World.cell?_setCell_other _ _ _ _ (by intro e; injection e with e1; exact hslb e1)).trans i0
        have hSx := hS1 (by decide)
        clear hS1 hK K hHeld
        (try simp only [Act.put, List.setIfInBounds_toArray, List.set_cons_zero, List.set_cons_succ])
        refine anyZ_take (i := 11) (oi := _) (v := ?_) [12, 13] rfl (by kernel_rfl) (fun _ _ _ h => h) (Or.inl ⟨by rfl, ?_⟩) (by assumption) ?_
        rotate_left
        · intro w' hSw
          (try dsimp only at hSw)
          go_simp
          with_reducible rfl
        (try simp only [Act.put, List.setIfInBounds_toArray, List.set_cons_zero, List.set_cons_succ])
        refine anyZ_take (i := 12) (oi := _) (v := ?_) [13] rfl (by kernel_rfl) (fun _ _ _ h => h) (Or.inl ⟨by rfl, ?_⟩) (by assumption) ?_
        rotate_left
        · intro w' hSw
          (try dsimp only at hSw)
          go_simp
          with_reducible rfl
        (try simp only [Act.put, List.setIfInBounds_toArray, List.set_cons_zero, List.set_cons_succ])
        refine anyZ_one (i := 13) (o := _) rfl (by kernel_rfl) (fun K hK => ?_)
        go_simp
        refine hK.out _ _ (fun h => absurd rfl h) (fun _ => ?_)
        clear hK K hSx
        refine anyZ_done (by kernel_rfl) ?_
        go_wp2
        go_meet
        have hvv := unhide hVV
        have hgd : q.ssn.getD p'.st.toNat 0 = v := by simp [hvv]
        have e1 : nxSsn q p' = v := by simp only [nxSsn, hn, if_true, hgd]
        have e2 : nxNum q p' = q.ssn.set p'.st.toNat ((v + 1) % 65536) := by simp only [nxNum, hn, if_true, hgd]
        obtain ⟨a1, a2, a3⟩ := unhide h2
        obtain ⟨_, b1, b2, b3⟩ := unhide H
        have q3 := a1.sset p'.st.toNat ((v + 1) % 65536)
        have q4 := q3.iset b1 (p := p') b2 { p' with ssn := v } 6 (.int .u16 v) (by simp [PI.cs]) rfl
        have f3 := a2.set_ a1.sn a1.bs (.inl rfl) p'.st.toNat (.int .u16 ((v + 1) % 65536))
        have hi3 := q3.it 0 l p' b1 b2
        have f4 := f3.set_ hi3.blk hi3.base (.inr mine69) 6 (.int .u16 v)
        have d3 := (a3.far (p := ⟨s, p'.st.toNat, none⟩) (blk_ne_blk a3 a1.sn (by decide)) (.int .u16 ((v + 1) % 65536)))
        have d4 := d3.far (p := ⟨l.b, 6, none⟩) (blk_ne_blk d3 hi3.blk (by decide)) (.int .u16 v)
        rw [e1, e2]
        exact ⟨q4.keep (fun _ _ _ => rfl), f4.drew, d4⟩
      | false =>
        go_wp2
        go_meet
        have e1 : q.its.set 0 { p' with ssn := nxSsn q p' } = q.its := by
          have e2 : ({ p' with ssn := nxSsn q p' } : PI) = p' := by simp [nxSsn, hn]
          rw [e2, unhide hi]
          rfl
        have e3 : nxNum q p' = q.ssn := by simp [nxNum, hn]
        rw [e1, e3]
        exact unhide h2
    case rest =>
      obtain ⟨hq1, hf1, hd1⟩ := hcut
      have hz3 : w.heap.size < wc.heap.size := hd1.lt
      have hp1 : (q.its.set 0 { p' with ssn := nxSsn q p' })[0]? = some { p' with ssn := nxSsn q p' } := by rw [unhide hi]; rfl
      have hI1 := hq1.it 0 l _ (unhide H).2.1 hp1
      have QC : ∀ d, Calls Try.prog 29 #[.pointer (some ⟨l.b, 0, none⟩)] (wc.drewN d) fun e w' => e = .returned (.int .i64 (p'.left : Int)) ∧ ∃ k, w' = (wc.drewN d).drewN k := fun d => c29 base _ l { p' with ssn := nxSsn q p' } (wc.drewN d) (hI1.keep rfl (fun _ _ => rfl)) (by simp only; omega) (by simp only; omega)
      have hQC := hide QC
      have i2 : wc.cell? ⟨l.b, 2, none⟩ = some (.slice l.A p'.xs.length l.c) := by have := it2 hI1; exact this
      have i3 : wc.cell? ⟨l.b, 3, none⟩ = some (.int .i64 p'.id) := by have := it3 hI1; exact this
      have i5 : wc.cell? ⟨l.b, 5, none⟩ = some (.int .i64 p'.at_) := by have := it5 hI1; exact this
      have i6 : wc.cell? ⟨l.b, 6, none⟩ = some (.int .u16 (nxSsn q p')) := by have := it6 hI1; exact this
      have HR := hide (And.intro hq1 (And.intro hf1 (And.intro hd1 hI1)))
      have hlf : p'.left = p'.xs.length - p'.at_ := rfl
      have HE : Hid (nxLen p' m = min m p'.left) := rfl
      clear hq1 hf1 hd1 hI1 hp1 QC
      clear t4 i0 i1 x4 h2
      generalize hn : p'.xs.length = n at *
      generalize ha : p'.at_ = a at *
      generalize hl : p'.left = lf at *
      generalize hsv : nxSsn q p' = sv at *
      have HSV := hide hsv
      clear hsv
      have HH := hide (And.intro hn (And.intro ha hl))
      clear hn ha hl
      obtain ⟨w5, rfl⟩ : ∃ w5 : World, w5 = wc := ⟨_, rfl⟩
      obtain ⟨gb, cb, hv, _, hgb⟩ := (unhide HR).2.2.2.row.form (by simp only; rw [(unhide HH).1]; omega)
      have hrd := Reads.of_own (A := l.A) (c := l.c) (unhide HR).2.2.2.row
      simp only at hv hrd
      have hv' : l.A = some ⟨gb, 0, none⟩ ∧ l.c = cb := by injection hv with h1 h2 h3; exact ⟨h1, h3⟩
      rw [hv'.1, hv'.2] at i2
      rw [hv'.1] at hrd
      have hcb : n ≤ cb := by
        have := own_slice (unhide HR).2.2.2.row
        obtain ⟨_, _, hx, hle, _⟩ := this
        simp only at hx hle
        injection hx with _ _ h3
        have := (unhide HH).1
        omega
      have HV := hide hv'
      clear hv hv'
      obtain ⟨e, he⟩ : ∃ e : Nat, e = a + min m lf := ⟨_, rfl⟩
      have hel : e - a = min m lf := by omega
      have hee : a < e ∧ e ≤ n := by omega
      obtain ⟨hae, hen⟩ := hee
      have HEE := hide (And.intro he hel)
      clear hel
      go_upto_region 7 with fail
      go_cut [8] (fun s8 wx => s8 = .int .i64 e ∧ ∃ k, wx = w5.drewN k)
      case first =>
        by_cases hlast : lf ≤ m
        · have hmn : min m lf = lf := by omega
          rw [hmn] at he
          clear hmn
          go_wp2
          go_quiet ((go_at_call 29; exact Calls.quiet_of (unhide hQC _)))
          go_wp2
          all_goals
            go_meet
            exact ⟨congrArg (Value.int .i64) (by omega), nq, rfl⟩
        · have hl2 : m < lf := by omega
          have hmn : min m lf = m := by omega
          rw [hmn] at he
          clear hlast hmn
          go_wp2
          go_quiet ((go_at_call 29; exact Calls.quiet_of (unhide hQC _)))
          go_wp2
          all_goals
            go_meet
            exact ⟨congrArg (Value.int .i64) (by omega), nq, rfl⟩
      case rest =>
        obtain ⟨rfl, nk, rfl⟩ := hcut
        clear he hQC
        have hrd2 : Reads (w5.drewN nk) w5.heap.size 1 (some ⟨gb, a, none⟩) (e - a) (bs ((p'.xs.drop a).take (e - a))) := by
          have h1 := hrd.cut (k := a) (cap := cb) (by rw [(unhide HH).1]; omega) (by rw [(unhide HH).1]; omega)
          rw [if_neg (by omega), (unhide HH).1] at h1
          have h2 := reads_pre h1 (k := e - a) (by omega)
          simp only [Nat.mul_one, Option.map_some, ← bs_drop, ← bs_take] at h2
          have e9 : (⟨gb, 0, none⟩ : Addr).add a = ⟨gb, a, none⟩ := by unfold Addr.add; split <;> simp_all
          rw [e9] at h2
          exact h2
        have hRD := hide hrd2
        clear hrd hrd2
        have hlb0 : l.b ≠ w.heap.size := by omega
        have t1 := (unhide HR).2.2.1.cell 2
        have hQ5 : Hid (QAt (w5.drewN nk) base g s (fun k => F k ∨ w.heap.size ≤ k) { q with ssn := nxNum q p', its := q.its.set 0 { p' with at_ := a, ssn := sv } } (some ad) c' ls ∧ Fr base s w (w5.drewN nk) ∧ Blk (w5.drewN nk) w.heap.size 35 #[.int .u32 0, .int .u16 p'.st, .int .u16 0, .bool (!p'.o), .bool ((a : Int) == 0), .bool false, .slice none 0 0]) := by
          refine ⟨(unhide HR).1.keep (fun _ _ _ => rfl), (unhide HR).2.1.drewN nk, ?_⟩
          exact (unhide HR).2.2.1
        have hs5 : (w5.drewN nk).heap.size = w5.heap.size := rfl
        have j2 : (w5.drewN nk).cell? ⟨l.b, 2, none⟩ = some (.slice (some ⟨gb, 0, none⟩) n cb) := i2
        have j3 : (w5.drewN nk).cell? ⟨l.b, 3, none⟩ = some (.int .i64 p'.id) := i3
        have j5 : (w5.drewN nk).cell? ⟨l.b, 5, none⟩ = some (.int .i64 a) := i5
        have j6 : (w5.drewN nk).cell? ⟨l.b, 6, none⟩ = some (.int .u16 sv) := i6
        generalize w5.heap.size = b5 at *
        generalize w5.drewN nk = w6 at *
        clear i2 i3 i5 i6 HR t1
        have k1 : e ≤ cb := by omega
        have k2 : a ≤ e := by omega
        have k3 : ¬ cb = a := by omega
        go_upto_region 8 with fail
        refine wp_regionZ (fun w' => w'.cell? ⟨l.b, 6, none⟩ = some (.int .u16 sv) ∧ w'.cell? ⟨l.b, 2, none⟩ = some (.slice (some ⟨gb, 0, none⟩) n cb) ∧ w'.cell? ⟨l.b, 5, none⟩ = some (.int .i64 a)) 29 (by kernel_rfl) ⟨j6, j2, j5⟩ (fun hHeld => ?_)
        refine anyZ_take (i := 0) (oi := _) (v := ?_) [29] rfl (by kernel_rfl) (fun _ _ _ h => h) (Or.inl ⟨by rfl, ?_⟩) (by assumption) ?_
        rotate_left
        · intro w' hSw
          (try dsimp only at hSw)
          go_simp
          with_reducible rfl
        (try simp only [Act.put, List.setIfInBounds_toArray, List.set_cons_zero, List.set_cons_succ])
        refine anyZ_take (i := 1) (oi := _) (v := ?_) [29] rfl (by kernel_rfl) (fun _ _ _ h => h) (Or.inl ⟨by rfl, ?_⟩) (by assumption) ?_
        rotate_left
        · intro w' hSw
          (try dsimp only at hSw)
          go_simp
          with_reducible rfl
        (try simp only [Act.put, List.setIfInBounds_toArray, List.set_cons_zero, List.set_cons_succ])
        refine anyZ_take (i := 2) (oi := _) (v := ?_) [29] rfl (by kernel_rfl) (fun _ _ _ h => h) (Or.inl ⟨by rfl, ?_⟩) (by assumption) ?_
        rotate_left
        · intro w' hSw
          (try dsimp only at hSw)
          go_simp
          with_reducible rfl
        (try simp only [Act.put, List.setIfInBounds_toArray, List.set_cons_zero, List.set_cons_succ])
        refine anyZ_take (i := 3) (oi := _) (v := ?_) [29] rfl (by kernel_rfl) (fun _ _ _ h => h) (Or.inl ⟨by rfl, ?_⟩) (by assumption) ?_
        rotate_left
        · intro w' hSw
          (try dsimp only at hSw)
          go_simp
          with_reducible rfl
        (try simp only [Act.put, List.setIfInBounds_toArray, List.set_cons_zero, List.set_cons_succ])
        refine anyZ_take (i := 4) (oi := _) (v := ?_) [29] rfl (by kernel_rfl) (fun _ _ _ h => h) (Or.inl ⟨by rfl, ?_⟩) (by assumption) ?_
        rotate_left
        · intro w' hSw
          (try dsimp only at hSw)
          go_simp
          with_reducible rfl
        (try simp only [Act.put, List.setIfInBounds_toArray, List.set_cons_zero, List.set_cons_succ])
        refine anyZ_take (i := 5) (oi := _) (v := ?_) [29] rfl (by kernel_rfl) (fun _ _ _ h => h) (Or.inl ⟨by rfl, ?_⟩) (by assumption) ?_
        rotate_left
        · intro w' hSw
          (try dsimp only at hSw)
          go_simp
          with_reducible rfl
        (try simp only [Act.put, List.setIfInBounds_toArray, List.set_cons_zero, List.set_cons_succ])
        refine anyZ_take (i := 6) (oi := _) (v := ?_) [29] rfl (by kernel_rfl) (fun _ _ _ h => h) (Or.inl ⟨by rfl, ?_⟩) (by assumption) ?_
        rotate_left
        · intro w' hSw
          (try dsimp only at hSw)
          go_simp
          with_reducible rfl
        (try simp only [Act.put, List.setIfInBounds_toArray, List.set_cons_zero, List.set_cons_succ])
        refine anyZ_take (i := 7) (oi := _) (v := ?_) [29] rfl (by kernel_rfl) (fun _ _ _ h => h) (Or.inl ⟨by rfl, ?_⟩) (by assumption) ?_
        rotate_left
        · intro w' hSw
          (try dsimp only at hSw)
          go_simp
          with_reducible rfl
        (try simp only [Act.put, List.setIfInBounds_toArray, List.set_cons_zero, List.set_cons_succ])
        refine anyZ_take (i := 8) (oi := _) (v := ?_) [29] rfl (by kernel_rfl) (fun _ _ _ h => h) (Or.inl ⟨by rfl, ?_⟩) (by assumption) ?_
        rotate_left
        · intro w' hSw
          (try dsimp only at hSw)
          go_simp
          with_reducible rfl
        (try simp only [Act.put, List.setIfInBounds_toArray, List.set_cons_zero, List.set_cons_succ])
        refine anyZ_take (i := 9) (oi := _) (v := ?_) [29] rfl (by kernel_rfl) (fun _ _ _ h => h) (Or.inl ⟨by rfl, ?_⟩) (by assumption) ?_
        rotate_left
        · intro w' hSw
          (try dsimp only at hSw)
          go_simp
          with_reducible rfl
        (try simp only [Act.put, List.setIfInBounds_toArray, List.set_cons_zero, List.set_cons_succ])
        refine anyZ_take (i := 10) (oi := _) (v := ?_) [29] rfl (by kernel_rfl) (fun _ _ _ h => h) (Or.inl ⟨by rfl, ?_⟩) (by assumption) ?_
        rotate_left
        · intro w' hSw
          (try dsimp only at hSw)
          go_simp
          with_reducible rfl
        (try simp only [Act.put, List.setIfInBounds_toArray, List.set_cons_zero, List.set_cons_succ])
        refine anyZ_take (i := 11) (oi := _) (v := ?_) [29] rfl (by kernel_rfl) (fun _ _ _ h => h) (Or.inl ⟨by rfl, ?_⟩) (by assumption) ?_
        rotate_left
        · intro w' hSw
          (try dsimp only at hSw)
          go_simp
          with_reducible rfl
        (try simp only [Act.put, List.setIfInBounds_toArray, List.set_cons_zero, List.set_cons_succ])
        refine anyZ_take (i := 12) (oi := _) (v := ?_) [29] rfl (by kernel_rfl) (fun _ _ _ h => h) (Or.inl ⟨by rfl, ?_⟩) (by assumption) ?_
        rotate_left
        · intro w' hSw
          (try dsimp only at hSw)
          go_simp
          with_reducible rfl
        (try simp only [Act.put, List.setIfInBounds_toArray, List.set_cons_zero, List.set_cons_succ])
        refine anyZ_take (i := 13) (oi := _) (v := ?_) [29] rfl (by kernel_rfl) (fun _ _ _ h => h) (Or.inl ⟨by rfl, ?_⟩) (by assumption) ?_
        rotate_left
        · intro w' hSw
          (try dsimp only at hSw)
          go_simp
          with_reducible rfl
        (try simp only [Act.put, List.setIfInBounds_toArray, List.set_cons_zero, List.set_cons_succ])
        refine anyZ_take (i := 14) (oi := _) (v := ?_) [29] rfl (by kernel_rfl) (fun _ _ _ h => h) (Or.inl ⟨by rfl, ?_⟩) (by assumption) ?_
        rotate_left
        · intro w' hSw
          (try dsimp only at hSw)
          go_simp
          with_reducible rfl
        (try simp only [Act.put, List.setIfInBounds_toArray, List.set_cons_zero, List.set_cons_succ])
        refine anyZ_take (i := 16) (oi := _) (v := ?_) [29] rfl (by kernel_rfl) (fun _ _ _ h => h) (Or.inl ⟨by rfl, ?_⟩) (by assumption) ?_
        rotate_left
        · intro w' hSw
          (try dsimp only at hSw)
          go_simp
          with_reducible rfl
        (try simp only [Act.put, List.setIfInBounds_toArray, List.set_cons_zero, List.set_cons_succ])
        refine anyZ_take (i := 17) (oi := _) (v := ?_) [29] rfl (by kernel_rfl) (fun _ _ _ h => h) (Or.inl ⟨by rfl, ?_⟩) (by assumption) ?_
        rotate_left
        · intro w' hSw
          (try dsimp only at hSw)
          go_simp
          with_reducible rfl
        (try simp only [Act.put, List.setIfInBounds_toArray, List.set_cons_zero, List.set_cons_succ])
        refine anyZ_take (i := 18) (oi := _) (v := ?_) [29] rfl (by kernel_rfl) (fun _ _ _ h => h) (Or.inl ⟨by rfl, ?_⟩) (by assumption) ?_
        rotate_left
        · intro w' hSw
          (try dsimp only at hSw)
          go_simp
          with_reducible rfl
        (try simp only [Act.put, List.setIfInBounds_toArray, List.set_cons_zero, List.set_cons_succ])
        refine anyZ_take (i := 19) (oi := _) (v := ?_) [29] rfl (by kernel_rfl) (fun _ _ _ h => h) (Or.inl ⟨by rfl, ?_⟩) (by assumption) ?_
        rotate_left
        · intro w' hSw
          (try dsimp only at hSw)
          go_simp
          with_reducible rfl
        (try simp only [Act.put, List.setIfInBounds_toArray, List.set_cons_zero, List.set_cons_succ])
        refine anyZ_take (i := 20) (oi := _) (v := ?_) [29] rfl (by kernel_rfl) (fun _ _ _ h => h) (Or.inl ⟨by rfl, ?_⟩) (by assumption) ?_
        rotate_left
        · intro w' hSw
          (try dsimp only at hSw)
          go_simp
          with_reducible rfl
        (try simp only [Act.put, List.setIfInBounds_toArray, List.set_cons_zero, List.set_cons_succ])
        refine anyZ_take (i := 21) (oi := _) (v := ?_) [29] rfl (by kernel_rfl) (fun _ _ _ h => h) (Or.inl ⟨by rfl, ?_⟩) (by assumption) ?_
        rotate_left
        · intro w' hSw
          (try dsimp only at hSw)
          go_simp
          with_reducible rfl
        (try simp only [Act.put, List.setIfInBounds_toArray, List.set_cons_zero, List.set_cons_succ])
        refine anyZ_take (i := 22) (oi := _) (v := ?_) [29] rfl (by kernel_rfl) (fun _ _ _ h => h) (Or.inl ⟨by rfl, ?_⟩) (by assumption) ?_
        rotate_left
        · intro w' hSw
          (try dsimp only at hSw)
          go_simp
          with_reducible rfl
        (try simp only [Act.put, List.setIfInBounds_toArray, List.set_cons_zero, List.set_cons_succ])
        refine anyZ_take (i := 23) (oi := _) (v := ?_) [29] rfl (by kernel_rfl) (fun _ _ _ h => h) (Or.inl ⟨by rfl, ?_⟩) (by assumption) ?_
        rotate_left
        · intro w' hSw
          (try dsimp only at hSw)
          go_simp
          with_reducible rfl
        (try simp only [Act.put, List.setIfInBounds_toArray, List.set_cons_zero, List.set_cons_succ])
        refine anyZ_take (i := 24) (oi := _) (v := ?_) [29] rfl (by kernel_rfl) (fun _ _ _ h => h) (Or.inl ⟨by rfl, ?_⟩) (by assumption) ?_
        rotate_left
        · intro w' hSw
          (try dsimp only at hSw)
          go_simp
          with_reducible rfl
        (try simp only [Act.put, List.setIfInBounds_toArray, List.set_cons_zero, List.set_cons_succ])
        refine anyZ_one (i := 15) (o := _) rfl (by kernel_rfl) (fun K hK => ?_)
        go_simp
        go_at_call 26
        refine (c26 (some ⟨gb, a, none⟩) (e - a) (cb - a) b5 ((p'.xs.drop a).take (e - a)) w6.drew (by omega) (by show b5 ≤ w6.heap.size; omega) ((unhide hRD).drew) (fun h => by cases h)).mono ?_
        rintro e9 w7 ⟨v7, rfl, hown7, hb7⟩
        have hb7 : Below w6.heap.size w6 w7 := ⟨hb7.os, hb7.tape, hb7.output, hb7.size, hb7.block⟩
        obtain ⟨A7, c7, rfl, hle7, hnil7⟩ := own_slice hown7
        have hown7 : w7.ownsRow w6.heap.size 5 1 (.slice A7 (e - a) c7) (e - a) (bs ((p'.xs.drop a).take (e - a))) := hown7
        have hlb6 : l.b < w6.heap.size := by omega
        refine hK.out _ _ (fun _ => ⟨(hb7.cell (p := ⟨l.b, 6, none⟩) hlb6).trans j6, (hb7.cell (p := ⟨l.b, 2, none⟩) hlb6).trans j2, (hb7.cell (p := ⟨l.b, 5, none⟩) hlb6).trans j5⟩) (fun hS1 => ?_)
        have hSx := hS1 (by decide)
        clear hS1 hK K hHeld
        have hs7 := hb7.size
        have hd7 := (unhide hQ5).2.2.below hb7 (by omega)
        have m2 := hd7.cell 2
        have m5 := hd7.cell 5
        have m6 := hd7.cell 6
        have n2 := hd7.frozen 2
        have n5 := hd7.frozen 5
        have n6 := hd7.frozen 6
        have SO : Hid (∀ (W : World) (i j : Nat) (u : Value), (W.setCell ⟨w.heap.size, i, none⟩ u).cell? ⟨l.b, j, none⟩ = W.cell? ⟨l.b, j, none⟩) := fun W i j u => World.cell?_setCell_other _ _ _ _ (by intro e; injection e with e1; exact hlb0 (by first | exact e1 | exact e1.symm))
        (try simp only [Act.put, List.setIfInBounds_toArray, List.set_cons_zero, List.set_cons_succ])
        refine anyZ_one (i := 25) (o := _) rfl (by kernel_rfl) (fun K hK => ?_)
        go_simp
        refine hK.out _ _ (fun _ => ⟨(unhide SO _ _ _ _).trans hSx.1, (unhide SO _ _ _ _).trans hSx.2.1, (unhide SO _ _ _ _).trans hSx.2.2⟩) (fun hS1 => ?_)
        have hSy := hS1 (by decide)
        clear hS1 hK K
        (try simp only [Act.put, List.setIfInBounds_toArray, List.set_cons_zero, List.set_cons_succ])
        refine anyZ_take (i := 26) (oi := _) (v := ?_) [29] rfl (by kernel_rfl) (fun _ _ _ h => h) (Or.inl ⟨by rfl, ?_⟩) (by assumption) ?_
        rotate_left
        · intro w' hSw
          (try dsimp only at hSw)
          go_simp
          with_reducible rfl
        (try simp only [Act.put, List.setIfInBounds_toArray, List.set_cons_zero, List.set_cons_succ])
        refine anyZ_one (i := 27) (o := _) rfl (by kernel_rfl) (fun K hK => ?_)
        go_simp
        refine hK.out _ _ (fun _ => ⟨(unhide SO _ _ _ _).trans hSy.1, (unhide SO _ _ _ _).trans hSy.2.1, (unhide SO _ _ _ _).trans hSy.2.2⟩) (fun hS1 => ?_)
        have hSz := hS1 (by decide)
        clear hS1 hK K hSy
        (try simp only [Act.put, List.setIfInBounds_toArray, List.set_cons_zero, List.set_cons_succ])
        refine anyZ_take (i := 28) (oi := _) (v := ?_) [29] rfl (by kernel_rfl) (fun _ _ _ h => h) (Or.inl ⟨by rfl, ?_⟩) (by assumption) ?_
        rotate_left
        · intro w' hSw
          (try dsimp only at hSw)
          go_simp
          with_reducible rfl
        (try simp only [Act.put, List.setIfInBounds_toArray, List.set_cons_zero, List.set_cons_succ])
        refine anyZ_one (i := 29) (o := _) rfl (by kernel_rfl) (fun K hK => ?_)
        go_simp
        refine hK.out _ _ (fun h => absurd rfl h) (fun _ => ?_)
        clear hK K hSx hSz
        refine anyZ_done (by kernel_rfl) ?_
        go_upto_region 9 with fail
        have H8 : Hid (QAt (((w7.setCell ⟨w.heap.size, 2, none⟩ (.int .u16 sv)).setCell ⟨w.heap.size, 6, none⟩ (.slice A7 (e - a) c7)).setCell ⟨w.heap.size, 5, none⟩ (.bool ((e : Int) == n))) base g s (fun k => F k ∨ w.heap.size ≤ k) { q with ssn := nxNum q p', its := q.its.set 0 { p' with at_ := a, ssn := sv } } (some ad) c' ls ∧
            Fr base s w (((w7.setCell ⟨w.heap.size, 2, none⟩ (.int .u16 sv)).setCell ⟨w.heap.size, 6, none⟩ (.slice A7 (e - a) c7)).setCell ⟨w.heap.size, 5, none⟩ (.bool ((e : Int) == n))) ∧
            Blk (((w7.setCell ⟨w.heap.size, 2, none⟩ (.int .u16 sv)).setCell ⟨w.heap.size, 6, none⟩ (.slice A7 (e - a) c7)).setCell ⟨w.heap.size, 5, none⟩ (.bool ((e : Int) == n))) w.heap.size 35 #[.int .u32 0, .int .u16 p'.st, .int .u16 sv, .bool (!p'.o), .bool ((a : Int) == 0), .bool ((e : Int) == n), .slice A7 (e - a) c7] ∧
            (((w7.setCell ⟨w.heap.size, 2, none⟩ (.int .u16 sv)).setCell ⟨w.heap.size, 6, none⟩ (.slice A7 (e - a) c7)).setCell ⟨w.heap.size, 5, none⟩ (.bool ((e : Int) == n))).ownsRow w.heap.size 5 1 (.slice A7 (e - a) c7) (e - a) (bs ((p'.xs.drop a).take (e - a)))) := by
          obtain ⟨a1, a2, a3⟩ := unhide hQ5
          have hne : w.heap.size ≠ s := by omega
          have b1 : QAt w7 base g s (fun k => F k ∨ w.heap.size ≤ k) { q with ssn := nxNum q p', its := q.its.set 0 { p' with at_ := a, ssn := sv } } (some ad) c' ls := a1.keep (fun b hb _ => hb7.block b hb)
          have b2 := a2.trans (Fr.of_below (base := base) (s := s) hb7)
          have c1 := qat_far b1 hd7 hne (not_mine (by decide)) (by decide) 2 (.int .u16 sv)
          have d1 := hd7.set_ 2 (.int .u16 sv)
          have c2 := qat_far c1 d1 hne (not_mine (by decide)) (by decide) 6 (.slice A7 (e - a) c7)
          have d2 := d1.set_ 6 (.slice A7 (e - a) c7)
          have c3 := qat_far c2 d2 hne (not_mine (by decide)) (by decide) 5 (.bool ((e : Int) == n))
          have d3 := d2.set_ 5 (.bool ((e : Int) == n))
          have f3 := ((b2.new (p := ⟨w.heap.size, 2, none⟩) (Nat.le_refl _) (.int .u16 sv)).new (p := ⟨w.heap.size, 6, none⟩) (Nat.le_refl _) (.slice A7 (e - a) c7)).new (p := ⟨w.heap.size, 5, none⟩) (Nat.le_refl _) (.bool ((e : Int) == n))
          have o0 : w7.ownsRow w6.heap.size 5 1 (.slice A7 (e - a) c7) (e - a) (bs ((p'.xs.drop a).take (e - a))) := hown7
          have o3 := own_set (own_set (own_set o0 (g := w.heap.size) (i := 2) (u := .int .u16 sv) (by omega)) (g := w.heap.size) (i := 6) (u := .slice A7 (e - a) c7) (by omega)) (g := w.heap.size) (i := 5) (u := .bool ((e : Int) == n)) (by omega)
          exact ⟨c3, f3, d3, own_weaken o3 (by omega)⟩
        clear hown7 hb7 hd7 m2 m5 m6 n2 n5 n6
        generalize (((w7.setCell ⟨w.heap.size, 2, none⟩ (.int .u16 sv)).setCell ⟨w.heap.size, 6, none⟩ (.slice A7 (e - a) c7)).setCell ⟨w.heap.size, 5, none⟩ (.bool ((e : Int) == n))) = w8 at *
        obtain ⟨p2, hp2⟩ : ∃ p2 : PI, p2 = { p' with at_ := e, ssn := sv } := ⟨_, rfl⟩
        have hpa : Hid ((q.its.set 0 { p' with at_ := a, ssn := sv })[0]? = some { p' with at_ := a, ssn := sv }) := by
          show _ = _
          rw [unhide hi]
          rfl
        have hI8 := (unhide H8).1.it 0 l _ (unhide H).2.1 (unhide hpa)
        have i5 : w8.cell? ⟨l.b, 5, none⟩ = some (.int .i64 a) := by have := it5 hI8; exact this
        have i3 : w8.cell? ⟨l.b, 3, none⟩ = some (.int .i64 p'.id) := by have := it3 hI8; exact this
        have fz5 := hI8.blk.frozen 5
        have H9 : Hid (QAt (w8.setCell ⟨l.b, 5, none⟩ (.int .i64 e)) base g s (fun k => F k ∨ w.heap.size ≤ k) { q with ssn := nxNum q p', its := p2 :: r } (some ad) c' ls ∧
            Fr base s w (w8.setCell ⟨l.b, 5, none⟩ (.int .i64 e)) ∧
            Blk (w8.setCell ⟨l.b, 5, none⟩ (.int .i64 e)) w.heap.size 35 #[.int .u32 0, .int .u16 p'.st, .int .u16 sv, .bool (!p'.o), .bool ((a : Int) == 0), .bool ((e : Int) == n), .slice A7 (e - a) c7] ∧
            (w8.setCell ⟨l.b, 5, none⟩ (.int .i64 e)).ownsRow w.heap.size 5 1 (.slice A7 (e - a) c7) (e - a) (bs ((p'.xs.drop a).take (e - a))) ∧
            (w8.setCell ⟨l.b, 5, none⟩ (.int .i64 e)).cell? ⟨l.b, 3, none⟩ = some (.int .i64 p'.id)) := by
          obtain ⟨a1, a2, a3, a4⟩ := unhide H8
          have b1 := a1.iset (unhide H).2.1 (unhide hpa) p2 5 (.int .i64 e) (by rw [hp2]; simp [PI.cs]) (by rw [hp2])
          have e1 : (q.its.set 0 { p' with at_ := a, ssn := sv }).set 0 p2 = p2 :: r := by rw [unhide hi]; rfl
          simp only [e1] at b1
          refine ⟨b1, a2.set_ hI8.blk hI8.base (.inr mine69) 5 _, a3.far (p := ⟨l.b, 5, none⟩) (Ne.symm hlb0) _, ?_, ?_⟩
          · exact own_keep a4 fun k hk => Below.heap_setCell w8 _ _ k (fun e1 => own_ne_blk a4 hI8.blk (by decide) (by rw [hk]; exact congrArg some e1))
          · exact (World.cell?_setCell_other _ _ _ _ (by intro e; injection e with e1 e2 e3; omega)).trans i3
        clear hI8 hpa
        go_upto_region 10 with fail
        generalize (w8.setCell ⟨l.b, 5, none⟩ (.int .i64 e)) = w9 at *
        clear i5 i3 fz5 H8
        have d5 : w9.cell? ⟨w.heap.size, 5, none⟩ = some (.bool ((e : Int) == n)) := (unhide H9).2.2.1.cell 5
        have y0 : w9.cell? ⟨g, 0, none⟩ = some (.slice (some ad) L c') := by
          have := (unhide H9).1.c0
          have e1 : (p2 :: r).length = L := by rw [← unhide HL, unhide hi]; rfl
          rw [e1] at this
          exact this
        have yf := (unhide H9).1.hd.frozen 0
        have hLc : L ≤ c' := by
          have e1 : (p2 :: r).length = L := by rw [← unhide HL, unhide hi]; rfl
          have := (unhide H9).1.row.form
          obtain ⟨_, _, hx, hle, _⟩ := this
          injection hx with _ h2 h3
          have hle2 : (p2 :: r).length ≤ c' := by
            rw [h3]
            exact hle
          rw [e1] at hle2
          exact hle2
        have hLE : nxLast p' m = (e == n) := by
          have e1 : nxEnd p' m = e := by
            unfold nxEnd
            rw [unhide HE, (unhide HH).2.1]
            exact (unhide HEE).1.symm
          unfold nxLast
          rw [e1, (unhide HH).1]
        have hNI : nxI q p' m = p2 := by
          have e1 : nxEnd p' m = e := by
            unfold nxEnd
            rw [unhide HE, (unhide HH).2.1]
            exact (unhide HEE).1.symm
          rw [hp2]
          unfold nxI
          rw [e1, unhide HSV]
        have HLE := hide (And.intro hLE hNI)
        clear hLE hNI hp2
        go_upto_if 110 with fail
        go_cut [] (fun wx => (∃ A c ls', QAt wx base g s (fun k => F k ∨ w.heap.size ≤ k) (nxQ q p' r m) A c ls') ∧ Fr base s w wx ∧ Blk wx w.heap.size 35 #[.int .u32 0, .int .u16 p'.st, .int .u16 sv, .bool (!p'.o), .bool ((a : Int) == 0), .bool ((e : Int) == n), .slice A7 (e - a) c7] ∧
            wx.ownsRow w.heap.size 5 1 (.slice A7 (e - a) c7) (e - a) (bs ((p'.xs.drop a).take (e - a))) ∧ wx.cell? ⟨l.b, 3, none⟩ = some (.int .i64 p'.id))
        case first =>
          by_cases hen2 : e = n
          · have hb : ((e : Int) == n) = true := by rw [beq_iff_eq, hen2]
            have hLT : Hid (nxLast p' m = true) := by show _ = _; rw [(unhide HLE).1, hen2]; simp
            rw [hb]
            have HB2 := hide hb
            clear hb
            have hl1 : 1 ≤ L := hpos
            have hl2 : 1 ≤ c' := by omega
            have hrl : Hid (r.length = L - 1) := by
              have e1 : (p2 :: r).length = L := by rw [← unhide HL, unhide hi]; rfl
              simp only [List.length_cons] at e1
              show _ = _
              omega
            have hqt : Hid (∃ A c ls', QAt (w9.setCell ⟨g, 0, none⟩ (.slice (if c' = 1 then some ad else (some ad).map (·.add 1)) (L - 1) (c' - 1))) base g s (fun k => F k ∨ w.heap.size ≤ k) (nxQ q p' r m) A c ls') := by
              have ht := (unhide H9).1.tail (p := p2) (r := r) rfl
              rw [unhide hrl] at ht
              have e1 : nxQ q p' r m = { q with ssn := nxNum q p', its := r } := by
                unfold nxQ
                rw [unhide hLT]
                rfl
              rw [e1]
              exact ⟨_, _, _, ht⟩
            have hgo : Hid (∀ u : Value, Fr base s w (w9.setCell ⟨g, 0, none⟩ u) ∧ Blk (w9.setCell ⟨g, 0, none⟩ u) w.heap.size 35 #[.int .u32 0, .int .u16 p'.st, .int .u16 sv, .bool (!p'.o), .bool ((a : Int) == 0), .bool ((e : Int) == n), .slice A7 (e - a) c7] ∧
                (w9.setCell ⟨g, 0, none⟩ u).ownsRow w.heap.size 5 1 (.slice A7 (e - a) c7) (e - a) (bs ((p'.xs.drop a).take (e - a))) ∧ (w9.setCell ⟨g, 0, none⟩ u).cell? ⟨l.b, 3, none⟩ = some (.int .i64 p'.id)) := fun u => by
              obtain ⟨a1, a2, a3, a4, a5⟩ := unhide H9
              have hi9 := a1.it 0 l p2 (unhide H).2.1 rfl
              refine ⟨a2.set_ a1.hd a1.bg (.inr mine65) 0 u, a3.far (p := ⟨g, 0, none⟩) (by show w.heap.size ≠ g; omega) u, ?_, ?_⟩
              · exact own_keep a4 fun k hk => Below.heap_setCell w9 _ _ k (fun e1 => own_ne_blk a4 a1.hd (by decide) (by rw [hk]; exact congrArg some e1))
              · refine (World.cell?_setCell_other _ _ _ _ ?_).trans a5
                intro e
                injection e with e1
                exact blk_ne_blk hi9.blk a1.hd (by decide) (by first | exact e1 | exact e1.symm)
            by_cases hc1 : c' = 1
            · rw [if_pos hc1, show c' - 1 = 0 from by omega] at hqt
              go_wp2
              go_meet
              exact ⟨unhide hqt, unhide hgo _⟩
            · rw [if_neg hc1] at hqt
              go_wp2
              go_meet
              exact ⟨unhide hqt, unhide hgo _⟩
          · have hb : ((e : Int) == n) = false := by rw [beq_eq_false_iff_ne]; omega
            have hLT : Hid (nxLast p' m = false) := by show _ = _; rw [(unhide HLE).1]; simp [hen2]
            rw [hb]
            have HB2 := hide hb
            clear hb
            go_wp2
            go_meet
            obtain ⟨a1, a2, a3, a4, a5⟩ := unhide H9
            refine ⟨⟨some ad, c', ls, ?_⟩, a2, a3, a4, a5⟩
            have e1 : nxQ q p' r m = { q with ssn := nxNum q p', its := p2 :: r } := by
              unfold nxQ
              rw [unhide hLT, (unhide HLE).2]
              rfl
            rw [e1]
            exact a1
        case rest =>
          obtain ⟨hqf, hff, hdf, hof, hid⟩ := hcut
          clear SO H9 d5 y0 yf hQ5 hRD j2 j3 j5 j6
          have z0 : wc.cell? ⟨w.heap.size, 0, none⟩ = some (.int .u32 0) := hdf.cell 0
          have z1 : wc.cell? ⟨w.heap.size, 1, none⟩ = some (.int .u16 p'.st) := hdf.cell 1
          have z2 : wc.cell? ⟨w.heap.size, 2, none⟩ = some (.int .u16 sv) := hdf.cell 2
          have z3 : wc.cell? ⟨w.heap.size, 3, none⟩ = some (.bool (!p'.o)) := hdf.cell 3
          have z4 : wc.cell? ⟨w.heap.size, 4, none⟩ = some (.bool ((a : Int) == 0)) := hdf.cell 4
          have z5 : wc.cell? ⟨w.heap.size, 5, none⟩ = some (.bool ((e : Int) == n)) := hdf.cell 5
          have z6 : wc.cell? ⟨w.heap.size, 6, none⟩ = some (.slice A7 (e - a) c7) := hdf.cell 6
          have zf := fun i => hdf.frozen i
          have HF := hide (And.intro hqf (And.intro hff (And.intro hdf hof)))
          clear hqf hff hdf hof
          go_upto_region 12 with fail
          refine wp_regionZ (fun w' => w'.cell? ⟨w.heap.size, 0, none⟩ = some (.int .u32 0) ∧ w'.cell? ⟨w.heap.size, 1, none⟩ = some (.int .u16 p'.st) ∧ w'.cell? ⟨w.heap.size, 2, none⟩ = some (.int .u16 sv) ∧ w'.cell? ⟨w.heap.size, 3, none⟩ = some (.bool (!p'.o)) ∧ w'.cell? ⟨w.heap.size, 4, none⟩ = some (.bool ((a : Int) == 0)) ∧ w'.cell? ⟨w.heap.size, 5, none⟩ = some (.bool ((e : Int) == n)) ∧ w'.cell? ⟨w.heap.size, 6, none⟩ = some (.slice A7 (e - a) c7) ∧ w'.cell? ⟨l.b, 3, none⟩ = some (.int .i64 p'.id)) 7 (by kernel_rfl) ⟨z0, z1, z2, z3, z4, z5, z6, hid⟩ (fun hHeld => ?_)
          refine anyZ_take (i := 0) (oi := _) (v := ?_) [7] rfl (by kernel_rfl) (fun _ _ _ h => h) (Or.inl ⟨by rfl, ?_⟩) (by assumption) ?_
          rotate_left
          · intro w' hSw
            (try dsimp only at hSw)
            go_simp
            with_reducible rfl
          (try simp only [Act.put, List.setIfInBounds_toArray, List.set_cons_zero, List.set_cons_succ])
          refine anyZ_take (i := 1) (oi := _) (v := ?_) [7] rfl (by kernel_rfl) (fun _ _ _ h => h) (Or.inl ⟨by rfl, ?_⟩) (by assumption) ?_
          rotate_left
          · intro w' hSw
            (try dsimp only at hSw)
            go_simp
            with_reducible rfl
          (try simp only [Act.put, List.setIfInBounds_toArray, List.set_cons_zero, List.set_cons_succ])
          refine anyZ_take (i := 2) (oi := _) (v := ?_) [7] rfl (by kernel_rfl) (fun _ _ _ h => h) (Or.inl ⟨by rfl, ?_⟩) (by assumption) ?_
          rotate_left
          · intro w' hSw
            (try dsimp only at hSw)
            go_simp
            with_reducible rfl
          (try simp only [Act.put, List.setIfInBounds_toArray, List.set_cons_zero, List.set_cons_succ])
          refine anyZ_take (i := 3) (oi := _) (v := ?_) [7] rfl (by kernel_rfl) (fun _ _ _ h => h) (Or.inl ⟨by rfl, ?_⟩) (by assumption) ?_
          rotate_left
          · intro w' hSw
            (try dsimp only at hSw)
            go_simp
            with_reducible rfl
          (try simp only [Act.put, List.setIfInBounds_toArray, List.set_cons_zero, List.set_cons_succ])
          refine anyZ_take (i := 4) (oi := _) (v := ?_) [7] rfl (by kernel_rfl) (fun _ _ _ h => h) (Or.inl ⟨by rfl, ?_⟩) (by assumption) ?_
          rotate_left
          · intro w' hSw
            (try dsimp only at hSw)
            go_simp
            with_reducible rfl
          (try simp only [Act.put, List.setIfInBounds_toArray, List.set_cons_zero, List.set_cons_succ])
          refine anyZ_one (i := 5) (o := _) rfl (by kernel_rfl) (fun K hK => ?_)
          go_simp
          have G0 : ∀ (W : World) (i : Nat) (u : Value), ((∃ A c ls', QAt W base g s (fun k => F k ∨ w.heap.size ≤ k) (nxQ q p' r m) A c ls') ∧ Fr base s w W ∧ (∃ cs, Blk W w.heap.size 35 cs) ∧ W.ownsRow w.heap.size 5 1 (.slice A7 (e - a) c7) (e - a) (bs ((p'.xs.drop a).take (e - a))) ∧ W.cell? ⟨l.b, 3, none⟩ = some (.int .i64 p'.id)) →
              ((∃ A c ls', QAt (W.setCell ⟨w.heap.size, i, none⟩ u) base g s (fun k => F k ∨ w.heap.size ≤ k) (nxQ q p' r m) A c ls') ∧ Fr base s w (W.setCell ⟨w.heap.size, i, none⟩ u) ∧ (∃ cs, Blk (W.setCell ⟨w.heap.size, i, none⟩ u) w.heap.size 35 cs) ∧ (W.setCell ⟨w.heap.size, i, none⟩ u).ownsRow w.heap.size 5 1 (.slice A7 (e - a) c7) (e - a) (bs ((p'.xs.drop a).take (e - a))) ∧ (W.setCell ⟨w.heap.size, i, none⟩ u).cell? ⟨l.b, 3, none⟩ = some (.int .i64 p'.id)) := by
            rintro W i u ⟨⟨A, c, ls', h1⟩, h2, ⟨cs, h3⟩, h4, h5⟩
            refine ⟨⟨A, c, ls', qat_far h1 h3 (by omega) (not_mine (by decide)) (by decide) i u⟩, h2.new (p := ⟨w.heap.size, i, none⟩) (Nat.le_refl _) u, ⟨_, h3.set_ i u⟩, ?_, ?_⟩
            · exact own_keep h4 fun k hk => Below.heap_setCell W _ _ k (fun e1 => own_ne_blk h4 h3 (by decide) (by rw [hk]; exact congrArg some e1))
            · exact (World.cell?_setCell_other _ _ _ _ (by intro e; injection e with e1; omega)).trans h5
          have G1 := G0 _ 6 (.slice A7 (e - a) c7) (G0 _ 5 (.bool ((e : Int) == n)) (G0 _ 4 (.bool ((a : Int) == 0)) (G0 _ 3 (.bool (!p'.o)) (G0 _ 2 (.int .u16 sv) (G0 _ 1 (.int .u16 p'.st) (G0 _ 0 (.int .u32 0) ⟨(unhide HF).1, (unhide HF).2.1, ⟨_, (unhide HF).2.2.1⟩, (unhide HF).2.2.2, hid⟩))))))
          have B1 := ((((((((unhide HF).2.2.1.set_ 0 (.int .u32 0)).set_ 1 (.int .u16 p'.st)).set_ 2 (.int .u16 sv)).set_ 3 (.bool (!p'.o))).set_ 4 (.bool ((a : Int) == 0))).set_ 5 (.bool ((e : Int) == n))).set_ 6 (.slice A7 (e - a) c7))
          simp only [List.setIfInBounds_toArray, List.set_cons_zero, List.set_cons_succ] at B1
          generalize (((((((wc.setCell ⟨w.heap.size, 0, none⟩ (.int .u32 0)).setCell ⟨w.heap.size, 1, none⟩ (.int .u16 p'.st)).setCell ⟨w.heap.size, 2, none⟩ (.int .u16 sv)).setCell ⟨w.heap.size, 3, none⟩ (.bool (!p'.o))).setCell ⟨w.heap.size, 4, none⟩ (.bool ((a : Int) == 0))).setCell ⟨w.heap.size, 5, none⟩ (.bool ((e : Int) == n))).setCell ⟨w.heap.size, 6, none⟩ (.slice A7 (e - a) c7)) = w10 at *
          refine hK.out _ _ (fun _ => ⟨B1.cell 0, B1.cell 1, B1.cell 2, B1.cell 3, B1.cell 4, B1.cell 5, B1.cell 6, G1.2.2.2.2⟩) (fun hS1 => ?_)
          have hSx := hS1 (by decide)
          have HG := hide (And.intro G1 B1)
          clear hS1 hK K hHeld G0 G1 B1 HF
          (try simp only [Act.put, List.setIfInBounds_toArray, List.set_cons_zero, List.set_cons_succ])
          refine anyZ_take (i := 6) (oi := _) (v := ?_) [7] rfl (by kernel_rfl) (fun _ _ _ h => h) (Or.inl ⟨by rfl, ?_⟩) (by assumption) ?_
          rotate_left
          · intro w' hSw
            (try dsimp only at hSw)
            go_simp
            with_reducible rfl
          (try simp only [Act.put, List.setIfInBounds_toArray, List.set_cons_zero, List.set_cons_succ])
          refine anyZ_one (i := 7) (o := _) rfl (by kernel_rfl) (fun K hK => ?_)
          go_simp
          refine hK.out _ _ (fun h => absurd rfl h) (fun _ => ?_)
          clear hK K hSx
          refine anyZ_done (by kernel_rfl) ?_
          go_wp2
          have hB2 : Blk w10 w.heap.size 35 #[.int .u32 0, .int .u16 p'.st, .int .u16 sv, .bool (!p'.o), .bool ((a : Int) == 0), .bool ((e : Int) == n), .slice A7 (e - a) c7] := (unhide HG).2
          refine bodyPost_ret (results_ctt (P := Try.prog) Try.results15 _ _ w.heap.size 35 #[.int .u32 0, .int .u16 p'.st, .int .u16 sv, .bool (!p'.o), .bool ((a : Int) == 0), .bool ((e : Int) == n), .slice A7 (e - a) c7] _ rfl ?_ Try.underlying35 rfl size35) rfl ?_
          · first | exact hB2 | exact hB2.drew
          · obtain ⟨g1, g2, _, g4, _⟩ := (unhide HG).1
            have hNL : nxLen p' m = e - a := by rw [unhide HE]; exact (unhide HEE).2.symm
            have hD : nxD q p' m = ⟨p'.st, sv, !p'.o, a == 0, e == n, (p'.xs.drop a).take (e - a)⟩ := by
              unfold nxD
              rw [(unhide HLE).1, hNL, unhide HSV, (unhide HH).2.1]
            rw [hD, hNL]
            refine ⟨A7, c7, ?_, ?_, ?_, ?_⟩
            · have e1 : ((a : Int) == 0) = (a == 0) := zero_spell a
              have e2 : ((e : Int) == n) = (e == n) := by
                rw [Bool.eq_iff_iff]
                simp <;> omega
              rw [e1, e2]
              rfl
            · exact g4
            · obtain ⟨A, c, ls', h⟩ := g1
              exact ⟨A, c, ls', h.keep (fun _ _ _ => rfl)⟩
            · first | exact g2.drew | exact g2
end Go.Proofs.Ytmidnfkmefoleaa.Qn

/-
  Contracts of both cuts: frag.Cut's, and the document's.
-/
import Derived.Test.YtfgbegamdlafkaaCt
import Derived.Deep.RegionHeldLaw
import Derived.Deep.DeepCutAuto
set_option linter.unusedVariables false
set_option linter.unusedSimpArgs false
namespace Go.Proofs.Ytfgbegamdlafkaa.Cu
open Go.RowKit Wd Md Cm Cb Ch Ct Zr

/-- What Cut tells. -/
def CutOut (st ssn : Int) (o : Bool) (xs : List Int) (most : Int) (w : World) (e : Ending) (w' : World) : Prop :=
  (most < 1 ∧ e = .returned (.tuple #[.slice none 0 0, .int .i64 1]) ∧ Below w.heap.size w w') ∨
  (1 ≤ most ∧ (xs.length = 0 ∨ 1048576 < xs.length) ∧ e = .returned (.tuple #[.slice none 0 0, .int .i64 5]) ∧ Below w.heap.size w w') ∨
  (∃ mm : Nat, most = mm ∧ 0 < mm ∧ 0 < xs.length ∧ xs.length ≤ 1048576 ∧ CutPost st ssn o xs mm w e w')
/-- frag.Cut. -/
theorem cut (st ssn : Int) (o : Bool) (A : Option Addr) (N c B : Nat) (most : Int) (xs : List Int) (w : World) (hn : N ≤ 9223372036854775807) (h0 : -9223372036854775808 ≤ most) (h1 : most ≤ 9223372036854775807) (hc : N ≤ c) (hB : B ≤ w.heap.size) (h : Reads w B 1 A N (bs xs)) (hok : Hid (BOk xs)) :
    Calls Try.prog 13 #[.agg #[.int .u16 st, .bool o, .slice A N c], .int .u16 ssn, .int .i64 most] w (CutOut st ssn o xs most w) := by
  have hl := hide (blen_ h)
  by_cases hm : most < 1
  · go_enter Try.func13, Try.ntmps13
    go_wp2
    refine bodyPost_ret (v := .tuple #[.slice none 0 0, .int .i64 1]) (by simp [results, Try.results13, go_sem]) rfl ?_
    exact .inl ⟨hm, rfl, by first | exact ((((Below.refl _ _).alloc (Nat.le_refl _) _).alloc (by simp) _).alloc (by simp <;> omega) _) | exact ((((Below.refl _ _).alloc (Nat.le_refl _) _).alloc (by simp) _).alloc (by simp <;> omega) _).setCell (by simp <;> omega) _⟩
  · have hm1 : 1 ≤ most := by omega
    by_cases hN : N = 0 ∨ 1048576 < N
    · have hN2 : Hid (xs.length = 0 ∨ 1048576 < xs.length) := by show _ ∨ _; rw [unhide hl]; exact hN
      by_cases hN0 : N = 0
      · subst hN0
        go_enter Try.func13, Try.ntmps13
        go_wp2
        refine bodyPost_ret (v := .tuple #[.slice none 0 0, .int .i64 5]) (by simp [results, Try.results13, go_sem]) rfl ?_
        exact .inr (.inl ⟨hm1, unhide hN2, rfl, by first | exact ((((Below.refl _ _).alloc (Nat.le_refl _) _).alloc (by simp) _).alloc (by simp <;> omega) _) | exact ((((Below.refl _ _).alloc (Nat.le_refl _) _).alloc (by simp) _).alloc (by simp <;> omega) _).setCell (by simp <;> omega) _⟩)
      · have hN3 : 1048576 < N := by omega
        have hnz : ((N : Int) == 0) = false := by rw [beq_eq_false_iff_ne]; omega
        go_enter Try.func13, Try.ntmps13
        go_wp2
        refine bodyPost_ret (v := .tuple #[.slice none 0 0, .int .i64 5]) (by simp [results, Try.results13, go_sem]) rfl ?_
        exact .inr (.inl ⟨hm1, unhide hN2, rfl, by first | exact ((((Below.refl _ _).alloc (Nat.le_refl _) _).alloc (by simp) _).alloc (by simp <;> omega) _) | exact ((((Below.refl _ _).alloc (Nat.le_refl _) _).alloc (by simp) _).alloc (by simp <;> omega) _).setCell (by simp <;> omega) _⟩)
    · obtain ⟨mm, rfl⟩ := Int.eq_ofNat_of_zero_le (show 0 ≤ most by omega)
      obtain ⟨ad, rfl, _⟩ := h.2 (by omega)
      refine (callsIn_wide.1 (cut_in st ssn o ad N c B mm xs w (by omega) (by omega) (by omega) (by omega) hc hB h hok)).mono ?_
      intro e w' hp
      exact .inr (.inr ⟨mm, rfl, by omega, by rw [unhide hl]; omega, by rw [unhide hl]; omega, hp⟩)

/-- The heads of the first pieces. -/
def Heads (st ssn : Int) (o : Bool) (K : Nat) (ds : List Dt) : Prop := ∀ (i : Nat) (d : Dt), ds[i]? = some d → d.tsn = 0 ∧ d.st = st ∧ d.ssn = (if o = true then ssn else 0) ∧ d.un = !o ∧ d.fi = decide (i = 0) ∧ d.la = decide (i + 1 = K)
theorem heads_snoc {st ssn : Int} {o : Bool} {K : Nat} {ds : List Dt} {d : Dt} (h : Heads st ssn o K ds) (hd : d.tsn = 0 ∧ d.st = st ∧ d.ssn = (if o = true then ssn else 0) ∧ d.un = !o ∧ d.fi = decide (ds.length = 0) ∧ d.la = decide (ds.length + 1 = K)) : Heads st ssn o K (ds ++ [d]) := fun i e he => by
  rw [List.getElem?_append] at he
  split at he
  · exact h i e he
  · have hi : i = ds.length := by
      have := (List.getElem?_eq_some_iff.1 he).1
      simp at this
      omega
    subst hi
    simp at he
    subst he
    exact hd
theorem nch_last {mm n k : Nat} (hm : 0 < mm) (hk : k < nch mm n) : k + 1 = nch mm n ↔ n ≤ k * mm + mm := by
  have h1 := nch_lt (mm := mm) (n := n) (k := k + 1) hm
  rw [Nat.add_mul, Nat.one_mul] at h1
  omega
/-- What a round of the document's Cut leaves. -/
theorem ref_round {base k : Nat} {wr W1 W3 : World} {ob : Obj} {v v3 : Value} {ds : List Dt} {bb : List (List Int)} {ch : List Int} (d : Dt) (hbase : base ≤ wr.heap.size)
    (hrow : wr.ownsRow base 38 7 v k (dts ds)) (hOw : OwB wr base ds bb) (hb1 : Below wr.heap.size wr W1) (hown1 : W1.ownsRow wr.heap.size 5 1 (.slice d.A d.n d.c) d.n (bs ch)) (hbo : BOk ch)
    (hown3 : W3.ownsRow base 38 7 v3 (k + 1) (dts ds ++ d.cs)) (hg3 : (W1.alloc ob).grownBy W3 v.ownBlock) :
    W3.ownsRow base 38 7 v3 (k + 1) (dts (ds ++ [d])) ∧ OwB W3 base (ds ++ [d]) (bb ++ [ch]) ∧ (∀ b, b < base → W3.heap[b]? = wr.heap[b]?) ∧ (∀ (B : Nat) (w : World), B ≤ base → Below B w wr → Below B w W3) := by
  have hrow2 := (own_below hrow hb1).alloc ob
  have hb13 : ∀ b, b < base → W3.heap[b]? = wr.heap[b]? := fun b hb =>
    (hg3.block b (by have := hb1.size; simp; omega) (own_ne hrow hb)).trans ((Below.heap_alloc W1 ob b (by have := hb1.size; omega)).trans (hb1.block b (by omega)))
  have ho1 : OwB W1 base (ds ++ [d]) (bb ++ [ch]) := (OwB_below hOw hb1).snoc (d := d) (own_weaken hown1 hbase) hbo
  have ho2 : OwB (W1.alloc ob) base (ds ++ [d]) (bb ++ [ch]) := ⟨ho1.1, fun i e b he hb => let ⟨r1, r2⟩ := ho1.2 i e b he hb; ⟨r1.alloc ob, r2⟩⟩
  refine ⟨?_, ho2.kept hg3 (fun i e he => ho2.not_row hrow2 (by decide) he), hb13, fun B w hB h => ?_⟩
  · rw [dts_append, show dts [d] = d.cs from by simp [dts]]
    exact hown3
  · exact ⟨hg3.os.trans (hb1.os.trans h.os), hg3.tape.trans (hb1.tape.trans h.tape), hg3.output.trans (hb1.output.trans h.output), Nat.le_trans h.size (Nat.le_trans hb1.size (Nat.le_trans (by simp) hg3.size)), fun i hi => (hb13 i (by omega)).trans (h.block i hi)⟩

set_option maxRecDepth 100000 in
set_option maxHeartbeats 2000000 in
theorem ref_main (st ssn : Int) (o : Bool) (A : Option Addr) (N c B mm : Nat) (xs : List Int) (w : World) (hm : 0 < mm) (hm2 : mm ≤ 9223372036854775807) (hN0 : 0 < N) (hN : N ≤ 1048576) (hc : N ≤ c) (hB : B ≤ w.heap.size) (h : Reads w B 1 A N (bs xs)) (hok : Hid (BOk xs)) :
    Calls Try.prog 14 #[.agg #[.int .u16 st, .bool o, .slice A N c], .int .u16 ssn, .int .i64 mm] w (CutPost st ssn o xs mm w) := by
  obtain ⟨i0, hi0, hz0, hz1, hz2⟩ := info_parts info38
  have hxs := hide (blen_ h)
  have hnz : ((N : Int) == 0) = false := by rw [beq_eq_false_iff_ne]; omega
  have hm1 : (1 : Int) ≤ mm := by omega
  have hlt1 : decide ((mm : Int) < 1) = false := decide_eq_false (by omega)
  have H := hide h
  clear h
  cases o with
  | true =>
    go_enter Try.func14, Try.ntmps14
    go_wp2
    go_loopw [8, 9, 10] (fun v lf s10 wr => ∃ (k : Nat) (ds : List Dt) (A' : Option Addr) (r c' : Nat), k ≤ nch mm N ∧ lf = .slice A' r c' ∧ r ≤ c' ∧ Hid (r + k * mm = N ∨ (r = 0 ∧ N ≤ k * mm)) ∧ Reads wr B 1 A' r (bs (xs.drop (k * mm))) ∧ Below w.heap.size w wr ∧ Blk wr w.heap.size 25 #[.int .u16 st, .bool true, .slice A N c] ∧ wr.ownsRow (w.heap.size + 1) 38 7 v k (dts ds) ∧ OwB wr (w.heap.size + 1) ds ((List.range k).map (chk mm xs)) ∧ Hid (Heads st ssn true (nch mm N) ds)) (fun _ lf _ _ => match lf with | .slice _ r _ => r | _ => 0)
    case atStart => exact ⟨0, [], A, N, c, Nat.zero_le _, rfl, hc, .inl (by simp), by simpa using (unhide H).alloc hB _, (Below.refl _ _).alloc (Nat.le_refl _) _, Blk.new _ _ _, by simpa [dts] using own_none _ (w.heap.size + 1) 38 7, OwB.nil _ _, fun i d hi => by simp at hi⟩
    case round =>
      obtain ⟨k, ds, A', r, c', hk, rfl, hrc, hrN, hrd, hbr, hM, hrow, hOw, hHd⟩ := hrel
      have hrN2 : r ≤ 1048576 := by rcases unhide hrN with e | e <;> omega
      by_cases hr0 : 0 < r
      · by_cases hle : mm ≤ r
        · have hle2 : (mm : Int) ≤ r := by omega
          have hqr : mm ≤ r := by omega
          have hqc : mm ≤ c' := by omega
          have hrq := reads_pre hrd hqr
          rw [Nat.mul_one, ← bs_take] at hrq
          have hdl := blen_ hrd
          have hch : Hid ((xs.drop (k * mm)).take mm = chk mm xs k) := by
            show _ = _
            unfold chk
            first | rfl | rw [List.take_of_length_le (by omega), List.take_of_length_le (by omega)]
          rw [unhide hch] at hrq
          have hnext := hrd.cut (k := mm) (cap := c') hqr hrc
          rw [Nat.mul_one, ← bs_drop, List.drop_drop] at hnext
          have HN := hide hnext
          clear hnext hdl
          have hk2 := hM.cell 0
          have hk3 := hM.cell 1
          have hMlt := hM.lt
          have hkr : k * mm < N := by rcases unhide hrN with e | e <;> omega
          have hkn := hide ((nch_lt hm).2 hkr)
          have hkN : k ≤ 1048576 := by have := unhide hkn; have := (nch_pos (mm := mm) hN0).2; omega
          have HKR := hide hkr
          clear hkr
          obtain ⟨A1, c1, rfl, hle1, hnil1⟩ := own_slice hrow
          go_wp2
          refine wp_regionZ (fun w' => w'.cell? ⟨w.heap.size, 0, none⟩ = some (.int .u16 st) ∧ w'.cell? ⟨w.heap.size, 1, none⟩ = some (.bool true)) 21 (by kernel_rfl) ⟨hk2, hk3⟩ (fun hHeld => ?_)
          refine anyZ_take (i := 0) (oi := _) (v := ?_) [20, 21] rfl (by kernel_rfl) (fun _ _ _ h => h) (Or.inl ⟨by rfl, ?_⟩) (by assumption) ?_
          rotate_left
          · intro w' hSw
            (try dsimp only at hSw)
            go_simp
            with_reducible rfl
          (try simp only [Act.put, List.setIfInBounds_toArray, List.set_cons_zero, List.set_cons_succ])
          refine anyZ_take (i := 1) (oi := _) (v := ?_) [2, 18, 19, 20, 21] rfl (by kernel_rfl) (fun _ _ _ h => h) (Or.inl ⟨by rfl, ?_⟩) (by assumption) ?_
          rotate_left
          · intro w' hSw
            (try dsimp only at hSw)
            go_simp
            with_reducible rfl
          (try simp only [Act.put, List.setIfInBounds_toArray, List.set_cons_zero, List.set_cons_succ])
          refine anyZ_take (i := 2) (oi := _) (v := ?_) [18, 19, 20, 21] rfl (by kernel_rfl) (fun _ _ _ h => h) (Or.inl ⟨by rfl, ?_⟩) (by assumption) ?_
          rotate_left
          · intro w' hSw
            (try dsimp only at hSw)
            go_simp
            with_reducible rfl
          (try simp only [Act.put, List.setIfInBounds_toArray, List.set_cons_zero, List.set_cons_succ])
          refine anyZ_take (i := 3) (oi := _) (v := ?_) [18, 19, 20, 21] rfl (by kernel_rfl) (fun _ _ _ h => h) (Or.inl ⟨by rfl, ?_⟩) (by assumption) ?_
          rotate_left
          · intro w' hSw
            (try dsimp only at hSw)
            go_simp
            with_reducible rfl
          (try simp only [Act.put, List.setIfInBounds_toArray, List.set_cons_zero, List.set_cons_succ])
          refine anyZ_take (i := 4) (oi := _) (v := ?_) [5, 6, 18, 19, 20, 21] rfl (by kernel_rfl) (fun _ _ _ h => h) (Or.inl ⟨by rfl, ?_⟩) (by assumption) ?_
          rotate_left
          · intro w' hSw
            (try dsimp only at hSw)
            go_simp
            with_reducible rfl
          (try simp only [Act.put, List.setIfInBounds_toArray, List.set_cons_zero, List.set_cons_succ])
          refine anyZ_take (i := 5) (oi := _) (v := ?_) [6, 18, 19, 20, 21] rfl (by kernel_rfl) (fun _ _ _ h => h) (Or.inl ⟨by rfl, ?_⟩) (by assumption) ?_
          rotate_left
          · intro w' hSw
            (try dsimp only at hSw)
            go_simp
            with_reducible rfl
          (try simp only [Act.put, List.setIfInBounds_toArray, List.set_cons_zero, List.set_cons_succ])
          refine anyZ_take (i := 6) (oi := _) (v := ?_) [18, 19, 20, 21] rfl (by kernel_rfl) (fun _ _ _ h => h) (Or.inl ⟨by rfl, ?_⟩) (by assumption) ?_
          rotate_left
          · intro w' hSw
            (try dsimp only at hSw)
            go_simp
            with_reducible rfl
          (try simp only [Act.put, List.setIfInBounds_toArray, List.set_cons_zero, List.set_cons_succ])
          refine anyZ_take (i := 7) (oi := _) (v := ?_) [8, 9, 18, 19, 20, 21] rfl (by kernel_rfl) (fun _ _ _ h => h) (Or.inl ⟨by rfl, ?_⟩) (by assumption) ?_
          rotate_left
          · intro w' hSw
            (try dsimp only at hSw)
            go_simp
            with_reducible rfl
          (try simp only [Act.put, List.setIfInBounds_toArray, List.set_cons_zero, List.set_cons_succ])
          refine anyZ_take (i := 8) (oi := _) (v := ?_) [9, 18, 19, 20, 21] rfl (by kernel_rfl) (fun _ _ _ h => h) (Or.inl ⟨by rfl, ?_⟩) (by assumption) ?_
          rotate_left
          · intro w' hSw
            (try dsimp only at hSw)
            go_simp
            with_reducible rfl
          (try simp only [Act.put, List.setIfInBounds_toArray, List.set_cons_zero, List.set_cons_succ])
          refine anyZ_take (i := 9) (oi := _) (v := ?_) [18, 19, 20, 21] rfl (by kernel_rfl) (fun _ _ _ h => h) (Or.inl ⟨by rfl, ?_⟩) (by assumption) ?_
          rotate_left
          · intro w' hSw
            (try dsimp only at hSw)
            go_simp
            with_reducible rfl
          (try simp only [Act.put, List.setIfInBounds_toArray, List.set_cons_zero, List.set_cons_succ])
          refine anyZ_take (i := 10) (oi := _) (v := ?_) [13, 18, 19, 20, 21] rfl (by kernel_rfl) (fun _ _ _ h => h) (Or.inl ⟨by rfl, ?_⟩) (by assumption) ?_
          rotate_left
          · intro w' hSw
            (try dsimp only at hSw)
            go_simp
            with_reducible rfl
          (try simp only [Act.put, List.setIfInBounds_toArray, List.set_cons_zero, List.set_cons_succ])
          refine anyZ_take (i := 11) (oi := _) (v := ?_) [12, 13, 18, 19, 20, 21] rfl (by kernel_rfl) (fun _ _ _ h => h) (Or.inl ⟨by rfl, ?_⟩) (by assumption) ?_
          rotate_left
          · intro w' hSw
            (try dsimp only at hSw)
            go_simp
            with_reducible rfl
          (try simp only [Act.put, List.setIfInBounds_toArray, List.set_cons_zero, List.set_cons_succ])
          refine anyZ_take (i := 12) (oi := _) (v := ?_) [13, 18, 19, 20, 21] rfl (by kernel_rfl) (fun _ _ _ h => h) (Or.inl ⟨by rfl, ?_⟩) (by assumption) ?_
          rotate_left
          · intro w' hSw
            (try dsimp only at hSw)
            go_simp
            with_reducible rfl
          (try simp only [Act.put, List.setIfInBounds_toArray, List.set_cons_zero, List.set_cons_succ])
          refine anyZ_take (i := 13) (oi := _) (v := ?_) [18, 19, 20, 21] rfl (by kernel_rfl) (fun _ _ _ h => h) (Or.inl ⟨by rfl, ?_⟩) (by assumption) ?_
          rotate_left
          · intro w' hSw
            (try dsimp only at hSw)
            go_simp
            with_reducible rfl
          (try simp only [Act.put, List.setIfInBounds_toArray, List.set_cons_zero, List.set_cons_succ])
          refine anyZ_take (i := 14) (oi := _) (v := ?_) [16, 17, 18, 19, 20, 21] rfl (by kernel_rfl) (fun _ _ _ h => h) (Or.inl ⟨by rfl, ?_⟩) (by assumption) ?_
          rotate_left
          · intro w' hSw
            (try dsimp only at hSw)
            go_simp
            with_reducible rfl
          (try simp only [Act.put, List.setIfInBounds_toArray, List.set_cons_zero, List.set_cons_succ])
          refine anyZ_take (i := 15) (oi := _) (v := ?_) [16, 17, 18, 19, 20, 21] rfl (by kernel_rfl) (fun _ _ _ h => h) (Or.inl ⟨by rfl, ?_⟩) (by assumption) ?_
          rotate_left
          · intro w' hSw
            (try dsimp only at hSw)
            go_simp
            with_reducible rfl
          (try simp only [Act.put, List.setIfInBounds_toArray, List.set_cons_zero, List.set_cons_succ])
          refine anyZ_take (i := 16) (oi := _) (v := ?_) [17, 18, 19, 20, 21] rfl (by kernel_rfl) (fun _ _ _ h => h) (Or.inl ⟨by rfl, ?_⟩) (by assumption) ?_
          rotate_left
          · intro w' hSw
            (try dsimp only at hSw)
            go_simp
            with_reducible rfl
          (try simp only [Act.put, List.setIfInBounds_toArray, List.set_cons_zero, List.set_cons_succ])
          refine anyZ_one (i := 17) (o := _) rfl (by kernel_rfl) (fun K hK => ?_)
          go_simp
          go_at_call 19
          refine (c19 A' mm c' B (chk mm xs k) _ (by omega) (by show B ≤ wr.heap.size; have := hbr.size; omega) hrq.drew).mono ?_
          rintro e W1 ⟨v1, rfl, hown1, hb1⟩
          have hb1 : Below wr.heap.size wr W1 := ⟨hb1.os, hb1.tape, hb1.output, hb1.size, hb1.block⟩
          obtain ⟨A2, c2, rfl, hle2, hnil2⟩ := own_slice hown1
          have hs1 := hb1.size
          refine hK.out _ _ (fun _ => ⟨(hb1.cell (p := ⟨w.heap.size, 0, none⟩) (by simp; omega)).trans hk2, (hb1.cell (p := ⟨w.heap.size, 1, none⟩) (by simp; omega)).trans hk3⟩) (fun hS1 => ?_)
          have hSx := hS1 (by decide)
          clear hS1 hK K hHeld
          (try simp only [Act.put, List.setIfInBounds_toArray, List.set_cons_zero, List.set_cons_succ])
          refine anyZ_take (i := 18) (oi := _) (v := ?_) [19, 20, 21] rfl (by kernel_rfl) (fun _ _ _ h => h) (Or.inl ⟨by rfl, ?_⟩) (by assumption) ?_
          rotate_left
          · intro w' hSw
            (try dsimp only at hSw)
            go_simp
            with_reducible rfl
          (try simp only [Act.put, List.setIfInBounds_toArray, List.set_cons_zero, List.set_cons_succ])
          refine anyZ_one (i := 19) (o := _) rfl (by kernel_rfl) (fun K hK => ?_)
          go_simp
          refine hK.out _ _ (fun _ => ⟨(World.cell?_alloc_lt W1 _ _ (by simp; omega)).trans hSx.1, (World.cell?_alloc_lt W1 _ _ (by simp; omega)).trans hSx.2⟩) (fun hS1 => ?_)
          have hSy := hS1 (by decide)
          clear hS1 hK K
          (try simp only [Act.put, List.setIfInBounds_toArray, List.set_cons_zero, List.set_cons_succ])
          refine anyZ_one (i := 20) (o := _) rfl (by kernel_rfl) (fun K hK => ?_)
          refine step_append_any _ rfl (.tmp 35) (.tmp 54) _ rfl (w.heap.size + 1) 38 i0 _ 7 40 Try.underlying29 hi0 hz0 hz1 hz2 rfl (by omega) (.slice A1 k c1) k (dts ds) rfl ((own_below hrow hb1).alloc _) (W1.heap.size + 1) (some ⟨W1.heap.size, 0, none⟩) 1 1 [.int .u32 0, .int .u16 st, .int .u16 ssn, .bool false, .bool ((k : Int) == 0), .bool ((mm : Int) == r), .slice A2 mm c2] rfl (reads_new W1 #[.int .u32 0, .int .u16 st, .int .u16 ssn, .bool false, .bool ((k : Int) == 0), .bool ((mm : Int) == r), .slice A2 mm c2] 38 7 1 rfl) (by intro u hu; simp at hu; rcases hu with rfl | rfl | rfl | rfl | rfl | rfl | rfl <;> rfl) (by simp only [maxLen]; omega) (by omega) (by simp; omega) ?_
          intro v3 W3 hown3 hg3 hat3
          obtain ⟨A3, c3, rfl, hle3, hnil3⟩ := own_slice hown3
          have RR := hide (ref_round (d := ⟨0, st, ssn, false, ((k : Int) == 0), ((mm : Int) == r), A2, mm, c2⟩) (by omega) hrow hOw hb1 hown1 (fun y hy => unhide hok y (List.mem_of_mem_drop (List.mem_of_mem_take hy))) hown3 hg3)
          have hb13 := (unhide RR).2.2.1
          refine hK.out _ _ (fun _ => ⟨(World.cell?_of_block (hb13 _ (by simp))).trans hk2, (World.cell?_of_block (hb13 _ (by simp))).trans hk3⟩) (fun hS1 => ?_)
          have hSz := hS1 (by decide)
          clear hS1 hK K hb13
          (try simp only [Act.put, List.setIfInBounds_toArray, List.set_cons_zero, List.set_cons_succ])
          refine anyZ_one (i := 21) (o := _) rfl (by kernel_rfl) (fun K hK => ?_)
          go_simp
          refine hK.out _ _ (fun h => absurd rfl h) (fun _ => ?_)
          clear hK K hSx hSy hSz hg3 hown3 hown1
          refine anyZ_done (by kernel_rfl) ?_
          (try simp only [Act.put, List.setIfInBounds_toArray, List.set_cons_zero, List.set_cons_succ])
          go_wp2
          go_roundw
          case rel =>
            obtain ⟨r1, r2, r3, r4⟩ := unhide RR
            have hlen : ds.length = k := by have := hrow.1; rw [dts_length] at this; omega
            have hxl := unhide hxs
            have e1 : (k + 1) * mm = k * mm + mm := by rw [Nat.add_mul, Nat.one_mul]
            have eN : r + k * mm = N := by rcases unhide hrN with e | e <;> omega
            have hM3 : Blk W3 w.heap.size 25 #[.int .u16 st, .bool true, .slice A N c] := (r3 _ (by omega)).trans hM
            have hkn2 : k + 1 ≤ nch mm N := unhide hkn
            have hls := nch_last (n := N) hm (unhide hkn)
            refine ⟨k + 1, _, _, r - mm, c' - mm, hkn2, rfl, by omega, .inl (by rw [e1]; omega), by rw [e1]; exact (unhide HN).keep (fun p hp => World.cell?_of_block (r3 _ (by omega))), r4 _ _ (by omega) hbr, hM3, r1, by rw [List.range_succ, List.map_append]; exact r2, heads_snoc (unhide hHd) ⟨rfl, rfl, by simp, by simp, ?_, ?_⟩⟩
            · rw [hlen]
              show ((k : Int) == 0) = decide (k = 0)
              rw [Bool.eq_iff_iff]
              simp <;> omega
            · rw [hlen]
              show ((mm : Int) == r) = decide (k + 1 = nch mm N)
              rw [Bool.eq_iff_iff, decide_eq_true_iff, hls]
              simp <;> omega
          case measure => simp <;> omega
        · have hle2 : (r : Int) < mm := by omega
          have hqr : r ≤ r := by omega
          have hqc : r ≤ c' := by omega
          have hrq := reads_pre hrd hqr
          rw [Nat.mul_one, ← bs_take] at hrq
          have hdl := blen_ hrd
          have hch : Hid ((xs.drop (k * mm)).take r = chk mm xs k) := by
            show _ = _
            unfold chk
            first | rfl | rw [List.take_of_length_le (by omega), List.take_of_length_le (by omega)]
          rw [unhide hch] at hrq
          have hnext := hrd.cut (k := r) (cap := c') hqr hrc
          rw [Nat.mul_one, ← bs_drop, List.drop_drop] at hnext
          have HN := hide hnext
          clear hnext hdl
          have hk2 := hM.cell 0
          have hk3 := hM.cell 1
          have hMlt := hM.lt
          have hkr : k * mm < N := by rcases unhide hrN with e | e <;> omega
          have hkn := hide ((nch_lt hm).2 hkr)
          have hkN : k ≤ 1048576 := by have := unhide hkn; have := (nch_pos (mm := mm) hN0).2; omega
          have HKR := hide hkr
          clear hkr
          obtain ⟨A1, c1, rfl, hle1, hnil1⟩ := own_slice hrow
          go_wp2
          refine wp_regionZ (fun w' => w'.cell? ⟨w.heap.size, 0, none⟩ = some (.int .u16 st) ∧ w'.cell? ⟨w.heap.size, 1, none⟩ = some (.bool true)) 21 (by kernel_rfl) ⟨hk2, hk3⟩ (fun hHeld => ?_)
          refine anyZ_take (i := 0) (oi := _) (v := ?_) [20, 21] rfl (by kernel_rfl) (fun _ _ _ h => h) (Or.inl ⟨by rfl, ?_⟩) (by assumption) ?_
          rotate_left
          · intro w' hSw
            (try dsimp only at hSw)
            go_simp
            with_reducible rfl
          (try simp only [Act.put, List.setIfInBounds_toArray, List.set_cons_zero, List.set_cons_succ])
          refine anyZ_take (i := 1) (oi := _) (v := ?_) [2, 18, 19, 20, 21] rfl (by kernel_rfl) (fun _ _ _ h => h) (Or.inl ⟨by rfl, ?_⟩) (by assumption) ?_
          rotate_left
          · intro w' hSw
            (try dsimp only at hSw)
            go_simp
            with_reducible rfl
          (try simp only [Act.put, List.setIfInBounds_toArray, List.set_cons_zero, List.set_cons_succ])
          refine anyZ_take (i := 2) (oi := _) (v := ?_) [18, 19, 20, 21] rfl (by kernel_rfl) (fun _ _ _ h => h) (Or.inl ⟨by rfl, ?_⟩) (by assumption) ?_
          rotate_left
          · intro w' hSw
            (try dsimp only at hSw)
            go_simp
            with_reducible rfl
          (try simp only [Act.put, List.setIfInBounds_toArray, List.set_cons_zero, List.set_cons_succ])
          refine anyZ_take (i := 3) (oi := _) (v := ?_) [18, 19, 20, 21] rfl (by kernel_rfl) (fun _ _ _ h => h) (Or.inl ⟨by rfl, ?_⟩) (by assumption) ?_
          rotate_left
          · intro w' hSw
            (try dsimp only at hSw)
            go_simp
            with_reducible rfl
          (try simp only [Act.put, List.setIfInBounds_toArray, List.set_cons_zero, List.set_cons_succ])
          refine anyZ_take (i := 4) (oi := _) (v := ?_) [5, 6, 18, 19, 20, 21] rfl (by kernel_rfl) (fun _ _ _ h => h) (Or.inl ⟨by rfl, ?_⟩) (by assumption) ?_
          rotate_left
          · intro w' hSw
            (try dsimp only at hSw)
            go_simp
            with_reducible rfl
          (try simp only [Act.put, List.setIfInBounds_toArray, List.set_cons_zero, List.set_cons_succ])
          refine anyZ_take (i := 5) (oi := _) (v := ?_) [6, 18, 19, 20, 21] rfl (by kernel_rfl) (fun _ _ _ h => h) (Or.inl ⟨by rfl, ?_⟩) (by assumption) ?_
          rotate_left
          · intro w' hSw
            (try dsimp only at hSw)
            go_simp
            with_reducible rfl
          (try simp only [Act.put, List.setIfInBounds_toArray, List.set_cons_zero, List.set_cons_succ])
          refine anyZ_take (i := 6) (oi := _) (v := ?_) [18, 19, 20, 21] rfl (by kernel_rfl) (fun _ _ _ h => h) (Or.inl ⟨by rfl, ?_⟩) (by assumption) ?_
          rotate_left
          · intro w' hSw
            (try dsimp only at hSw)
            go_simp
            with_reducible rfl
          (try simp only [Act.put, List.setIfInBounds_toArray, List.set_cons_zero, List.set_cons_succ])
          refine anyZ_take (i := 7) (oi := _) (v := ?_) [8, 9, 18, 19, 20, 21] rfl (by kernel_rfl) (fun _ _ _ h => h) (Or.inl ⟨by rfl, ?_⟩) (by assumption) ?_
          rotate_left
          · intro w' hSw
            (try dsimp only at hSw)
            go_simp
            with_reducible rfl
          (try simp only [Act.put, List.setIfInBounds_toArray, List.set_cons_zero, List.set_cons_succ])
          refine anyZ_take (i := 8) (oi := _) (v := ?_) [9, 18, 19, 20, 21] rfl (by kernel_rfl) (fun _ _ _ h => h) (Or.inl ⟨by rfl, ?_⟩) (by assumption) ?_
          rotate_left
          · intro w' hSw
            (try dsimp only at hSw)
            go_simp
            with_reducible rfl
          (try simp only [Act.put, List.setIfInBounds_toArray, List.set_cons_zero, List.set_cons_succ])
          refine anyZ_take (i := 9) (oi := _) (v := ?_) [18, 19, 20, 21] rfl (by kernel_rfl) (fun _ _ _ h => h) (Or.inl ⟨by rfl, ?_⟩) (by assumption) ?_
          rotate_left
          · intro w' hSw
            (try dsimp only at hSw)
            go_simp
            with_reducible rfl
          (try simp only [Act.put, List.setIfInBounds_toArray, List.set_cons_zero, List.set_cons_succ])
          refine anyZ_take (i := 10) (oi := _) (v := ?_) [13, 18, 19, 20, 21] rfl (by kernel_rfl) (fun _ _ _ h => h) (Or.inl ⟨by rfl, ?_⟩) (by assumption) ?_
          rotate_left
          · intro w' hSw
            (try dsimp only at hSw)
            go_simp
            with_reducible rfl
          (try simp only [Act.put, List.setIfInBounds_toArray, List.set_cons_zero, List.set_cons_succ])
          refine anyZ_take (i := 11) (oi := _) (v := ?_) [12, 13, 18, 19, 20, 21] rfl (by kernel_rfl) (fun _ _ _ h => h) (Or.inl ⟨by rfl, ?_⟩) (by assumption) ?_
          rotate_left
          · intro w' hSw
            (try dsimp only at hSw)
            go_simp
            with_reducible rfl
          (try simp only [Act.put, List.setIfInBounds_toArray, List.set_cons_zero, List.set_cons_succ])
          refine anyZ_take (i := 12) (oi := _) (v := ?_) [13, 18, 19, 20, 21] rfl (by kernel_rfl) (fun _ _ _ h => h) (Or.inl ⟨by rfl, ?_⟩) (by assumption) ?_
          rotate_left
          · intro w' hSw
            (try dsimp only at hSw)
            go_simp
            with_reducible rfl
          (try simp only [Act.put, List.setIfInBounds_toArray, List.set_cons_zero, List.set_cons_succ])
          refine anyZ_take (i := 13) (oi := _) (v := ?_) [18, 19, 20, 21] rfl (by kernel_rfl) (fun _ _ _ h => h) (Or.inl ⟨by rfl, ?_⟩) (by assumption) ?_
          rotate_left
          · intro w' hSw
            (try dsimp only at hSw)
            go_simp
            with_reducible rfl
          (try simp only [Act.put, List.setIfInBounds_toArray, List.set_cons_zero, List.set_cons_succ])
          refine anyZ_take (i := 14) (oi := _) (v := ?_) [16, 17, 18, 19, 20, 21] rfl (by kernel_rfl) (fun _ _ _ h => h) (Or.inl ⟨by rfl, ?_⟩) (by assumption) ?_
          rotate_left
          · intro w' hSw
            (try dsimp only at hSw)
            go_simp
            with_reducible rfl
          (try simp only [Act.put, List.setIfInBounds_toArray, List.set_cons_zero, List.set_cons_succ])
          refine anyZ_take (i := 15) (oi := _) (v := ?_) [16, 17, 18, 19, 20, 21] rfl (by kernel_rfl) (fun _ _ _ h => h) (Or.inl ⟨by rfl, ?_⟩) (by assumption) ?_
          rotate_left
          · intro w' hSw
            (try dsimp only at hSw)
            go_simp
            with_reducible rfl
          (try simp only [Act.put, List.setIfInBounds_toArray, List.set_cons_zero, List.set_cons_succ])
          refine anyZ_take (i := 16) (oi := _) (v := ?_) [17, 18, 19, 20, 21] rfl (by kernel_rfl) (fun _ _ _ h => h) (Or.inl ⟨by rfl, ?_⟩) (by assumption) ?_
          rotate_left
          · intro w' hSw
            (try dsimp only at hSw)
            go_simp
            with_reducible rfl
          (try simp only [Act.put, List.setIfInBounds_toArray, List.set_cons_zero, List.set_cons_succ])
          refine anyZ_one (i := 17) (o := _) rfl (by kernel_rfl) (fun K hK => ?_)
          go_simp
          go_at_call 19
          refine (c19 A' r c' B (chk mm xs k) _ (by omega) (by show B ≤ wr.heap.size; have := hbr.size; omega) hrq.drew).mono ?_
          rintro e W1 ⟨v1, rfl, hown1, hb1⟩
          have hb1 : Below wr.heap.size wr W1 := ⟨hb1.os, hb1.tape, hb1.output, hb1.size, hb1.block⟩
          obtain ⟨A2, c2, rfl, hle2, hnil2⟩ := own_slice hown1
          have hs1 := hb1.size
          refine hK.out _ _ (fun _ => ⟨(hb1.cell (p := ⟨w.heap.size, 0, none⟩) (by simp; omega)).trans hk2, (hb1.cell (p := ⟨w.heap.size, 1, none⟩) (by simp; omega)).trans hk3⟩) (fun hS1 => ?_)
          have hSx := hS1 (by decide)
          clear hS1 hK K hHeld
          (try simp only [Act.put, List.setIfInBounds_toArray, List.set_cons_zero, List.set_cons_succ])
          refine anyZ_take (i := 18) (oi := _) (v := ?_) [19, 20, 21] rfl (by kernel_rfl) (fun _ _ _ h => h) (Or.inl ⟨by rfl, ?_⟩) (by assumption) ?_
          rotate_left
          · intro w' hSw
            (try dsimp only at hSw)
            go_simp
            with_reducible rfl
          (try simp only [Act.put, List.setIfInBounds_toArray, List.set_cons_zero, List.set_cons_succ])
          refine anyZ_one (i := 19) (o := _) rfl (by kernel_rfl) (fun K hK => ?_)
          go_simp
          refine hK.out _ _ (fun _ => ⟨(World.cell?_alloc_lt W1 _ _ (by simp; omega)).trans hSx.1, (World.cell?_alloc_lt W1 _ _ (by simp; omega)).trans hSx.2⟩) (fun hS1 => ?_)
          have hSy := hS1 (by decide)
          clear hS1 hK K
          (try simp only [Act.put, List.setIfInBounds_toArray, List.set_cons_zero, List.set_cons_succ])
          refine anyZ_one (i := 20) (o := _) rfl (by kernel_rfl) (fun K hK => ?_)
          refine step_append_any _ rfl (.tmp 35) (.tmp 54) _ rfl (w.heap.size + 1) 38 i0 _ 7 40 Try.underlying29 hi0 hz0 hz1 hz2 rfl (by omega) (.slice A1 k c1) k (dts ds) rfl ((own_below hrow hb1).alloc _) (W1.heap.size + 1) (some ⟨W1.heap.size, 0, none⟩) 1 1 [.int .u32 0, .int .u16 st, .int .u16 ssn, .bool false, .bool ((k : Int) == 0), .bool true, .slice A2 r c2] rfl (reads_new W1 #[.int .u32 0, .int .u16 st, .int .u16 ssn, .bool false, .bool ((k : Int) == 0), .bool true, .slice A2 r c2] 38 7 1 rfl) (by intro u hu; simp at hu; rcases hu with rfl | rfl | rfl | rfl | rfl | rfl | rfl <;> rfl) (by simp only [maxLen]; omega) (by omega) (by simp; omega) ?_
          intro v3 W3 hown3 hg3 hat3
          obtain ⟨A3, c3, rfl, hle3, hnil3⟩ := own_slice hown3
          have RR := hide (ref_round (d := ⟨0, st, ssn, false, ((k : Int) == 0), true, A2, r, c2⟩) (by omega) hrow hOw hb1 hown1 (fun y hy => unhide hok y (List.mem_of_mem_drop (List.mem_of_mem_take hy))) hown3 hg3)
          have hb13 := (unhide RR).2.2.1
          refine hK.out _ _ (fun _ => ⟨(World.cell?_of_block (hb13 _ (by simp))).trans hk2, (World.cell?_of_block (hb13 _ (by simp))).trans hk3⟩) (fun hS1 => ?_)
          have hSz := hS1 (by decide)
          clear hS1 hK K hb13
          (try simp only [Act.put, List.setIfInBounds_toArray, List.set_cons_zero, List.set_cons_succ])
          refine anyZ_one (i := 21) (o := _) rfl (by kernel_rfl) (fun K hK => ?_)
          go_simp
          refine hK.out _ _ (fun h => absurd rfl h) (fun _ => ?_)
          clear hK K hSx hSy hSz hg3 hown3 hown1
          refine anyZ_done (by kernel_rfl) ?_
          (try simp only [Act.put, List.setIfInBounds_toArray, List.set_cons_zero, List.set_cons_succ])
          go_wp2
          go_roundw
          case rel =>
            obtain ⟨r1, r2, r3, r4⟩ := unhide RR
            have hlen : ds.length = k := by have := hrow.1; rw [dts_length] at this; omega
            have hxl := unhide hxs
            have e1 : (k + 1) * mm = k * mm + mm := by rw [Nat.add_mul, Nat.one_mul]
            have eN : r + k * mm = N := by rcases unhide hrN with e | e <;> omega
            have hM3 : Blk W3 w.heap.size 25 #[.int .u16 st, .bool true, .slice A N c] := (r3 _ (by omega)).trans hM
            have hkn2 : k + 1 ≤ nch mm N := unhide hkn
            have hls := nch_last (n := N) hm (unhide hkn)
            refine ⟨k + 1, _, _, 0, c' - r, hkn2, rfl, by omega, .inr ⟨rfl, by rw [e1]; omega⟩, ⟨by rw [bs_length, List.length_drop, e1]; omega, fun h => absurd h (by omega)⟩, r4 _ _ (by omega) hbr, hM3, r1, by rw [List.range_succ, List.map_append]; exact r2, heads_snoc (unhide hHd) ⟨rfl, rfl, by simp, by simp, ?_, ?_⟩⟩
            · rw [hlen]
              show ((k : Int) == 0) = decide (k = 0)
              rw [Bool.eq_iff_iff]
              simp <;> omega
            · rw [hlen]
              show true = decide (k + 1 = nch mm N)
              rw [Bool.eq_iff_iff, decide_eq_true_iff, hls]
              simp <;> omega
          case measure => simp <;> omega
      · obtain rfl : r = 0 := by omega
        have hkK : k = nch mm N := by
          rcases Nat.lt_or_ge k (nch mm N) with h | h
          · have h2 := (nch_lt hm).1 h
            rcases unhide hrN with e | e <;> omega
          · omega
        obtain ⟨A1, c1, rfl, hle1, hnil1⟩ := own_slice hrow
        have hlen : ds.length = k := by have := hrow.1; rw [dts_length] at this; omega
        have HL := hide (And.intro hkK hlen)
        clear hkK hlen
        go_wp2
        go_ret2
        obtain ⟨hkK, hlen⟩ := unhide HL
        unfold CutPost
        rw [unhide hxs, ← hkK]
        exact ⟨A1, c1, ds, rfl, hlen, own_weaken hrow (by omega), hOw.weaken (by omega), by rw [hkK]; exact unhide hHd, hbr⟩
  | false =>
    go_enter Try.func14, Try.ntmps14
    go_wp2
    go_loopw [8, 9, 10] (fun v lf s10 wr => ∃ (k : Nat) (ds : List Dt) (A' : Option Addr) (r c' : Nat), k ≤ nch mm N ∧ lf = .slice A' r c' ∧ r ≤ c' ∧ Hid (r + k * mm = N ∨ (r = 0 ∧ N ≤ k * mm)) ∧ Reads wr B 1 A' r (bs (xs.drop (k * mm))) ∧ Below w.heap.size w wr ∧ Blk wr w.heap.size 25 #[.int .u16 st, .bool false, .slice A N c] ∧ wr.ownsRow (w.heap.size + 1) 38 7 v k (dts ds) ∧ OwB wr (w.heap.size + 1) ds ((List.range k).map (chk mm xs)) ∧ Hid (Heads st ssn false (nch mm N) ds)) (fun _ lf _ _ => match lf with | .slice _ r _ => r | _ => 0)
    case atStart => exact ⟨0, [], A, N, c, Nat.zero_le _, rfl, hc, .inl (by simp), by simpa using (unhide H).alloc hB _, (Below.refl _ _).alloc (Nat.le_refl _) _, Blk.new _ _ _, by simpa [dts] using own_none _ (w.heap.size + 1) 38 7, OwB.nil _ _, fun i d hi => by simp at hi⟩
    case round =>
      obtain ⟨k, ds, A', r, c', hk, rfl, hrc, hrN, hrd, hbr, hM, hrow, hOw, hHd⟩ := hrel
      have hrN2 : r ≤ 1048576 := by rcases unhide hrN with e | e <;> omega
      by_cases hr0 : 0 < r
      · by_cases hle : mm ≤ r
        · have hle2 : (mm : Int) ≤ r := by omega
          have hqr : mm ≤ r := by omega
          have hqc : mm ≤ c' := by omega
          have hrq := reads_pre hrd hqr
          rw [Nat.mul_one, ← bs_take] at hrq
          have hdl := blen_ hrd
          have hch : Hid ((xs.drop (k * mm)).take mm = chk mm xs k) := by
            show _ = _
            unfold chk
            first | rfl | rw [List.take_of_length_le (by omega), List.take_of_length_le (by omega)]
          rw [unhide hch] at hrq
          have hnext := hrd.cut (k := mm) (cap := c') hqr hrc
          rw [Nat.mul_one, ← bs_drop, List.drop_drop] at hnext
          have HN := hide hnext
          clear hnext hdl
          have hk2 := hM.cell 0
          have hk3 := hM.cell 1
          have hMlt := hM.lt
          have hkr : k * mm < N := by rcases unhide hrN with e | e <;> omega
          have hkn := hide ((nch_lt hm).2 hkr)
          have hkN : k ≤ 1048576 := by have := unhide hkn; have := (nch_pos (mm := mm) hN0).2; omega
          have HKR := hide hkr
          clear hkr
          obtain ⟨A1, c1, rfl, hle1, hnil1⟩ := own_slice hrow
          go_wp2
          refine wp_regionZ (fun w' => w'.cell? ⟨w.heap.size, 0, none⟩ = some (.int .u16 st) ∧ w'.cell? ⟨w.heap.size, 1, none⟩ = some (.bool false)) 21 (by kernel_rfl) ⟨hk2, hk3⟩ (fun hHeld => ?_)
          refine anyZ_take (i := 0) (oi := _) (v := ?_) [20, 21] rfl (by kernel_rfl) (fun _ _ _ h => h) (Or.inl ⟨by rfl, ?_⟩) (by assumption) ?_
          rotate_left
          · intro w' hSw
            (try dsimp only at hSw)
            go_simp
            with_reducible rfl
          (try simp only [Act.put, List.setIfInBounds_toArray, List.set_cons_zero, List.set_cons_succ])
          refine anyZ_take (i := 1) (oi := _) (v := ?_) [2, 18, 19, 20, 21] rfl (by kernel_rfl) (fun _ _ _ h => h) (Or.inl ⟨by rfl, ?_⟩) (by assumption) ?_
          rotate_left
          · intro w' hSw
            (try dsimp only at hSw)
            go_simp
            with_reducible rfl
          (try simp only [Act.put, List.setIfInBounds_toArray, List.set_cons_zero, List.set_cons_succ])
          refine anyZ_take (i := 2) (oi := _) (v := ?_) [18, 19, 20, 21] rfl (by kernel_rfl) (fun _ _ _ h => h) (Or.inl ⟨by rfl, ?_⟩) (by assumption) ?_
          rotate_left
          · intro w' hSw
            (try dsimp only at hSw)
            go_simp
            with_reducible rfl
          (try simp only [Act.put, List.setIfInBounds_toArray, List.set_cons_zero, List.set_cons_succ])
          refine anyZ_take (i := 3) (oi := _) (v := ?_) [18, 19, 20, 21] rfl (by kernel_rfl) (fun _ _ _ h => h) (Or.inl ⟨by rfl, ?_⟩) (by assumption) ?_
          rotate_left
          · intro w' hSw
            (try dsimp only at hSw)
            go_simp
            with_reducible rfl
          (try simp only [Act.put, List.setIfInBounds_toArray, List.set_cons_zero, List.set_cons_succ])
          refine anyZ_take (i := 4) (oi := _) (v := ?_) [5, 6, 18, 19, 20, 21] rfl (by kernel_rfl) (fun _ _ _ h => h) (Or.inl ⟨by rfl, ?_⟩) (by assumption) ?_
          rotate_left
          · intro w' hSw
            (try dsimp only at hSw)
            go_simp
            with_reducible rfl
          (try simp only [Act.put, List.setIfInBounds_toArray, List.set_cons_zero, List.set_cons_succ])
          refine anyZ_take (i := 5) (oi := _) (v := ?_) [6, 18, 19, 20, 21] rfl (by kernel_rfl) (fun _ _ _ h => h) (Or.inl ⟨by rfl, ?_⟩) (by assumption) ?_
          rotate_left
          · intro w' hSw
            (try dsimp only at hSw)
            go_simp
            with_reducible rfl
          (try simp only [Act.put, List.setIfInBounds_toArray, List.set_cons_zero, List.set_cons_succ])
          refine anyZ_take (i := 6) (oi := _) (v := ?_) [18, 19, 20, 21] rfl (by kernel_rfl) (fun _ _ _ h => h) (Or.inl ⟨by rfl, ?_⟩) (by assumption) ?_
          rotate_left
          · intro w' hSw
            (try dsimp only at hSw)
            go_simp
            with_reducible rfl
          (try simp only [Act.put, List.setIfInBounds_toArray, List.set_cons_zero, List.set_cons_succ])
          refine anyZ_take (i := 7) (oi := _) (v := ?_) [8, 9, 18, 19, 20, 21] rfl (by kernel_rfl) (fun _ _ _ h => h) (Or.inl ⟨by rfl, ?_⟩) (by assumption) ?_
          rotate_left
          · intro w' hSw
            (try dsimp only at hSw)
            go_simp
            with_reducible rfl
          (try simp only [Act.put, List.setIfInBounds_toArray, List.set_cons_zero, List.set_cons_succ])
          refine anyZ_take (i := 8) (oi := _) (v := ?_) [9, 18, 19, 20, 21] rfl (by kernel_rfl) (fun _ _ _ h => h) (Or.inl ⟨by rfl, ?_⟩) (by assumption) ?_
          rotate_left
          · intro w' hSw
            (try dsimp only at hSw)
            go_simp
            with_reducible rfl
          (try simp only [Act.put, List.setIfInBounds_toArray, List.set_cons_zero, List.set_cons_succ])
          refine anyZ_take (i := 9) (oi := _) (v := ?_) [18, 19, 20, 21] rfl (by kernel_rfl) (fun _ _ _ h => h) (Or.inl ⟨by rfl, ?_⟩) (by assumption) ?_
          rotate_left
          · intro w' hSw
            (try dsimp only at hSw)
            go_simp
            with_reducible rfl
          (try simp only [Act.put, List.setIfInBounds_toArray, List.set_cons_zero, List.set_cons_succ])
          refine anyZ_take (i := 10) (oi := _) (v := ?_) [13, 18, 19, 20, 21] rfl (by kernel_rfl) (fun _ _ _ h => h) (Or.inl ⟨by rfl, ?_⟩) (by assumption) ?_
          rotate_left
          · intro w' hSw
            (try dsimp only at hSw)
            go_simp
            with_reducible rfl
          (try simp only [Act.put, List.setIfInBounds_toArray, List.set_cons_zero, List.set_cons_succ])
          refine anyZ_take (i := 11) (oi := _) (v := ?_) [12, 13, 18, 19, 20, 21] rfl (by kernel_rfl) (fun _ _ _ h => h) (Or.inl ⟨by rfl, ?_⟩) (by assumption) ?_
          rotate_left
          · intro w' hSw
            (try dsimp only at hSw)
            go_simp
            with_reducible rfl
          (try simp only [Act.put, List.setIfInBounds_toArray, List.set_cons_zero, List.set_cons_succ])
          refine anyZ_take (i := 12) (oi := _) (v := ?_) [13, 18, 19, 20, 21] rfl (by kernel_rfl) (fun _ _ _ h => h) (Or.inl ⟨by rfl, ?_⟩) (by assumption) ?_
          rotate_left
          · intro w' hSw
            (try dsimp only at hSw)
            go_simp
            with_reducible rfl
          (try simp only [Act.put, List.setIfInBounds_toArray, List.set_cons_zero, List.set_cons_succ])
          refine anyZ_take (i := 13) (oi := _) (v := ?_) [18, 19, 20, 21] rfl (by kernel_rfl) (fun _ _ _ h => h) (Or.inl ⟨by rfl, ?_⟩) (by assumption) ?_
          rotate_left
          · intro w' hSw
            (try dsimp only at hSw)
            go_simp
            with_reducible rfl
          (try simp only [Act.put, List.setIfInBounds_toArray, List.set_cons_zero, List.set_cons_succ])
          refine anyZ_take (i := 14) (oi := _) (v := ?_) [16, 17, 18, 19, 20, 21] rfl (by kernel_rfl) (fun _ _ _ h => h) (Or.inl ⟨by rfl, ?_⟩) (by assumption) ?_
          rotate_left
          · intro w' hSw
            (try dsimp only at hSw)
            go_simp
            with_reducible rfl
          (try simp only [Act.put, List.setIfInBounds_toArray, List.set_cons_zero, List.set_cons_succ])
          refine anyZ_take (i := 15) (oi := _) (v := ?_) [16, 17, 18, 19, 20, 21] rfl (by kernel_rfl) (fun _ _ _ h => h) (Or.inl ⟨by rfl, ?_⟩) (by assumption) ?_
          rotate_left
          · intro w' hSw
            (try dsimp only at hSw)
            go_simp
            with_reducible rfl
          (try simp only [Act.put, List.setIfInBounds_toArray, List.set_cons_zero, List.set_cons_succ])
          refine anyZ_take (i := 16) (oi := _) (v := ?_) [17, 18, 19, 20, 21] rfl (by kernel_rfl) (fun _ _ _ h => h) (Or.inl ⟨by rfl, ?_⟩) (by assumption) ?_
          rotate_left
          · intro w' hSw
            (try dsimp only at hSw)
            go_simp
            with_reducible rfl
          (try simp only [Act.put, List.setIfInBounds_toArray, List.set_cons_zero, List.set_cons_succ])
          refine anyZ_one (i := 17) (o := _) rfl (by kernel_rfl) (fun K hK => ?_)
          go_simp
          go_at_call 19
          refine (c19 A' mm c' B (chk mm xs k) _ (by omega) (by show B ≤ wr.heap.size; have := hbr.size; omega) hrq.drew).mono ?_
          rintro e W1 ⟨v1, rfl, hown1, hb1⟩
          have hb1 : Below wr.heap.size wr W1 := ⟨hb1.os, hb1.tape, hb1.output, hb1.size, hb1.block⟩
          obtain ⟨A2, c2, rfl, hle2, hnil2⟩ := own_slice hown1
          have hs1 := hb1.size
          refine hK.out _ _ (fun _ => ⟨(hb1.cell (p := ⟨w.heap.size, 0, none⟩) (by simp; omega)).trans hk2, (hb1.cell (p := ⟨w.heap.size, 1, none⟩) (by simp; omega)).trans hk3⟩) (fun hS1 => ?_)
          have hSx := hS1 (by decide)
          clear hS1 hK K hHeld
          (try simp only [Act.put, List.setIfInBounds_toArray, List.set_cons_zero, List.set_cons_succ])
          refine anyZ_take (i := 18) (oi := _) (v := ?_) [19, 20, 21] rfl (by kernel_rfl) (fun _ _ _ h => h) (Or.inl ⟨by rfl, ?_⟩) (by assumption) ?_
          rotate_left
          · intro w' hSw
            (try dsimp only at hSw)
            go_simp
            with_reducible rfl
          (try simp only [Act.put, List.setIfInBounds_toArray, List.set_cons_zero, List.set_cons_succ])
          refine anyZ_one (i := 19) (o := _) rfl (by kernel_rfl) (fun K hK => ?_)
          go_simp
          refine hK.out _ _ (fun _ => ⟨(World.cell?_alloc_lt W1 _ _ (by simp; omega)).trans hSx.1, (World.cell?_alloc_lt W1 _ _ (by simp; omega)).trans hSx.2⟩) (fun hS1 => ?_)
          have hSy := hS1 (by decide)
          clear hS1 hK K
          (try simp only [Act.put, List.setIfInBounds_toArray, List.set_cons_zero, List.set_cons_succ])
          refine anyZ_one (i := 20) (o := _) rfl (by kernel_rfl) (fun K hK => ?_)
          refine step_append_any _ rfl (.tmp 35) (.tmp 54) _ rfl (w.heap.size + 1) 38 i0 _ 7 40 Try.underlying29 hi0 hz0 hz1 hz2 rfl (by omega) (.slice A1 k c1) k (dts ds) rfl ((own_below hrow hb1).alloc _) (W1.heap.size + 1) (some ⟨W1.heap.size, 0, none⟩) 1 1 [.int .u32 0, .int .u16 st, .int .u16 0, .bool true, .bool ((k : Int) == 0), .bool ((mm : Int) == r), .slice A2 mm c2] rfl (reads_new W1 #[.int .u32 0, .int .u16 st, .int .u16 0, .bool true, .bool ((k : Int) == 0), .bool ((mm : Int) == r), .slice A2 mm c2] 38 7 1 rfl) (by intro u hu; simp at hu; rcases hu with rfl | rfl | rfl | rfl | rfl | rfl | rfl <;> rfl) (by simp only [maxLen]; omega) (by omega) (by simp; omega) ?_
          intro v3 W3 hown3 hg3 hat3
          obtain ⟨A3, c3, rfl, hle3, hnil3⟩ := own_slice hown3
          have RR := hide (ref_round (d := ⟨0, st, 0, true, ((k : Int) == 0), ((mm : Int) == r), A2, mm, c2⟩) (by omega) hrow hOw hb1 hown1 (fun y hy => unhide hok y (List.mem_of_mem_drop (List.mem_of_mem_take hy))) hown3 hg3)
          have hb13 := (unhide RR).2.2.1
          refine hK.out _ _ (fun _ => ⟨(World.cell?_of_block (hb13 _ (by simp))).trans hk2, (World.cell?_of_block (hb13 _ (by simp))).trans hk3⟩) (fun hS1 => ?_)
          have hSz := hS1 (by decide)
          clear hS1 hK K hb13
          (try simp only [Act.put, List.setIfInBounds_toArray, List.set_cons_zero, List.set_cons_succ])
          refine anyZ_one (i := 21) (o := _) rfl (by kernel_rfl) (fun K hK => ?_)
          go_simp
          refine hK.out _ _ (fun h => absurd rfl h) (fun _ => ?_)
          clear hK K hSx hSy hSz hg3 hown3 hown1
          refine anyZ_done (by kernel_rfl) ?_
          (try simp only [Act.put, List.setIfInBounds_toArray, List.set_cons_zero, List.set_cons_succ])
          go_wp2
          go_roundw
          case rel =>
            obtain ⟨r1, r2, r3, r4⟩ := unhide RR
            have hlen : ds.length = k := by have := hrow.1; rw [dts_length] at this; omega
            have hxl := unhide hxs
            have e1 : (k + 1) * mm = k * mm + mm := by rw [Nat.add_mul, Nat.one_mul]
            have eN : r + k * mm = N := by rcases unhide hrN with e | e <;> omega
            have hM3 : Blk W3 w.heap.size 25 #[.int .u16 st, .bool false, .slice A N c] := (r3 _ (by omega)).trans hM
            have hkn2 : k + 1 ≤ nch mm N := unhide hkn
            have hls := nch_last (n := N) hm (unhide hkn)
            refine ⟨k + 1, _, _, r - mm, c' - mm, hkn2, rfl, by omega, .inl (by rw [e1]; omega), by rw [e1]; exact (unhide HN).keep (fun p hp => World.cell?_of_block (r3 _ (by omega))), r4 _ _ (by omega) hbr, hM3, r1, by rw [List.range_succ, List.map_append]; exact r2, heads_snoc (unhide hHd) ⟨rfl, rfl, by simp, by simp, ?_, ?_⟩⟩
            · rw [hlen]
              show ((k : Int) == 0) = decide (k = 0)
              rw [Bool.eq_iff_iff]
              simp <;> omega
            · rw [hlen]
              show ((mm : Int) == r) = decide (k + 1 = nch mm N)
              rw [Bool.eq_iff_iff, decide_eq_true_iff, hls]
              simp <;> omega
          case measure => simp <;> omega
        · have hle2 : (r : Int) < mm := by omega
          have hqr : r ≤ r := by omega
          have hqc : r ≤ c' := by omega
          have hrq := reads_pre hrd hqr
          rw [Nat.mul_one, ← bs_take] at hrq
          have hdl := blen_ hrd
          have hch : Hid ((xs.drop (k * mm)).take r = chk mm xs k) := by
            show _ = _
            unfold chk
            first | rfl | rw [List.take_of_length_le (by omega), List.take_of_length_le (by omega)]
          rw [unhide hch] at hrq
          have hnext := hrd.cut (k := r) (cap := c') hqr hrc
          rw [Nat.mul_one, ← bs_drop, List.drop_drop] at hnext
          have HN := hide hnext
          clear hnext hdl
          have hk2 := hM.cell 0
          have hk3 := hM.cell 1
          have hMlt := hM.lt
          have hkr : k * mm < N := by rcases unhide hrN with e | e <;> omega
          have hkn := hide ((nch_lt hm).2 hkr)
          have hkN : k ≤ 1048576 := by have := unhide hkn; have := (nch_pos (mm := mm) hN0).2; omega
          have HKR := hide hkr
          clear hkr
          obtain ⟨A1, c1, rfl, hle1, hnil1⟩ := own_slice hrow
          go_wp2
          refine wp_regionZ (fun w' => w'.cell? ⟨w.heap.size, 0, none⟩ = some (.int .u16 st) ∧ w'.cell? ⟨w.heap.size, 1, none⟩ = some (.bool false)) 21 (by kernel_rfl) ⟨hk2, hk3⟩ (fun hHeld => ?_)
          refine anyZ_take (i := 0) (oi := _) (v := ?_) [20, 21] rfl (by kernel_rfl) (fun _ _ _ h => h) (Or.inl ⟨by rfl, ?_⟩) (by assumption) ?_
          rotate_left
          · intro w' hSw
            (try dsimp only at hSw)
            go_simp
            with_reducible rfl
          (try simp only [Act.put, List.setIfInBounds_toArray, List.set_cons_zero, List.set_cons_succ])
          refine anyZ_take (i := 1) (oi := _) (v := ?_) [2, 18, 19, 20, 21] rfl (by kernel_rfl) (fun _ _ _ h => h) (Or.inl ⟨by rfl, ?_⟩) (by assumption) ?_
          rotate_left
          · intro w' hSw
            (try dsimp only at hSw)
            go_simp
            with_reducible rfl
          (try simp only [Act.put, List.setIfInBounds_toArray, List.set_cons_zero, List.set_cons_succ])
          refine anyZ_take (i := 2) (oi := _) (v := ?_) [18, 19, 20, 21] rfl (by kernel_rfl) (fun _ _ _ h => h) (Or.inl ⟨by rfl, ?_⟩) (by assumption) ?_
          rotate_left
          · intro w' hSw
            (try dsimp only at hSw)
            go_simp
            with_reducible rfl
          (try simp only [Act.put, List.setIfInBounds_toArray, List.set_cons_zero, List.set_cons_succ])
          refine anyZ_take (i := 3) (oi := _) (v := ?_) [18, 19, 20, 21] rfl (by kernel_rfl) (fun _ _ _ h => h) (Or.inl ⟨by rfl, ?_⟩) (by assumption) ?_
          rotate_left
          · intro w' hSw
            (try dsimp only at hSw)
            go_simp
            with_reducible rfl
          (try simp only [Act.put, List.setIfInBounds_toArray, List.set_cons_zero, List.set_cons_succ])
          refine anyZ_take (i := 4) (oi := _) (v := ?_) [5, 6, 18, 19, 20, 21] rfl (by kernel_rfl) (fun _ _ _ h => h) (Or.inl ⟨by rfl, ?_⟩) (by assumption) ?_
          rotate_left
          · intro w' hSw
            (try dsimp only at hSw)
            go_simp
            with_reducible rfl
          (try simp only [Act.put, List.setIfInBounds_toArray, List.set_cons_zero, List.set_cons_succ])
          refine anyZ_take (i := 5) (oi := _) (v := ?_) [6, 18, 19, 20, 21] rfl (by kernel_rfl) (fun _ _ _ h => h) (Or.inl ⟨by rfl, ?_⟩) (by assumption) ?_
          rotate_left
          · intro w' hSw
            (try dsimp only at hSw)
            go_simp
            with_reducible rfl
          (try simp only [Act.put, List.setIfInBounds_toArray, List.set_cons_zero, List.set_cons_succ])
          refine anyZ_take (i := 6) (oi := _) (v := ?_) [18, 19, 20, 21] rfl (by kernel_rfl) (fun _ _ _ h => h) (Or.inl ⟨by rfl, ?_⟩) (by assumption) ?_
          rotate_left
          · intro w' hSw
            (try dsimp only at hSw)
            go_simp
            with_reducible rfl
          (try simp only [Act.put, List.setIfInBounds_toArray, List.set_cons_zero, List.set_cons_succ])
          refine anyZ_take (i := 7) (oi := _) (v := ?_) [8, 9, 18, 19, 20, 21] rfl (by kernel_rfl) (fun _ _ _ h => h) (Or.inl ⟨by rfl, ?_⟩) (by assumption) ?_
          rotate_left
          · intro w' hSw
            (try dsimp only at hSw)
            go_simp
            with_reducible rfl
          (try simp only [Act.put, List.setIfInBounds_toArray, List.set_cons_zero, List.set_cons_succ])
          refine anyZ_take (i := 8) (oi := _) (v := ?_) [9, 18, 19, 20, 21] rfl (by kernel_rfl) (fun _ _ _ h => h) (Or.inl ⟨by rfl, ?_⟩) (by assumption) ?_
          rotate_left
          · intro w' hSw
            (try dsimp only at hSw)
            go_simp
            with_reducible rfl
          (try simp only [Act.put, List.setIfInBounds_toArray, List.set_cons_zero, List.set_cons_succ])
          refine anyZ_take (i := 9) (oi := _) (v := ?_) [18, 19, 20, 21] rfl (by kernel_rfl) (fun _ _ _ h => h) (Or.inl ⟨by rfl, ?_⟩) (by assumption) ?_
          rotate_left
          · intro w' hSw
            (try dsimp only at hSw)
            go_simp
            with_reducible rfl
          (try simp only [Act.put, List.setIfInBounds_toArray, List.set_cons_zero, List.set_cons_succ])
          refine anyZ_take (i := 10) (oi := _) (v := ?_) [13, 18, 19, 20, 21] rfl (by kernel_rfl) (fun _ _ _ h => h) (Or.inl ⟨by rfl, ?_⟩) (by assumption) ?_
          rotate_left
          · intro w' hSw
            (try dsimp only at hSw)
            go_simp
            with_reducible rfl
          (try simp only [Act.put, List.setIfInBounds_toArray, List.set_cons_zero, List.set_cons_succ])
          refine anyZ_take (i := 11) (oi := _) (v := ?_) [12, 13, 18, 19, 20, 21] rfl (by kernel_rfl) (fun _ _ _ h => h) (Or.inl ⟨by rfl, ?_⟩) (by assumption) ?_
          rotate_left
          · intro w' hSw
            (try dsimp only at hSw)
            go_simp
            with_reducible rfl
          (try simp only [Act.put, List.setIfInBounds_toArray, List.set_cons_zero, List.set_cons_succ])
          refine anyZ_take (i := 12) (oi := _) (v := ?_) [13, 18, 19, 20, 21] rfl (by kernel_rfl) (fun _ _ _ h => h) (Or.inl ⟨by rfl, ?_⟩) (by assumption) ?_
          rotate_left
          · intro w' hSw
            (try dsimp only at hSw)
            go_simp
            with_reducible rfl
          (try simp only [Act.put, List.setIfInBounds_toArray, List.set_cons_zero, List.set_cons_succ])
          refine anyZ_take (i := 13) (oi := _) (v := ?_) [18, 19, 20, 21] rfl (by kernel_rfl) (fun _ _ _ h => h) (Or.inl ⟨by rfl, ?_⟩) (by assumption) ?_
          rotate_left
          · intro w' hSw
            (try dsimp only at hSw)
            go_simp
            with_reducible rfl
          (try simp only [Act.put, List.setIfInBounds_toArray, List.set_cons_zero, List.set_cons_succ])
          refine anyZ_take (i := 14) (oi := _) (v := ?_) [16, 17, 18, 19, 20, 21] rfl (by kernel_rfl) (fun _ _ _ h => h) (Or.inl ⟨by rfl, ?_⟩) (by assumption) ?_
          rotate_left
          · intro w' hSw
            (try dsimp only at hSw)
            go_simp
            with_reducible rfl
          (try simp only [Act.put, List.setIfInBounds_toArray, List.set_cons_zero, List.set_cons_succ])
          refine anyZ_take (i := 15) (oi := _) (v := ?_) [16, 17, 18, 19, 20, 21] rfl (by kernel_rfl) (fun _ _ _ h => h) (Or.inl ⟨by rfl, ?_⟩) (by assumption) ?_
          rotate_left
          · intro w' hSw
            (try dsimp only at hSw)
            go_simp
            with_reducible rfl
          (try simp only [Act.put, List.setIfInBounds_toArray, List.set_cons_zero, List.set_cons_succ])
          refine anyZ_take (i := 16) (oi := _) (v := ?_) [17, 18, 19, 20, 21] rfl (by kernel_rfl) (fun _ _ _ h => h) (Or.inl ⟨by rfl, ?_⟩) (by assumption) ?_
          rotate_left
          · intro w' hSw
            (try dsimp only at hSw)
            go_simp
            with_reducible rfl
          (try simp only [Act.put, List.setIfInBounds_toArray, List.set_cons_zero, List.set_cons_succ])
          refine anyZ_one (i := 17) (o := _) rfl (by kernel_rfl) (fun K hK => ?_)
          go_simp
          go_at_call 19
          refine (c19 A' r c' B (chk mm xs k) _ (by omega) (by show B ≤ wr.heap.size; have := hbr.size; omega) hrq.drew).mono ?_
          rintro e W1 ⟨v1, rfl, hown1, hb1⟩
          have hb1 : Below wr.heap.size wr W1 := ⟨hb1.os, hb1.tape, hb1.output, hb1.size, hb1.block⟩
          obtain ⟨A2, c2, rfl, hle2, hnil2⟩ := own_slice hown1
          have hs1 := hb1.size
          refine hK.out _ _ (fun _ => ⟨(hb1.cell (p := ⟨w.heap.size, 0, none⟩) (by simp; omega)).trans hk2, (hb1.cell (p := ⟨w.heap.size, 1, none⟩) (by simp; omega)).trans hk3⟩) (fun hS1 => ?_)
          have hSx := hS1 (by decide)
          clear hS1 hK K hHeld
          (try simp only [Act.put, List.setIfInBounds_toArray, List.set_cons_zero, List.set_cons_succ])
          refine anyZ_take (i := 18) (oi := _) (v := ?_) [19, 20, 21] rfl (by kernel_rfl) (fun _ _ _ h => h) (Or.inl ⟨by rfl, ?_⟩) (by assumption) ?_
          rotate_left
          · intro w' hSw
            (try dsimp only at hSw)
            go_simp
            with_reducible rfl
          (try simp only [Act.put, List.setIfInBounds_toArray, List.set_cons_zero, List.set_cons_succ])
          refine anyZ_one (i := 19) (o := _) rfl (by kernel_rfl) (fun K hK => ?_)
          go_simp
          refine hK.out _ _ (fun _ => ⟨(World.cell?_alloc_lt W1 _ _ (by simp; omega)).trans hSx.1, (World.cell?_alloc_lt W1 _ _ (by simp; omega)).trans hSx.2⟩) (fun hS1 => ?_)
          have hSy := hS1 (by decide)
          clear hS1 hK K
          (try simp only [Act.put, List.setIfInBounds_toArray, List.set_cons_zero, List.set_cons_succ])
          refine anyZ_one (i := 20) (o := _) rfl (by kernel_rfl) (fun K hK => ?_)
          refine step_append_any _ rfl (.tmp 35) (.tmp 54) _ rfl (w.heap.size + 1) 38 i0 _ 7 40 Try.underlying29 hi0 hz0 hz1 hz2 rfl (by omega) (.slice A1 k c1) k (dts ds) rfl ((own_below hrow hb1).alloc _) (W1.heap.size + 1) (some ⟨W1.heap.size, 0, none⟩) 1 1 [.int .u32 0, .int .u16 st, .int .u16 0, .bool true, .bool ((k : Int) == 0), .bool true, .slice A2 r c2] rfl (reads_new W1 #[.int .u32 0, .int .u16 st, .int .u16 0, .bool true, .bool ((k : Int) == 0), .bool true, .slice A2 r c2] 38 7 1 rfl) (by intro u hu; simp at hu; rcases hu with rfl | rfl | rfl | rfl | rfl | rfl | rfl <;> rfl) (by simp only [maxLen]; omega) (by omega) (by simp; omega) ?_
          intro v3 W3 hown3 hg3 hat3
          obtain ⟨A3, c3, rfl, hle3, hnil3⟩ := own_slice hown3
          have RR := hide (ref_round (d := ⟨0, st, 0, true, ((k : Int) == 0), true, A2, r, c2⟩) (by omega) hrow hOw hb1 hown1 (fun y hy => unhide hok y (List.mem_of_mem_drop (List.mem_of_mem_take hy))) hown3 hg3)
          have hb13 := (unhide RR).2.2.1
          refine hK.out _ _ (fun _ => ⟨(World.cell?_of_block (hb13 _ (by simp))).trans hk2, (World.cell?_of_block (hb13 _ (by simp))).trans hk3⟩) (fun hS1 => ?_)
          have hSz := hS1 (by decide)
          clear hS1 hK K hb13
          (try simp only [Act.put, List.setIfInBounds_toArray, List.set_cons_zero, List.set_cons_succ])
          refine anyZ_one (i := 21) (o := _) rfl (by kernel_rfl) (fun K hK => ?_)
          go_simp
          refine hK.out _ _ (fun h => absurd rfl h) (fun _ => ?_)
          clear hK K hSx hSy hSz hg3 hown3 hown1
          refine anyZ_done (by kernel_rfl) ?_
          (try simp only [Act.put, List.setIfInBounds_toArray, List.set_cons_zero, List.set_cons_succ])
          go_wp2
          go_roundw
          case rel =>
            obtain ⟨r1, r2, r3, r4⟩ := unhide RR
            have hlen : ds.length = k := by have := hrow.1; rw [dts_length] at this; omega
            have hxl := unhide hxs
            have e1 : (k + 1) * mm = k * mm + mm := by rw [Nat.add_mul, Nat.one_mul]
            have eN : r + k * mm = N := by rcases unhide hrN with e | e <;> omega
            have hM3 : Blk W3 w.heap.size 25 #[.int .u16 st, .bool false, .slice A N c] := (r3 _ (by omega)).trans hM
            have hkn2 : k + 1 ≤ nch mm N := unhide hkn
            have hls := nch_last (n := N) hm (unhide hkn)
            refine ⟨k + 1, _, _, 0, c' - r, hkn2, rfl, by omega, .inr ⟨rfl, by rw [e1]; omega⟩, ⟨by rw [bs_length, List.length_drop, e1]; omega, fun h => absurd h (by omega)⟩, r4 _ _ (by omega) hbr, hM3, r1, by rw [List.range_succ, List.map_append]; exact r2, heads_snoc (unhide hHd) ⟨rfl, rfl, by simp, by simp, ?_, ?_⟩⟩
            · rw [hlen]
              show ((k : Int) == 0) = decide (k = 0)
              rw [Bool.eq_iff_iff]
              simp <;> omega
            · rw [hlen]
              show true = decide (k + 1 = nch mm N)
              rw [Bool.eq_iff_iff, decide_eq_true_iff, hls]
              simp <;> omega
          case measure => simp <;> omega
      · obtain rfl : r = 0 := by omega
        have hkK : k = nch mm N := by
          rcases Nat.lt_or_ge k (nch mm N) with h | h
          · have h2 := (nch_lt hm).1 h
            rcases unhide hrN with e | e <;> omega
          · omega
        obtain ⟨A1, c1, rfl, hle1, hnil1⟩ := own_slice hrow
        have hlen : ds.length = k := by have := hrow.1; rw [dts_length] at this; omega
        have HL := hide (And.intro hkK hlen)
        clear hkK hlen
        go_wp2
        go_ret2
        obtain ⟨hkK, hlen⟩ := unhide HL
        unfold CutPost
        rw [unhide hxs, ← hkK]
        exact ⟨A1, c1, ds, rfl, hlen, own_weaken hrow (by omega), hOw.weaken (by omega), by rw [hkK]; exact unhide hHd, hbr⟩
end Go.Proofs.Ytfgbegamdlafkaa.Cu

/-
  does: a message is laid in the queue, or into no queue.
-/
import Derived.Test.YtmidnfkmefoleaaDk
set_option linter.unusedVariables false
set_option linter.unusedSimpArgs false
namespace Go.Proofs.Ytmidnfkmefoleaa.Do
open Go.RowKit Wd Ra Qm Qs Qp Qn Qe Qd Qx Ql Qt Oq Vs Dk

theorem size46 : (#[Value.int .u32 0, .int .u16 0, .int .u16 0, .bool false, .bool false, .bool false, .slice none 0 0, .int .i64 0, .bool false, .int .i64 0] : Array Value).size = 10 := rfl
theorem bs_one' (l : List Int) : ∀ u ∈ bs l, u.oneCell' = true := bs_one l
/-- The result's ten cells. -/
def told (d : PD) (A : Option Addr) (n c : Nat) (id : Int) (ok : Bool) (err : Int) : Array Value := #[.int .u32 0, .int .u16 d.st, .int .u16 d.ssn, .bool d.un, .bool d.fi, .bool d.la, .slice A n c, .int .i64 id, .bool ok, .int .i64 err]
set_option maxRecDepth 100000 in
set_option maxHeartbeats 2000000 in
theorem does0 (qv : Value) (I : World → Prop) (J : Nat → World → Prop) (st un kk id err : Int) (o : Bool) (A : Option Addr) (n c B : Nat) (xs : List Int) (w : World) (hI : I w) (KI : Kp w.heap.size (fun k => w.heap.size ≤ k) I) (KJ : ∀ S, Kp w.heap.size (fun k => w.heap.size ≤ k ∧ k < S) (J S))
    (RI : ∀ W, I W → w.heap.size ≤ W.heap.size → Reads W B 1 A n (bs xs)) (RJ : ∀ S W, J S W → w.heap.size ≤ W.heap.size → Reads W B 1 A n (bs xs)) (hB : B ≤ w.heap.size) (hn : n ≤ 140737488355328)
    (hput : ∀ (W : World) (A' : Option Addr) (c' : Nat), I W → w.heap.size < W.heap.size → W.ownsRow w.heap.size 5 1 (.slice A' n c') n (bs xs) → Calls Try.prog 11 #[qv, .agg #[.int .u16 st, .bool o, .slice A' n c'], .int .i64 un] W fun e w' => e = .returned (.tuple #[.int .i64 id, .int .i64 err]) ∧ J W.heap.size w' ∧ Sd w.heap.size W w') :
    Calls Try.prog 17 #[qv, .agg #[.int .i64 0, .int .u16 st, .bool o, .slice A n c, .int .i64 un, .int .i64 kk]] w fun e w' => e = .returned (.agg (told zeroD none 0 0 id true err)) ∧ (∃ S, J S w') ∧ w.heap.size ≤ w'.heap.size := by
  obtain ⟨i0, hi0, hz0, hz1, hz2⟩ := info_parts info5
  have I4 := KI.alloc (KI.alloc (KI.alloc (KI.alloc hI (.cells #[.int .i64 0, .int .u16 st, .bool o, .slice A n c, .int .i64 un, .int .i64 kk] 42)) (.cells #[.int .u32 0, .int .u16 0, .int .u16 0, .bool false, .bool false, .bool false, .slice none 0 0, .int .i64 0, .bool false, .int .i64 0] 46)) (.cells #[.int .u32 0, .int .u16 0, .int .u16 0, .bool false, .bool false, .bool false, .slice none 0 0, .int .i64 0, .bool false, .int .i64 0] 46)) (.cells #[.int .u16 st, .bool o, .slice A n c] 32)
  have DX := (((Blk.new w 42 #[.int .i64 0, .int .u16 st, .bool o, .slice A n c, .int .i64 un, .int .i64 kk]).alloc (.cells #[.int .u32 0, .int .u16 0, .int .u16 0, .bool false, .bool false, .bool false, .slice none 0 0, .int .i64 0, .bool false, .int .i64 0] 46)).alloc (.cells #[.int .u32 0, .int .u16 0, .int .u16 0, .bool false, .bool false, .bool false, .slice none 0 0, .int .i64 0, .bool false, .int .i64 0] 46)).alloc (.cells #[.int .u16 st, .bool o, .slice A n c] 32)
  have DA := ((Blk.new (w.alloc (.cells #[.int .i64 0, .int .u16 st, .bool o, .slice A n c, .int .i64 un, .int .i64 kk] 42)) 46 #[.int .u32 0, .int .u16 0, .int .u16 0, .bool false, .bool false, .bool false, .slice none 0 0, .int .i64 0, .bool false, .int .i64 0]).alloc (.cells #[.int .u32 0, .int .u16 0, .int .u16 0, .bool false, .bool false, .bool false, .slice none 0 0, .int .i64 0, .bool false, .int .i64 0] 46)).alloc (.cells #[.int .u16 st, .bool o, .slice A n c] 32)
  have DB := (Blk.new ((w.alloc (.cells #[.int .i64 0, .int .u16 st, .bool o, .slice A n c, .int .i64 un, .int .i64 kk] 42)).alloc (.cells #[.int .u32 0, .int .u16 0, .int .u16 0, .bool false, .bool false, .bool false, .slice none 0 0, .int .i64 0, .bool false, .int .i64 0] 46)) 46 #[.int .u32 0, .int .u16 0, .int .u16 0, .bool false, .bool false, .bool false, .slice none 0 0, .int .i64 0, .bool false, .int .i64 0]).alloc (.cells #[.int .u16 st, .bool o, .slice A n c] 32)
  have DM := Blk.new (((w.alloc (.cells #[.int .i64 0, .int .u16 st, .bool o, .slice A n c, .int .i64 un, .int .i64 kk] 42)).alloc (.cells #[.int .u32 0, .int .u16 0, .int .u16 0, .bool false, .bool false, .bool false, .slice none 0 0, .int .i64 0, .bool false, .int .i64 0] 46)).alloc (.cells #[.int .u32 0, .int .u16 0, .int .u16 0, .bool false, .bool false, .bool false, .slice none 0 0, .int .i64 0, .bool false, .int .i64 0] 46)) 32 #[.int .u16 st, .bool o, .slice A n c]
  have hs4 : ((((w.alloc (.cells #[.int .i64 0, .int .u16 st, .bool o, .slice A n c, .int .i64 un, .int .i64 kk] 42)).alloc (.cells #[.int .u32 0, .int .u16 0, .int .u16 0, .bool false, .bool false, .bool false, .slice none 0 0, .int .i64 0, .bool false, .int .i64 0] 46)).alloc (.cells #[.int .u32 0, .int .u16 0, .int .u16 0, .bool false, .bool false, .bool false, .slice none 0 0, .int .i64 0, .bool false, .int .i64 0] 46)).alloc (.cells #[.int .u16 st, .bool o, .slice A n c] 32)).heap.size = w.heap.size + 1 + 1 + 1 + 1 := by simp
  simp only [World.size_alloc] at DA DB DM
  go_enter Try.func17, Try.ntmps17
  go_upto_region 5 with fail
  generalize ((((w.alloc (.cells #[.int .i64 0, .int .u16 st, .bool o, .slice A n c, .int .i64 un, .int .i64 kk] 42)).alloc (.cells #[.int .u32 0, .int .u16 0, .int .u16 0, .bool false, .bool false, .bool false, .slice none 0 0, .int .i64 0, .bool false, .int .i64 0] 46)).alloc (.cells #[.int .u32 0, .int .u16 0, .int .u16 0, .bool false, .bool false, .bool false, .slice none 0 0, .int .i64 0, .bool false, .int .i64 0] 46)).alloc (.cells #[.int .u16 st, .bool o, .slice A n c] 32)) = w4 at *
  generalize hsw : w.heap.size = s at *
  have HS := hide hsw
  clear hsw
  have I5 := KI.alloc I4 (.cells #[] 5)
  have r5 := RI _ I5 (by simp; omega)
  have o5 := own_empty_at w4 s 5 1 (s + 1 + 1 + 1 + 1) (by omega) hs4
  have h5 : B ≤ (w4.alloc (.cells #[] 5)).heap.size := by simp; omega
  have hs5 : s ≤ (w4.alloc (.cells #[] 5)).heap.size := by simp; omega
  have x3 : w4.cell? ⟨s, 3, none⟩ = some (.slice A n c) := DX.cell 3
  have DX := DX.alloc (.cells #[] 5)
  have DA := DA.alloc (.cells #[] 5)
  have DB := DB.alloc (.cells #[] 5)
  have DM := DM.alloc (.cells #[] 5)
  go_upto_region 6 with (
    at_builtin
    refine wpList_append_any _ rfl (.tmp 22) (.tmp 25) _ rfl s 5 i0 _ 1 1 Try.underlying22 hi0 hz0 hz1 hz2 rfl (by omega) (.slice (some ⟨s + 1 + 1 + 1 + 1, 0, none⟩) 0 0) 0 [] rfl o5 B A n c (bs xs) rfl r5 (bs_one xs) (by simp only [maxLen]; omega) (by omega) hs5 ?_
    intro v6 w6 o6 g6 at6
    rw [Nat.zero_add, List.nil_append] at o6
    have DX := Sd.grown o5 g6 _ _ _ (by decide) DX
    have DA := Sd.grown o5 g6 _ _ _ (by decide) DA
    have DB := Sd.grown o5 g6 _ _ _ (by decide) DB
    have DM := Sd.grown o5 g6 _ _ _ (by decide) DM
    have I6 := KI.grown _ _ _ _ _ I5 o5 (fun g hg => own_base o5 g hg) g6
    have hs6 : s + 1 + 1 + 1 + 1 < w6.heap.size := by have := g6.size; simp at this; omega
    obtain ⟨A6, c6, rfl, _, _⟩ := own_slice o6
    clear o5 g6 at6 r5 h5 hs5 x3 I4 I5
    have I7 := KI.far _ _ _ _ 2 (.slice A6 n c6) I6 DM (by omega) (.inl rfl)
    have o7 : (w6.setCell ⟨s + 1 + 1 + 1, 2, none⟩ (.slice A6 n c6)).ownsRow s 5 1 (.slice A6 n c6) n (bs xs) := own_set o6 DM (by decide)
    have X7 : Blk (w6.setCell ⟨s + 1 + 1 + 1, 2, none⟩ (.slice A6 n c6)) _ _ _ := blk_set DX (by omega)
    have A7 : Blk (w6.setCell ⟨s + 1 + 1 + 1, 2, none⟩ (.slice A6 n c6)) _ _ _ := blk_set DA (by omega)
    have B7 : Blk (w6.setCell ⟨s + 1 + 1 + 1, 2, none⟩ (.slice A6 n c6)) _ _ _ := blk_set DB (by omega)
    have M7 := DM.set_ 2 (.slice A6 n c6)
    simp only [List.setIfInBounds_toArray, List.set_cons_zero, List.set_cons_succ] at M7
    have hs7 : s + 1 + 1 + 1 + 1 < (w6.setCell ⟨s + 1 + 1 + 1, 2, none⟩ (.slice A6 n c6)).heap.size := by simpa using hs6
    have m2 := DM.cell 2
    have mf := fun i => DM.frozen i)
  generalize (w6.setCell ⟨s + 1 + 1 + 1, 2, none⟩ (.slice A6 n c6)) = w7 at *
  clear m2 mf DX DA DB DM o6 I6 hs6
  have m0 : w7.cell? ⟨s + 1 + 1 + 1, 0, none⟩ = some (.int .u16 st) := M7.cell 0
  have m1 : w7.cell? ⟨s + 1 + 1 + 1, 1, none⟩ = some (.bool o) := M7.cell 1
  have m2 : w7.cell? ⟨s + 1 + 1 + 1, 2, none⟩ = some (.slice A6 n c6) := M7.cell 2
  have m4 : w7.cell? ⟨s, 4, none⟩ = some (.int .i64 un) := X7.cell 4
  go_wp2_with fail
  refine (hput w7 A6 c6 I7 (by omega) o7).mono ?_
  rintro e w8 ⟨rfl, J8, sd⟩
  have X8 := sd.blk _ _ _ (by omega) (not_mine (by decide)) X7
  have A8 := sd.blk _ _ _ (by omega) (not_mine (by decide)) A7
  have B8 := sd.blk _ _ _ (by omega) (not_mine (by decide)) B7
  have M8 := sd.blk _ _ _ (by omega) (not_mine (by decide)) M7
  have o8 := sd.own _ _ _ _ (Nat.le_refl _) o7
  have hs8 := sd.size
  have hS : ∀ g, (Value.slice A6 n c6).ownBlock = some g → g < w7.heap.size := fun g hg => own_lt o7 g hg
  generalize w7.heap.size = S at *
  clear m0 m1 m2 m4 X7 A7 B7 M7 o7 I7 sd hput
  have J9 := (KJ S).far _ _ _ _ 7 (.int .i64 id) J8 B8 (by omega) (.inr (.inr (.inr rfl)))
  have B9 := B8.set_ 7 (.int .i64 id)
  have J10 := (KJ S).far _ _ _ _ 9 (.int .i64 err) J9 B9 (by omega) (.inr (.inr (.inr rfl)))
  have B10 := B9.set_ 9 (.int .i64 err)
  have o9 : (w8.setCell ⟨s + 1 + 1, 7, none⟩ (.int .i64 id)).ownsRow s 5 1 (.slice A6 n c6) n (bs xs) := own_set o8 B8 (by decide)
  have o10 : ((w8.setCell ⟨s + 1 + 1, 7, none⟩ (.int .i64 id)).setCell ⟨s + 1 + 1, 9, none⟩ (.int .i64 err)).ownsRow s 5 1 (.slice A6 n c6) n (bs xs) := own_set o9 B9 (by decide)
  have X10 : Blk ((w8.setCell ⟨s + 1 + 1, 7, none⟩ (.int .i64 id)).setCell ⟨s + 1 + 1, 9, none⟩ (.int .i64 err)) _ _ _ := blk_set (blk_set X8 (by omega)) (by omega)
  have A10 : Blk ((w8.setCell ⟨s + 1 + 1, 7, none⟩ (.int .i64 id)).setCell ⟨s + 1 + 1, 9, none⟩ (.int .i64 err)) _ _ _ := blk_set (blk_set A8 (by omega)) (by omega)
  have M10 : Blk ((w8.setCell ⟨s + 1 + 1, 7, none⟩ (.int .i64 id)).setCell ⟨s + 1 + 1, 9, none⟩ (.int .i64 err)) _ _ _ := blk_set (blk_set M8 (by omega)) (by omega)
  have hs10 : S ≤ ((w8.setCell ⟨s + 1 + 1, 7, none⟩ (.int .i64 id)).setCell ⟨s + 1 + 1, 9, none⟩ (.int .i64 err)).heap.size := by simpa using hs8
  simp only [List.setIfInBounds_toArray, List.set_cons_zero, List.set_cons_succ] at B9 B10
  have m7 := B8.cell 7
  have m9 := B8.cell 9
  have mf := fun i => B8.frozen i
  go_upto_region 7 with fail
  generalize ((w8.setCell ⟨s + 1 + 1, 7, none⟩ (.int .i64 id)).setCell ⟨s + 1 + 1, 9, none⟩ (.int .i64 err)) = w10 at *
  clear m7 m9 mf X8 A8 B8 M8 o8 J8 B9 J9 o9 hs8
  have c1 := conv_ (c := c6) (Reads.of_own o10)
  have c2 := conv_ (c := c) (RJ S w10 J10 (by omega))
  have m2 : w10.cell? ⟨s + 1 + 1 + 1, 2, none⟩ = some (.slice A6 n c6) := M10.cell 2
  have m3 : w10.cell? ⟨s, 3, none⟩ = some (.slice A n c) := X10.cell 3
  have m8 : w10.cell? ⟨s + 1 + 1, 8, none⟩ = some (.bool false) := B10.cell 8
  have mf := fun i => B10.frozen i
  have J11 := (KJ S).far _ _ _ _ 8 (.bool true) J10 B10 (by omega) (.inr (.inr (.inr rfl)))
  have B11 := B10.set_ 8 (.bool true)
  have o11 : (w10.setCell ⟨s + 1 + 1, 8, none⟩ (.bool true)).ownsRow s 5 1 (.slice A6 n c6) n (bs xs) := own_set o10 B10 (by decide)
  have A11 : Blk (w10.setCell ⟨s + 1 + 1, 8, none⟩ (.bool true)) _ _ _ := blk_set A10 (by omega)
  have M11 : Blk (w10.setCell ⟨s + 1 + 1, 8, none⟩ (.bool true)) _ _ _ := blk_set M10 (by omega)
  have hs11 : S ≤ (w10.setCell ⟨s + 1 + 1, 8, none⟩ (.bool true)).heap.size := by simpa using hs10
  simp only [List.setIfInBounds_toArray, List.set_cons_zero, List.set_cons_succ] at B11
  clear o10 J10
  generalize strOfNums xs = Z at *
  go_upto_region 8 with fail
  generalize (w10.setCell ⟨s + 1 + 1, 8, none⟩ (.bool true)) = w11 at *
  clear c1 c2 m2 m3 m8 mf X10 A10 B10 M10 hs10
  clear RI RJ hI KI
  go_wp2
  go_loopw [7] (fun i wr => ∃ (k : Nat) (ys : List Int), k ≤ n ∧ i = .int .i64 k ∧ Hid (J S wr) ∧ wr.ownsRow s 5 1 (.slice A6 n c6) n (bs ys) ∧ S ≤ wr.heap.size ∧ Blk wr (s + 1) 46 #[.int .u32 0, .int .u16 0, .int .u16 0, .bool false, .bool false, .bool false, .slice none 0 0, .int .i64 0, .bool false, .int .i64 0] ∧ Blk wr (s + 1 + 1) 46 #[.int .u32 0, .int .u16 0, .int .u16 0, .bool false, .bool false, .bool false, .slice none 0 0, .int .i64 id, .bool true, .int .i64 err] ∧ Blk wr (s + 1 + 1 + 1) 32 #[.int .u16 st, .bool o, .slice A6 n c6]) (fun i _ => n - (intOf i).toNat)
  case atStart => exact ⟨0, xs, Nat.zero_le _, rfl, J11, o11, hs11, A11, B11, M11⟩
  case round =>
    obtain ⟨k, ys, hk, rfl, Jr, or_, hsr, Ar, Br, Mr⟩ := hrel
    have m2 : wr.cell? ⟨s + 1 + 1 + 1, 2, none⟩ = some (.slice A6 n c6) := Mr.cell 2
    by_cases hlt : k < n
    · obtain ⟨g, c7, hv, _, _⟩ := or_.form (by omega)
      obtain ⟨rfl, rfl⟩ : A6 = some ⟨g, 0, none⟩ ∧ c6 = c7 := by injection hv with a b c; exact ⟨a, c⟩
      have y1 : ∃ y, wr.cell? ⟨g, k, none⟩ = some (.int .u8 y) := by
        have hl := own_bytes or_
        rw [or_.cellAt k (by omega)]
        have e := List.getElem?_eq_getElem (l := ys) (i := k) (by omega)
        exact ⟨_, bs_get _ k _ e⟩
      obtain ⟨y, y1⟩ := y1
      have y2 : wr.frozen? ⟨g, k, none⟩ = false := or_.frozenAt k
      go_wp2
      go_roundw
      case rel =>
        have ho3 := (or_.stored k (.int .u8 85)).1
        rw [← bs_set] at ho3
        exact ⟨k + 1, _, by omega, by go_num, (KJ S).row _ _ _ _ g k _ (unhide Jr) or_ rfl ⟨own_base or_ g rfl, hS g rfl⟩, ho3, by simpa using hsr, blk_row Ar or_ rfl (by decide), blk_row Br or_ rfl (by decide), blk_row Mr or_ rfl (by decide)⟩
      case measure => simp [intOf]; omega
    · obtain rfl : k = n := by omega
      obtain ⟨J12, A12, _, _, hs12⟩ := (KJ S).put10 (unhide Jr) Ar (by omega) (.int .u32 0) (.int .u16 0) (.int .u16 0) (.bool false) (.bool false) (.bool false) (.slice none 0 0) (.int .i64 id) (.bool true) (.int .i64 err)
      have q0 := Br.cell 0
      have r0 := Ar.cell 0
      have q1 := Br.cell 1
      have r1 := Ar.cell 1
      have q2 := Br.cell 2
      have r2 := Ar.cell 2
      have q3 := Br.cell 3
      have r3 := Ar.cell 3
      have q4 := Br.cell 4
      have r4 := Ar.cell 4
      have q5 := Br.cell 5
      have r5 := Ar.cell 5
      have q6 := Br.cell 6
      have r6 := Ar.cell 6
      have q7 := Br.cell 7
      have r7 := Ar.cell 7
      have q8 := Br.cell 8
      have r8 := Ar.cell 8
      have q9 := Br.cell 9
      have r9 := Ar.cell 9
      have mf := fun i => Ar.frozen i
      go_upto_region 30 with fail
      go_wp2
      generalize ((((((((((wr.setCell ⟨s + 1, 0, none⟩ (.int .u32 0)).setCell ⟨s + 1, 1, none⟩ (.int .u16 0)).setCell ⟨s + 1, 2, none⟩ (.int .u16 0)).setCell ⟨s + 1, 3, none⟩ (.bool false)).setCell ⟨s + 1, 4, none⟩ (.bool false)).setCell ⟨s + 1, 5, none⟩ (.bool false)).setCell ⟨s + 1, 6, none⟩ (.slice none 0 0)).setCell ⟨s + 1, 7, none⟩ (.int .i64 id)).setCell ⟨s + 1, 8, none⟩ (.bool true)).setCell ⟨s + 1, 9, none⟩ (.int .i64 err)) = w12 at *
      refine bodyPost_ret (results_c (P := Try.prog) Try.results17 _ _ (s + 1) 46 (told zeroD none 0 0 id true err) _ rfl A12 Try.underlying46 rfl rfl) rfl ⟨rfl, ⟨S, J12⟩, ?_⟩
      have := unhide HS
      omega
end Go.Proofs.Ytmidnfkmefoleaa.Do

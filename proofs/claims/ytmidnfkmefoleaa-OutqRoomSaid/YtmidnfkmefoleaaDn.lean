/-
  does: the next piece is asked for; what is of no use any more is thrown away. (Written by gen_dn.py.)
-/
import Derived.Test.YtmidnfkmefoleaaDo
set_option linter.unusedVariables false
set_option linter.unusedSimpArgs false
namespace Go.Proofs.Ytmidnfkmefoleaa.Dn
open Go.RowKit Wd Ra Qm Qs Qp Qn Qe Qd Qx Ql Qt Oq Vs Dk Do

theorem own_weaken {w : World} {base base' n : Nat} {e : TypeId} {size : Nat} {v : Value} {xs : List Value} (h : w.ownsRow base e size v n xs) (hb : base' ≤ base) : w.ownsRow base' e size v n xs := by
  refine ⟨h.1, ?_⟩
  rcases h.2 with h | ⟨g, cap, cur, h1, h2, h3⟩
  · exact .inl h
  · exact .inr ⟨g, cap, cur, h1, Nat.le_trans hb h2, h3⟩
set_option maxRecDepth 100000 in
set_option maxHeartbeats 2000000 in
theorem does1 (qv : Value) (I : World → Prop) (J : Nat → World → Prop) (st un kk id : Int) (o ok : Bool) (A : Option Addr) (n c : Nat) (d : PD) (w : World) (hI : I w) (KI : Kp w.heap.size (fun k => w.heap.size ≤ k) I) (KJ : ∀ S, w.heap.size < S → Kp w.heap.size (fun k => S ≤ k) (J S)) (hd : d.xs.length ≤ 1048576)
    (hcall : ∀ (W : World), I W → w.heap.size < W.heap.size → Calls Try.prog 15 #[qv, .int .i64 kk] W fun e w' => ∃ A5 n5 c5, e = .returned (.tuple #[.agg (d.cs A5 n5 c5), .int .i64 id, .bool ok]) ∧ w'.ownsRow W.heap.size 5 1 (.slice A5 n5 c5) n5 (bs d.xs) ∧ J W.heap.size w' ∧ Sd w.heap.size W w') :
    Calls Try.prog 17 #[qv, .agg #[.int .i64 1, .int .u16 st, .bool o, .slice A n c, .int .i64 un, .int .i64 kk]] w fun e w' => ∃ A6 n6 c6, e = .returned (.agg (told d A6 n6 c6 id ok 0)) ∧ w'.ownsRow w.heap.size 5 1 (.slice A6 n6 c6) n6 (bs d.xs) ∧ (∃ S, w.heap.size < S ∧ J S w') ∧ w.heap.size ≤ w'.heap.size := by
  obtain ⟨i0, hi0, hz0, hz1, hz2⟩ := info_parts info5
  have I3 := KI.alloc (KI.alloc (KI.alloc hI (.cells #[.int .i64 1, .int .u16 st, .bool o, .slice A n c, .int .i64 un, .int .i64 kk] 42)) (.cells #[.int .u32 0, .int .u16 0, .int .u16 0, .bool false, .bool false, .bool false, .slice none 0 0, .int .i64 0, .bool false, .int .i64 0] 46)) (.cells #[.int .u32 0, .int .u16 0, .int .u16 0, .bool false, .bool false, .bool false, .slice none 0 0, .int .i64 0, .bool false, .int .i64 0] 46)
  have X3 := ((Blk.new w 42 #[.int .i64 1, .int .u16 st, .bool o, .slice A n c, .int .i64 un, .int .i64 kk]).alloc (.cells #[.int .u32 0, .int .u16 0, .int .u16 0, .bool false, .bool false, .bool false, .slice none 0 0, .int .i64 0, .bool false, .int .i64 0] 46)).alloc (.cells #[.int .u32 0, .int .u16 0, .int .u16 0, .bool false, .bool false, .bool false, .slice none 0 0, .int .i64 0, .bool false, .int .i64 0] 46)
  have A3 := (Blk.new (w.alloc (.cells #[.int .i64 1, .int .u16 st, .bool o, .slice A n c, .int .i64 un, .int .i64 kk] 42)) 46 #[.int .u32 0, .int .u16 0, .int .u16 0, .bool false, .bool false, .bool false, .slice none 0 0, .int .i64 0, .bool false, .int .i64 0]).alloc (.cells #[.int .u32 0, .int .u16 0, .int .u16 0, .bool false, .bool false, .bool false, .slice none 0 0, .int .i64 0, .bool false, .int .i64 0] 46)
  have B3 := Blk.new ((w.alloc (.cells #[.int .i64 1, .int .u16 st, .bool o, .slice A n c, .int .i64 un, .int .i64 kk] 42)).alloc (.cells #[.int .u32 0, .int .u16 0, .int .u16 0, .bool false, .bool false, .bool false, .slice none 0 0, .int .i64 0, .bool false, .int .i64 0] 46)) 46 #[.int .u32 0, .int .u16 0, .int .u16 0, .bool false, .bool false, .bool false, .slice none 0 0, .int .i64 0, .bool false, .int .i64 0]
  have hs3 : (((w.alloc (.cells #[.int .i64 1, .int .u16 st, .bool o, .slice A n c, .int .i64 un, .int .i64 kk] 42)).alloc (.cells #[.int .u32 0, .int .u16 0, .int .u16 0, .bool false, .bool false, .bool false, .slice none 0 0, .int .i64 0, .bool false, .int .i64 0] 46)).alloc (.cells #[.int .u32 0, .int .u16 0, .int .u16 0, .bool false, .bool false, .bool false, .slice none 0 0, .int .i64 0, .bool false, .int .i64 0] 46)).heap.size = w.heap.size + 1 + 1 + 1 := by simp
  simp only [World.size_alloc] at A3 B3
  go_enter Try.func17, Try.ntmps17
  go_upto_region 13 with fail
  generalize (((w.alloc (.cells #[.int .i64 1, .int .u16 st, .bool o, .slice A n c, .int .i64 un, .int .i64 kk] 42)).alloc (.cells #[.int .u32 0, .int .u16 0, .int .u16 0, .bool false, .bool false, .bool false, .slice none 0 0, .int .i64 0, .bool false, .int .i64 0] 46)).alloc (.cells #[.int .u32 0, .int .u16 0, .int .u16 0, .bool false, .bool false, .bool false, .slice none 0 0, .int .i64 0, .bool false, .int .i64 0] 46)) = w3 at *
  generalize hsw : w.heap.size = s at *
  have HS := hide hsw
  clear hsw
  have m2 : w3.cell? ⟨s, 4, none⟩ = some (.int .i64 un) := X3.cell 4
  have m3 : w3.cell? ⟨s, 5, none⟩ = some (.int .i64 kk) := X3.cell 5
  go_wp2_with fail
  refine (hcall w3 I3 (by omega)).mono ?_
  rintro e w5 ⟨A5, n5, c5, rfl, o5, J5, sd⟩
  have A5' := sd.blk _ _ _ (by omega) (not_mine (by decide)) A3
  have B5' := sd.blk _ _ _ (by omega) (not_mine (by decide)) B3
  have hs5 := sd.size
  have hss : s < w3.heap.size := by omega
  generalize w3.heap.size = S at *
  have hcs : d.cs A5 n5 c5 = #[.int .u32 0, .int .u16 d.st, .int .u16 d.ssn, .bool d.un, .bool d.fi, .bool d.la, .slice A5 n5 c5] := rfl
  rw [hcs]
  have J6 := (KJ S hss).alloc J5 (.cells #[.int .u32 0, .int .u16 d.st, .int .u16 d.ssn, .bool d.un, .bool d.fi, .bool d.la, .slice A5 n5 c5] 35)
  have D6 := Blk.new w5 35 #[.int .u32 0, .int .u16 d.st, .int .u16 d.ssn, .bool d.un, .bool d.fi, .bool d.la, .slice A5 n5 c5]
  have o6 := o5.alloc (.cells #[.int .u32 0, .int .u16 d.st, .int .u16 d.ssn, .bool d.un, .bool d.fi, .bool d.la, .slice A5 n5 c5] 35)
  have A6' := A5'.alloc (.cells #[.int .u32 0, .int .u16 d.st, .int .u16 d.ssn, .bool d.un, .bool d.fi, .bool d.la, .slice A5 n5 c5] 35)
  have B6' := B5'.alloc (.cells #[.int .u32 0, .int .u16 d.st, .int .u16 d.ssn, .bool d.un, .bool d.fi, .bool d.la, .slice A5 n5 c5] 35)
  have hs6 : (w5.alloc (.cells #[.int .u32 0, .int .u16 d.st, .int .u16 d.ssn, .bool d.un, .bool d.fi, .bool d.la, .slice A5 n5 c5] 35)).heap.size = w5.heap.size + 1 := by simp
  clear m2 m3 X3 A3 B3 I3 sd hcall hcs o5 J5 A5' B5' hI KI
  go_upto_region 14 with fail
  generalize (w5.alloc (.cells #[.int .u32 0, .int .u16 d.st, .int .u16 d.ssn, .bool d.un, .bool d.fi, .bool d.la, .slice A5 n5 c5] 35)) = w6 at *
  generalize w5.heap.size = t at *
  have d0 : w6.cell? ⟨t, 0, none⟩ = some (.int .u32 0) := D6.cell 0
  have d1 : w6.cell? ⟨t, 1, none⟩ = some (.int .u16 d.st) := D6.cell 1
  have d2 : w6.cell? ⟨t, 2, none⟩ = some (.int .u16 d.ssn) := D6.cell 2
  have d3 : w6.cell? ⟨t, 3, none⟩ = some (.bool d.un) := D6.cell 3
  have d4 : w6.cell? ⟨t, 4, none⟩ = some (.bool d.fi) := D6.cell 4
  have d5 : w6.cell? ⟨t, 5, none⟩ = some (.bool d.la) := D6.cell 5
  have d6 : w6.cell? ⟨t, 6, none⟩ = some (.slice A5 n5 c5) := D6.cell 6
  obtain ⟨J7, B7, O7, E7, hs7⟩ := (KJ S hss).put10 J6 B6' (by omega) (.int .u32 0) (.int .u16 d.st) (.int .u16 d.ssn) (.bool d.un) (.bool d.fi) (.bool d.la) (.slice A5 n5 c5) (.int .i64 id) (.bool ok) (.int .i64 0)
  have o7 := O7 _ _ _ _ o6
  have A7 := blk_other A6' (E7 _ (by omega))
  have D7 := blk_other D6 (E7 _ (by omega))
  have q0 := B6'.cell 0
  have q1 := B6'.cell 1
  have q2 := B6'.cell 2
  have q3 := B6'.cell 3
  have q4 := B6'.cell 4
  have q5 := B6'.cell 5
  have q6 := B6'.cell 6
  have q7 := B6'.cell 7
  have q8 := B6'.cell 8
  have q9 := B6'.cell 9
  have mf := fun i => B6'.frozen i
  clear O7 E7
  go_upto_region 15 with fail
  generalize ((((((((((w6.setCell ⟨s + 1 + 1, 0, none⟩ (.int .u32 0)).setCell ⟨s + 1 + 1, 1, none⟩ (.int .u16 d.st)).setCell ⟨s + 1 + 1, 2, none⟩ (.int .u16 d.ssn)).setCell ⟨s + 1 + 1, 3, none⟩ (.bool d.un)).setCell ⟨s + 1 + 1, 4, none⟩ (.bool d.fi)).setCell ⟨s + 1 + 1, 5, none⟩ (.bool d.la)).setCell ⟨s + 1 + 1, 6, none⟩ (.slice A5 n5 c5)).setCell ⟨s + 1 + 1, 7, none⟩ (.int .i64 id)).setCell ⟨s + 1 + 1, 8, none⟩ (.bool ok)).setCell ⟨s + 1 + 1, 9, none⟩ (.int .i64 0)) = w7 at *
  clear q0 q1 q2 q3 q4 q5 q6 q7 q8 q9 mf d0 d1 d2 d3 d4 d5 d6 J6 D6 o6 A6' B6'
  have hn5 : n5 ≤ 1048576 := by have := own_bytes o7; omega
  have d6 : w7.cell? ⟨t, 6, none⟩ = some (.slice A5 n5 c5) := D7.cell 6
  have J8 := (KJ S hss).alloc J7 (.cells #[] 5)
  have o8 := o7.alloc (.cells #[] 5)
  have r8 := Reads.of_own o8
  have A8 := A7.alloc (.cells #[] 5)
  have B8 := B7.alloc (.cells #[] 5)
  have D8 := D7.alloc (.cells #[] 5)
  have e8 := own_empty_at w7 w7.heap.size 5 1 w7.heap.size (Nat.le_refl _) rfl
  have hlt8 := fun g hg => own_lt o7 g hg
  have hs8 : t < w7.heap.size := by omega
  rw [hs7.trans hs6] at e8 hlt8 hs8
  have hs9 : (w7.alloc (.cells #[] 5)).heap.size = t + 1 + 1 := by simp; omega
  have hsz7 : w7.heap.size = t + 1 := by omega
  go_upto_region 16 with (
    at_builtin
    refine wpList_append_any _ rfl (.tmp 72) (.tmp 74) _ rfl (t + 1) 5 i0 _ 1 1 Try.underlying22 hi0 hz0 hz1 hz2 rfl (by omega) (.slice (some ⟨t + 1, 0, none⟩) 0 0) 0 [] rfl e8 _ A5 n5 c5 (bs d.xs) rfl r8 (bs_one d.xs) (by simp only [maxLen]; omega) (by omega) (by omega) ?_
    intro v9 w9 p9 g9 at9
    rw [Nat.zero_add, List.nil_append] at p9
    obtain ⟨A6, c6, rfl, _, _⟩ := own_slice p9
    have e8' : (w7.alloc (.cells #[] 5)).ownsRow s 5 1 (.slice (some ⟨t + 1, 0, none⟩) 0 0) 0 [] := own_empty_at w7 s 5 1 _ (by omega) hsz7
    have J9 := (KJ S hss).grown _ _ _ _ _ J8 e8' (fun g hg => by have := own_base e8 g hg; omega) g9
    have A9 := Sd.grown e8 g9 _ _ _ (by decide) A8
    have B9 := Sd.grown e8 g9 _ _ _ (by decide) B8
    have D9 := Sd.grown e8 g9 _ _ _ (by decide) D8
    have o9 := own_keep o8 fun g hg => g9.block g (own_lt o8 g hg) (fun e => by have h1 := own_base e8 g e.symm; have h2 := own_lt o7 g hg; omega)
    have hs10 : t + 1 + 1 ≤ w9.heap.size := by have := g9.size; omega
    clear e8 e8' g9 at9 J8 A8 B8 D8 o8 r8 d6
    have J10 := (KJ S hss).far _ _ _ _ 6 (.slice A6 n5 c6) J9 B9 (by omega) (.inr (.inr (.inr rfl)))
    have B10 := B9.set_ 6 (.slice A6 n5 c6)
    have o10 : (w9.setCell ⟨s + 1 + 1, 6, none⟩ (.slice A6 n5 c6)).ownsRow _ 5 1 _ _ _ := own_set o9 B9 (by decide)
    have p10 : (w9.setCell ⟨s + 1 + 1, 6, none⟩ (.slice A6 n5 c6)).ownsRow _ 5 1 _ _ _ := own_set p9 B9 (by decide)
    have A10 : Blk (w9.setCell ⟨s + 1 + 1, 6, none⟩ (.slice A6 n5 c6)) _ _ _ := blk_set A9 (by omega)
    have D10 : Blk (w9.setCell ⟨s + 1 + 1, 6, none⟩ (.slice A6 n5 c6)) _ _ _ := blk_set D9 (by omega)
    have hs11 : t + 1 + 1 ≤ (w9.setCell ⟨s + 1 + 1, 6, none⟩ (.slice A6 n5 c6)).heap.size := by simpa using hs10
    simp only [List.setIfInBounds_toArray, List.set_cons_zero, List.set_cons_succ] at B10
    have m6 := B9.cell 6
    have mf := fun i => B9.frozen i)
  generalize (w9.setCell ⟨s + 1 + 1, 6, none⟩ (.slice A6 n5 c6)) = w10 at *
  clear m6 mf J9 A9 B9 D9 o9 p9 hs10 J7 A7 B7 D7
  go_wp2
  go_loopw [11] (fun i wr => ∃ (k : Nat) (ys : List Int), k ≤ n5 ∧ i = .int .i64 k ∧ Hid (J S wr) ∧ wr.ownsRow S 5 1 (.slice A5 n5 c5) n5 (bs ys) ∧ wr.ownsRow (t + 1) 5 1 (.slice A6 n5 c6) n5 (bs d.xs) ∧ t + 1 + 1 ≤ wr.heap.size ∧ Blk wr (s + 1) 46 #[.int .u32 0, .int .u16 0, .int .u16 0, .bool false, .bool false, .bool false, .slice none 0 0, .int .i64 0, .bool false, .int .i64 0] ∧ Blk wr (s + 1 + 1) 46 #[.int .u32 0, .int .u16 d.st, .int .u16 d.ssn, .bool d.un, .bool d.fi, .bool d.la, .slice A6 n5 c6, .int .i64 id, .bool ok, .int .i64 0] ∧ Blk wr t 35 #[.int .u32 0, .int .u16 d.st, .int .u16 d.ssn, .bool d.un, .bool d.fi, .bool d.la, .slice A5 n5 c5]) (fun i _ => n5 - (intOf i).toNat)
  case atStart => exact ⟨0, d.xs, Nat.zero_le _, rfl, J10, o10, p10, hs11, A10, B10, D10⟩
  case round =>
    obtain ⟨k, ys, hk, rfl, Jr, or_, pr, hsr, Ar, Br, Mr⟩ := hrel
    have m2 : wr.cell? ⟨t, 6, none⟩ = some (.slice A5 n5 c5) := Mr.cell 6
    by_cases hlt : k < n5
    · obtain ⟨g, c7, hv, _, _⟩ := or_.form (by omega)
      obtain ⟨rfl, rfl⟩ : A5 = some ⟨g, 0, none⟩ ∧ c5 = c7 := by injection hv with a b c; exact ⟨a, c⟩
      have y1 : ∃ y, wr.cell? ⟨g, k, none⟩ = some (.int .u8 y) := by
        have hl := own_bytes or_
        rw [or_.cellAt k (by omega)]
        have e := List.getElem?_eq_getElem (l := ys) (i := k) (by omega)
        exact ⟨_, bs_get _ k _ e⟩
      obtain ⟨y, y1⟩ := y1
      have y2 : wr.frozen? ⟨g, k, none⟩ = false := or_.frozenAt k
      go_wp2
      go_roundw
      case rel =>
        have ho3 := (or_.stored k (.int .u8 85)).1
        rw [← bs_set] at ho3
        have hg := hlt8 g rfl
        exact ⟨k + 1, _, by omega, by go_num, (KJ S hss).row _ _ _ _ g k _ (unhide Jr) (own_weaken or_ (by omega)) rfl (own_base or_ g rfl), ho3, own_keep pr fun j hj => Below.heap_setCell _ ⟨g, k, none⟩ _ j (by have := own_base pr j hj; show j ≠ g; omega), by simpa using hsr, blk_row Ar or_ rfl (by decide), blk_row Br or_ rfl (by decide), blk_row Mr or_ rfl (by decide)⟩
      case measure => simp [intOf]; omega
    · obtain rfl : k = n5 := by omega
      obtain ⟨J12, A12, P12, _, hs12⟩ := (KJ S hss).put10 (unhide Jr) Ar (by omega) (.int .u32 0) (.int .u16 d.st) (.int .u16 d.ssn) (.bool d.un) (.bool d.fi) (.bool d.la) (.slice A6 k c6) (.int .i64 id) (.bool ok) (.int .i64 0)
      have p12 := P12 _ _ _ _ pr
      have q0 := Br.cell 0
      have r0 := Ar.cell 0
      have q1 := Br.cell 1
      have r1 := Ar.cell 1
      have q2 := Br.cell 2
      have r2 := Ar.cell 2
      have q3 := Br.cell 3
      have r3 := Ar.cell 3
      have q4 := Br.cell 4
      have r4 := Ar.cell 4
      have q5 := Br.cell 5
      have r5 := Ar.cell 5
      have q6 := Br.cell 6
      have r6 := Ar.cell 6
      have q7 := Br.cell 7
      have r7 := Ar.cell 7
      have q8 := Br.cell 8
      have r8 := Ar.cell 8
      have q9 := Br.cell 9
      have r9 := Ar.cell 9
      have mf := fun i => Ar.frozen i
      go_upto_region 30 with fail
      go_wp2
      generalize ((((((((((wr.setCell ⟨s + 1, 0, none⟩ (.int .u32 0)).setCell ⟨s + 1, 1, none⟩ (.int .u16 d.st)).setCell ⟨s + 1, 2, none⟩ (.int .u16 d.ssn)).setCell ⟨s + 1, 3, none⟩ (.bool d.un)).setCell ⟨s + 1, 4, none⟩ (.bool d.fi)).setCell ⟨s + 1, 5, none⟩ (.bool d.la)).setCell ⟨s + 1, 6, none⟩ (.slice A6 k c6)).setCell ⟨s + 1, 7, none⟩ (.int .i64 id)).setCell ⟨s + 1, 8, none⟩ (.bool ok)).setCell ⟨s + 1, 9, none⟩ (.int .i64 0)) = w12 at *
      refine bodyPost_ret (results_c (P := Try.prog) Try.results17 _ _ (s + 1) 46 (told d A6 k c6 id ok 0) _ rfl A12 Try.underlying46 rfl rfl) rfl ⟨A6, k, c6, rfl, ?_, ?_⟩
      · rw [unhide HS]
        exact own_weaken p12 (by omega)
      · rw [unhide HS]
        exact ⟨⟨S, hss, J12⟩, by omega⟩
set_option maxRecDepth 100000 in
set_option maxHeartbeats 2000000 in
theorem does2 (qv : Value) (I : World → Prop) (J : Nat → World → Prop) (st un kk id : Int) (o ok : Bool) (A : Option Addr) (n c : Nat) (d : PD) (w : World) (hI : I w) (KI : Kp w.heap.size (fun k => w.heap.size ≤ k) I) (KJ : ∀ S, w.heap.size < S → Kp w.heap.size (fun k => S ≤ k) (J S)) (hd : d.xs.length ≤ 1048576)
    (hcall : ∀ (W : World), I W → w.heap.size < W.heap.size → Calls Try.prog 12 #[qv, .int .i64 un] W fun e w' => ∃ A5 n5 c5, e = .returned (.tuple #[.agg (d.cs A5 n5 c5), .int .i64 id, .bool ok]) ∧ w'.ownsRow W.heap.size 5 1 (.slice A5 n5 c5) n5 (bs d.xs) ∧ J W.heap.size w' ∧ Sd w.heap.size W w') :
    Calls Try.prog 17 #[qv, .agg #[.int .i64 2, .int .u16 st, .bool o, .slice A n c, .int .i64 un, .int .i64 kk]] w fun e w' => ∃ A6 n6 c6, e = .returned (.agg (told d A6 n6 c6 id ok 0)) ∧ w'.ownsRow w.heap.size 5 1 (.slice A6 n6 c6) n6 (bs d.xs) ∧ (∃ S, w.heap.size < S ∧ J S w') ∧ w.heap.size ≤ w'.heap.size := by
  obtain ⟨i0, hi0, hz0, hz1, hz2⟩ := info_parts info5
  have I3 := KI.alloc (KI.alloc (KI.alloc hI (.cells #[.int .i64 2, .int .u16 st, .bool o, .slice A n c, .int .i64 un, .int .i64 kk] 42)) (.cells #[.int .u32 0, .int .u16 0, .int .u16 0, .bool false, .bool false, .bool false, .slice none 0 0, .int .i64 0, .bool false, .int .i64 0] 46)) (.cells #[.int .u32 0, .int .u16 0, .int .u16 0, .bool false, .bool false, .bool false, .slice none 0 0, .int .i64 0, .bool false, .int .i64 0] 46)
  have X3 := ((Blk.new w 42 #[.int .i64 2, .int .u16 st, .bool o, .slice A n c, .int .i64 un, .int .i64 kk]).alloc (.cells #[.int .u32 0, .int .u16 0, .int .u16 0, .bool false, .bool false, .bool false, .slice none 0 0, .int .i64 0, .bool false, .int .i64 0] 46)).alloc (.cells #[.int .u32 0, .int .u16 0, .int .u16 0, .bool false, .bool false, .bool false, .slice none 0 0, .int .i64 0, .bool false, .int .i64 0] 46)
  have A3 := (Blk.new (w.alloc (.cells #[.int .i64 2, .int .u16 st, .bool o, .slice A n c, .int .i64 un, .int .i64 kk] 42)) 46 #[.int .u32 0, .int .u16 0, .int .u16 0, .bool false, .bool false, .bool false, .slice none 0 0, .int .i64 0, .bool false, .int .i64 0]).alloc (.cells #[.int .u32 0, .int .u16 0, .int .u16 0, .bool false, .bool false, .bool false, .slice none 0 0, .int .i64 0, .bool false, .int .i64 0] 46)
  have B3 := Blk.new ((w.alloc (.cells #[.int .i64 2, .int .u16 st, .bool o, .slice A n c, .int .i64 un, .int .i64 kk] 42)).alloc (.cells #[.int .u32 0, .int .u16 0, .int .u16 0, .bool false, .bool false, .bool false, .slice none 0 0, .int .i64 0, .bool false, .int .i64 0] 46)) 46 #[.int .u32 0, .int .u16 0, .int .u16 0, .bool false, .bool false, .bool false, .slice none 0 0, .int .i64 0, .bool false, .int .i64 0]
  have hs3 : (((w.alloc (.cells #[.int .i64 2, .int .u16 st, .bool o, .slice A n c, .int .i64 un, .int .i64 kk] 42)).alloc (.cells #[.int .u32 0, .int .u16 0, .int .u16 0, .bool false, .bool false, .bool false, .slice none 0 0, .int .i64 0, .bool false, .int .i64 0] 46)).alloc (.cells #[.int .u32 0, .int .u16 0, .int .u16 0, .bool false, .bool false, .bool false, .slice none 0 0, .int .i64 0, .bool false, .int .i64 0] 46)).heap.size = w.heap.size + 1 + 1 + 1 := by simp
  simp only [World.size_alloc] at A3 B3
  go_enter Try.func17, Try.ntmps17
  go_upto_region 21 with fail
  generalize (((w.alloc (.cells #[.int .i64 2, .int .u16 st, .bool o, .slice A n c, .int .i64 un, .int .i64 kk] 42)).alloc (.cells #[.int .u32 0, .int .u16 0, .int .u16 0, .bool false, .bool false, .bool false, .slice none 0 0, .int .i64 0, .bool false, .int .i64 0] 46)).alloc (.cells #[.int .u32 0, .int .u16 0, .int .u16 0, .bool false, .bool false, .bool false, .slice none 0 0, .int .i64 0, .bool false, .int .i64 0] 46)) = w3 at *
  generalize hsw : w.heap.size = s at *
  have HS := hide hsw
  clear hsw
  have m2 : w3.cell? ⟨s, 4, none⟩ = some (.int .i64 un) := X3.cell 4
  have m3 : w3.cell? ⟨s, 5, none⟩ = some (.int .i64 kk) := X3.cell 5
  go_wp2_with fail
  refine (hcall w3 I3 (by omega)).mono ?_
  rintro e w5 ⟨A5, n5, c5, rfl, o5, J5, sd⟩
  have A5' := sd.blk _ _ _ (by omega) (not_mine (by decide)) A3
  have B5' := sd.blk _ _ _ (by omega) (not_mine (by decide)) B3
  have hs5 := sd.size
  have hss : s < w3.heap.size := by omega
  generalize w3.heap.size = S at *
  have hcs : d.cs A5 n5 c5 = #[.int .u32 0, .int .u16 d.st, .int .u16 d.ssn, .bool d.un, .bool d.fi, .bool d.la, .slice A5 n5 c5] := rfl
  rw [hcs]
  have J6 := (KJ S hss).alloc J5 (.cells #[.int .u32 0, .int .u16 d.st, .int .u16 d.ssn, .bool d.un, .bool d.fi, .bool d.la, .slice A5 n5 c5] 35)
  have D6 := Blk.new w5 35 #[.int .u32 0, .int .u16 d.st, .int .u16 d.ssn, .bool d.un, .bool d.fi, .bool d.la, .slice A5 n5 c5]
  have o6 := o5.alloc (.cells #[.int .u32 0, .int .u16 d.st, .int .u16 d.ssn, .bool d.un, .bool d.fi, .bool d.la, .slice A5 n5 c5] 35)
  have A6' := A5'.alloc (.cells #[.int .u32 0, .int .u16 d.st, .int .u16 d.ssn, .bool d.un, .bool d.fi, .bool d.la, .slice A5 n5 c5] 35)
  have B6' := B5'.alloc (.cells #[.int .u32 0, .int .u16 d.st, .int .u16 d.ssn, .bool d.un, .bool d.fi, .bool d.la, .slice A5 n5 c5] 35)
  have hs6 : (w5.alloc (.cells #[.int .u32 0, .int .u16 d.st, .int .u16 d.ssn, .bool d.un, .bool d.fi, .bool d.la, .slice A5 n5 c5] 35)).heap.size = w5.heap.size + 1 := by simp
  clear m2 m3 X3 A3 B3 I3 sd hcall hcs o5 J5 A5' B5' hI KI
  go_upto_region 22 with fail
  generalize (w5.alloc (.cells #[.int .u32 0, .int .u16 d.st, .int .u16 d.ssn, .bool d.un, .bool d.fi, .bool d.la, .slice A5 n5 c5] 35)) = w6 at *
  generalize w5.heap.size = t at *
  have d0 : w6.cell? ⟨t, 0, none⟩ = some (.int .u32 0) := D6.cell 0
  have d1 : w6.cell? ⟨t, 1, none⟩ = some (.int .u16 d.st) := D6.cell 1
  have d2 : w6.cell? ⟨t, 2, none⟩ = some (.int .u16 d.ssn) := D6.cell 2
  have d3 : w6.cell? ⟨t, 3, none⟩ = some (.bool d.un) := D6.cell 3
  have d4 : w6.cell? ⟨t, 4, none⟩ = some (.bool d.fi) := D6.cell 4
  have d5 : w6.cell? ⟨t, 5, none⟩ = some (.bool d.la) := D6.cell 5
  have d6 : w6.cell? ⟨t, 6, none⟩ = some (.slice A5 n5 c5) := D6.cell 6
  obtain ⟨J7, B7, O7, E7, hs7⟩ := (KJ S hss).put10 J6 B6' (by omega) (.int .u32 0) (.int .u16 d.st) (.int .u16 d.ssn) (.bool d.un) (.bool d.fi) (.bool d.la) (.slice A5 n5 c5) (.int .i64 id) (.bool ok) (.int .i64 0)
  have o7 := O7 _ _ _ _ o6
  have A7 := blk_other A6' (E7 _ (by omega))
  have D7 := blk_other D6 (E7 _ (by omega))
  have q0 := B6'.cell 0
  have q1 := B6'.cell 1
  have q2 := B6'.cell 2
  have q3 := B6'.cell 3
  have q4 := B6'.cell 4
  have q5 := B6'.cell 5
  have q6 := B6'.cell 6
  have q7 := B6'.cell 7
  have q8 := B6'.cell 8
  have q9 := B6'.cell 9
  have mf := fun i => B6'.frozen i
  clear O7 E7
  go_upto_region 23 with fail
  generalize ((((((((((w6.setCell ⟨s + 1 + 1, 0, none⟩ (.int .u32 0)).setCell ⟨s + 1 + 1, 1, none⟩ (.int .u16 d.st)).setCell ⟨s + 1 + 1, 2, none⟩ (.int .u16 d.ssn)).setCell ⟨s + 1 + 1, 3, none⟩ (.bool d.un)).setCell ⟨s + 1 + 1, 4, none⟩ (.bool d.fi)).setCell ⟨s + 1 + 1, 5, none⟩ (.bool d.la)).setCell ⟨s + 1 + 1, 6, none⟩ (.slice A5 n5 c5)).setCell ⟨s + 1 + 1, 7, none⟩ (.int .i64 id)).setCell ⟨s + 1 + 1, 8, none⟩ (.bool ok)).setCell ⟨s + 1 + 1, 9, none⟩ (.int .i64 0)) = w7 at *
  clear q0 q1 q2 q3 q4 q5 q6 q7 q8 q9 mf d0 d1 d2 d3 d4 d5 d6 J6 D6 o6 A6' B6'
  have hn5 : n5 ≤ 1048576 := by have := own_bytes o7; omega
  have d6 : w7.cell? ⟨t, 6, none⟩ = some (.slice A5 n5 c5) := D7.cell 6
  have J8 := (KJ S hss).alloc J7 (.cells #[] 5)
  have o8 := o7.alloc (.cells #[] 5)
  have r8 := Reads.of_own o8
  have A8 := A7.alloc (.cells #[] 5)
  have B8 := B7.alloc (.cells #[] 5)
  have D8 := D7.alloc (.cells #[] 5)
  have e8 := own_empty_at w7 w7.heap.size 5 1 w7.heap.size (Nat.le_refl _) rfl
  have hlt8 := fun g hg => own_lt o7 g hg
  have hs8 : t < w7.heap.size := by omega
  rw [hs7.trans hs6] at e8 hlt8 hs8
  have hs9 : (w7.alloc (.cells #[] 5)).heap.size = t + 1 + 1 := by simp; omega
  have hsz7 : w7.heap.size = t + 1 := by omega
  go_upto_region 24 with (
    at_builtin
    refine wpList_append_any _ rfl (.tmp 103) (.tmp 105) _ rfl (t + 1) 5 i0 _ 1 1 Try.underlying22 hi0 hz0 hz1 hz2 rfl (by omega) (.slice (some ⟨t + 1, 0, none⟩) 0 0) 0 [] rfl e8 _ A5 n5 c5 (bs d.xs) rfl r8 (bs_one d.xs) (by simp only [maxLen]; omega) (by omega) (by omega) ?_
    intro v9 w9 p9 g9 at9
    rw [Nat.zero_add, List.nil_append] at p9
    obtain ⟨A6, c6, rfl, _, _⟩ := own_slice p9
    have e8' : (w7.alloc (.cells #[] 5)).ownsRow s 5 1 (.slice (some ⟨t + 1, 0, none⟩) 0 0) 0 [] := own_empty_at w7 s 5 1 _ (by omega) hsz7
    have J9 := (KJ S hss).grown _ _ _ _ _ J8 e8' (fun g hg => by have := own_base e8 g hg; omega) g9
    have A9 := Sd.grown e8 g9 _ _ _ (by decide) A8
    have B9 := Sd.grown e8 g9 _ _ _ (by decide) B8
    have D9 := Sd.grown e8 g9 _ _ _ (by decide) D8
    have o9 := own_keep o8 fun g hg => g9.block g (own_lt o8 g hg) (fun e => by have h1 := own_base e8 g e.symm; have h2 := own_lt o7 g hg; omega)
    have hs10 : t + 1 + 1 ≤ w9.heap.size := by have := g9.size; omega
    clear e8 e8' g9 at9 J8 A8 B8 D8 o8 r8 d6
    have J10 := (KJ S hss).far _ _ _ _ 6 (.slice A6 n5 c6) J9 B9 (by omega) (.inr (.inr (.inr rfl)))
    have B10 := B9.set_ 6 (.slice A6 n5 c6)
    have o10 : (w9.setCell ⟨s + 1 + 1, 6, none⟩ (.slice A6 n5 c6)).ownsRow _ 5 1 _ _ _ := own_set o9 B9 (by decide)
    have p10 : (w9.setCell ⟨s + 1 + 1, 6, none⟩ (.slice A6 n5 c6)).ownsRow _ 5 1 _ _ _ := own_set p9 B9 (by decide)
    have A10 : Blk (w9.setCell ⟨s + 1 + 1, 6, none⟩ (.slice A6 n5 c6)) _ _ _ := blk_set A9 (by omega)
    have D10 : Blk (w9.setCell ⟨s + 1 + 1, 6, none⟩ (.slice A6 n5 c6)) _ _ _ := blk_set D9 (by omega)
    have hs11 : t + 1 + 1 ≤ (w9.setCell ⟨s + 1 + 1, 6, none⟩ (.slice A6 n5 c6)).heap.size := by simpa using hs10
    simp only [List.setIfInBounds_toArray, List.set_cons_zero, List.set_cons_succ] at B10
    have m6 := B9.cell 6
    have mf := fun i => B9.frozen i)
  generalize (w9.setCell ⟨s + 1 + 1, 6, none⟩ (.slice A6 n5 c6)) = w10 at *
  clear m6 mf J9 A9 B9 D9 o9 p9 hs10 J7 A7 B7 D7
  go_wp2
  go_loopw [15] (fun i wr => ∃ (k : Nat) (ys : List Int), k ≤ n5 ∧ i = .int .i64 k ∧ Hid (J S wr) ∧ wr.ownsRow S 5 1 (.slice A5 n5 c5) n5 (bs ys) ∧ wr.ownsRow (t + 1) 5 1 (.slice A6 n5 c6) n5 (bs d.xs) ∧ t + 1 + 1 ≤ wr.heap.size ∧ Blk wr (s + 1) 46 #[.int .u32 0, .int .u16 0, .int .u16 0, .bool false, .bool false, .bool false, .slice none 0 0, .int .i64 0, .bool false, .int .i64 0] ∧ Blk wr (s + 1 + 1) 46 #[.int .u32 0, .int .u16 d.st, .int .u16 d.ssn, .bool d.un, .bool d.fi, .bool d.la, .slice A6 n5 c6, .int .i64 id, .bool ok, .int .i64 0] ∧ Blk wr t 35 #[.int .u32 0, .int .u16 d.st, .int .u16 d.ssn, .bool d.un, .bool d.fi, .bool d.la, .slice A5 n5 c5]) (fun i _ => n5 - (intOf i).toNat)
  case atStart => exact ⟨0, d.xs, Nat.zero_le _, rfl, J10, o10, p10, hs11, A10, B10, D10⟩
  case round =>
    obtain ⟨k, ys, hk, rfl, Jr, or_, pr, hsr, Ar, Br, Mr⟩ := hrel
    have m2 : wr.cell? ⟨t, 6, none⟩ = some (.slice A5 n5 c5) := Mr.cell 6
    by_cases hlt : k < n5
    · obtain ⟨g, c7, hv, _, _⟩ := or_.form (by omega)
      obtain ⟨rfl, rfl⟩ : A5 = some ⟨g, 0, none⟩ ∧ c5 = c7 := by injection hv with a b c; exact ⟨a, c⟩
      have y1 : ∃ y, wr.cell? ⟨g, k, none⟩ = some (.int .u8 y) := by
        have hl := own_bytes or_
        rw [or_.cellAt k (by omega)]
        have e := List.getElem?_eq_getElem (l := ys) (i := k) (by omega)
        exact ⟨_, bs_get _ k _ e⟩
      obtain ⟨y, y1⟩ := y1
      have y2 : wr.frozen? ⟨g, k, none⟩ = false := or_.frozenAt k
      go_wp2
      go_roundw
      case rel =>
        have ho3 := (or_.stored k (.int .u8 85)).1
        rw [← bs_set] at ho3
        have hg := hlt8 g rfl
        exact ⟨k + 1, _, by omega, by go_num, (KJ S hss).row _ _ _ _ g k _ (unhide Jr) (own_weaken or_ (by omega)) rfl (own_base or_ g rfl), ho3, own_keep pr fun j hj => Below.heap_setCell _ ⟨g, k, none⟩ _ j (by have := own_base pr j hj; show j ≠ g; omega), by simpa using hsr, blk_row Ar or_ rfl (by decide), blk_row Br or_ rfl (by decide), blk_row Mr or_ rfl (by decide)⟩
      case measure => simp [intOf]; omega
    · obtain rfl : k = n5 := by omega
      obtain ⟨J12, A12, P12, _, hs12⟩ := (KJ S hss).put10 (unhide Jr) Ar (by omega) (.int .u32 0) (.int .u16 d.st) (.int .u16 d.ssn) (.bool d.un) (.bool d.fi) (.bool d.la) (.slice A6 k c6) (.int .i64 id) (.bool ok) (.int .i64 0)
      have p12 := P12 _ _ _ _ pr
      have q0 := Br.cell 0
      have r0 := Ar.cell 0
      have q1 := Br.cell 1
      have r1 := Ar.cell 1
      have q2 := Br.cell 2
      have r2 := Ar.cell 2
      have q3 := Br.cell 3
      have r3 := Ar.cell 3
      have q4 := Br.cell 4
      have r4 := Ar.cell 4
      have q5 := Br.cell 5
      have r5 := Ar.cell 5
      have q6 := Br.cell 6
      have r6 := Ar.cell 6
      have q7 := Br.cell 7
      have r7 := Ar.cell 7
      have q8 := Br.cell 8
      have r8 := Ar.cell 8
      have q9 := Br.cell 9
      have r9 := Ar.cell 9
      have mf := fun i => Ar.frozen i
      go_upto_region 30 with fail
      go_wp2
      generalize ((((((((((wr.setCell ⟨s + 1, 0, none⟩ (.int .u32 0)).setCell ⟨s + 1, 1, none⟩ (.int .u16 d.st)).setCell ⟨s + 1, 2, none⟩ (.int .u16 d.ssn)).setCell ⟨s + 1, 3, none⟩ (.bool d.un)).setCell ⟨s + 1, 4, none⟩ (.bool d.fi)).setCell ⟨s + 1, 5, none⟩ (.bool d.la)).setCell ⟨s + 1, 6, none⟩ (.slice A6 k c6)).setCell ⟨s + 1, 7, none⟩ (.int .i64 id)).setCell ⟨s + 1, 8, none⟩ (.bool ok)).setCell ⟨s + 1, 9, none⟩ (.int .i64 0)) = w12 at *
      refine bodyPost_ret (results_c (P := Try.prog) Try.results17 _ _ (s + 1) 46 (told d A6 k c6 id ok 0) _ rfl A12 Try.underlying46 rfl rfl) rfl ⟨A6, k, c6, rfl, ?_, ?_⟩
      · rw [unhide HS]
        exact own_weaken p12 (by omega)
      · rw [unhide HS]
        exact ⟨⟨S, hss, J12⟩, by omega⟩
end Go.Proofs.Ytmidnfkmefoleaa.Dn

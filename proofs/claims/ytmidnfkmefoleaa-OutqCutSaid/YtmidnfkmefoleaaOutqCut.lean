/-
  Proved: a message that is begun, and of no use any more, is told, once; nothing more of it comes, and what is behind it does, with the next number.
  Conditions: none; every input.
-/
import Derived.Test.YtmidnfkmefoleaaSm
import Derived.Deep.DeepCutAuto
import Derived.Test.YtmidnfkmefoleaaOq
import Derived.Test.YtmidnfkmefoleaaRows
import Derived.ProofKit
import Derived.OpenShut
import Derived.Carry
set_option linter.unusedVariables false
set_option linter.unusedSimpArgs false
namespace Go.Proofs.Ytmidnfkmefoleaa.outqCut
open Go.ChangeShapes Go.WideShapes Go.ChangeAt
open Go.RowKit Wd Ra Qm Qs Qp Qn Qe Qd Qx Ql Qt Qk Sm

def zs (n : Nat) : List Int := List.replicate n 0
def p1 (n : Nat) (u : Int) : PI := ⟨0, true, zs n, 0, u, 0, 0⟩
def p1' (n k : Nat) (u : Int) : PI := ⟨0, true, zs n, 0, u, k, 0⟩
def p2 : PI := ⟨0, true, [7], 1, 0, 0, 0⟩
def q0 : PQ := fresh 1 1000
def q2 (n : Nat) (u : Int) : PQ := ⟨[p1 n u, p2], 2, 1000, n + 1, [0]⟩
def q3 (n k : Nat) (u : Int) : PQ := ⟨[p1' n k u, p2], 2, 1000, n + 1, [1]⟩
def q4 (k : Nat) : PQ := ⟨[p2], 2, 1000, k + 2, [1]⟩
theorem zs_ok (n : Nat) : BOk (zs n) := fun x hx => by
  unfold zs at hx
  have := List.eq_of_mem_replicate hx
  omega
theorem why1 {n : Nat} {u : Int} (h : 0 < n ∧ n ≤ 1000) (hu : 0 ≤ u) : why q0 0 n u = 0 := by
  unfold why
  rw [if_neg (by omega), if_neg (by simp [q0, fresh]), if_neg (by simp [q0, fresh]; omega), if_neg (by simp [q0, fresh]; omega)]
theorem put1 (n : Nat) (u : Int) : put q0 0 true (zs n) u = ⟨[p1 n u], 1, 1000, n, [0]⟩ := by
  simp [put, q0, fresh, p1, zs]
theorem why2 {n : Nat} {u : Int} (h : n ≤ 900) : why ⟨[p1 n u], 1, 1000, n, [0]⟩ 0 1 0 = 0 := by
  unfold why
  rw [if_neg (by omega), if_neg (by simp), if_neg (by simp), if_neg (by simp; omega)]
theorem put2 (n : Nat) (u : Int) : put ⟨[p1 n u], 1, 1000, n, [0]⟩ 0 true [7] 0 = q2 n u := rfl
theorem next1 {n k : Nat} {u : Int} (h : 1 ≤ k) (hk : k < n) : nxQ (q2 n u) (p1 n u) [p2] k = q3 n k u ∧ nxLen (p1 n u) k = k := by
  have h1 : nxLen (p1 n u) k = k := by
    show min k (List.length (zs n) - 0) = k
    simp [zs]; omega
  have h2 : nxEnd (p1 n u) k = k := by unfold nxEnd; rw [h1]; exact Nat.zero_add k
  have h3 : nxLast (p1 n u) k = false := by
    unfold nxLast
    rw [h2]
    show (k == (zs n).length) = false
    simp [zs]; omega
  refine ⟨?_, h1⟩
  unfold nxQ nxI nxNum nxSsn
  rw [h3, h2]
  rfl
theorem dead1 (n k : Nat) (u now : Int) : dead now (p1' n k u) = (decide (1 ≤ u) && decide (u ≤ now)) := rfl
theorem dead2 (now : Int) : dead now p2 = false := rfl
theorem left1 (n k : Nat) (u : Int) : (p1' n k u).left = n - k := by simp [PI.left, p1', zs]
theorem ex_cut {n k : Nat} {u now : Int} (hk : 1 ≤ k) (hkn : k < n) (hd : dead now (p1' n k u) = true) : exX now (q3 n k u) = (n - k - 1, some (p1' n k u)) ∧ exQ now (q3 n k u) = q4 k := by
  have h1 : exX now (q3 n k u) = (n - k - 1, some (p1' n k u)) := by
    show exS now (exS now (0, none) (p1' n k u)) p2 = _
    rw [exS_stay (dead2 now)]
    unfold exS
    rw [hd, left1]
    have h0 : 0 < (p1' n k u).at_ := hk
    simp [h0]
  refine ⟨h1, ?_⟩
  unfold exQ
  rw [h1]
  have h2 : keepI now (q3 n k u).its = [p2] := by
    show List.filter _ [p1' n k u, p2] = _
    simp [List.filter_cons, hd, dead2]
  rw [h2]
  simp [q3, q4]
  omega
theorem ex_not {n k : Nat} {u now : Int} (hd : dead now (p1' n k u) = false) : exX now (q3 n k u) = (0, none) ∧ exQ now (q3 n k u) = q3 n k u := by
  have h1 : exX now (q3 n k u) = (0, none) := by
    show exS now (exS now (0, none) (p1' n k u)) p2 = _
    rw [exS_stay (dead2 now), exS_stay hd]
  refine ⟨h1, ?_⟩
  unfold exQ
  rw [h1]
  have h2 : keepI now (q3 n k u).its = [p1' n k u, p2] := by
    show List.filter _ [p1' n k u, p2] = _
    simp [List.filter_cons, hd, dead2]
  rw [h2]
  rfl
theorem ex_q4 (k : Nat) (now : Int) : exX now (q4 k) = (0, none) ∧ exQ now (q4 k) = q4 k := by
  have h1 : exX now (q4 k) = (0, none) := by
    show exS now (0, none) p2 = _
    rw [exS_stay (dead2 now)]
  refine ⟨h1, ?_⟩
  unfold exQ
  rw [h1]
  rfl
theorem next_cut (k n : Nat) (hn : 1 ≤ n) : nxD (q4 k) p2 n = ⟨0, 1, false, true, true, [7]⟩ ∧ nxLen p2 n = 1 ∧ (nxQ (q4 k) p2 [] n).used = k + 2 := by
  have h1 : nxLen p2 n = 1 := by show min n 1 = 1; omega
  have h2 : nxLast p2 n = true := by unfold nxLast nxEnd; rw [h1]; rfl
  refine ⟨?_, h1, rfl⟩
  unfold nxD
  rw [h1, h2]
  rfl
theorem next_not {n k : Nat} {u : Int} (hk : 1 ≤ k) (hkn : k < n) : nxD (q3 n k u) (p1' n k u) n = ⟨0, 0, false, false, true, (zs n).drop k⟩ ∧ nxLen (p1' n k u) n = n - k ∧ (nxQ (q3 n k u) (p1' n k u) [p2] n).used = n + 1 := by
  have h1 : nxLen (p1' n k u) n = n - k := by
    unfold nxLen
    rw [left1]
    omega
  have h2 : nxLast (p1' n k u) n = true := by
    unfold nxLast nxEnd
    rw [h1]
    show (k + (n - k) == (zs n).length) = true
    simp [zs]; omega
  have h3 : nums (p1' n k u) = false := by
    show (k == 0 && true) = false
    simp; omega
  refine ⟨?_, h1, rfl⟩
  unfold nxD nxSsn
  rw [h1, h2, h3]
  show (⟨0, 0, false, k == 0, true, ((zs n).drop k).take (n - k)⟩ : PD) = _
  have h4 : (k == 0) = false := by simp; omega
  rw [h4, List.take_of_length_le (by simp [zs])]

set_option maxRecDepth 100000 in
set_option maxHeartbeats 2000000 in
theorem walk (long taken u now : Int) (w : World) (h1 : 0 ≤ long ∧ long ≤ 65535) (h2 : 0 ≤ taken ∧ taken ≤ 65535) (h3 : 0 ≤ u ∧ u ≤ 255) (h4 : 0 ≤ now ∧ now ≤ 255) :
    Calls Try.prog 5 #[.int .u16 long, .int .u16 taken, .int .u8 u, .int .u8 now] w fun e w' => e = .returned (.bool true) ∧ Below w.heap.size w w' := by
  obtain ⟨i0, hi0, hz0, hz1, hz2⟩ := info_parts info5
  obtain ⟨n, hn⟩ : ∃ n : Nat, 2 + long % 300 = (n : Int) := ⟨(2 + long % 300).toNat, by omega⟩
  have hn1 : 2 ≤ n ∧ n ≤ 301 := by omega
  obtain ⟨k, hk⟩ : ∃ k : Nat, 1 + taken % ((n : Int) - 1) = (k : Int) := ⟨(1 + taken % ((n : Int) - 1)).toNat, by have := Int.emod_nonneg taken (show (n : Int) - 1 ≠ 0 by omega); omega⟩
  have hk1 : 1 ≤ k ∧ k < n := by
    have a := Int.emod_nonneg taken (show (n : Int) - 1 ≠ 0 by omega)
    have b := Int.emod_lt_of_pos taken (show 0 < (n : Int) - 1 by omega)
    omega
  obtain ⟨hn1, hn2⟩ := hn1
  obtain ⟨hk1, hk2⟩ := hk1
  have hnz : ((n : Int) - 1 == 0) = false := by rw [beq_eq_false_iff_ne]; omega
  have HI0 := hi0
  have hzl : (zs n).length = n := by simp [zs]
  go_enter Try.func5, Try.ntmps5
  go_wp2_with fail
  refine (newS 1 1000 w (by omega) (by omega) (by omega) (by omega)).mono ?_
  rintro e w1 ⟨rfl, S1⟩
  generalize hs : w.heap.size = s at *
  have HS := hide hs
  clear hs hi0 hnz hn hk
  have S1 : St s (fun _ => False) w q0 w1 := S1
  have hmk := run_make_rowN (P := Try.prog) 22 5 i0 _ Try.underlying22 HI0 hz0 .i64 .i64 n n (Nat.le_refl _) (by rw [hz2]; omega) (by omega) w1
  rw [hz1, Nat.mul_one] at hmk
  have n1 := reads_new w1 (madeCells (Value.cells (.int .u8 0)) n) 5 1 n (by simp [size_madeCells])
  have en : (madeCells (Value.cells (.int .u8 0)) n).toList = bs (zs n) := by
    show (madeCells #[Value.int .u8 0] n).toList = _
    rw [toList_madeCells_one]
    simp [bs, zs]
  rw [en] at n1
  have S1' := S1.alloc (.cells (madeCells (Value.cells (.int .u8 0)) n) 5)
  clear hz0 hz1 hz2 en
  go_wp2_with fail
  refine (putS s (fun _ => False) w q0 _ 0 true (some ⟨w1.heap.size, 0, none⟩) n n (w1.heap.size + 1) u (zs n) S1' (why1 (by omega) (by omega)) (by omega) (by omega) n1 (by simp) (by simp) (fun _ h => h.elim) (zs_ok n) (by decide)).mono ?_
  rintro e w2 ⟨rfl, S2, _⟩
  rw [put1] at S2
  rw [show ((q0.many : Nat) : Int) = 0 from rfl]
  clear S1 S1' n1 hmk
  have n2 := reads_new w2 #[.int .u8 7] 5 1 1 rfl
  have S2' := S2.alloc (.cells #[.int .u8 7] 5)
  go_wp2_with fail
  refine (putS s (fun _ => False) w _ _ 0 true (some ⟨w2.heap.size, 0, none⟩) 1 1 (w2.heap.size + 1) 0 [7] S2' (why2 (by omega)) (by omega) (by omega) n2 (by simp) (by simp) (fun _ h => h.elim) (bok_of rfl) (by show 1 < 1000000; omega)).mono ?_
  rintro e w3 ⟨rfl, S3, _⟩
  rw [put2] at S3
  clear S2 S2' n2
  obtain ⟨x1, x2⟩ := next1 (u := u) hk1 hk2
  go_wp2_with fail
  refine (nextS s (fun _ => False) w (q2 n u) w3 (p1 n u) [p2] k S3 rfl (by omega) (by omega)).mono ?_
  rintro e w4 ⟨A4, c4, rfl, o4, S4, _⟩
  rw [x1] at S4
  rw [x2] at o4 ⊢
  have S4 := S4.none_
  obtain ⟨a1, a2, a3, a4, a5, hd4⟩ : ∃ a1 a2 a3 a4 a5, (nxD (q2 n u) (p1 n u) k).cs A4 k c4 = #[.int .u32 0, .int .u16 a1, .int .u16 a2, .bool a3, .bool a4, .bool a5, .slice A4 k c4] := ⟨_, _, _, _, _, rfl⟩
  rw [hd4, show (((p1 n u).id : Nat) : Int) = 0 from rfl]
  clear x1 x2 o4 S3 hd4
  have S5 := S4.alloc (.cells #[.int .u32 0, .int .u16 a1, .int .u16 a2, .bool a3, .bool a4, .bool a5, .slice A4 k c4] 35)
  have D5 := Blk.new w4 35 #[.int .u32 0, .int .u16 a1, .int .u16 a2, .bool a3, .bool a4, .bool a5, .slice A4 k c4]
  have hs4 := S4.size
  clear S4
  go_upto_region 9 with fail
  generalize (w4.alloc (.cells #[.int .u32 0, .int .u16 a1, .int .u16 a2, .bool a3, .bool a4, .bool a5, .slice A4 k c4] 35)) = w5 at *
  generalize hbd : w4.heap.size = bd at *
  clear hbd
  have z6 : w5.cell? ⟨bd, 6, none⟩ = some (.slice A4 k c4) := D5.cell 6
  go_wp2_with fail
  refine (expS s (fun _ => False) w (q3 n k u) w5 now S5).mono ?_
  rintro e w6 ⟨A6, n6, c6, rfl, o6, S6, f6⟩
  have D6 := blk_fr D5 f6 (by omega) (not_mine (by decide))
  have S6 := S6.none_
  clear S5 D5 f6 z6
  have hs6 := S6.size
  have hb6 := D6.lt
  cases hd : dead now (p1' n k u) with
  | true =>
    obtain ⟨x1, x2⟩ := ex_cut hk1 hk2 hd
    have hdd : 0 < u ∧ u ≤ now := by
      rw [dead1] at hd
      simp only [Bool.and_eq_true, decide_eq_true_eq] at hd
      omega
    obtain ⟨hd1, hd2⟩ := hdd
    rw [x1] at o6 ⊢
    rw [x2] at S6
    have hdc : (lastD (((n - k - 1, some (p1' n k u)) : Nat × Option PI)).2).cs A6 n6 c6 = #[.int .u32 0, .int .u16 0, .int .u16 0, .bool false, .bool false, .bool true, .slice A6 n6 c6] := rfl
    have hi7 : ((lastI (((n - k - 1, some (p1' n k u)) : Nat × Option PI)).2 : Nat) : Int) = 0 := rfl
    have hs7 : (((n - k - 1, some (p1' n k u)) : Nat × Option PI)).2.isSome = true := rfl
    have o6 : w6.ownsRow w5.heap.size 5 1 (.slice A6 n6 c6) n6 (bs [0]) := o6
    rw [hdc, hi7, hs7]
    clear hdc hi7 hs7 x1 x2 hd
    have S7 := (S6.alloc (.cells #[.int .u32 0, .int .u16 0, .int .u16 0, .bool false, .bool false, .bool true, .slice A6 n6 c6] 35)).alloc (.cells #[.int .u8 0] 5)
    have D7 := (D6.alloc (.cells #[.int .u32 0, .int .u16 0, .int .u16 0, .bool false, .bool false, .bool true, .slice A6 n6 c6] 35)).alloc (.cells #[.int .u8 0] 5)
    have r7 := Reads.of_own ((o6.alloc (.cells #[.int .u32 0, .int .u16 0, .int .u16 0, .bool false, .bool false, .bool true, .slice A6 n6 c6] 35)).alloc (.cells #[.int .u8 0] 5))
    have t7 := reads_new (w6.alloc (.cells #[.int .u32 0, .int .u16 0, .int .u16 0, .bool false, .bool false, .bool true, .slice A6 n6 c6] 35)) #[.int .u8 0] 5 1 1 rfl
    simp only [World.size_alloc] at t7
    have t7 : Reads _ (w6.heap.size + 1 + 1) 1 (some ⟨w6.heap.size + 1, 0, none⟩) 1 (bs [0]) := t7
    clear S6 D6 o6
    go_wp2_with fail
    refine (same_true ⟨0, 0, false, false, true, [0]⟩ A6 (some ⟨w6.heap.size + 1, 0, none⟩) n6 c6 1 1 _ (w6.heap.size + 1 + 1) _ (Nat.le_refl _) (by simp) r7 t7).mono ?_
    rintro e w8 ⟨rfl, b8⟩
    have D8 := D7.below b8 D7.lt
    have S8 := S7.step b8
    clear S7 D7 r7 t7 b8
    have hs8 := S8.size
    go_wp2_with fail
    refine (expS s (fun _ => False) w (q4 k) w8 now S8).mono ?_
    rintro e w9 ⟨A9, n9, c9, rfl, o9, S9, f9⟩
    obtain ⟨x1, x2⟩ := ex_q4 k now
    rw [x1]
    rw [x2] at S9
    have hdc : (lastD (((0, none) : Nat × Option PI)).2).cs A9 n9 c9 = #[.int .u32 0, .int .u16 0, .int .u16 0, .bool false, .bool false, .bool false, .slice A9 n9 c9] := rfl
    have hi7 : ((lastI (((0, none) : Nat × Option PI)).2 : Nat) : Int) = 0 := rfl
    have hs7 : (((0, none) : Nat × Option PI)).2.isSome = false := rfl
    rw [hdc, hi7, hs7]
    have D9 := blk_fr D8 f9 (by omega) (not_mine (by decide))
    have S9 := S9.none_
    clear hdc hi7 hs7 x1 x2 S8 D8 f9 o9
    have S10 := S9.alloc (.cells #[.int .u32 0, .int .u16 0, .int .u16 0, .bool false, .bool false, .bool false, .slice A9 n9 c9] 35)
    have D10 := D9.alloc (.cells #[.int .u32 0, .int .u16 0, .int .u16 0, .bool false, .bool false, .bool false, .slice A9 n9 c9] 35)
    clear S9 D9
    go_upto_region 15 with fail
    generalize (w9.alloc (.cells #[.int .u32 0, .int .u16 0, .int .u16 0, .bool false, .bool false, .bool false, .slice A9 n9 c9] 35)) = w10 at *
    go_wp2_with fail
    refine (nextS s (fun _ => False) w (q4 k) w10 p2 [] n S10 rfl (by omega) (by omega)).mono ?_
    rintro e w11 ⟨A11, c11, rfl, o11, S11, f11⟩
    obtain ⟨x1, x2, x3⟩ := next_cut k n (by omega)
    rw [x1] at o11 ⊢
    rw [x2] at o11 ⊢
    have D11 := blk_fr D10 f11 (by omega) (not_mine (by decide))
    have S11 := S11.none_
    have X3 := hide x3
    clear x1 x2 x3 S10 D10 f11
    generalize hq5 : nxQ (q4 k) p2 [] n = q5 at *
    have HQ5 := hide hq5
    clear hq5
    have hdc : (⟨0, 1, false, true, true, [7]⟩ : PD).cs A11 1 c11 = #[.int .u32 0, .int .u16 0, .int .u16 1, .bool false, .bool true, .bool true, .slice A11 1 c11] := rfl
    have o11 : w11.ownsRow w10.heap.size 5 1 (.slice A11 1 c11) 1 (bs [7]) := o11
    rw [hdc, show (((p2).id : Nat) : Int) = 1 from rfl]
    clear hdc
    obtain ⟨T, D12, O12, hs12⟩ := put7 S11 D11 (by omega) (.int .u32 0) (.int .u16 0) (.int .u16 1) (.bool false) (.bool true) (.bool true) (.slice A11 1 c11)
    have o12 := O12 _ _ _ _ o11
    have m0 := D11.cell 0
    have m1 := D11.cell 1
    have m2 := D11.cell 2
    have m3 := D11.cell 3
    have m4 := D11.cell 4
    have m5 := D11.cell 5
    have m6 := D11.cell 6
    have mf := fun i => D11.frozen i
    go_upto_region 16 with fail
    generalize (((((((w11.setCell ⟨bd, 0, none⟩ (.int .u32 0)).setCell ⟨bd, 1, none⟩ (.int .u16 0)).setCell ⟨bd, 2, none⟩ (.int .u16 1)).setCell ⟨bd, 3, none⟩ (.bool false)).setCell ⟨bd, 4, none⟩ (.bool true)).setCell ⟨bd, 5, none⟩ (.bool true)).setCell ⟨bd, 6, none⟩ (.slice A11 1 c11)) = w12 at *
    clear m0 m1 m2 m3 m4 m5 m6 mf S11 D11 O12 o11
    obtain ⟨g, c12, hv, _, _⟩ := o12.form (by omega)
    obtain ⟨rfl, rfl⟩ : A11 = some ⟨g, 0, none⟩ ∧ c11 = c12 := by injection hv with a b c; exact ⟨a, c⟩
    have hc9 : w12.cell? ⟨g, 0, none⟩ = some (.int .u8 7) := by
      rw [o12.cellAt 0 (by omega)]
      rfl
    have z2 : w12.cell? ⟨bd, 2, none⟩ = some (.int .u16 1) := D12.cell 2
    have z6 : w12.cell? ⟨bd, 6, none⟩ = some (.slice (some ⟨g, 0, none⟩) 1 c11) := D12.cell 6
    clear D12 o12
    go_wp2_with fail
    refine (usedS s (fun _ => False) w q5 w12 T).mono ?_
    rintro e w13 ⟨rfl, rfl⟩
    have hu : (q5.used : Int) = (k : Int) + 2 := by have := unhide X3; omega
    rw [hu]
    go_wp2_with fail
    refine (works w12).mono ?_
    rintro e w13 ⟨rfl, hb13⟩
    go_wp2
    go_ret
    have hbb := T.below
    have hsz := T.size
    refine ⟨rfl, ?_⟩
    rw [unhide HS]
    exact below_then hbb (by omega) hb13
  | false =>
    obtain ⟨x1, x2⟩ := ex_not (n := n) (k := k) hd
    rw [x1]
    rw [x2] at S6
    have hdc : (lastD (((0, none) : Nat × Option PI)).2).cs A6 n6 c6 = #[.int .u32 0, .int .u16 0, .int .u16 0, .bool false, .bool false, .bool false, .slice A6 n6 c6] := rfl
    have hi7 : ((lastI (((0, none) : Nat × Option PI)).2 : Nat) : Int) = 0 := rfl
    have hs7 : (((0, none) : Nat × Option PI)).2.isSome = false := rfl
    rw [hdc, hi7, hs7]
    have HD := hide hd
    have hdd : u = 0 ∨ (0 < u ∧ now < u) := by
      rw [dead1] at hd
      simp only [Bool.and_eq_false_iff, decide_eq_false_iff_not] at hd
      omega
    clear hdc hi7 hs7 x1 x2 hd o6
    have S8 := S6.alloc (.cells #[.int .u32 0, .int .u16 0, .int .u16 0, .bool false, .bool false, .bool false, .slice A6 n6 c6] 35)
    have D8 := D6.alloc (.cells #[.int .u32 0, .int .u16 0, .int .u16 0, .bool false, .bool false, .bool false, .slice A6 n6 c6] 35)
    clear S6 D6
    go_upto_region 12 with fail
    have hs8 : s + 1 < (w6.alloc (.cells #[.int .u32 0, .int .u16 0, .int .u16 0, .bool false, .bool false, .bool false, .slice A6 n6 c6] 35)).heap.size := by simp; omega
    generalize (w6.alloc (.cells #[.int .u32 0, .int .u16 0, .int .u16 0, .bool false, .bool false, .bool false, .slice A6 n6 c6] 35)) = w8 at *
    rcases hdd with hdd | ⟨hd1, hd2⟩
    all_goals
      go_upto_region 12 with fail
      go_wp2_with fail
      refine (expS s (fun _ => False) w (q3 n k u) w8 now S8).mono ?_
      rintro e w9 ⟨A9, n9, c9, rfl, o9, S9, f9⟩
      obtain ⟨x1, x2⟩ := ex_not (n := n) (k := k) (unhide HD)
      rw [x1]
      rw [x2] at S9
      have hdc : (lastD (((0, none) : Nat × Option PI)).2).cs A9 n9 c9 = #[.int .u32 0, .int .u16 0, .int .u16 0, .bool false, .bool false, .bool false, .slice A9 n9 c9] := rfl
      have hi7 : ((lastI (((0, none) : Nat × Option PI)).2 : Nat) : Int) = 0 := rfl
      have hs7 : (((0, none) : Nat × Option PI)).2.isSome = false := rfl
      rw [hdc, hi7, hs7]
      have D9 := blk_fr D8 f9 (by omega) (not_mine (by decide))
      have S9 := S9.none_
      clear hdc hi7 hs7 x1 x2 S8 D8 f9 o9
      have S10 := S9.alloc (.cells #[.int .u32 0, .int .u16 0, .int .u16 0, .bool false, .bool false, .bool false, .slice A9 n9 c9] 35)
      have D10 := D9.alloc (.cells #[.int .u32 0, .int .u16 0, .int .u16 0, .bool false, .bool false, .bool false, .slice A9 n9 c9] 35)
      clear S9 D9
      go_upto_region 15 with fail
      generalize (w9.alloc (.cells #[.int .u32 0, .int .u16 0, .int .u16 0, .bool false, .bool false, .bool false, .slice A9 n9 c9] 35)) = w10 at *
      go_wp2_with fail
      refine (nextS s (fun _ => False) w (q3 n k u) w10 (p1' n k u) [p2] n S10 rfl (by omega) (by omega)).mono ?_
      rintro e w11 ⟨A11, c11, rfl, o11, S11, f11⟩
      obtain ⟨x1, x2, x3⟩ := next_not (u := u) hk1 hk2
      rw [x1] at o11 ⊢
      rw [x2] at o11 ⊢
      have D11 := blk_fr D10 f11 (by omega) (not_mine (by decide))
      have S11 := S11.none_
      have X3 := hide x3
      clear x1 x2 x3 S10 D10 f11
      generalize hq5 : nxQ (q3 n k u) (p1' n k u) [p2] n = q5 at *
      have HQ5 := hide hq5
      clear hq5
      have hdc : (⟨0, 0, false, false, true, (zs n).drop k⟩ : PD).cs A11 (n - k) c11 = #[.int .u32 0, .int .u16 0, .int .u16 0, .bool false, .bool false, .bool true, .slice A11 (n - k) c11] := rfl
      have o11 : w11.ownsRow w10.heap.size 5 1 (.slice A11 (n - k) c11) (n - k) (bs ((zs n).drop k)) := o11
      rw [hdc, show ((((p1' n k u)).id : Nat) : Int) = 0 from rfl]
      clear hdc
      obtain ⟨T, D12, O12, hs12⟩ := put7 S11 D11 (by omega) (.int .u32 0) (.int .u16 0) (.int .u16 0) (.bool false) (.bool false) (.bool true) (.slice A11 (n - k) c11)
      have o12 := O12 _ _ _ _ o11
      have m0 := D11.cell 0
      have m1 := D11.cell 1
      have m2 := D11.cell 2
      have m3 := D11.cell 3
      have m4 := D11.cell 4
      have m5 := D11.cell 5
      have m6 := D11.cell 6
      have mf := fun i => D11.frozen i
      go_upto_region 16 with fail
      generalize (((((((w11.setCell ⟨bd, 0, none⟩ (.int .u32 0)).setCell ⟨bd, 1, none⟩ (.int .u16 0)).setCell ⟨bd, 2, none⟩ (.int .u16 0)).setCell ⟨bd, 3, none⟩ (.bool false)).setCell ⟨bd, 4, none⟩ (.bool false)).setCell ⟨bd, 5, none⟩ (.bool true)).setCell ⟨bd, 6, none⟩ (.slice A11 (n - k) c11)) = w12 at *
      clear m0 m1 m2 m3 m4 m5 m6 mf S11 D11 O12 o11
      have z2 : w12.cell? ⟨bd, 2, none⟩ = some (.int .u16 0) := D12.cell 2
      have z5 : w12.cell? ⟨bd, 5, none⟩ = some (.bool true) := D12.cell 5
      have z6 : w12.cell? ⟨bd, 6, none⟩ = some (.slice A11 (n - k) c11) := D12.cell 6
      clear D12 o12
      have hsub : (n : Int) - (k : Int) = ((n - k : Nat) : Int) := by omega
      generalize n - k = m at *
      go_wp2_with fail
      refine (usedS s (fun _ => False) w q5 w12 T).mono ?_
      rintro e w13 ⟨rfl, rfl⟩
      have hu : (q5.used : Int) = (n : Int) + 1 := by have := unhide X3; omega
      rw [hu]
      go_wp2_with fail
      refine (works w12).mono ?_
      rintro e w13 ⟨rfl, hb13⟩
      go_wp2
      go_ret
      have hbb := T.below
      have hsz := T.size
      refine ⟨rfl, ?_⟩
      rw [unhide HS]
      exact below_then hbb (by omega) hb13
theorem own : ownKnob Try.prog.godebug = none := by kernel_rfl
theorem laidOut : laidOutB Try.prog = true := by kernel_rfl
set_option maxRecDepth 100000 in
theorem lifted (os : Os) (started : os.Started) (H : Type) (enc : TypeId × Value → H) :
    ReturnsInHanded {} Try.checked os 5 .any (Rows.outqCutSpec.pre6 enc Try.prog Try.f5 Rows.outqCutRow.domain false) (Rows.outqCutSpec.post enc Try.prog Try.f5 false true false false) := by
  refine returnsInHanded_of_change (C := Try.checked) own started (by kernel_rfl) Try.func5
    (ChangeSpec.witness6 (enc := enc) (C := Try.checked) false ⟨#[], #[.int .u16 0, .int .u16 0, .int .u8 0, .int .u8 0], []⟩ 8 (by kernel_rfl) (by kernel_rfl) (by kernel_rfl) (by kernel_rfl)) ?_
  intro W base args ds gs before hval0 hW hcnd _
  have hval : ∀ (j : Nat) t v, Try.f5.params[j]? = some t → args[j]? = some v → Value.okWide Try.prog W .any base t v := hval0
  have hW' := hW
  obtain ⟨p, q, hA0, hV, rfl, hfz, hnd⟩ := hW
  have hA : DataW.TrodAll enc Try.prog W 0 (fun _ => true) true Try.f5.params.toList args.toList ds p := hA0
  rw [Try.params5] at hA hval
  obtain ⟨v0, vs0, d0, ds0, p0, q0, hargs, rfl, rfl, h0, r0⟩ := trodAll_cons hA
  obtain ⟨v1, vs1, d1, ds1, p1, q1, rfl, rfl, rfl, h1, r1⟩ := trodAll_cons r0
  obtain ⟨v2, vs2, d2, ds2, p2, q2, rfl, rfl, rfl, h2, r2⟩ := trodAll_cons r1
  obtain ⟨v3, vs3, d3, ds3, p3, q3, rfl, rfl, rfl, h3, r3⟩ := trodAll_cons r2
  obtain ⟨rfl, rfl, rfl⟩ := trodAll_nil r3
  obtain rfl : args = #[v0, v1, v2, v3] := by cases args; simp_all
  obtain ⟨rfl, rfl⟩ := trodVars_none hV
  have k0 := h0
  have lt0 : ∀ x ∈ p0, x.block < W.heap.size := by obtain ⟨m, hm⟩ := k0; exact DataW.trod_lt m _ _ _ hm
  have k1 := h1
  have lt1 : ∀ x ∈ p1, x.block < W.heap.size := by obtain ⟨m, hm⟩ := k1; exact DataW.trod_lt m _ _ _ hm
  have k2 := h2
  have lt2 : ∀ x ∈ p2, x.block < W.heap.size := by obtain ⟨m, hm⟩ := k2; exact DataW.trod_lt m _ _ _ hm
  have k3 := h3
  have lt3 : ∀ x ∈ p3, x.block < W.heap.size := by obtain ⟨m, hm⟩ := k3; exact DataW.trod_lt m _ _ _ hm
  obtain ⟨a0, rfl, rfl, rfl, w0⟩ := open_int Try.underlying30 (hval 0 30 v0 rfl rfl) h0
  obtain ⟨b0, c0⟩ := bounds_u16 w0
  obtain ⟨a1, rfl, rfl, rfl, w1⟩ := open_int Try.underlying30 (hval 1 30 v1 rfl rfl) h1
  obtain ⟨b1, c1⟩ := bounds_u16 w1
  obtain ⟨a2, rfl, rfl, rfl, w2⟩ := open_int Try.underlying5 (hval 2 5 v2 rfl rfl) h2
  obtain ⟨b2, c2⟩ := bounds_u8 w2
  obtain ⟨a3, rfl, rfl, rfl, w3⟩ := open_int Try.underlying5 (hval 3 5 v3 rfl rfl) h3
  obtain ⟨b3, c3⟩ := bounds_u8 w3
  clear hA0 hval0
  refine (walk a0 a1 a2 a3 W ⟨b0, c0⟩ ⟨b1, c1⟩ ⟨b2, c2⟩ ⟨b3, c3⟩).mono fun e W' ⟨he, bel⟩ => ?_
  subst he
  exact ⟨_, rfl, _, _, _, [], _, [], hW', trodAll_mk1 (shut_bool Try.underlying4 _), (trodAll_cons_mk (Below.trod laidOut (by kernel_rfl) (of_decide_eq_true (by kernel_rfl)) k0 bel lt0) (trodAll_cons_mk (Below.trod laidOut (by kernel_rfl) (of_decide_eq_true (by kernel_rfl)) k1 bel lt1) (trodAll_cons_mk (Below.trod laidOut (by kernel_rfl) (of_decide_eq_true (by kernel_rfl)) k2 bel lt2) (trodAll_cons_mk (Below.trod laidOut (by kernel_rfl) (of_decide_eq_true (by kernel_rfl)) k3 bel lt3) trodAll_mk0)))), rfl, bel.frame _, fun h => by cases h⟩
theorem over : Rows.outqCutRow.holds Try.pinned (OpenSpec.ofChange Rows.outqCutSpec) :=
  OpenClaim.holds_of_wide 5 Try.f5 rfl rfl rfl rfl rfl rfl rfl ⟨rfl, rfl, rfl, rfl, rfl⟩ rfl rfl rfl rfl rfl (by kernel_rfl) Try.func5 (by kernel_rfl)
    (of_decide_eq_true (by kernel_rfl)) (by unfold Func.isWrapper; first | (rw [if_pos (by decide +kernel)]; kernel_rfl) | (rw [if_neg (by decide +kernel)]; exact ⟨rfl, rfl⟩))
    (fun os started H enc _ => lifted os started H enc)
theorem proved : Rows.OutqCutSaid :=
  over
end Go.Proofs.Ytmidnfkmefoleaa.outqCut

/-
  The anchor of chapter 20 answers true.
-/
import Derived.Test.YtmidnfkmefoleaaQt
import Derived.Lib.SlBytesConst
set_option linter.unusedVariables false
set_option linter.unusedSimpArgs false
namespace Go.Proofs.Ytmidnfkmefoleaa.Qk
open Go.RowKit Wd Ra Qm Qs Qp Qn Qe Qd Qx Ql Qt

def b1 : List Int := [97, 98, 99, 100]
def b2 : List Int := [101, 102, 103]
def q0 : PQ := fresh 2 10
def i1 : PI := ⟨0, true, b1, 0, 0, 0, 0⟩
def i2 : PI := ⟨0, true, b2, 1, 5, 0, 0⟩
def q1 : PQ := put q0 0 true b1 0
def q2 : PQ := put q1 0 true b2 5
def j1 : PI := nxI q2 i1 3
def q3 : PQ := nxQ q2 i1 [i2] 3
def q4 : PQ := exQ 9 q3
def q5 : PQ := nxQ q4 j1 [] 3
def q6 : PQ := { q5 with used := q5.used - 4 }
def q7 : PQ := put q6 0 true [104] 7
def i3 : PI := ⟨0, true, [104], 2, 7, 0, 0⟩
def q8 : PQ := nxQ q7 i3 [] 9
theorem bok_of {l : List Int} (h : l.all (fun x => decide (0 ≤ x) && decide (x ≤ 255)) = true) : BOk l := fun x hx => by
  have := List.all_eq_true.1 h x hx
  simpa using this
theorem ok0 : q0.Ok := fresh_ok 2 10 (by omega) (by omega) (by omega) (by omega)
theorem ok1 : q1.Ok := put_ok ok0 rfl (bok_of rfl) (by omega) (by omega) (by decide)
theorem ok2 : q2.Ok := put_ok ok1 rfl (bok_of rfl) (by omega) (by omega) (by decide)
theorem its2 : q2.its = i1 :: [i2] := rfl
theorem ok3 : q3.Ok := nx_ok ok2 its2 (by omega)
theorem ok4 : q4.Ok := ex_ok ok3 9
theorem its4 : q4.its = j1 :: [] := rfl
theorem ok5 : q5.Ok := nx_ok ok4 its4 (by omega)
theorem ok6 : q6.Ok := free_ok ok5 4
theorem ok7 : q7.Ok := put_ok ok6 rfl (bok_of rfl) (by omega) (by omega) (by decide)
theorem its7 : q7.its = i3 :: [] := rfl
theorem ok8 : q8.Ok := nx_ok ok7 its7 (by omega)
theorem d2 : nxD q2 i1 3 = ⟨0, 0, false, true, false, [97, 98, 99]⟩ ∧ nxLen i1 3 = 3 := ⟨rfl, rfl⟩
theorem x3 : exX 9 q3 = (3, none) := rfl
theorem d4 : nxD q4 j1 3 = ⟨0, 0, false, false, true, [100]⟩ ∧ nxLen j1 3 = 1 := ⟨rfl, rfl⟩
theorem d7 : nxD q7 i3 9 = ⟨0, 1, false, true, true, [104]⟩ ∧ nxLen i3 9 = 1 := ⟨rfl, rfl⟩
theorem its5 : q5.its = [] := rfl
theorem its8 : q8.its = [] := rfl
theorem s3 : strOfNums [97, 98, 99] = { data := #[97, 98, 99] } := by decide

/-- A new block reads as what was laid in it, marked or not. -/
theorem reads_mark (W : World) (cs : Array Value) (e : TypeId) (m : Nat × Nat) (size n : Nat) (hn : cs.size = n * size) : Reads (W.alloc (.cells cs e m)) (W.heap.size + 1) size (some ⟨W.heap.size, 0, none⟩) n cs.toList := by
  refine ⟨by simpa using hn, fun _ => ⟨_, rfl, by simp, fun j u hu => ?_⟩⟩
  have e1 : (⟨W.heap.size, 0, none⟩ : Addr).add j = ⟨W.heap.size, j, none⟩ := by unfold Addr.add; split <;> simp_all
  rw [e1, cell_of_row (W.alloc (.cells cs e m)) W.heap.size j cs e m (heap_alloc_new W _)]
  simpa using hu
set_option maxRecDepth 100000 in
set_option maxHeartbeats 2000000 in
theorem works (w : World) : Calls Try.prog 9 #[] w fun e w' => e = .returned (.bool true) ∧ Below w.heap.size w w' := by
  have kc := fun (w : World) (C : Array Value) (n c : Nat) => Lib.run_convert_bytes_const (P := Try.prog) w 22 5 C n c Try.underlying22 Try.underlying5
  go_enter Try.func9, Try.ntmps9
  go_wp2_with fail
  refine (newS 2 10 w (by omega) (by omega) (by omega) (by omega)).mono ?_
  rintro e w1 ⟨rfl, S1⟩
  generalize hs : w.heap.size = s at *
  have HS := hide hs
  clear hs
  have S1 : St s (fun _ => False) w q0 w1 := S1
  have n1 := reads_mark w1 #[.int .u8 97, .int .u8 98, .int .u8 99, .int .u8 100] 5 (4, 5) 1 4 rfl
  go_wp2_with fail
  refine (putS s (fun _ => False) w q0 _ 0 true (some ⟨w1.heap.size, 0, none⟩) 4 4 (w1.heap.size + 1) 0 b1 (S1.alloc _) rfl (by omega) (by omega) n1 (by simp) (by simp) (fun _ h => h.elim) (bok_of rfl) (by decide)).mono ?_
  rintro e w2 ⟨rfl, S2, _⟩
  have S2 : St s (fun _ => False) w q1 w2 := S2
  rw [show ((q0.many : Nat) : Int) = 0 from rfl]
  have n2 := reads_mark w2 #[.int .u8 101, .int .u8 102, .int .u8 103] 5 (3, 4) 1 3 rfl
  clear n1 S1
  go_wp2_with fail
  refine (putS s (fun _ => False) w q1 _ 0 true (some ⟨w2.heap.size, 0, none⟩) 3 3 (w2.heap.size + 1) 5 b2 (S2.alloc _) rfl (by omega) (by omega) n2 (by simp) (by simp) (fun _ h => h.elim) (bok_of rfl) (by decide)).mono ?_
  rintro e w3 ⟨rfl, S3, _⟩
  have S3 : St s (fun _ => False) w q2 w3 := S3
  rw [show ((q1.many : Nat) : Int) = 1 from rfl]
  clear n2 S2
  go_wp2_with fail
  refine (putxS s (fun _ => False) w q2 _ 1 false (some ⟨w3.heap.size, 0, none⟩) 4 4 0 6 (S3.alloc _) rfl (by decide) (by omega) (by omega)).mono ?_
  rintro e w4 ⟨rfl, S4, _⟩
  clear S3
  go_wp2_with fail
  refine (nextS s (fun _ => False) w q2 w4 i1 [i2] 3 S4 its2 (by omega) (by omega)).mono ?_
  rintro e w5 ⟨A5, c5, rfl, o5, S5, _⟩
  have o5 : w5.ownsRow w4.heap.size 5 1 (.slice A5 3 c5) 3 (bs [97, 98, 99]) := o5
  have S5 : St s (fun _ => False) w q3 w5 := S5.none_
  have hd5 : (nxD q2 i1 3).cs A5 (nxLen i1 3) c5 = #[.int .u32 0, .int .u16 0, .int .u16 0, .bool false, .bool true, .bool false, .slice A5 3 c5] := rfl
  rw [hd5, show ((i1.id : Nat) : Int) = 0 from rfl]
  have hs4 := S4.size
  clear S4 hd5
  have D6 := Blk.new w5 35 #[.int .u32 0, .int .u16 0, .int .u16 0, .bool false, .bool true, .bool false, .slice A5 3 c5]
  have S6 := S5.alloc (.cells #[.int .u32 0, .int .u16 0, .int .u16 0, .bool false, .bool true, .bool false, .slice A5 3 c5] 35)
  have o6 := o5.alloc (.cells #[.int .u32 0, .int .u16 0, .int .u16 0, .bool false, .bool true, .bool false, .slice A5 3 c5] 35)
  have hs5 := S5.size
  clear S5 o5
  go_upto_region 8 with fail
  have hs6 : w5.heap.size < (w5.alloc (.cells #[.int .u32 0, .int .u16 0, .int .u16 0, .bool false, .bool true, .bool false, .slice A5 3 c5] 35)).heap.size := by simp
  generalize hbd : w5.heap.size = bd at *
  have HBD := hide hbd
  clear hbd
  generalize (w5.alloc (.cells #[.int .u32 0, .int .u16 0, .int .u16 0, .bool false, .bool true, .bool false, .slice A5 3 c5] 35)) = w6 at *
  go_wp2_with fail
  refine (expS s (fun _ => False) w q3 w6 9 S6).mono ?_
  rintro e w7 ⟨A7, n7, c7, rfl, o7, S7, f7⟩
  have hx3 : exX 9 q3 = (3, none) := x3
  rw [hx3]
  have hd7 : (lastD ((3, none) : Nat × Option PI).2).cs A7 n7 c7 = #[.int .u32 0, .int .u16 0, .int .u16 0, .bool false, .bool false, .bool false, .slice A7 n7 c7] := rfl
  have hi7 : ((lastI ((3, none) : Nat × Option PI).2 : Nat) : Int) = 0 := rfl
  have hs7 : ((3, none) : Nat × Option PI).2.isSome = false := rfl
  rw [hd7, hi7, hs7]
  have S7 : St s (fun _ => False) w q4 w7 := S7.none_
  have D7 := blk_fr D6 f7 (by omega) (not_mine (by decide))
  have O7 := own_fr o6 f7 (fun e => by have := own_base o6 _ e; omega) (not_mine (by decide))
  clear S6 D6 o6 hx3 hd7 hi7 hs7 o7 f7
  have hs7 := S7.size
  have D8 := D7.alloc (.cells #[.int .u32 0, .int .u16 0, .int .u16 0, .bool false, .bool false, .bool false, .slice A7 n7 c7] 35)
  have S8 := S7.alloc (.cells #[.int .u32 0, .int .u16 0, .int .u16 0, .bool false, .bool false, .bool false, .slice A7 n7 c7] 35)
  have O8 := O7.alloc (.cells #[.int .u32 0, .int .u16 0, .int .u16 0, .bool false, .bool false, .bool false, .slice A7 n7 c7] 35)
  clear S7 D7 O7
  go_upto_region 9 with fail
  generalize (w7.alloc (.cells #[.int .u32 0, .int .u16 0, .int .u16 0, .bool false, .bool false, .bool false, .slice A7 n7 c7] 35)) = w8 at *
  have m4 : w8.cell? ⟨bd, 4, none⟩ = some (.bool true) := D8.cell 4
  have m5 : w8.cell? ⟨bd, 5, none⟩ = some (.bool false) := D8.cell 5
  have m6 : w8.cell? ⟨bd, 6, none⟩ = some (.slice A5 3 c5) := D8.cell 6
  have hcv : (convert 22 9 (.slice A5 3 c5)).run Try.prog w8 = .ok (.string { data := #[97, 98, 99] }) w8 := by
    rw [conv_ (Reads.of_own O8), s3]
  go_wp2_with fail
  refine (usedS s (fun _ => False) w q4 w8 S8).mono ?_
  rintro e w9 ⟨rfl, rfl⟩
  rw [show ((q4.used : Nat) : Int) = 4 from rfl]
  clear hcv m4 m5 m6 O8
  go_wp2_with fail
  refine (nextS s (fun _ => False) w q4 w8 j1 [] 3 S8 its4 (by omega) (by omega)).mono ?_
  rintro e w9 ⟨A9, c9, rfl, o9, S9, f9⟩
  have S9 : St s (fun _ => False) w q5 w9 := S9.none_
  have hd9 : (nxD q4 j1 3).cs A9 (nxLen j1 3) c9 = #[.int .u32 0, .int .u16 0, .int .u16 0, .bool false, .bool false, .bool true, .slice A9 1 c9] := rfl
  rw [hd9, show ((j1.id : Nat) : Int) = 0 from rfl]
  have D9 := blk_fr D8 f9 (by omega) (not_mine (by decide))
  clear S8 D8 hd9 f9 o9
  have m0 := D9.cell 0
  have m1 := D9.cell 1
  have m2 := D9.cell 2
  have m3 := D9.cell 3
  have m4 := D9.cell 4
  have m5 := D9.cell 5
  have m6 := D9.cell 6
  have mf := fun i => D9.frozen i
  have T := (((((((S9.far D9 (by omega) (by decide) (by decide) 0 (.int .u32 0)).far (D9.set_ 0 (.int .u32 0)) (by omega) (by decide) (by decide) 1 (.int .u16 0)).far ((D9.set_ 0 (.int .u32 0)).set_ 1 (.int .u16 0)) (by omega) (by decide) (by decide) 2 (.int .u16 0)).far (((D9.set_ 0 (.int .u32 0)).set_ 1 (.int .u16 0)).set_ 2 (.int .u16 0)) (by omega) (by decide) (by decide) 3 (.bool false)).far ((((D9.set_ 0 (.int .u32 0)).set_ 1 (.int .u16 0)).set_ 2 (.int .u16 0)).set_ 3 (.bool false)) (by omega) (by decide) (by decide) 4 (.bool false)).far (((((D9.set_ 0 (.int .u32 0)).set_ 1 (.int .u16 0)).set_ 2 (.int .u16 0)).set_ 3 (.bool false)).set_ 4 (.bool false)) (by omega) (by decide) (by decide) 5 (.bool true)).far ((((((D9.set_ 0 (.int .u32 0)).set_ 1 (.int .u16 0)).set_ 2 (.int .u16 0)).set_ 3 (.bool false)).set_ 4 (.bool false)).set_ 5 (.bool true)) (by omega) (by decide) (by decide) 6 (.slice A9 1 c9))
  have D10 := (((((((D9.set_ 0 (.int .u32 0)).set_ 1 (.int .u16 0)).set_ 2 (.int .u16 0)).set_ 3 (.bool false)).set_ 4 (.bool false)).set_ 5 (.bool true)).set_ 6 (.slice A9 1 c9))
  simp only [List.setIfInBounds_toArray, List.set_cons_zero, List.set_cons_succ] at D10
  go_upto_region 12 with fail
  generalize (((((((w9.setCell ⟨bd, 0, none⟩ (.int .u32 0)).setCell ⟨bd, 1, none⟩ (.int .u16 0)).setCell ⟨bd, 2, none⟩ (.int .u16 0)).setCell ⟨bd, 3, none⟩ (.bool false)).setCell ⟨bd, 4, none⟩ (.bool false)).setCell ⟨bd, 5, none⟩ (.bool true)).setCell ⟨bd, 6, none⟩ (.slice A9 1 c9)) = w10 at *
  clear m0 m1 m2 m3 m4 m5 m6 mf S9 D9
  have hs10 := D10.lt
  go_wp2_with fail
  refine (nextxS s (fun _ => False) w q5 w10 3 T (.inl its5)).mono ?_
  rintro e w11 ⟨rfl, S11, f11⟩
  have D11 := D10.below f11 hs10
  have hs11 := f11.size
  have S12 := S11.alloc (.cells #[.int .u32 0, .int .u16 0, .int .u16 0, .bool false, .bool false, .bool false, .slice none 0 0] 35)
  have D12 := D11.alloc (.cells #[.int .u32 0, .int .u16 0, .int .u16 0, .bool false, .bool false, .bool false, .slice none 0 0] 35)
  clear T D10 S11 D11
  go_upto_region 13 with fail
  generalize (w11.alloc (.cells #[.int .u32 0, .int .u16 0, .int .u16 0, .bool false, .bool false, .bool false, .slice none 0 0] 35)) = w12 at *
  go_wp2_with fail
  refine (freeS s (fun _ => False) w q5 w12 4 S12 (by omega) (by omega)).mono ?_
  rintro e w13 ⟨rfl, S13, f13⟩
  have S13 : St s (fun _ => False) w q6 w13 := S13
  have D13 := blk_fr D12 f13 (by omega) (not_mine (by decide))
  clear S12 D12 f13
  have n14 := reads_mark w13 #[.int .u8 104] 5 (1, 2) 1 1 rfl
  have D14 := D13.alloc (.cells #[.int .u8 104] 5 (1, 2))
  go_wp2_with fail
  refine (putS s (fun _ => False) w q6 _ 0 true (some ⟨w13.heap.size, 0, none⟩) 1 1 (w13.heap.size + 1) 7 [104] (S13.alloc _) rfl (by omega) (by omega) n14 (by simp) (by simp) (fun _ h => h.elim) (bok_of rfl) (by decide)).mono ?_
  rintro e w15 ⟨rfl, S15, f15⟩
  have S15 : St s (fun _ => False) w q7 w15 := S15
  have D15 := blk_fr D14 f15 (by omega) (not_mine (by decide))
  rw [show ((q6.many : Nat) : Int) = 2 from rfl]
  clear S13 D13 n14 D14 f15
  go_wp2_with fail
  refine (nextS s (fun _ => False) w q7 w15 i3 [] 9 S15 its7 (by omega) (by omega)).mono ?_
  rintro e w16 ⟨A16, c16, rfl, o16, S16, f16⟩
  have S16 : St s (fun _ => False) w q8 w16 := S16.none_
  have hd16 : (nxD q7 i3 9).cs A16 (nxLen i3 9) c16 = #[.int .u32 0, .int .u16 0, .int .u16 1, .bool false, .bool true, .bool true, .slice A16 1 c16] := rfl
  rw [hd16, show ((i3.id : Nat) : Int) = 2 from rfl]
  have D16 := blk_fr D15 f16 (by omega) (not_mine (by decide))
  clear S15 D15 hd16 f16 o16
  have D17 := D16.alloc (.cells #[.int .u32 0, .int .u16 0, .int .u16 1, .bool false, .bool true, .bool true, .slice A16 1 c16] 35)
  have E17 := Blk.new w16 35 #[.int .u32 0, .int .u16 0, .int .u16 1, .bool false, .bool true, .bool true, .slice A16 1 c16]
  have S17 := S16.alloc (.cells #[.int .u32 0, .int .u16 0, .int .u16 1, .bool false, .bool true, .bool true, .slice A16 1 c16] 35)
  clear S16 D16
  go_upto_region 16 with fail
  generalize (w16.alloc (.cells #[.int .u32 0, .int .u16 0, .int .u16 1, .bool false, .bool true, .bool true, .slice A16 1 c16] 35)) = w17 at *
  have m5 : w17.cell? ⟨bd, 5, none⟩ = some (.bool true) := D17.cell 5
  have k2 : w17.cell? ⟨w16.heap.size, 2, none⟩ = some (.int .u16 1) := E17.cell 2
  have k4 : w17.cell? ⟨w16.heap.size, 4, none⟩ = some (.bool true) := E17.cell 4
  have k5 : w17.cell? ⟨w16.heap.size, 5, none⟩ = some (.bool true) := E17.cell 5
  go_wp2_with fail
  refine (sizeS s (fun _ => False) w q8 w17 S17).mono ?_
  rintro e w18 ⟨rfl, k, rfl⟩
  rw [show ((front q8.its : Nat) : Int) = 0 from rfl]
  go_wp2
  go_ret
  refine ⟨rfl, below_drewN ?_ k⟩
  have := S17.below
  rw [unhide HS]
  exact this
end Go.Proofs.Ytmidnfkmefoleaa.Qk

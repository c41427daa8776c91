/-
  does: room is given back; nothing is done. (Written by gen_dt.py.)
-/
import Derived.Test.YtmidnfkmefoleaaDn
set_option linter.unusedVariables false
set_option linter.unusedSimpArgs false
namespace Go.Proofs.Ytmidnfkmefoleaa.Dt
open Go.RowKit Wd Ra Qm Qs Qp Qn Qe Qd Qx Ql Qt Oq Vs Dk Do Dn

set_option maxRecDepth 100000 in
set_option maxHeartbeats 2000000 in
theorem does3 (qv : Value) (I : World → Prop) (J : World → Prop) (st un kk : Int) (o : Bool) (A : Option Addr) (n c : Nat) (w : World) (hI : I w) (KI : Kp w.heap.size (fun k => w.heap.size ≤ k) I) (KJ : Kp w.heap.size (fun k => w.heap.size ≤ k) J)
    (hcall : ∀ (W : World), I W → w.heap.size < W.heap.size → Calls Try.prog 25 #[qv, .int .i64 kk] W fun e w' => e = .returned (.tuple #[]) ∧ J w' ∧ Sd w.heap.size W w') :
    Calls Try.prog 17 #[qv, .agg #[.int .i64 3, .int .u16 st, .bool o, .slice A n c, .int .i64 un, .int .i64 kk]] w fun e w' => e = .returned (.agg (told zeroD none 0 0 0 false 0)) ∧ J w' ∧ w.heap.size ≤ w'.heap.size := by
  have I3 := KI.alloc (KI.alloc (KI.alloc hI (.cells #[.int .i64 3, .int .u16 st, .bool o, .slice A n c, .int .i64 un, .int .i64 kk] 42)) (.cells #[.int .u32 0, .int .u16 0, .int .u16 0, .bool false, .bool false, .bool false, .slice none 0 0, .int .i64 0, .bool false, .int .i64 0] 46)) (.cells #[.int .u32 0, .int .u16 0, .int .u16 0, .bool false, .bool false, .bool false, .slice none 0 0, .int .i64 0, .bool false, .int .i64 0] 46)
  have X3 := ((Blk.new w 42 #[.int .i64 3, .int .u16 st, .bool o, .slice A n c, .int .i64 un, .int .i64 kk]).alloc (.cells #[.int .u32 0, .int .u16 0, .int .u16 0, .bool false, .bool false, .bool false, .slice none 0 0, .int .i64 0, .bool false, .int .i64 0] 46)).alloc (.cells #[.int .u32 0, .int .u16 0, .int .u16 0, .bool false, .bool false, .bool false, .slice none 0 0, .int .i64 0, .bool false, .int .i64 0] 46)
  have A3 := (Blk.new (w.alloc (.cells #[.int .i64 3, .int .u16 st, .bool o, .slice A n c, .int .i64 un, .int .i64 kk] 42)) 46 #[.int .u32 0, .int .u16 0, .int .u16 0, .bool false, .bool false, .bool false, .slice none 0 0, .int .i64 0, .bool false, .int .i64 0]).alloc (.cells #[.int .u32 0, .int .u16 0, .int .u16 0, .bool false, .bool false, .bool false, .slice none 0 0, .int .i64 0, .bool false, .int .i64 0] 46)
  have B3 := Blk.new ((w.alloc (.cells #[.int .i64 3, .int .u16 st, .bool o, .slice A n c, .int .i64 un, .int .i64 kk] 42)).alloc (.cells #[.int .u32 0, .int .u16 0, .int .u16 0, .bool false, .bool false, .bool false, .slice none 0 0, .int .i64 0, .bool false, .int .i64 0] 46)) 46 #[.int .u32 0, .int .u16 0, .int .u16 0, .bool false, .bool false, .bool false, .slice none 0 0, .int .i64 0, .bool false, .int .i64 0]
  have hs3 : (((w.alloc (.cells #[.int .i64 3, .int .u16 st, .bool o, .slice A n c, .int .i64 un, .int .i64 kk] 42)).alloc (.cells #[.int .u32 0, .int .u16 0, .int .u16 0, .bool false, .bool false, .bool false, .slice none 0 0, .int .i64 0, .bool false, .int .i64 0] 46)).alloc (.cells #[.int .u32 0, .int .u16 0, .int .u16 0, .bool false, .bool false, .bool false, .slice none 0 0, .int .i64 0, .bool false, .int .i64 0] 46)).heap.size = w.heap.size + 1 + 1 + 1 := by simp
  simp only [World.size_alloc] at A3 B3
  go_enter Try.func17, Try.ntmps17
  go_upto_region 29 with fail
  generalize (((w.alloc (.cells #[.int .i64 3, .int .u16 st, .bool o, .slice A n c, .int .i64 un, .int .i64 kk] 42)).alloc (.cells #[.int .u32 0, .int .u16 0, .int .u16 0, .bool false, .bool false, .bool false, .slice none 0 0, .int .i64 0, .bool false, .int .i64 0] 46)).alloc (.cells #[.int .u32 0, .int .u16 0, .int .u16 0, .bool false, .bool false, .bool false, .slice none 0 0, .int .i64 0, .bool false, .int .i64 0] 46)) = w3 at *
  generalize hsw : w.heap.size = s at *
  have HS := hide hsw
  clear hsw
  have m3 : w3.cell? ⟨s, 5, none⟩ = some (.int .i64 kk) := X3.cell 5
  go_wp2_with fail
  refine (hcall w3 I3 (by omega)).mono ?_
  rintro e w5 ⟨rfl, J5, sd⟩
  have A5 := sd.blk _ _ _ (by omega) (not_mine (by decide)) A3
  have B5 := sd.blk _ _ _ (by omega) (not_mine (by decide)) B3
  have hs5 := sd.size
  clear m3
  obtain ⟨J12, A12, P12, _, hs12⟩ := KJ.put10 J5 A5 (by omega) (.int .u32 0) (.int .u16 0) (.int .u16 0) (.bool false) (.bool false) (.bool false) (.slice none 0 0) (.int .i64 0) (.bool false) (.int .i64 0)
  have q0 := B5.cell 0
  have r0 := A5.cell 0
  have q1 := B5.cell 1
  have r1 := A5.cell 1
  have q2 := B5.cell 2
  have r2 := A5.cell 2
  have q3 := B5.cell 3
  have r3 := A5.cell 3
  have q4 := B5.cell 4
  have r4 := A5.cell 4
  have q5 := B5.cell 5
  have r5 := A5.cell 5
  have q6 := B5.cell 6
  have r6 := A5.cell 6
  have q7 := B5.cell 7
  have r7 := A5.cell 7
  have q8 := B5.cell 8
  have r8 := A5.cell 8
  have q9 := B5.cell 9
  have r9 := A5.cell 9
  have mf := fun i => A5.frozen i
  go_upto_region 30 with fail
  go_wp2
  generalize ((((((((((w5.setCell ⟨s + 1, 0, none⟩ (.int .u32 0)).setCell ⟨s + 1, 1, none⟩ (.int .u16 0)).setCell ⟨s + 1, 2, none⟩ (.int .u16 0)).setCell ⟨s + 1, 3, none⟩ (.bool false)).setCell ⟨s + 1, 4, none⟩ (.bool false)).setCell ⟨s + 1, 5, none⟩ (.bool false)).setCell ⟨s + 1, 6, none⟩ (.slice none 0 0)).setCell ⟨s + 1, 7, none⟩ (.int .i64 0)).setCell ⟨s + 1, 8, none⟩ (.bool false)).setCell ⟨s + 1, 9, none⟩ (.int .i64 0)) = w12 at *
  refine bodyPost_ret (results_c (P := Try.prog) Try.results17 _ _ (s + 1) 46 (told zeroD none 0 0 0 false 0) _ rfl A12 Try.underlying46 rfl rfl) rfl ⟨rfl, J12, ?_⟩
  have := unhide HS
  omega
set_option maxRecDepth 100000 in
set_option maxHeartbeats 2000000 in
theorem does4 (qv : Value) (J : World → Prop) (kd st un kk : Int) (o : Bool) (A : Option Addr) (n c : Nat) (w : World) (hI : J w) (KJ : Kp w.heap.size (fun k => w.heap.size ≤ k) J) (hk : kd ≠ 0 ∧ kd ≠ 1 ∧ kd ≠ 2 ∧ kd ≠ 3) :
    Calls Try.prog 17 #[qv, .agg #[.int .i64 kd, .int .u16 st, .bool o, .slice A n c, .int .i64 un, .int .i64 kk]] w fun e w' => e = .returned (.agg (told zeroD none 0 0 0 false 0)) ∧ J w' ∧ w.heap.size ≤ w'.heap.size := by
  have z0 : (kd == 0) = false := by rw [beq_eq_false_iff_ne]; exact hk.1
  have z1 : (kd == 1) = false := by rw [beq_eq_false_iff_ne]; exact hk.2.1
  have z2 : (kd == 2) = false := by rw [beq_eq_false_iff_ne]; exact hk.2.2.1
  have z3 : (kd == 3) = false := by rw [beq_eq_false_iff_ne]; exact hk.2.2.2
  clear hk
  have I3 := KJ.alloc (KJ.alloc (KJ.alloc hI (.cells #[.int .i64 kd, .int .u16 st, .bool o, .slice A n c, .int .i64 un, .int .i64 kk] 42)) (.cells #[.int .u32 0, .int .u16 0, .int .u16 0, .bool false, .bool false, .bool false, .slice none 0 0, .int .i64 0, .bool false, .int .i64 0] 46)) (.cells #[.int .u32 0, .int .u16 0, .int .u16 0, .bool false, .bool false, .bool false, .slice none 0 0, .int .i64 0, .bool false, .int .i64 0] 46)
  have X3 := ((Blk.new w 42 #[.int .i64 kd, .int .u16 st, .bool o, .slice A n c, .int .i64 un, .int .i64 kk]).alloc (.cells #[.int .u32 0, .int .u16 0, .int .u16 0, .bool false, .bool false, .bool false, .slice none 0 0, .int .i64 0, .bool false, .int .i64 0] 46)).alloc (.cells #[.int .u32 0, .int .u16 0, .int .u16 0, .bool false, .bool false, .bool false, .slice none 0 0, .int .i64 0, .bool false, .int .i64 0] 46)
  have A3 := (Blk.new (w.alloc (.cells #[.int .i64 kd, .int .u16 st, .bool o, .slice A n c, .int .i64 un, .int .i64 kk] 42)) 46 #[.int .u32 0, .int .u16 0, .int .u16 0, .bool false, .bool false, .bool false, .slice none 0 0, .int .i64 0, .bool false, .int .i64 0]).alloc (.cells #[.int .u32 0, .int .u16 0, .int .u16 0, .bool false, .bool false, .bool false, .slice none 0 0, .int .i64 0, .bool false, .int .i64 0] 46)
  have B3 := Blk.new ((w.alloc (.cells #[.int .i64 kd, .int .u16 st, .bool o, .slice A n c, .int .i64 un, .int .i64 kk] 42)).alloc (.cells #[.int .u32 0, .int .u16 0, .int .u16 0, .bool false, .bool false, .bool false, .slice none 0 0, .int .i64 0, .bool false, .int .i64 0] 46)) 46 #[.int .u32 0, .int .u16 0, .int .u16 0, .bool false, .bool false, .bool false, .slice none 0 0, .int .i64 0, .bool false, .int .i64 0]
  have hs3 : (((w.alloc (.cells #[.int .i64 kd, .int .u16 st, .bool o, .slice A n c, .int .i64 un, .int .i64 kk] 42)).alloc (.cells #[.int .u32 0, .int .u16 0, .int .u16 0, .bool false, .bool false, .bool false, .slice none 0 0, .int .i64 0, .bool false, .int .i64 0] 46)).alloc (.cells #[.int .u32 0, .int .u16 0, .int .u16 0, .bool false, .bool false, .bool false, .slice none 0 0, .int .i64 0, .bool false, .int .i64 0] 46)).heap.size = w.heap.size + 1 + 1 + 1 := by simp
  simp only [World.size_alloc] at A3 B3
  go_enter Try.func17, Try.ntmps17
  go_upto_region 30 with fail
  generalize (((w.alloc (.cells #[.int .i64 kd, .int .u16 st, .bool o, .slice A n c, .int .i64 un, .int .i64 kk] 42)).alloc (.cells #[.int .u32 0, .int .u16 0, .int .u16 0, .bool false, .bool false, .bool false, .slice none 0 0, .int .i64 0, .bool false, .int .i64 0] 46)).alloc (.cells #[.int .u32 0, .int .u16 0, .int .u16 0, .bool false, .bool false, .bool false, .slice none 0 0, .int .i64 0, .bool false, .int .i64 0] 46)) = w3 at *
  generalize hsw : w.heap.size = s at *
  have HS := hide hsw
  clear hsw
  have J5 := I3
  have A5 := A3
  have B5 := B3
  have hs5 : w3.heap.size ≤ w3.heap.size := Nat.le_refl _
  obtain ⟨J12, A12, P12, _, hs12⟩ := KJ.put10 J5 A5 (by omega) (.int .u32 0) (.int .u16 0) (.int .u16 0) (.bool false) (.bool false) (.bool false) (.slice none 0 0) (.int .i64 0) (.bool false) (.int .i64 0)
  have q0 := B5.cell 0
  have r0 := A5.cell 0
  have q1 := B5.cell 1
  have r1 := A5.cell 1
  have q2 := B5.cell 2
  have r2 := A5.cell 2
  have q3 := B5.cell 3
  have r3 := A5.cell 3
  have q4 := B5.cell 4
  have r4 := A5.cell 4
  have q5 := B5.cell 5
  have r5 := A5.cell 5
  have q6 := B5.cell 6
  have r6 := A5.cell 6
  have q7 := B5.cell 7
  have r7 := A5.cell 7
  have q8 := B5.cell 8
  have r8 := A5.cell 8
  have q9 := B5.cell 9
  have r9 := A5.cell 9
  have mf := fun i => A5.frozen i
  go_upto_region 30 with fail
  go_wp2
  generalize ((((((((((w3.setCell ⟨s + 1, 0, none⟩ (.int .u32 0)).setCell ⟨s + 1, 1, none⟩ (.int .u16 0)).setCell ⟨s + 1, 2, none⟩ (.int .u16 0)).setCell ⟨s + 1, 3, none⟩ (.bool false)).setCell ⟨s + 1, 4, none⟩ (.bool false)).setCell ⟨s + 1, 5, none⟩ (.bool false)).setCell ⟨s + 1, 6, none⟩ (.slice none 0 0)).setCell ⟨s + 1, 7, none⟩ (.int .i64 0)).setCell ⟨s + 1, 8, none⟩ (.bool false)).setCell ⟨s + 1, 9, none⟩ (.int .i64 0)) = w12 at *
  refine bodyPost_ret (results_c (P := Try.prog) Try.results17 _ _ (s + 1) 46 (told zeroD none 0 0 0 false 0) _ rfl A12 Try.underlying46 rfl rfl) rfl ⟨rfl, J12, ?_⟩
  have := unhide HS
  omega
end Go.Proofs.Ytmidnfkmefoleaa.Dt

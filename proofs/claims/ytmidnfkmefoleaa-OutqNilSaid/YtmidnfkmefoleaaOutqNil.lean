/-
  Proved: a queue that is none answers everything, and holds nothing.
  Conditions: none; every input.
-/
import Derived.Test.YtmidnfkmefoleaaDt
import Derived.Test.YtmidnfkmefoleaaOw
import Derived.Deep.DeepCutAuto
import Derived.Test.YtmidnfkmefoleaaOq
import Derived.Test.YtmidnfkmefoleaaRows
import Derived.ProofKit
import Derived.OpenShut
import Derived.Carry
import Derived.SizedLaws
set_option linter.unusedVariables false
set_option linter.unusedSimpArgs false
namespace Go.Proofs.Ytmidnfkmefoleaa.outqNil
open Go.ChangeShapes Go.WideShapes Go.ChangeAt
open Go.RowKit Wd Ra Qm Qs Qp Qn Qe Qd Qx Ql Qt Qk Sm Oq Vs Dk Do Dn Dt Ow

def Post (x : OV) (w : World) (e : Ending) (w' : World) : Prop :=
  ∃ A c ok err, e = .returned (.agg (told zeroD A 0 c 0 ok err)) ∧ w'.ownsRow w.heap.size 5 1 (.slice A 0 c) 0 (bs []) ∧ (x.kind = 0 → ok = true ∧ err = 2) ∧ (x.kind ≠ 0 → ok = false ∧ err = 0) ∧ Below w.heap.size w w'
theorem doesNil (x : OV) (w : World) (hx : OkW w x) : Calls Try.prog 17 #[.pointer none, .agg #[.int .i64 x.kind, .int .u16 x.m.st, .bool x.m.o, .slice x.m.A x.m.n x.m.c, .int .i64 x.un, .int .i64 x.k]] w (Post x w) := by
  obtain ⟨⟨_, ⟨_, _, hr, ho, _, _, hnil⟩, _, _⟩, hn⟩ := hx
  have RI : ∀ W, Below w.heap.size w W → w.heap.size ≤ W.heap.size → Reads W w.heap.size 1 x.m.A x.m.n (bs x.m.xs) := fun W h _ => hr.keep fun p hp => h.cell (by omega)
  by_cases k0 : x.kind = 0
  · rw [k0]
    refine (does0 (.pointer none) (fun W => Below w.heap.size w W) (fun _ W => Below w.heap.size w W) x.m.st x.un x.k 0 2 x.m.o x.m.A x.m.n x.m.c w.heap.size x.m.xs w (Below.refl _ _) (Kp.none_ _ w) (fun S => Kp.none_ _ w) RI (fun S => RI) (Nat.le_refl _) hn ?_).mono ?_
    · intro W A' c' hI hlt _
      refine (c11n x.m.st x.m.o A' x.m.n c' x.un W).mono ?_
      rintro e w' ⟨rfl, hb⟩
      exact ⟨rfl, below_then hI hI.size hb, Sd.of_below hb⟩
    · rintro e w' ⟨rfl, ⟨S, hb⟩, _⟩
      exact ⟨none, 0, true, 2, rfl, own_none _ _ _ _, fun _ => ⟨rfl, rfl⟩, fun h => absurd k0 h, hb⟩
  · by_cases k1 : x.kind = 1
    · rw [k1]
      refine (does1 (.pointer none) (fun W => Below w.heap.size w W) (fun _ W => Below w.heap.size w W) x.m.st x.un x.k 0 x.m.o false x.m.A x.m.n x.m.c zeroD w (Below.refl _ _) (Kp.none_ _ w) (fun S _ => Kp.none_ _ w) (by decide) ?_).mono ?_
      · intro W hI hlt
        refine (c15n x.k W).mono ?_
        rintro e w' ⟨rfl, hb⟩
        exact ⟨none, 0, 0, rfl, own_none _ _ _ _, below_then hI hI.size hb, Sd.of_below hb⟩
      · rintro e w' ⟨A6, n6, c6, rfl, ho6, ⟨S, _, hb⟩, _⟩
        obtain rfl : n6 = 0 := (own_bytes ho6).symm
        exact ⟨A6, c6, false, 0, rfl, ho6, fun h => absurd h k0, fun h => ⟨rfl, rfl⟩, hb⟩
    · by_cases k2 : x.kind = 2
      · rw [k2]
        refine (does2 (.pointer none) (fun W => Below w.heap.size w W) (fun _ W => Below w.heap.size w W) x.m.st x.un x.k 0 x.m.o false x.m.A x.m.n x.m.c zeroD w (Below.refl _ _) (Kp.none_ _ w) (fun S _ => Kp.none_ _ w) (by decide) ?_).mono ?_
        · intro W hI hlt
          refine (c12n x.un W).mono ?_
          rintro e w' ⟨rfl, hb⟩
          exact ⟨none, 0, 0, rfl, own_none _ _ _ _, below_then hI hI.size hb, Sd.of_below hb⟩
        · rintro e w' ⟨A6, n6, c6, rfl, ho6, ⟨S, _, hb⟩, _⟩
          obtain rfl : n6 = 0 := (own_bytes ho6).symm
          exact ⟨A6, c6, false, 0, rfl, ho6, fun h => absurd h k0, fun h => ⟨rfl, rfl⟩, hb⟩
      · by_cases k3 : x.kind = 3
        · rw [k3]
          refine (does3 (.pointer none) (fun W => Below w.heap.size w W) (fun W => Below w.heap.size w W) x.m.st x.un x.k x.m.o x.m.A x.m.n x.m.c w (Below.refl _ _) (Kp.none_ _ w) (Kp.none_ _ w) ?_).mono ?_
          · intro W hI hlt
            refine (c25n x.k W).mono ?_
            rintro e w' ⟨rfl, rfl⟩
            exact ⟨rfl, hI, Sd.of_below (Below.refl _ _)⟩
          · rintro e w' ⟨rfl, hb, _⟩
            exact ⟨none, 0, false, 0, rfl, own_none _ _ _ _, fun h => absurd h k0, fun h => ⟨rfl, rfl⟩, hb⟩
        · refine (does4 (.pointer none) (fun W => Below w.heap.size w W) x.kind x.m.st x.un x.k x.m.o x.m.A x.m.n x.m.c w (Below.refl _ _) (Kp.none_ _ w) ⟨k0, k1, k2, k3⟩).mono ?_
          rintro e w' ⟨rfl, hb, _⟩
          exact ⟨none, 0, false, 0, rfl, own_none _ _ _ _, fun h => absurd h k0, fun h => ⟨rfl, rfl⟩, hb⟩
set_option maxRecDepth 100000 in
set_option maxHeartbeats 2000000 in
theorem walk (x : OV) (w : World) (hx : OkW w x) :
    Calls Try.prog 4 #[.agg #[.int .i64 x.kind, .int .u16 x.m.st, .bool x.m.o, .slice x.m.A x.m.n x.m.c, .int .i64 x.un, .int .i64 x.k]] w fun e w' => e = .returned (.bool true) ∧ Below w.heap.size w w' := by
  have D1 := (Blk.new w 42 #[.int .i64 x.kind, .int .u16 x.m.st, .bool x.m.o, .slice x.m.A x.m.n x.m.c, .int .i64 x.un, .int .i64 x.k]).alloc (.cells #[.int .i64 x.kind, .int .u16 x.m.st, .bool x.m.o, .slice x.m.A x.m.n x.m.c, .int .i64 x.un, .int .i64 x.k] 42)
  have b1 : Below w.heap.size w ((w.alloc (.cells #[.int .i64 x.kind, .int .u16 x.m.st, .bool x.m.o, .slice x.m.A x.m.n x.m.c, .int .i64 x.un, .int .i64 x.k] 42)).alloc (.cells #[.int .i64 x.kind, .int .u16 x.m.st, .bool x.m.o, .slice x.m.A x.m.n x.m.c, .int .i64 x.un, .int .i64 x.k] 42)) := ((Below.refl _ _).alloc (Nat.le_refl _) _).alloc (by simp) _
  have r1 := reads_new (w.alloc (.cells #[.int .i64 x.kind, .int .u16 x.m.st, .bool x.m.o, .slice x.m.A x.m.n x.m.c, .int .i64 x.un, .int .i64 x.k] 42)) #[.int .i64 x.kind, .int .u16 x.m.st, .bool x.m.o, .slice x.m.A x.m.n x.m.c, .int .i64 x.un, .int .i64 x.k] 42 6 1 rfl
  simp only [World.size_alloc] at r1
  go_enter Try.func4, Try.ntmps4
  go_wp2_with fail
  refine (c16 _ 1 1 _ [x] _ (by omega) rfl r1 (fun y hy => by simp at hy; subst hy; have := hx.2; omega)).mono ?_
  rintro e w1 ⟨r, rfl, _, rfl⟩
  cases r with
  | true =>
    go_wp2_with fail
    refine (works ((w.alloc (.cells #[.int .i64 x.kind, .int .u16 x.m.st, .bool x.m.o, .slice x.m.A x.m.n x.m.c, .int .i64 x.un, .int .i64 x.k] 42)).alloc (.cells #[.int .i64 x.kind, .int .u16 x.m.st, .bool x.m.o, .slice x.m.A x.m.n x.m.c, .int .i64 x.un, .int .i64 x.k] 42))).mono ?_
    rintro e w2 ⟨rfl, hb2⟩
    go_wp2
    go_ret
    exact ⟨rfl, below_then b1 b1.size hb2⟩
  | false =>
    go_upto_region 4 with fail
    have hOk : OkW ((w.alloc (.cells #[.int .i64 x.kind, .int .u16 x.m.st, .bool x.m.o, .slice x.m.A x.m.n x.m.c, .int .i64 x.un, .int .i64 x.k] 42)).alloc (.cells #[.int .i64 x.kind, .int .u16 x.m.st, .bool x.m.o, .slice x.m.A x.m.n x.m.c, .int .i64 x.un, .int .i64 x.k] 42)) x := hx.keep b1
    generalize ((w.alloc (.cells #[.int .i64 x.kind, .int .u16 x.m.st, .bool x.m.o, .slice x.m.A x.m.n x.m.c, .int .i64 x.un, .int .i64 x.k] 42)).alloc (.cells #[.int .i64 x.kind, .int .u16 x.m.st, .bool x.m.o, .slice x.m.A x.m.n x.m.c, .int .i64 x.un, .int .i64 x.k] 42)) = w2 at *
    have m0 := D1.cell 0
    have m1 := D1.cell 1
    have m2 := D1.cell 2
    have m3 := D1.cell 3
    have m4 := D1.cell 4
    have m5 := D1.cell 5
    go_wp2_with fail
    refine (doesNil x w2 hOk).mono ?_
    rintro e w3 ⟨A3, c3, ok, err, rfl, o3, p0, p1, b3⟩
    have hct : told zeroD A3 0 c3 0 ok err = #[.int .u32 0, .int .u16 0, .int .u16 0, .bool false, .bool false, .bool false, .slice A3 0 c3, .int .i64 0, .bool ok, .int .i64 err] := rfl
    rw [hct]
    clear m0 m1 m2 m3 m4 m5 hct
    have D3 := (D1.below b3 D1.lt).alloc (.cells #[.int .u32 0, .int .u16 0, .int .u16 0, .bool false, .bool false, .bool false, .slice A3 0 c3, .int .i64 0, .bool ok, .int .i64 err] 46)
    have E3 := Blk.new w3 46 #[.int .u32 0, .int .u16 0, .int .u16 0, .bool false, .bool false, .bool false, .slice A3 0 c3, .int .i64 0, .bool ok, .int .i64 err]
    have b4 := (below_then b1 b1.size b3).alloc (below_then b1 b1.size b3).size (.cells #[.int .u32 0, .int .u16 0, .int .u16 0, .bool false, .bool false, .bool false, .slice A3 0 c3, .int .i64 0, .bool ok, .int .i64 err] 46)
    have r4 := Reads.of_own (o3.alloc (.cells #[.int .u32 0, .int .u16 0, .int .u16 0, .bool false, .bool false, .bool false, .slice A3 0 c3, .int .i64 0, .bool ok, .int .i64 err] 46))
    go_upto_region 5 with fail
    generalize (w3.alloc (.cells #[.int .u32 0, .int .u16 0, .int .u16 0, .bool false, .bool false, .bool false, .slice A3 0 c3, .int .i64 0, .bool ok, .int .i64 err] 46)) = w4 at *
    have m0 : w4.cell? ⟨w.heap.size, 0, none⟩ = some (.int .i64 x.kind) := D3.cell 0
    have q0 : w4.cell? ⟨w3.heap.size, 0, none⟩ = some (.int .u32 0) := E3.cell 0
    have q1 : w4.cell? ⟨w3.heap.size, 1, none⟩ = some (.int .u16 0) := E3.cell 1
    have q2 : w4.cell? ⟨w3.heap.size, 2, none⟩ = some (.int .u16 0) := E3.cell 2
    have q3 : w4.cell? ⟨w3.heap.size, 3, none⟩ = some (.bool false) := E3.cell 3
    have q4 : w4.cell? ⟨w3.heap.size, 4, none⟩ = some (.bool false) := E3.cell 4
    have q5 : w4.cell? ⟨w3.heap.size, 5, none⟩ = some (.bool false) := E3.cell 5
    have q6 : w4.cell? ⟨w3.heap.size, 6, none⟩ = some (.slice A3 0 c3) := E3.cell 6
    have q7 : w4.cell? ⟨w3.heap.size, 7, none⟩ = some (.int .i64 0) := E3.cell 7
    have q8 : w4.cell? ⟨w3.heap.size, 8, none⟩ = some (.bool ok) := E3.cell 8
    have q9 : w4.cell? ⟨w3.heap.size, 9, none⟩ = some (.int .i64 err) := E3.cell 9
    have rz : Reads w4 0 1 none 0 (bs zeroD.xs) := ⟨rfl, fun h => absurd h (by omega)⟩
    by_cases k0 : x.kind = 0
    · obtain ⟨rfl, rfl⟩ := p0 k0
      rw [k0] at m0
      clear D1 D3 E3 p0 p1 hOk
      go_wp2_with fail
      refine (same_true zeroD A3 none 0 c3 0 0 _ 0 w4 (Nat.le_refl _) (Nat.zero_le _) r4 rz).mono ?_
      rintro e w5 ⟨rfl, b5⟩
      have b6 := below_then b4 b4.size b5
      clear m0 q0 q1 q2 q3 q4 q5 q6 q7 q8 q9 r4 rz
      go_wp2_with fail
      refine (c19n w5).mono ?_
      rintro e w6 ⟨rfl, rfl⟩
      go_wp2_with fail
      refine (c14n w5).mono ?_
      rintro e w6 ⟨rfl, rfl⟩
      go_wp2_with fail
      refine (c13n w5).mono ?_
      rintro e w6 ⟨rfl, rfl⟩
      go_wp2_with fail
      refine (works w5).mono ?_
      rintro e w7 ⟨rfl, b7⟩
      go_wp2
      go_ret
      exact ⟨rfl, below_then b6 b6.size b7⟩
    · obtain ⟨rfl, rfl⟩ := p1 k0
      have kz : (x.kind == 0) = false := by rw [beq_eq_false_iff_ne]; exact k0
      clear D1 D3 E3 p0 p1 hOk
      go_wp2_with fail
      refine (same_true zeroD A3 none 0 c3 0 0 _ 0 w4 (Nat.le_refl _) (Nat.zero_le _) r4 rz).mono ?_
      rintro e w5 ⟨rfl, b5⟩
      have b6 := below_then b4 b4.size b5
      clear m0 q0 q1 q2 q3 q4 q5 q6 q7 q8 q9 r4 rz
      go_wp2_with fail
      refine (c19n w5).mono ?_
      rintro e w6 ⟨rfl, rfl⟩
      go_wp2_with fail
      refine (c14n w5).mono ?_
      rintro e w6 ⟨rfl, rfl⟩
      go_wp2_with fail
      refine (c13n w5).mono ?_
      rintro e w6 ⟨rfl, rfl⟩
      go_wp2_with fail
      refine (works w5).mono ?_
      rintro e w7 ⟨rfl, b7⟩
      go_wp2
      go_ret
      exact ⟨rfl, below_then b6 b6.size b7⟩
theorem own : ownKnob Try.prog.godebug = none := by kernel_rfl
theorem laidOut : laidOutB Try.prog = true := by kernel_rfl
set_option maxRecDepth 100000 in
theorem lifted (os : Os) (started : os.Started) (H : Type) (enc : TypeId × Value → H) :
    ReturnsInHanded {} Try.checked os 4 .any (Rows.outqNilSpec.pre6 enc Try.prog Try.f4 Rows.outqNilRow.domain false) (Rows.outqNilSpec.post enc Try.prog Try.f4 false true false false) := by
  refine returnsInHanded_of_change_sized (C := Try.checked) own started (by kernel_rfl) Try.func4
    (ChangeSpec.witness6 (enc := enc) (C := Try.checked) false ⟨#[], #[.agg #[.int .i64 0, .int .u16 0, .bool false, .slice none 0 0, .int .i64 0, .int .i64 0]], []⟩ 8 (by kernel_rfl) (by kernel_rfl) (by kernel_rfl) (by kernel_rfl)) ?_
  intro W base args ds gs before hval0 hW hcnd hsz _
  have hval : ∀ (j : Nat) t v, Try.f4.params[j]? = some t → args[j]? = some v → Value.okWide Try.prog W .any base t v := hval0
  have hW' := hW
  obtain ⟨p, q, hA0, hV, rfl, hfz, hnd⟩ := hW
  have hA : DataW.TrodAll enc Try.prog W 0 (fun _ => true) true Try.f4.params.toList args.toList ds p := hA0
  rw [Try.params4] at hA hval
  obtain ⟨v0, vs0, d0, ds0, p0, q0, hargs, rfl, rfl, h0, r0⟩ := trodAll_cons hA
  obtain ⟨rfl, rfl, rfl⟩ := trodAll_nil r0
  obtain rfl : args = #[v0] := by cases args; simp_all
  obtain ⟨rfl, rfl⟩ := trodVars_none hV
  have k0 := h0
  have lt0 : ∀ x ∈ p0, x.block < W.heap.size := by obtain ⟨m, hm⟩ := k0; exact DataW.trod_lt m _ _ _ hm
  have hwt0 : Ow.Wt d0 42 := fun n hn => by have := List.all_eq_true.1 hsz n (DataW.weights_mem_each (j := 0) (t := 42) rfl rfl n hn); simpa using this
  obtain ⟨cs0, rfl, hsz0⟩ := okWide_struct Try.underlying42 (hval 0 42 v0 rfl rfl)
  obtain ⟨x0, rfl, ho0⟩ := Ow.open_opv_w (by rw [hsz0]; exact Oq.cells42) h0 hwt0
  clear hA0 hval0
  refine (walk x0 W ho0).mono fun e W' ⟨he, bel⟩ => ?_
  subst he
  exact ⟨_, rfl, _, _, _, [], _, [], hW', trodAll_mk1 (shut_bool Try.underlying4 _), (trodAll_cons_mk (Below.trod laidOut (by kernel_rfl) (of_decide_eq_true (by kernel_rfl)) k0 bel lt0) trodAll_mk0), rfl, bel.frame _, fun h => by cases h⟩
theorem over : Rows.outqNilRow.holds Try.pinned (OpenSpec.ofChange Rows.outqNilSpec) :=
  OpenClaim.holds_of_wide 4 Try.f4 rfl rfl rfl rfl rfl rfl rfl ⟨rfl, rfl, rfl, rfl, rfl⟩ rfl rfl rfl rfl rfl (by kernel_rfl) Try.func4 (by kernel_rfl)
    (of_decide_eq_true (by kernel_rfl)) (by unfold Func.isWrapper; first | (rw [if_pos (by decide +kernel)]; kernel_rfl) | (rw [if_neg (by decide +kernel)]; exact ⟨rfl, rfl⟩))
    (fun os started H enc _ => lifted os started H enc)
theorem proved : Rows.OutqNilSaid :=
  over
end Go.Proofs.Ytmidnfkmefoleaa.outqNil

/-
  Proved: what is told of any pieces, or that they are no row, is the document's; the pieces stay.
  Conditions: none; every input.
-/
import Derived.Test.YtkjohgokkfghiaaMb
import Derived.Test.YtkjohgokkfghiaaWk
import Derived.Test.YtkjohgokkfghiaaOp
import Derived.Test.YtkjohgokkfghiaaRows
import Derived.ProofKit
import Derived.OpenShut
import Derived.Carry
set_option linter.unusedVariables false
set_option linter.unusedSimpArgs false
namespace Go.Proofs.Ytkjohgokkfghiaa.forwardMakes
open Go.ChangeShapes Go.WideShapes Go.ChangeAt
open Go.RowKit Wd Sk Pl Mk Mb
open Go.Proofs.Ytkjohgokkfghiaa.Fn

theorem info34 : (Try.prog.info? 34).map (fun i => (i.zero, i.size, i.bytes)) = some (some (.agg #[.int .u32 0, .int .u16 0, .int .u16 0, .bool false, .bool false, .bool false, .slice none 0 0]), 7, 40) := by kernel_rfl

set_option maxRecDepth 100000 in
set_option maxHeartbeats 1000000 in
theorem walk (cum : Int) (A : Option Addr) (n c B : Nat) (ds : List Dt) (w : World) (h0 : 0 ≤ cum) (h1 : cum ≤ 4294967295) (hn : n ≤ 9223372036854775807) (hB : B ≤ w.heap.size) (h : Reads w B 7 A n (dts ds)) (hok : Hid (∀ d ∈ ds, d.Ok)) :
    Calls Try.prog 3 #[.int .u32 cum, .slice A n c] w fun e w' => e = .returned (.bool true) ∧ Below w.heap.size w w' := by
  obtain ⟨i0, hi0, hz0, hz1, hz2⟩ := info_parts info34
  by_cases hbig : 1000 < n
  · go_enter Try.func3, Try.ntmps3
    go_wp2_with (go_at_call 8; refine (Wk.works _).mono ?_; rintro e w1 ⟨rfl, hb⟩)
    go_ret
    exact ⟨rfl, hb⟩
  · have hn' : n ≤ 1000 := by omega
    have hl := dlen_ h
    have hML := mkL_le cum ds
    have HL := hide hl
    clear hbig hn hl
    go_enter Try.func3, Try.ntmps3
    go_wp2_with (at_builtin; refine wpList_append_any _ rfl (.tmp 15) (.tmp 16) _ rfl w.heap.size 34 i0 _ 7 40 Try.underlying23 hi0 hz0 hz1 hz2 rfl (by omega) (.slice (some ⟨w.heap.size, 0, none⟩) 0 0) 0 [] rfl (own_empty w _ 34 7 (Nat.le_refl _)) B A n c (dts ds) rfl (h.alloc hB _) (dts_one ds) (by simp only [maxLen]; omega) (by omega) (by simp) ?_; intro v1 w1 hown1 hg1 hat1; obtain ⟨A1, c1, rfl, _, _⟩ := own_slice hown1)
    have hs1 : w.heap.size ≤ w1.heap.size := by have := hg1.size; simp at this; omega
    have hb1 : Below w.heap.size w w1 := ((Below.refl _ _).alloc (Nat.le_refl _) _).grown hg1 (by simp) (by intro g hg; simp [Value.ownBlock] at hg; omega)
    have hr1 : Reads w1 w1.heap.size 7 A1 n (dts ds) := Reads.of_own (by simpa using hown1)
    clear hg1 hown1 hat1
    refine (make cum A1 n c1 w1.heap.size ds w1 (by omega) h0 h1 (Nat.le_refl _) hr1 hok).mono ?_
    rintro e w2 ⟨A2, c2, rfl, hv2, hb2⟩
    have hs2 := hb2.size
    have hbB := (below_then hb1 hb1.size hb2).alloc (by have := hb1.size; omega) (.cells #[.int .u32 (mkC cum ds), .slice A2 (mkL cum ds).length c2] 27)
    have hfB : Blk (w2.alloc (.cells #[.int .u32 (mkC cum ds), .slice A2 (mkL cum ds).length c2] 27)) w2.heap.size 27 #[.int .u32 (mkC cum ds), .slice A2 (mkL cum ds).length c2] := Blk.new _ _ _
    have hvB := (Reads.of_own hv2).alloc (Nat.le_refl _) (.cells #[.int .u32 (mkC cum ds), .slice A2 (mkL cum ds).length c2] 27)
    have hrB := (hr1.below hb2).alloc hs2 (.cells #[.int .u32 (mkC cum ds), .slice A2 (mkL cum ds).length c2] 27)
    have hlB := h.keep (w' := w2.alloc (.cells #[.int .u32 (mkC cum ds), .slice A2 (mkL cum ds).length c2] 27)) (fun p hp => hbB.cell (by omega))
    clear hb2 hv2 hb1 hr1
    go_wp2_with fail
    refine (ref cum A n c B ds _ (by omega) h0 h1 (by simp; omega) hlB hok).mono ?_
    rintro e w3 ⟨A3, c3, rfl, hv3, hb3⟩
    have hs3 : w2.heap.size + 1 ≤ w3.heap.size := by have := hb3.size; simpa using this
    have hbC := (below_then hbB (by simp; omega) hb3).alloc (by omega) (.cells #[.int .u32 (mkC cum ds), .slice A3 (mkL cum ds).length c3] 27)
    have hfC := (hfB.below hb3 (by simp)).alloc (.cells #[.int .u32 (mkC cum ds), .slice A3 (mkL cum ds).length c3] 27)
    have hgC : Blk (w3.alloc (.cells #[.int .u32 (mkC cum ds), .slice A3 (mkL cum ds).length c3] 27)) w3.heap.size 27 #[.int .u32 (mkC cum ds), .slice A3 (mkL cum ds).length c3] := Blk.new _ _ _
    have hvC := (hvB.keep (w' := w3) (fun p hp => hb3.cell (by simp; omega))).alloc (by omega) (.cells #[.int .u32 (mkC cum ds), .slice A3 (mkL cum ds).length c3] 27)
    have hrC := (hrB.keep (w' := w3) (fun p hp => hb3.cell (by simp; omega))).alloc (by omega) (.cells #[.int .u32 (mkC cum ds), .slice A3 (mkL cum ds).length c3] 27)
    have huC := (Reads.of_own hv3).alloc (Nat.le_refl _) (.cells #[.int .u32 (mkC cum ds), .slice A3 (mkL cum ds).length c3] 27)
    have hlC := h.keep (w' := w3.alloc (.cells #[.int .u32 (mkC cum ds), .slice A3 (mkL cum ds).length c3] 27)) (fun p hp => hbC.cell (by omega))
    have x0 := hfC.cell 0
    have x1 := hfC.cell 1
    have HvC := hide hvC
    have HrC := hide hrC
    have HuC := hide huC
    have HlC := hide hlC
    have HbC := hide hbC
    clear hb3 hv3 hbB hfB hvB hrB hlB hfC hgC hvC hrC huC hlC hbC
    go_wp2_with fail
    refine (c11 (mkC cum ds) (mkC cum ds) A2 A3 _ _ c2 c3 _ _ _ _ _ (by have := unhide HL; omega) (by have := unhide HL; omega) (by simp; omega) (by simp) (unhide HvC) (unhide HuC)).mono ?_
    rintro e w4 ⟨rfl, hb4⟩
    have hs4 : w3.heap.size + 1 ≤ w4.heap.size := by have := hb4.size; simpa using this
    have HbD := hide (below_then (unhide HbC) (by simp; omega) hb4)
    have HrD := hide ((unhide HrC).keep (w' := w4) (fun p hp => hb4.cell (by simp; omega)))
    have HlD := hide ((unhide HlC).keep (w' := w4) (fun p hp => hb4.cell (by simp; omega)))
    clear hb4 x0 x1 HvC HrC HuC HlC HbC
    have t1 : decide (mkC cum ds = mkC cum ds ∧ mkL cum ds = mkL cum ds) = true := by simp
    go_wp2
    go_loopw [10] (fun i wr => ∃ k nq : Nat, k ≤ n ∧ i = .int .i64 k ∧ wr = w4.drewN nq) (fun i _ => n - (intOf i).toNat)
    case atStart => exact ⟨0, 0, Nat.zero_le _, rfl, rfl⟩
    case round =>
      obtain ⟨k, nq, hk, rfl, rfl⟩ := hrel
      by_cases hlt : k < n
      · obtain ⟨ad, d, hA, hab, hd, q0, q1, q2, q3, q4, q5, q6⟩ := dat_ (unhide HrD) k hlt
        obtain ⟨ad', d', hA', hab', hd', r0, r1, r2, r3, r4, r5, r6⟩ := dat_ (unhide HlD) k hlt
        have e1 : Hid (d' = d) := by
          have := hd.symm.trans hd'
          injection this with this
          exact this.symm
        obtain rfl : d' = d := unhide e1
        subst hA hA'
        clear e1 hd hd' q4 q5 q6 r4 r5 r6
        go_wp2
        go_quiet (fail)
        go_wp2
        go_roundw
        case rel => exact ⟨k + 1, _, by omega, by go_num, rfl⟩
        case measure => simp [intOf]; omega
      · obtain rfl : k = n := by omega
        go_wp2_with (go_at_call 8; refine (Wk.works _).mono ?_; rintro e w5 ⟨rfl, hb5⟩)
        go_ret
        have hbD := below_drewN (unhide HbD) nq
        exact ⟨rfl, below_then hbD hbD.size hb5⟩
theorem own : ownKnob Try.prog.godebug = none := by kernel_rfl
theorem laidOut : laidOutB Try.prog = true := by kernel_rfl
set_option maxRecDepth 100000 in
theorem lifted (os : Os) (started : os.Started) (H : Type) (enc : TypeId × Value → H) :
    ReturnsInHanded {} Try.checked os 3 .any (Rows.forwardMakesSpec.pre6 enc Try.prog Try.f3 Rows.forwardMakesRow.domain false) (Rows.forwardMakesSpec.post enc Try.prog Try.f3 false true false false) := by
  refine returnsInHanded_of_change (C := Try.checked) own started (by kernel_rfl) Try.func3
    (ChangeSpec.witness6 (enc := enc) (C := Try.checked) false ⟨#[], #[.int .u32 0, .slice none 0 0], []⟩ 8 (by kernel_rfl) (by kernel_rfl) (by kernel_rfl) (by kernel_rfl)) ?_
  intro W base args ds gs before hval0 hW hcnd _
  have hval : ∀ (j : Nat) t v, Try.f3.params[j]? = some t → args[j]? = some v → Value.okWide Try.prog W .any base t v := hval0
  have hW' := hW
  obtain ⟨p, q, hA0, hV, rfl, hfz, hnd⟩ := hW
  have hA : DataW.TrodAll enc Try.prog W 0 (fun _ => true) true Try.f3.params.toList args.toList ds p := hA0
  rw [Try.params3] at hA hval
  obtain ⟨v0, vs0, d0, ds0, p0, q0, hargs, rfl, rfl, h0, r0⟩ := trodAll_cons hA
  obtain ⟨v1, vs1, d1, ds1, p1, q1, rfl, rfl, rfl, h1, r1⟩ := trodAll_cons r0
  obtain ⟨rfl, rfl, rfl⟩ := trodAll_nil r1
  obtain rfl : args = #[v0, v1] := by cases args; simp_all
  obtain ⟨rfl, rfl⟩ := trodVars_none hV
  have k0 := h0
  have lt0 : ∀ x ∈ p0, x.block < W.heap.size := by obtain ⟨m, hm⟩ := k0; exact DataW.trod_lt m _ _ _ hm
  have k1 := h1
  have lt1 : ∀ x ∈ p1, x.block < W.heap.size := by obtain ⟨m, hm⟩ := k1; exact DataW.trod_lt m _ _ _ hm
  obtain ⟨a0, rfl, rfl, rfl, w0⟩ := open_int Try.underlying22 (hval 0 22 v0 rfl rfl) h0
  obtain ⟨b0, c0⟩ := bounds_u32 w0
  obtain ⟨A1, len1, cap1, rfl⟩ := okWide_slice Try.underlying23 (hval 1 23 v1 rfl rfl)
  obtain ⟨x1, hr1, ho1, hc1, hm1, hn1⟩ := Op.open_dts h1
  unfold maxLen at hm1
  clear hA0 hval0
  refine (walk a0 A1 len1 cap1 W.heap.size x1 W b0 c0 (by omega) (Nat.le_refl _) hr1 ho1).mono fun e W' ⟨he, bel⟩ => ?_
  subst he
  exact ⟨_, rfl, _, _, _, [], _, [], hW', trodAll_mk1 (shut_bool Try.underlying4 _), (trodAll_cons_mk (Below.trod laidOut (by kernel_rfl) (of_decide_eq_true (by kernel_rfl)) k0 bel lt0) (trodAll_cons_mk (Below.trod laidOut (by kernel_rfl) (of_decide_eq_true (by kernel_rfl)) k1 bel lt1) trodAll_mk0)), rfl, bel.frame _, fun h => by cases h⟩
theorem over : Rows.forwardMakesRow.holds Try.pinned (OpenSpec.ofChange Rows.forwardMakesSpec) :=
  OpenClaim.holds_of_wide 3 Try.f3 rfl rfl rfl rfl rfl rfl rfl ⟨rfl, rfl, rfl, rfl, rfl⟩ rfl rfl rfl rfl rfl (by kernel_rfl) Try.func3 (by kernel_rfl)
    (of_decide_eq_true (by kernel_rfl)) (by unfold Func.isWrapper; first | (rw [if_pos (by decide +kernel)]; kernel_rfl) | (rw [if_neg (by decide +kernel)]; exact ⟨rfl, rfl⟩))
    (fun os started H enc _ => lifted os started H enc)
theorem proved : Rows.ForwardMakesSaid :=
  over
end Go.Proofs.Ytkjohgokkfghiaa.forwardMakes

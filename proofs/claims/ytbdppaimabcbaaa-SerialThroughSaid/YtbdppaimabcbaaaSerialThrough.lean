/-
  Proved: from a to b and from b to c is from a to c; and where two steps together are below the half, order goes through.
  Conditions: none; every input.
-/
import Derived.Test.YtbdppaimabcbaaaRows
import Derived.Test.YtbdppaimabcbaaaPlain
import Derived.WalkKit
import Derived.Laws.BitsAllLaws
import Derived.ProofKit
import Derived.OpenShut
namespace Go.Proofs.Ytbdppaimabcbaaa.serialThrough
open Fns
open Go.ChangeShapes Go.WideShapes Go.ChangeAt Go.RowKit
set_option linter.unusedVariables false      -- a walk need not use every 'w<i>' (that an integer argument fits its kind)

theorem own : ownKnob Try.prog.godebug = none := by kernel_rfl


theorem thr_sum (a b c one two : Int) (hb : (a + one) % 4294967296 = b) (hc : (b + two) % 4294967296 = c) : (ah32 a b + ah32 b c) % 4294967296 = ah32 a c := by
  unfold ah32; omega
theorem thr_less (a b c one two : Int) (hb : (a + one) % 4294967296 = b) (hc : (b + two) % 4294967296 = c) (h1 : 0 < one) (h2 : 0 < two) (h3 : one + two < 2147483648) :
    ls32 a b = true ∧ ls32 b c = true ∧ ls32 a c = true ∧ mx32 (mx32 a b) c = c := by
  have g1 : ls32 a b = true := ls32_t (by omega)
  have g2 : ls32 b c = true := ls32_t (by omega)
  have g3 : ls32 a c = true := ls32_t (by omega)
  exact ⟨g1, g2, g3, by simp [mx32, g1, g2]⟩
set_option maxHeartbeats 1000000 in
theorem thr (a b c one two : Int) (hb : (a + one) % 4294967296 = b) (hc : (b + two) % 4294967296 = c) (h2 : 0 ≤ one) (h3 : one ≤ 4294967295) (h4 : 0 ≤ two) (h5 : two ≤ 4294967295) (w : World) :
    Calls Try.prog 9 #[.int .u32 a, .int .u32 one, .int .u32 two] w fun e w' => e = .returned (.bool true) ∧ w = w' := by
  have k := thr_sum a b c one two hb hc
  by_cases e1 : one = 0
  · have k1 : (one == 0) = true := by simp [e1]
    clear e1
    go_enter Try.func9, Try.ntmps9
    go_wp2_with (first | (go_at_call 10; refine (c10 _ _ _).mono ?_; rintro e w' ⟨rfl, rfl⟩) | (go_at_call 17; refine (c17 _ _ _).mono ?_; rintro e w' ⟨rfl, rfl⟩) | (go_at_call 23; refine (c23 _ _ _).mono ?_; rintro e w' ⟨rfl, rfl⟩) | (go_at_call 16; refine (c16 _).mono ?_; rintro e w' ⟨rfl, rfl⟩))
    go_ret
    exact ⟨rfl, rfl⟩
  · have k1 : (one == 0) = false := by simp [e1]
    by_cases e2 : two = 0
    · have k2 : (two == 0) = true := by simp [e2]
      clear e2
      go_enter Try.func9, Try.ntmps9
      go_wp2_with (first | (go_at_call 10; refine (c10 _ _ _).mono ?_; rintro e w' ⟨rfl, rfl⟩) | (go_at_call 17; refine (c17 _ _ _).mono ?_; rintro e w' ⟨rfl, rfl⟩) | (go_at_call 23; refine (c23 _ _ _).mono ?_; rintro e w' ⟨rfl, rfl⟩) | (go_at_call 16; refine (c16 _).mono ?_; rintro e w' ⟨rfl, rfl⟩))
      go_ret
      exact ⟨rfl, rfl⟩
    · have k2 : (two == 0) = false := by simp [e2]
      by_cases e3 : one + two < 2147483648
      · obtain ⟨g1, g2, g3, g4⟩ := thr_less a b c one two hb hc (by omega) (by omega) e3
        go_enter Try.func9, Try.ntmps9
        go_wp2_with (first | (go_at_call 10; refine (c10 _ _ _).mono ?_; rintro e w' ⟨rfl, rfl⟩) | (go_at_call 17; refine (c17 _ _ _).mono ?_; rintro e w' ⟨rfl, rfl⟩) | (go_at_call 23; refine (c23 _ _ _).mono ?_; rintro e w' ⟨rfl, rfl⟩) | (go_at_call 16; refine (c16 _).mono ?_; rintro e w' ⟨rfl, rfl⟩))
        go_ret
        exact ⟨rfl, rfl⟩
      · have e3' : 2147483648 ≤ one + two := by omega
        clear e3
        go_enter Try.func9, Try.ntmps9
        go_wp2_with (first | (go_at_call 10; refine (c10 _ _ _).mono ?_; rintro e w' ⟨rfl, rfl⟩) | (go_at_call 17; refine (c17 _ _ _).mono ?_; rintro e w' ⟨rfl, rfl⟩) | (go_at_call 23; refine (c23 _ _ _).mono ?_; rintro e w' ⟨rfl, rfl⟩) | (go_at_call 16; refine (c16 _).mono ?_; rintro e w' ⟨rfl, rfl⟩))
        go_ret
        exact ⟨rfl, rfl⟩

/-! ### STEP 1: THE WALK: the Go text returns true. 'Grown w w'': the world has at most new blocks (Derived/RowKit3.lean). Part the cases AHEAD of 'go_enter' where a test parts the walk; take each callee by a contract of your own. -/
theorem walk (a0 : Int) (a1 : Int) (a2 : Int) (w0 : (Lit.int .u32 a0).wf = true) (w1 : (Lit.int .u32 a1).wf = true) (w2 : (Lit.int .u32 a2).wf = true) (w : World) :
    Calls Try.prog 9 #[.int .u32 a0, .int .u32 a1, .int .u32 a2] w fun e w' => e = .returned (.bool true) ∧ Grown w w' := by
  obtain ⟨b1, b1'⟩ := bounds_u32 w1
  obtain ⟨b2, b2'⟩ := bounds_u32 w2
  refine (thr a0 _ _ a1 a2 rfl rfl b1 b1' b2 b2' w).mono ?_
  rintro e w' ⟨rfl, rfl⟩
  exact ⟨rfl, Grown.refl _⟩

/-! ### THE ROW's STEP: WRITTEN OUT: LEAVE IT -/
set_option maxRecDepth 100000 in
theorem lifted (os : Os) (started : os.Started) (H : Type) (enc : TypeId × Value → H) :
    ReturnsInHanded {} Try.checked os 9 .any (Rows.serialThroughSpec.pre6 enc Try.prog Try.f9 Rows.serialThroughRow.domain false) (Rows.serialThroughSpec.post enc Try.prog Try.f9 false true false false) := by
  refine returnsInHanded_of_change (C := Try.checked) own started (by kernel_rfl) Try.func9
    (ChangeSpec.witness6 (enc := enc) (C := Try.checked) false ⟨#[], #[.int .u32 0, .int .u32 0, .int .u32 0], []⟩ 8 (by kernel_rfl) (by kernel_rfl) (by kernel_rfl) (by kernel_rfl)) ?_
  intro W base args ds gs before hval0 hW hcnd _
  have hval : ∀ (j : Nat) t v, Try.f9.params[j]? = some t → args[j]? = some v → Value.okWide Try.prog W .any base t v := hval0
  have hW' := hW
  obtain ⟨p, q, hA0, hV, rfl, hfz, hnd⟩ := hW
  have hA : DataW.TrodAll enc Try.prog W 0 (fun _ => true) true Try.f9.params.toList args.toList ds p := hA0
  rw [Try.params9] at hA hval
  obtain ⟨v0, vs0, d0, ds0, p0, q0, hargs, rfl, rfl, h0, r0⟩ := trodAll_cons hA
  obtain ⟨v1, vs1, d1, ds1, p1, q1, rfl, rfl, rfl, h1, r1⟩ := trodAll_cons r0
  obtain ⟨v2, vs2, d2, ds2, p2, q2, rfl, rfl, rfl, h2, r2⟩ := trodAll_cons r1
  obtain ⟨rfl, rfl, rfl⟩ := trodAll_nil r2
  obtain rfl : args = #[v0, v1, v2] := by cases args; simp_all
  obtain ⟨rfl, rfl⟩ := trodVars_none hV
  obtain ⟨a0, rfl, rfl, rfl, w0⟩ := open_int Try.underlying22 (hval 0 22 v0 rfl rfl) h0
  obtain ⟨a1, rfl, rfl, rfl, w1⟩ := open_int Try.underlying22 (hval 1 22 v1 rfl rfl) h1
  obtain ⟨a2, rfl, rfl, rfl, w2⟩ := open_int Try.underlying22 (hval 2 22 v2 rfl rfl) h2
  clear hA0 hval0
  simp only [List.append_nil] at hW'
  refine (walk a0 a1 a2 w0 w1 w2 W).mono fun e W' ⟨he, hg⟩ => ?_
  subst he
  exact ⟨_, rfl, post_of_same (pa := []) (pv := []) hW' (fun _ _ _ => (trodAll_cons_mk (shut_bool Try.underlying4 _) trodAll_mk0)) (fun sp _ => (trodAll_cons_mk (shut_int Try.underlying22 w0) (trodAll_cons_mk (shut_int Try.underlying22 w1) (trodAll_cons_mk (shut_int Try.underlying22 w2) trodAll_mk0)))) (fun _ _ => rfl) rfl
    (hg.frame _) hg.2.1 (ok_one (by kernel_rfl) rfl (okWide_bool_mk Try.underlying4 _))⟩

theorem over : Rows.serialThroughRow.holds Try.pinned (OpenSpec.ofChange Rows.serialThroughSpec) :=
  OpenClaim.holds_of_wide 9 Try.f9 rfl rfl rfl rfl rfl rfl rfl ⟨rfl, rfl, rfl, rfl, rfl⟩ rfl rfl rfl rfl rfl (by kernel_rfl) Try.func9 (by kernel_rfl)
    (of_decide_eq_true (by kernel_rfl)) (by unfold Func.isWrapper; first | (rw [if_pos (by decide +kernel)]; kernel_rfl) | (rw [if_neg (by decide +kernel)]; exact ⟨rfl, rfl⟩))
    (fun os started H enc _ => lifted os started H enc)

/-- ████ THE STATEMENT ████ -/
theorem proved : Rows.SerialThroughSaid :=
  over
end Go.Proofs.Ytbdppaimabcbaaa.serialThrough

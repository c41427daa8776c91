/-
  Proved: what is added to both numbers changes nothing: neither which is less, nor how far ahead, nor whether within a width; and the later one is moved by just that.
  Conditions: none; every input.
-/
import Derived.Test.YtbdppaimabcbaaaRows
import Derived.Test.YtbdppaimabcbaaaPlain
import Derived.WalkKit
import Derived.ProofKit
import Derived.OpenShut
import Derived.Laws.BitsAllLaws
import Derived.Lib.SmallJoins
import Derived.Carry
namespace Go.Proofs.Ytbdppaimabcbaaa.serialShift
open Fns
open Go.ChangeShapes Go.WideShapes Go.ChangeAt Go.RowKit Go.Joins
set_option linter.unusedVariables false

theorem own : ownKnob Try.prog.godebug = none := by kernel_rfl
theorem laidOut : laidOutB Try.prog = true := by kernel_rfl
theorem cells40 : Try.prog.cellsOf 40 = 4 := by kernel_rfl

theorem shift_facts (a b y a' b' : Int) (wd : Int) (ha : (a + y) % 4294967296 = a') (hb : (b + y) % 4294967296 = b') :
    ls32 a' b' = ls32 a b ∧ ah32 a' b' = ah32 a b ∧ in32 a' b' wd = in32 a b wd ∧ mx32 a' b' = (mx32 a b + y) % 4294967296 := by
  have g1 : ah32 a' b' = ah32 a b := by unfold ah32; omega
  have g2 : ah32 b' a' = ah32 b a := by unfold ah32; omega
  have g3 : ls32 a' b' = ls32 a b := by unfold ls32; rw [g1]
  refine ⟨g3, g1, by unfold in32; rw [g2], ?_⟩
  unfold mx32
  rw [g3]
  split
  · exact hb.symm
  · exact ha.symm
theorem shift_facts16 (a b y a' b' : Int) (wd : Int) (ha : IntKind.u16.wrap (a + y) = a') (hb : IntKind.u16.wrap (b + y) = b') :
    ls16 a' b' = ls16 a b ∧ ah16 a' b' = ah16 a b ∧ in16 a' b' wd = in16 a b wd := by
  rw [IntKind.wrap_u16] at ha hb
  have g1 : ah16 a' b' = ah16 a b := by unfold ah16; omega
  have g2 : ah16 b' a' = ah16 b a := by unfold ah16; omega
  exact ⟨by unfold ls16; rw [g1], g1, by unfold in16; rw [g2]⟩
set_option maxHeartbeats 1000000 in
theorem shift (a b y wd a' b' c d z c' d' : Int) (ha : (a + y) % 4294967296 = a') (hb : (b + y) % 4294967296 = b') (hc : IntKind.u16.wrap (a.tmod 65536) = c) (hd : IntKind.u16.wrap (b.tmod 65536) = d) (hz : IntKind.u16.wrap (y.tmod 65536) = z)
    (hc' : IntKind.u16.wrap (c + z) = c') (hd' : IntKind.u16.wrap (d + z) = d')
    (hu : Hid (0 ≤ a ∧ a < 4294967296 ∧ 0 ≤ b ∧ b < 4294967296 ∧ 0 ≤ a' ∧ a' < 4294967296 ∧ 0 ≤ b' ∧ b' < 4294967296 ∧ 0 ≤ c ∧ c < 65536 ∧ 0 ≤ d ∧ d < 65536 ∧ 0 ≤ c' ∧ c' < 65536 ∧ 0 ≤ d' ∧ d' < 65536))
    (w : World) :
    Calls Try.prog 8 #[.agg #[.int .u32 a, .int .u32 b, .int .u32 y, .int .i64 wd]] w fun e w' => e = .returned (.bool true) ∧ Below w.heap.size w w' := by
  obtain ⟨s1, s2, s3, s4⟩ := shift_facts a b y a' b' wd ha hb
  obtain ⟨t1, t2, t3⟩ := shift_facts16 c d z c' d' wd hc' hd'
  go_enter Try.func8, Try.ntmps8
  go_wp2_with (first | (go_at_call 10; refine (c10 _ _ _).mono ?_; rintro e w' ⟨rfl, rfl⟩) | (go_at_call 13; refine (c13 _ _ _).mono ?_; rintro e w' ⟨rfl, rfl⟩) | (go_at_call 17; refine (c17 _ _ _).mono ?_; rintro e w' ⟨rfl, rfl⟩) | (go_at_call 20; refine (c20 _ _ _).mono ?_; rintro e w' ⟨rfl, rfl⟩) | (go_at_call 23; refine (c23 _ _ _).mono ?_; rintro e w' ⟨rfl, rfl⟩) | (go_at_call 29; refine (c29 _ _ _ _ (by have := hu.out; omega) (by have := hu.out; omega) (by have := hu.out; omega) (by have := hu.out; omega)).mono ?_; rintro e w' ⟨rfl, rfl⟩) | (go_at_call 32; refine (c32 _ _ _ _ (by have := hu.out; omega) (by have := hu.out; omega) (by have := hu.out; omega) (by have := hu.out; omega)).mono ?_; rintro e w' ⟨rfl, rfl⟩) | (go_at_call 16; refine (c16 _).mono ?_; rintro e w' ⟨rfl, rfl⟩))
  go_ret
  exact ⟨rfl, (Below.refl _ _).alloc (Nat.le_refl _) _⟩

theorem walk (a b y wd : Int) (wa : (Lit.int .u32 a).wf = true) (wb : (Lit.int .u32 b).wf = true) (w : World) :
    Calls Try.prog 8 #[.agg #[.int .u32 a, .int .u32 b, .int .u32 y, .int .i64 wd]] w fun e w' => e = .returned (.bool true) ∧ Below w.heap.size w w' := by
  refine shift a b y wd _ _ _ _ _ _ _ rfl rfl rfl rfl rfl rfl rfl ?_ w
  obtain ⟨b0, b0'⟩ := bounds_u32 wa
  obtain ⟨b1, b1'⟩ := bounds_u32 wb
  unfold Hid
  simp only [IntKind.wrap_u16]
  omega

set_option maxRecDepth 100000 in
theorem lifted (os : Os) (started : os.Started) (H : Type) (enc : TypeId × Value → H) :
    ReturnsInHanded {} Try.checked os 8 .any (Rows.serialShiftSpec.pre6 enc Try.prog Try.f8 Rows.serialShiftRow.domain false) (Rows.serialShiftSpec.post enc Try.prog Try.f8 false true false false) := by
  refine returnsInHanded_of_change (C := Try.checked) own started (by kernel_rfl) Try.func8
    (ChangeSpec.witness6 (enc := enc) (C := Try.checked) false ⟨#[], #[.agg #[.int .u32 0, .int .u32 0, .int .u32 0, .int .i64 0]], []⟩ 8 (by kernel_rfl) (by kernel_rfl) (by kernel_rfl) (by kernel_rfl)) ?_
  intro W base args ds gs before hval0 hW hcnd _
  have hval : ∀ (j : Nat) t v, Try.f8.params[j]? = some t → args[j]? = some v → Value.okWide Try.prog W .any base t v := hval0
  have hW' := hW
  obtain ⟨p, q, hA0, hV, rfl, hfz, hnd⟩ := hW
  have hA : DataW.TrodAll enc Try.prog W 0 (fun _ => true) true Try.f8.params.toList args.toList ds p := hA0
  rw [Try.params8] at hA hval
  obtain ⟨v0, vs0, d0, ds0, p0, q0, hargs, rfl, rfl, h0, r0⟩ := trodAll_cons hA
  obtain ⟨rfl, rfl, rfl⟩ := trodAll_nil r0
  obtain rfl : args = #[v0] := by cases args; simp_all
  obtain ⟨rfl, rfl⟩ := trodVars_none hV
  have k0 := h0
  have lt0 : ∀ x ∈ p0, x.block < W.heap.size := by obtain ⟨m, hm⟩ := k0; exact DataW.trod_lt m _ _ _ hm
  obtain ⟨c0, c1, c2, c3, y0, y1, y2, y3, m, rfl, _, _, hy0, hy1, hy2, hy3⟩ := open_agg4 Try.underlying40 (by kernel_rfl) cells40 (hval 0 40 v0 rfl rfl) h0
  obtain ⟨a, e0, _, wa⟩ := DataW.trod_int Try.underlying22 hy0
  obtain ⟨b, e1, _, wb⟩ := DataW.trod_int Try.underlying22 hy1
  obtain ⟨c, e2, _, wc⟩ := DataW.trod_int Try.underlying22 hy2
  obtain ⟨d, e3, _, wd⟩ := DataW.trod_int Try.underlying3 hy3
  simp at e0 e1 e2 e3
  subst e0 e1 e2 e3
  clear hA0 hval0
  refine (walk a b c d wa wb W).mono fun e W' ⟨he, bel⟩ => ?_
  subst he
  exact ⟨_, rfl, _, _, _, [], _, [], hW', trodAll_mk1 (shut_bool Try.underlying4 _), (trodAll_cons_mk (Below.trod laidOut (by kernel_rfl) (of_decide_eq_true (by kernel_rfl)) k0 bel lt0) trodAll_mk0), rfl, bel.frame _, fun h => by cases h⟩

theorem over : Rows.serialShiftRow.holds Try.pinned (OpenSpec.ofChange Rows.serialShiftSpec) :=
  OpenClaim.holds_of_wide 8 Try.f8 rfl rfl rfl rfl rfl rfl rfl ⟨rfl, rfl, rfl, rfl, rfl⟩ rfl rfl rfl rfl rfl (by kernel_rfl) Try.func8 (by kernel_rfl)
    (of_decide_eq_true (by kernel_rfl)) (by unfold Func.isWrapper; first | (rw [if_pos (by decide +kernel)]; kernel_rfl) | (rw [if_neg (by decide +kernel)]; exact ⟨rfl, rfl⟩))
    (fun os started H enc _ => lifted os started H enc)

theorem proved : Rows.SerialShiftSaid :=
  over
end Go.Proofs.Ytbdppaimabcbaaa.serialShift

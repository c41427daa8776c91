/-
  Proved: a message that is cut, in pieces of whatever size, is joined to what it was; of each size there are as few as there can be.
  Conditions: none; every input.
-/
import Derived.Test.YtfgbegamdlafkaaWk
import Derived.Test.YtfgbegamdlafkaaOp
import Derived.Deep.RegionHeld3
import Derived.Deep.DeepCutAuto
import Derived.Test.YtfgbegamdlafkaaRows
import Derived.ProofKit
import Derived.OpenShut
import Derived.Carry
set_option linter.unusedVariables false
set_option linter.unusedSimpArgs false
namespace Go.Proofs.Ytfgbegamdlafkaa.fragBack
open Go.ChangeShapes Go.WideShapes Go.ChangeAt
open Go.RowKit Wd Md Cm Cb Ch Ct Cu Jo Bk

set_option maxRecDepth 100000 in
set_option maxHeartbeats 2000000 in
theorem walk (st : Int) (o : Bool) (A : Option Addr) (n c B : Nat) (s a b : Int) (xs : List Int) (w : World) (ha0 : -9223372036854775808 ≤ a) (ha1 : a ≤ 9223372036854775807) (hb0 : -9223372036854775808 ≤ b) (hb1 : b ≤ 9223372036854775807) (hn : n ≤ 9223372036854775807) (hc : n ≤ c) (hB : B ≤ w.heap.size) (h : Reads w B 1 A n (bs xs)) (hok : Hid (BOk xs)) :
    Calls Try.prog 5 #[.agg #[.int .u16 st, .bool o, .slice A n c], .agg #[.int .u16 s, .int .i64 a, .int .i64 b]] w fun e w' => e = .returned (.bool true) ∧ Below w.heap.size w w' := by
  have H := hide h
  clear h
  go_enter Try.func5, Try.ntmps5
  go_upto_region 4 with fail
  have hm3 := (Blk.new w 25 #[.int .u16 st, .bool o, .slice A n c]).alloc (.cells #[.int .u16 s, .int .i64 a, .int .i64 b] 46)
  have hb3 : Below w.heap.size w ((w.alloc (.cells #[.int .u16 st, .bool o, .slice A n c] 25)).alloc (.cells #[.int .u16 s, .int .i64 a, .int .i64 b] 46)) := ((Below.refl _ _).alloc (Nat.le_refl _) _).alloc (by simp) _
  generalize ((w.alloc (.cells #[.int .u16 st, .bool o, .slice A n c] 25)).alloc (.cells #[.int .u16 s, .int .i64 a, .int .i64 b] 46)) = w3 at *
  have x0 := hm3.cell 0
  have x1 := hm3.cell 1
  have x2 := hm3.cell 2
  have hs3 := hb3.size
  have hml := hm3.lt
  go_wp2_with fail
  refine (c10 st o A n c a w3 hn ha0 ha1).mono ?_
  rintro e w4 ⟨rfl, hb4⟩
  have hb5 := below_then hb3 hb3.size hb4
  have hm5 := hm3.below hb4 hml
  have hs4 := hb4.size
  have HB5 := hide hb5
  clear x0 x1 x2 hb4 hb3 hm3 hb5
  have x0 := hm5.cell 0
  have x1 := hm5.cell 1
  have x2 := hm5.cell 2
  cases hl1 : longB n a with
  | true =>
    go_wp2_with fail
    refine (Wk.works _).mono ?_
    rintro e w6 ⟨rfl, hb6⟩
    go_wp2
    go_ret
    exact ⟨rfl, below_then (unhide HB5) (unhide HB5).size hb6⟩
  | false =>
    go_wp2_with fail
    refine (c10 st o A n c b w4 hn hb0 hb1).mono ?_
    rintro e w5 ⟨rfl, hb6⟩
    have hb7 := below_then (unhide HB5) (unhide HB5).size hb6
    have hm7 := hm5.below hb6 (by omega)
    have hs5 := hb6.size
    have HB7 := hide hb7
    clear x0 x1 x2 hb6 hm5 hb7 HB5
    have x0 := hm7.cell 0
    have x1 := hm7.cell 1
    have x2 := hm7.cell 2
    by_cases hgo : longB n b = false ∧ 0 < n ∧ n ≤ 65536 ∧ 1 ≤ a ∧ 1 ≤ b
    · obtain ⟨hl2, hn0, hn1, ha, hbb⟩ := hgo
      obtain ⟨ma, rfl⟩ := Int.eq_ofNat_of_zero_le (show 0 ≤ a by omega)
      obtain ⟨mb, rfl⟩ := Int.eq_ofNat_of_zero_le (show 0 ≤ b by omega)
      rw [hl2]
      have hnz : ((n : Int) == 0) = false := by rw [beq_eq_false_iff_ne]; omega
      have HR : Hid (Reads w B 1 A n (bs xs) ∧ BOk xs ∧ xs.length = n) := ⟨unhide H, hok, blen_ (unhide H)⟩
      clear hl1 hl2
      go_upto_region 7 with fail
      have hbz := Blk.new w5 3 #[.int .i64 ma, .int .i64 mb]
      have hb8 := (unhide HB7).alloc (by have := (unhide HB7).size; omega) (.cells #[.int .i64 ma, .int .i64 mb] 3)
      have hm8 := hm7.alloc (.cells #[.int .i64 ma, .int .i64 mb] 3)
      have hzlt : w5.heap.size < (w5.alloc (.cells #[.int .i64 ma, .int .i64 mb] 3)).heap.size := by simp
      have hml8 : w.heap.size < w5.heap.size := by omega
      have HB8 := hide hb8
      clear x0 x1 x2 hb8 hm7 HB7
      generalize (w5.alloc (.cells #[.int .i64 ma, .int .i64 mb] 3)) = w6 at *
      generalize w5.heap.size = bz at *
      go_wp2_with fail
      go_loopw [9] (fun i wr => ∃ k : Nat, k ≤ 2 ∧ i = .int .i64 k ∧ Below w6.heap.size w6 wr) (fun i _ => 2 - (intOf i).toNat)
      case atStart => exact ⟨0, by omega, rfl, Below.refl _ _⟩
      case round =>
        obtain ⟨k, hk, rfl, hbr⟩ := hrel
        have hsr := hbr.size
        by_cases hlt : k < 2
        · obtain ⟨m, hmc, hm1, hm2⟩ : ∃ m : Nat, wr.cell? ⟨bz, k, none⟩ = some (.int .i64 m) ∧ 1 ≤ m ∧ m ≤ 9223372036854775807 := by
            rcases (show k = 0 ∨ k = 1 by omega) with rfl | rfl
            · exact ⟨ma, (hbr.cell hzlt).trans (hbz.cell 0), by omega, by omega⟩
            · exact ⟨mb, (hbr.cell hzlt).trans (hbz.cell 1), by omega, by omega⟩
          have hmr := hm8.below hbr (by omega)
          have hbw := below_then (unhide HB8) (unhide HB8).size hbr
          have hsw := hbw.size
          have HS := hide (And.intro hmr (And.intro hmc hbw))
          have mkS : ∀ w', Below wr.heap.size wr w' → (Below wr.heap.size wr w' ∧ w'.cell? ⟨w.heap.size, 0, none⟩ = some (.int .u16 st) ∧ w'.cell? ⟨w.heap.size, 1, none⟩ = some (.bool o) ∧ w'.cell? ⟨w.heap.size, 2, none⟩ = some (.slice A n c) ∧ w'.cell? ⟨bz, k, none⟩ = some (.int .i64 m)) := fun w' h => ⟨h, ((unhide HS).1.below h (by omega)).cell 0, ((unhide HS).1.below h (by omega)).cell 1, ((unhide HS).1.below h (by omega)).cell 2, (h.cell (by show bz < _; omega)).trans (unhide HS).2.1⟩
          have MS := hide mkS
          clear mkS hmr hmc hbw
          go_upto_region 10 with fail
          go_region_held3 (fun w' => Below wr.heap.size wr w' ∧ w'.cell? ⟨w.heap.size, 0, none⟩ = some (.int .u16 st) ∧ w'.cell? ⟨w.heap.size, 1, none⟩ = some (.bool o) ∧ w'.cell? ⟨w.heap.size, 2, none⟩ = some (.slice A n c) ∧ w'.cell? ⟨bz, k, none⟩ = some (.int .i64 m)) ((first | exact unhide MS _ (Below.refl _ _).drew | exact unhide MS _ hB5))
            ((go_at_call 13; have hp : Below wr.heap.size wr _ := And.left (by assumption); have hps := hp.size; have hpw := below_then (unhide HS).2.2 hsw hp; refine (cut st s o A n c B (m : Int) xs _ (by omega) (by omega) (by omega) hc (by omega) ((unhide HR).1.keep (fun p hp' => hpw.cell (by omega))) (unhide HR).2.1).mono ?_; intro e w9 hcut; obtain ⟨g, c', ds, rfl, hdl, hown9, hOw, hPc, hb9⟩ := Wk.cut_made hcut (by omega) (by have := (unhide HR).2.2; omega); have hB5 := below_then hp hps hb9))
          have hxl := (unhide HR).2.2
          have hx1 : 0 < xs.length ∧ xs.length ≤ 1048576 := by omega
          have hN : nch m xs.length = (n - 1) / m + 1 := by rw [hxl]; unfold nch; rw [if_neg (by omega)]
          have hdv : ((n : Int) - 1) / (m : Int) = (((n - 1) / m : Nat) : Int) := by rw [show ((n : Int) - 1) = ((n - 1 : Nat) : Int) by omega]; exact (Int.natCast_ediv _ _).symm
          have hle : (n - 1) / m ≤ n - 1 := Nat.div_le_self _ _
          generalize (n - 1) / m = qn at *
          have hmz : ((m : Int) == 0) = false := by rw [beq_eq_false_iff_ne]; omega
          have q0 : 0 ≤ ((n : Int) - 1) / (m : Int) := by rw [hdv]; omega
          have q1 : ((n : Int) - 1) / (m : Int) ≤ 65536 := by rw [hdv]; omega
          have hqe : (((nch m xs.length : Nat) : Int) != 1 + ((n : Int) - 1) / (m : Int)) = false := by rw [bne_eq_false_iff_eq, hdv]; omega
          have hNb : nch m xs.length ≤ 65536 := by omega
          obtain ⟨_, x0, x1, x2, x3⟩ := unhide MS w9 hB5
          have HN := hide (And.intro hN (And.intro hdv hle))
          have HP := hide (And.intro hOw (And.intro hPc hdl))
          have HO := hide hown9
          have HB9 := hide hB5
          have hs9 := hB5.size
          have HXL := hide hxl
          clear hxl hN hdv hle hOw hPc hdl hown9 hB5 hb9 hp hpw hps hcut
          go_upto_region 11 with fail
          go_quiet (fail)
          obtain ⟨wq, hwq⟩ : ∃ wq, wq = w9.drewN nq := ⟨_, rfl⟩
          rw [← hwq]
          have HBq : Hid (Below wr.heap.size wr wq) := by show Below wr.heap.size wr wq; rw [hwq]; exact below_drewN (unhide HB9) _
          have hRq : Reads wq w9.heap.size 7 (some ⟨g, 0, none⟩) (nch m xs.length) (dts ds) := by rw [hwq]; exact (Reads.of_own (unhide HO)).drewN _
          have hDq : RdB wq w9.heap.size ds ((List.range (nch m xs.length)).map (chk m xs)) := by rw [hwq]; exact (unhide HP).1.rd.keep (fun p _ => rfl)
          have hsq : w9.heap.size ≤ wq.heap.size := by rw [hwq]; exact Nat.le_refl _
          have hsq2 := (unhide HBq).size
          clear hwq x0 x1 x2 x3 HB9
          go_wp2_with fail
          clear hqe q0 q1 hmz
          refine (Jr.join (some ⟨g, 0, none⟩) (nch m xs.length) c' w9.heap.size ds ((List.range (nch m xs.length)).map (chk m xs)) wq (by omega) hsq hRq hDq (by rw [cut_tot hm1]; omega)).mono ?_
          intro e w10 hj
          obtain ⟨A2, c2, rfl, hown10, hb10⟩ := Wk.join_made hj hm1 hx1 (unhide HP).2.2 (unhide HP).1 (unhide HP).2.1
          have hs10 := hb10.size
          have hb11 := hb10.alloc hs10 (.cells #[.int .u16 st, .bool o, .slice A2 xs.length c2] 25)
          have hm11 := Blk.new w10 25 #[.int .u16 st, .bool o, .slice A2 xs.length c2]
          have ho11 := hown10.alloc (.cells #[.int .u16 st, .bool o, .slice A2 xs.length c2] 25)
          have hB11 := below_then (unhide HBq) hsq2 hb11
          have hlt11 : w10.heap.size < (w10.alloc (.cells #[.int .u16 st, .bool o, .slice A2 xs.length c2] 25)).heap.size := by simp
          clear hj hown10 hb10 hb11 hRq hDq
          go_upto_region 14 with fail
          generalize (w10.alloc (.cells #[.int .u16 st, .bool o, .slice A2 xs.length c2] 25)) = w11 at *
          generalize w10.heap.size = bj at *
          have hs11 := hB11.size
          have z0 := hm11.cell 0
          have z1 := hm11.cell 1
          have z2 := hm11.cell 2
          obtain ⟨_, x0, x1, x2, x3⟩ := unhide MS w11 hB11
          go_wp2_with fail
          have hw11 := below_then (unhide HS).2.2 hsw hB11
          refine (c22 st st o o A A2 n xs.length c c2 B w11.heap.size xs xs w11 (by omega) (by omega) (by omega) (Nat.le_refl _) ((unhide HR).1.keep (fun p hp => hw11.cell (by omega))) (Reads.of_own ho11) (unhide HR).2.1 (unhide HR).2.1).mono ?_
          rintro e w12 ⟨rfl, hb12⟩
          have t1 : decide (st = st ∧ o = o ∧ xs = xs) = true := by simp
          rw [t1]
          have HZ := hide (below_then hbr hsr (below_then hB11 hs11 hb12))
          clear t1 hb12 hw11 z0 z1 z2 x0 x1 x2 x3 hm11 ho11 hB11
          go_wp2
          go_roundw
          case rel => exact ⟨k + 1, by omega, by go_num, unhide HZ⟩
          case measure => simp [intOf]; omega
        · obtain rfl : k = 2 := by omega
          have HZ := hide (below_then (unhide HB8) (unhide HB8).size hbr)
          go_wp2_with fail
          refine (Wk.works _).mono ?_
          rintro e w7 ⟨rfl, hb9⟩
          go_wp2
          go_ret
          exact ⟨rfl, below_then (unhide HZ) (unhide HZ).size hb9⟩
    · have hbad : longB n b = true ∨ (longB n b = false ∧ (n = 0 ∨ (n ≠ 0 ∧ (65536 < n ∨ (n ≤ 65536 ∧ (a < 1 ∨ (1 ≤ a ∧ b < 1))))))) := by
        cases hq : longB n b with
        | true => exact .inl rfl
        | false =>
          refine .inr ⟨rfl, ?_⟩
          rw [hq] at hgo
          simp at hgo
          omega
      clear hgo
      rcases hbad with hq | ⟨hq, hq2⟩
      · rw [hq]
        go_wp2_with fail
        refine (Wk.works _).mono ?_
        rintro e w6 ⟨rfl, hb6⟩
        go_wp2
        go_ret
        exact ⟨rfl, below_then (unhide HB7) (unhide HB7).size hb6⟩
      · rw [hq]
        rcases hq2 with rfl | ⟨hnz, hq3 | ⟨hn1, hq4 | ⟨ha, hq5⟩⟩⟩
        · go_wp2_with fail
          refine (Wk.works _).mono ?_
          rintro e w6 ⟨rfl, hb6⟩
          go_wp2
          go_ret
          exact ⟨rfl, below_then (unhide HB7) (unhide HB7).size hb6⟩
        all_goals have hnz' : ((n : Int) == 0) = false := by rw [beq_eq_false_iff_ne]; omega
        all_goals
          go_wp2_with fail
          refine (Wk.works _).mono ?_
          rintro e w6 ⟨rfl, hb6⟩
          go_wp2
          go_ret
          exact ⟨rfl, below_then (unhide HB7) (unhide HB7).size hb6⟩
theorem own : ownKnob Try.prog.godebug = none := by kernel_rfl
theorem laidOut : laidOutB Try.prog = true := by kernel_rfl
set_option maxRecDepth 100000 in
theorem lifted (os : Os) (started : os.Started) (H : Type) (enc : TypeId × Value → H) :
    ReturnsInHanded {} Try.checked os 5 .any (Rows.fragBackSpec.pre6 enc Try.prog Try.f5 Rows.fragBackRow.domain false) (Rows.fragBackSpec.post enc Try.prog Try.f5 false true false false) := by
  refine returnsInHanded_of_change (C := Try.checked) own started (by kernel_rfl) Try.func5
    (ChangeSpec.witness6 (enc := enc) (C := Try.checked) false ⟨#[], #[.agg #[.int .u16 0, .bool false, .slice none 0 0], .agg #[.int .u16 0, .int .i64 0, .int .i64 0]], []⟩ 8 (by kernel_rfl) (by kernel_rfl) (by kernel_rfl) (by kernel_rfl)) ?_
  intro W base args ds gs before hval0 hW hcnd _
  have hval : ∀ (j : Nat) t v, Try.f5.params[j]? = some t → args[j]? = some v → Value.okWide Try.prog W .any base t v := hval0
  have hW' := hW
  obtain ⟨p, q, hA0, hV, rfl, hfz, hnd⟩ := hW
  have hA : DataW.TrodAll enc Try.prog W 0 (fun _ => true) true Try.f5.params.toList args.toList ds p := hA0
  rw [Try.params5] at hA hval
  obtain ⟨v0, vs0, d0, ds0, p0, q0, hargs, rfl, rfl, h0, r0⟩ := trodAll_cons hA
  obtain ⟨v1, vs1, d1, ds1, p1, q1, rfl, rfl, rfl, h1, r1⟩ := trodAll_cons r0
  obtain ⟨rfl, rfl, rfl⟩ := trodAll_nil r1
  obtain rfl : args = #[v0, v1] := by cases args; simp_all
  obtain ⟨rfl, rfl⟩ := trodVars_none hV
  have k0 := h0
  have lt0 : ∀ x ∈ p0, x.block < W.heap.size := by obtain ⟨m, hm⟩ := k0; exact DataW.trod_lt m _ _ _ hm
  have k1 := h1
  have lt1 : ∀ x ∈ p1, x.block < W.heap.size := by obtain ⟨m, hm⟩ := k1; exact DataW.trod_lt m _ _ _ hm
  obtain ⟨cs0, rfl, hsz0⟩ := okWide_struct Try.underlying25 (hval 0 25 v0 rfl rfl)
  obtain ⟨st0, o0, A0, len0, cap0, x0, rfl, b0, c0, hr0, ho0, hc0, hm0, hn0⟩ := Op.open_msg (by rw [hsz0]; exact Op.cells25) h0
  unfold maxLen at hm0
  obtain ⟨cs1, rfl, hsz1⟩ := okWide_struct Try.underlying46 (hval 1 46 v1 rfl rfl)
  obtain ⟨s1, a1, b1, rfl, hs1, ha1, hb1⟩ := Op.open_sizes (by rw [hsz1]; exact Op.cells46) h1
  clear hA0 hval0
  refine (walk st0 o0 A0 len0 cap0 W.heap.size s1 a1 b1 x0 W ha1.1 ha1.2 hb1.1 hb1.2 (by omega) hc0 (Nat.le_refl _) hr0 ho0).mono fun e W' ⟨he, bel⟩ => ?_
  subst he
  exact ⟨_, rfl, _, _, _, [], _, [], hW', trodAll_mk1 (shut_bool Try.underlying4 _), (trodAll_cons_mk (Below.trod laidOut (by kernel_rfl) (of_decide_eq_true (by kernel_rfl)) k0 bel lt0) (trodAll_cons_mk (Below.trod laidOut (by kernel_rfl) (of_decide_eq_true (by kernel_rfl)) k1 bel lt1) trodAll_mk0)), rfl, bel.frame _, fun h => by cases h⟩
theorem over : Rows.fragBackRow.holds Try.pinned (OpenSpec.ofChange Rows.fragBackSpec) :=
  OpenClaim.holds_of_wide 5 Try.f5 rfl rfl rfl rfl rfl rfl rfl ⟨rfl, rfl, rfl, rfl, rfl⟩ rfl rfl rfl rfl rfl (by kernel_rfl) Try.func5 (by kernel_rfl)
    (of_decide_eq_true (by kernel_rfl)) (by unfold Func.isWrapper; first | (rw [if_pos (by decide +kernel)]; kernel_rfl) | (rw [if_neg (by decide +kernel)]; exact ⟨rfl, rfl⟩))
    (fun os started H enc _ => lifted os started H enc)
theorem proved : Rows.FragBackSaid :=
  over
end Go.Proofs.Ytfgbegamdlafkaa.fragBack

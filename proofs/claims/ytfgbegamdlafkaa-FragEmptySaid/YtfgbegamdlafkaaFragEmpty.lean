/-
  Proved: no pieces are no message, nor are pieces one of which has no bytes.
  Conditions: none; every input.
-/
import Derived.Test.YtfgbegamdlafkaaWk
import Derived.Test.YtfgbegamdlafkaaOp
import Derived.Deep.DeepCutAuto
import Derived.Test.YtfgbegamdlafkaaRows
import Derived.ProofKit
import Derived.OpenShut
import Derived.Carry
set_option linter.unusedVariables false
set_option linter.unusedSimpArgs false
namespace Go.Proofs.Ytfgbegamdlafkaa.fragEmpty
open Go.ChangeShapes Go.WideShapes Go.ChangeAt
open Go.RowKit Wd Md Cm Cb Ch Ct Cu Jo Bk

theorem rdb_set {w : World} {B q : Nat} {ds : List Dt} {bb : List (List Int)} {d : Dt} {b : List Int} (h : RdB w B ds bb) (hd : Reads w B 1 d.A d.n (bs b) ∧ d.n ≤ d.c ∧ BOk b) : RdB w B (ds.set q d) (bb.set q b) := by
  refine ⟨by rw [List.length_set, List.length_set]; exact h.1, fun i e c he hc => ?_⟩
  rw [List.getElem?_set] at he hc
  by_cases hq : q = i
  · rw [if_pos hq] at he hc
    split at he
    · split at hc
      · injection he with he
        injection hc with hc
        subst he hc
        exact hd
      · cases hc
    · cases he
  · rw [if_neg hq] at he hc
    exact h.2 i e c he hc
theorem tot_set_le (bb : List (List Int)) (q : Nat) : tot (bb.set q []) ≤ tot bb := by
  unfold tot
  induction bb generalizing q with
  | nil => simp
  | cons a l ih =>
    cases q with
    | zero => simp
    | succ q =>
      have := ih q
      simp only [List.set_cons_succ, List.flatten_cons, List.length_append]
      omega

set_option maxRecDepth 100000 in
set_option maxHeartbeats 2000000 in
theorem walk (st : Int) (o : Bool) (A : Option Addr) (n c B : Nat) (most : Int) (a : Nat) (xs : List Int) (w : World) (h0 : -9223372036854775808 ≤ most) (h1 : most ≤ 9223372036854775807) (ha : a ≤ 65535) (hn : n ≤ 9223372036854775807) (hc : n ≤ c) (hB : B ≤ w.heap.size) (h : Reads w B 1 A n (bs xs)) (hok : Hid (BOk xs)) :
    Calls Try.prog 8 #[.agg #[.int .u16 st, .bool o, .slice A n c], .int .i64 most, .int .u16 a] w fun e w' => e = .returned (.bool true) ∧ Below w.heap.size w w' := by
  have H := hide h
  clear h
  go_enter Try.func8, Try.ntmps8
  go_wp2_with fail
  refine (Jr.c20z none 0 _).mono ?_
  intro e w2 hj
  obtain ⟨rfl, hb2⟩ : e = .returned (.tuple #[.agg #[.int .u16 0, .bool false, .slice none 0 0], .bool false]) ∧ Below _ _ w2 := by
    rcases hj with ⟨d0, A', c', h0, _⟩ | ⟨_, he, hb⟩
    · simp at h0
    · exact ⟨he, hb⟩
  have hb1 := below_then ((Below.refl w.heap.size w).alloc (Nat.le_refl _) (.cells #[.int .u16 st, .bool o, .slice A n c] 25)) (by simp) hb2
  have hm2 := (Blk.new w 25 #[.int .u16 st, .bool o, .slice A n c]).below hb2 (by simp)
  have hb3 := hb1.alloc hb1.size (.cells #[.int .u16 0, .bool false, .slice none 0 0] 25)
  have hm3 := hm2.alloc (.cells #[.int .u16 0, .bool false, .slice none 0 0] 25)
  have hr3 := (unhide H).keep (w' := (w2.alloc (.cells #[.int .u16 0, .bool false, .slice none 0 0] 25))) (fun p hp => hb3.cell (by omega))
  clear hj hb2 hb1 hm2
  go_upto_region 2 with fail
  generalize (w2.alloc (.cells #[.int .u16 0, .bool false, .slice none 0 0] 25)) = w3 at *
  have x0 := hm3.cell 0
  have x1 := hm3.cell 1
  have x2 := hm3.cell 2
  have hs3 := hb3.size
  have hml := hm3.lt
  go_wp2_with fail
  refine (c10 st o A n c most w3 hn h0 h1).mono ?_
  rintro e w4 ⟨rfl, hb4⟩
  have hb5 := below_then hb3 hb3.size hb4
  have hm5 := hm3.below hb4 hml
  have hr5 := hr3.keep (w' := w4) (fun p hp => hb4.cell (by omega))
  have HB5 := hide hb5
  clear x0 x1 x2
  have x0 := hm5.cell 0
  have x1 := hm5.cell 1
  have x2 := hm5.cell 2
  have hs4 := hb4.size
  clear hb4 hb3 hm3 hr3 hb5
  cases hlg : longB n most with
  | true =>
    go_wp2_with fail
    refine (Wk.works _).mono ?_
    rintro e w6 ⟨rfl, hb6⟩
    go_wp2
    go_ret
    exact ⟨rfl, below_then (unhide HB5) (unhide HB5).size hb6⟩
  | false =>
    by_cases hbig : 65536 < n
    · go_wp2_with fail
      refine (Wk.works _).mono ?_
      rintro e w6 ⟨rfl, hb6⟩
      go_wp2
      go_ret
      exact ⟨rfl, below_then (unhide HB5) (unhide HB5).size hb6⟩
    · have hn2 : n ≤ 65536 := by omega
      have HR5 := hide hr5
      clear hr5
      go_wp2_with fail
      refine (cut st 1 o A n c B most xs w4 hn h0 h1 hc (by omega) (unhide HR5) hok).mono ?_
      intro e w6 hcut
      rcases hcut with ⟨hm, rfl, hb6⟩ | ⟨hm, _, rfl, hb6⟩ | ⟨mm, hmm, hm0, hx0, hx1, hcp⟩
      · go_wp2_with fail
        refine (Wk.works _).mono ?_
        rintro e w7 ⟨rfl, hb7⟩
        go_wp2
        go_ret
        have hb8 := below_then (unhide HB5) (unhide HB5).size hb6
        exact ⟨rfl, below_then hb8 hb8.size hb7⟩
      · go_wp2_with fail
        refine (Wk.works _).mono ?_
        rintro e w7 ⟨rfl, hb7⟩
        go_wp2
        go_ret
        have hb8 := below_then (unhide HB5) (unhide HB5).size hb6
        exact ⟨rfl, below_then hb8 hb8.size hb7⟩
      · subst hmm
        obtain ⟨g, c6, ds, rfl, hl6, hrow, hOw, hH, hb6⟩ := Wk.cut_made (.inr (.inr ⟨mm, rfl, hm0, hx0, hx1, hcp⟩)) hm0 ⟨hx0, hx1⟩
        have hb8 := below_then (unhide HB5) (unhide HB5).size hb6
        have hxl := blen_ (unhide H)
        obtain ⟨hp0, hpN⟩ := nch_pos (mm := mm) hx0
        obtain ⟨K, hK⟩ : ∃ K, nch mm xs.length = K + 1 := ⟨nch mm xs.length - 1, by omega⟩
        rw [hK] at hrow hl6
        have hKn : K + 1 ≤ 65536 := by omega
        have HH := hide (And.intro hOw (And.intro hH hl6))
        rw [hK]
        obtain ⟨q, hq, hqm⟩ : ∃ q : Nat, (a : Int) % ((K : Int) + 1) = (q : Int) ∧ q < K + 1 := ⟨a % (K + 1), by rw [Int.natCast_emod]; rfl, Nat.mod_lt _ (by omega)⟩
        have hnz : ((K : Int) + 1 == 0) = false := by rw [beq_eq_false_iff_ne]; omega
        have hd : ds[q]? = some (ds[q]'(by omega)) := List.getElem?_eq_getElem _
        generalize (ds[q]'(by omega)) = d at hd
        have y0 := own_dt hrow hd 6 _ rfl
        have y1 : w6.frozen? ⟨g, q * 7 + 6, none⟩ = false := hrow.frozenAt _
        have HD := hide hd
        clear hOw hH hl6 hd hcp hxl hp0 hpN
        have z1 : IntKind.i64.wrap (a : Int) = a := by rw [IntKind.wrap_i64]; omega
        go_upto_region 10 with fail
        have hgb := own_base hrow g (by simp [Value.ownBlock])
        have hb9 := hb8.setCell (p := ⟨g, q * 7 + 6, none⟩) (by have := (unhide HB5).size; simp; omega) (.slice none 0 0)
        have hr9 := own_set_dt (j := 6) (u := .slice none 0 0) hrow (unhide HD) (cs_by d none 0 0) (by omega)
        have ho9 := (unhide HH).1.kept (grown_set w6 g (q * 7 + 6) (.slice none 0 0)) (fun i e he => (unhide HH).1.not_row hrow (by decide) he)
        generalize (w6.setCell ⟨g, q * 7 + 6, none⟩ (.slice none 0 0)) = w7 at *
        have hq9 : RdB w7 w7.heap.size (ds.set q { d with A := none, n := 0, c := 0 }) (((List.range (nch mm xs.length)).map (chk mm xs)).set q []) := rdb_set ho9.rd ⟨⟨by simp [bs], fun h => absurd h (by simp)⟩, Nat.le_refl _, by intro y hy; simp at hy⟩
        have ht9 := tot_set_le ((List.range (nch mm xs.length)).map (chk mm xs)) q
        rw [cut_tot hm0] at ht9
        have HN : Hid (¬ Fits (ds.set q { d with A := none, n := 0, c := 0 }) (((List.range (nch mm xs.length)).map (chk mm xs)).set q [])) := by
          rintro ⟨e0, he0, hR, _⟩
          have hql : q < ds.length := (List.getElem?_eq_some_iff.1 (unhide HD)).1
          have := (hR q { d with A := none, n := 0, c := 0 } (by rw [List.length_set]; exact hql) (by rw [List.getElem?_set, if_pos rfl, if_pos hql])).2.2.1
          simp at this
        have HB9 := hide hb9
        clear y0 y1 hb8 hb9 ho9 hrow hb6
        go_wp2_with fail
        refine (Jr.join (some ⟨g, 0, none⟩) (K + 1) c6 w7.heap.size _ _ w7 (by omega) (Nat.le_refl _) (Reads.of_own hr9) hq9 (by omega)).mono ?_
        intro e w8 hj
        obtain ⟨rfl, hb10⟩ : e = .returned (.tuple #[.agg #[.int .u16 0, .bool false, .slice none 0 0], .bool false]) ∧ Below w7.heap.size w7 w8 := by
          rcases hj with ⟨d0, A', c', g0, g1, g2, _⟩ | ⟨_, he, hb⟩
          · exact absurd ⟨d0, g0, g1, g2⟩ (unhide HN)
          · exact ⟨he, hb⟩
        have hb11 := (below_then (unhide HB9) (unhide HB9).size hb10).alloc (by have := (unhide HB9).size; have := hb10.size; omega) (.cells #[.int .u16 0, .bool false, .slice none 0 0] 25)
        have HB11 := hide hb11
        clear hb11 hj hr9 hq9
        go_wp2_with fail
        refine (Wk.works _).mono ?_
        rintro e w9 ⟨rfl, hb12⟩
        go_wp2
        go_ret
        exact ⟨rfl, below_then (unhide HB11) (unhide HB11).size hb12⟩
theorem own : ownKnob Try.prog.godebug = none := by kernel_rfl
theorem laidOut : laidOutB Try.prog = true := by kernel_rfl
set_option maxRecDepth 100000 in
theorem lifted (os : Os) (started : os.Started) (H : Type) (enc : TypeId × Value → H) :
    ReturnsInHanded {} Try.checked os 8 .any (Rows.fragEmptySpec.pre6 enc Try.prog Try.f8 Rows.fragEmptyRow.domain false) (Rows.fragEmptySpec.post enc Try.prog Try.f8 false true false false) := by
  refine returnsInHanded_of_change (C := Try.checked) own started (by kernel_rfl) Try.func8
    (ChangeSpec.witness6 (enc := enc) (C := Try.checked) false ⟨#[], #[.agg #[.int .u16 0, .bool false, .slice none 0 0], .int .i64 0, .int .u16 0], []⟩ 8 (by kernel_rfl) (by kernel_rfl) (by kernel_rfl) (by kernel_rfl)) ?_
  intro W base args ds gs before hval0 hW hcnd _
  have hval : ∀ (j : Nat) t v, Try.f8.params[j]? = some t → args[j]? = some v → Value.okWide Try.prog W .any base t v := hval0
  have hW' := hW
  obtain ⟨p, q, hA0, hV, rfl, hfz, hnd⟩ := hW
  have hA : DataW.TrodAll enc Try.prog W 0 (fun _ => true) true Try.f8.params.toList args.toList ds p := hA0
  rw [Try.params8] at hA hval
  obtain ⟨v0, vs0, d0, ds0, p0, q0, hargs, rfl, rfl, h0, r0⟩ := trodAll_cons hA
  obtain ⟨v1, vs1, d1, ds1, p1, q1, rfl, rfl, rfl, h1, r1⟩ := trodAll_cons r0
  obtain ⟨v2, vs2, d2, ds2, p2, q2, rfl, rfl, rfl, h2, r2⟩ := trodAll_cons r1
  obtain ⟨rfl, rfl, rfl⟩ := trodAll_nil r2
  obtain rfl : args = #[v0, v1, v2] := by cases args; simp_all
  obtain ⟨rfl, rfl⟩ := trodVars_none hV
  have k0 := h0
  have lt0 : ∀ x ∈ p0, x.block < W.heap.size := by obtain ⟨m, hm⟩ := k0; exact DataW.trod_lt m _ _ _ hm
  have k1 := h1
  have lt1 : ∀ x ∈ p1, x.block < W.heap.size := by obtain ⟨m, hm⟩ := k1; exact DataW.trod_lt m _ _ _ hm
  have k2 := h2
  have lt2 : ∀ x ∈ p2, x.block < W.heap.size := by obtain ⟨m, hm⟩ := k2; exact DataW.trod_lt m _ _ _ hm
  obtain ⟨cs0, rfl, hsz0⟩ := okWide_struct Try.underlying25 (hval 0 25 v0 rfl rfl)
  obtain ⟨st0, o0, A0, len0, cap0, x0, rfl, b0, c0, hr0, ho0, hc0, hm0, hn0⟩ := Op.open_msg (by rw [hsz0]; exact Op.cells25) h0
  unfold maxLen at hm0
  obtain ⟨a1, rfl, rfl, rfl, w1⟩ := open_int Try.underlying3 (hval 1 3 v1 rfl rfl) h1
  obtain ⟨b1, c1⟩ := bounds_i64 w1
  obtain ⟨a2, rfl, rfl, rfl, w2⟩ := open_int Try.underlying22 (hval 2 22 v2 rfl rfl) h2
  obtain ⟨b2, c2⟩ := bounds_u16 w2
  obtain ⟨m2, rfl⟩ := Int.eq_ofNat_of_zero_le b2
  clear hA0 hval0
  refine (walk st0 o0 A0 len0 cap0 W.heap.size a1 m2 x0 W b1 c1 (by omega) (by omega) hc0 (Nat.le_refl _) hr0 ho0).mono fun e W' ⟨he, bel⟩ => ?_
  subst he
  exact ⟨_, rfl, _, _, _, [], _, [], hW', trodAll_mk1 (shut_bool Try.underlying4 _), (trodAll_cons_mk (Below.trod laidOut (by kernel_rfl) (of_decide_eq_true (by kernel_rfl)) k0 bel lt0) (trodAll_cons_mk (Below.trod laidOut (by kernel_rfl) (of_decide_eq_true (by kernel_rfl)) k1 bel lt1) (trodAll_cons_mk (Below.trod laidOut (by kernel_rfl) (of_decide_eq_true (by kernel_rfl)) k2 bel lt2) trodAll_mk0))), rfl, bel.frame _, fun h => by cases h⟩
theorem over : Rows.fragEmptyRow.holds Try.pinned (OpenSpec.ofChange Rows.fragEmptySpec) :=
  OpenClaim.holds_of_wide 8 Try.f8 rfl rfl rfl rfl rfl rfl rfl ⟨rfl, rfl, rfl, rfl, rfl⟩ rfl rfl rfl rfl rfl (by kernel_rfl) Try.func8 (by kernel_rfl)
    (of_decide_eq_true (by kernel_rfl)) (by unfold Func.isWrapper; first | (rw [if_pos (by decide +kernel)]; kernel_rfl) | (rw [if_neg (by decide +kernel)]; exact ⟨rfl, rfl⟩))
    (fun os started H enc _ => lifted os started H enc)
theorem proved : Rows.FragEmptySaid :=
  over
end Go.Proofs.Ytfgbegamdlafkaa.fragEmpty

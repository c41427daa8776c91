/-
  Proved: the numbers by which pieces are sent have no say.
  Conditions: none; every input.
-/
import Derived.Test.YtfgbegamdlafkaaWk
import Derived.Test.YtfgbegamdlafkaaOp
import Derived.Deep.DeepCutAuto
import Derived.Test.YtfgbegamdlafkaaRows
import Derived.ProofKit
import Derived.OpenShut
import Derived.Carry
set_option linter.unusedVariables false
set_option linter.unusedSimpArgs false
namespace Go.Proofs.Ytfgbegamdlafkaa.fragTsns
open Go.ChangeShapes Go.WideShapes Go.ChangeAt
open Go.RowKit Wd Md Cm Cb Ch Ct Cu Jo Bk
open Go.Proofs.Ytfgbegamdlafkaa.Op (us)

/-- The same pieces but for their numbers. -/
def But (ds es : List Dt) : Prop := ds.length = es.length ∧ ∀ (i : Nat) (d e : Dt), ds[i]? = some d → es[i]? = some e → e.st = d.st ∧ e.ssn = d.ssn ∧ e.un = d.un ∧ e.fi = d.fi ∧ e.la = d.la ∧ e.A = d.A ∧ e.n = d.n ∧ e.c = d.c
theorem but_refl (ds : List Dt) : But ds ds := ⟨rfl, fun i d e h h' => by
  rw [h] at h'
  injection h' with h'
  subst h'
  exact ⟨rfl, rfl, rfl, rfl, rfl, rfl, rfl, rfl⟩⟩
theorem but_set {ds es : List Dt} {k : Nat} {d : Dt} (h : But ds es) (hd : es[k]? = some d) (t : Int) : But ds (es.set k { d with tsn := t }) := by
  refine ⟨by rw [List.length_set]; exact h.1, fun i x e hx he => ?_⟩
  rw [List.getElem?_set] at he
  split at he
  · rename_i e1
    subst e1
    rw [if_pos (List.getElem?_eq_some_iff.1 hd).1] at he
    injection he with he
    subst he
    exact h.2 k x d hx hd
  · exact h.2 i x e hx he
theorem but_at {ds es : List Dt} (h : But ds es) {i : Nat} {e : Dt} (he : es[i]? = some e) : ∃ d, ds[i]? = some d ∧ e.st = d.st ∧ e.ssn = d.ssn ∧ e.un = d.un ∧ e.fi = d.fi ∧ e.la = d.la ∧ e.A = d.A ∧ e.n = d.n ∧ e.c = d.c := by
  have hi := (List.getElem?_eq_some_iff.1 he).1
  have hd : ds[i]? = some (ds[i]'(by have := h.1; omega)) := List.getElem?_eq_getElem _
  exact ⟨_, hd, h.2 i _ e hd he⟩
theorem but_symm {ds es : List Dt} (h : But ds es) : But es ds := ⟨h.1.symm, fun i d e hd he => by
  obtain ⟨a, b, c, f, g, k, l, m⟩ := h.2 i e d he hd
  exact ⟨a.symm, b.symm, c.symm, f.symm, g.symm, k.symm, l.symm, m.symm⟩⟩
theorem but_rd {w : World} {B : Nat} {ds es : List Dt} {bb : List (List Int)} (h : But ds es) (hr : RdB w B ds bb) : RdB w B es bb :=
  ⟨by rw [← h.1]; exact hr.1, fun i e b he hb => by
    obtain ⟨d, hd, _, _, _, _, _, h6, h7, h8⟩ := but_at h he
    obtain ⟨r1, r2, r3⟩ := hr.2 i d b hd hb
    rw [h6, h7, h8]
    exact ⟨r1, r2, r3⟩⟩
theorem but_rights {ds es : List Dt} (h : But ds es) {d0 e0 : Dt} (hd0 : ds[0]? = some d0) (he0 : es[0]? = some e0) (hr : Rights ds d0 ds.length) : Rights es e0 es.length := fun i e hi he => by
  obtain ⟨d, hd, a, b, c, f, g, _, k, _⟩ := but_at h he
  obtain ⟨a0, b0, c0, _⟩ := h.2 0 d0 e0 hd0 he0
  obtain ⟨r1, r2, r3, r4, r5, r6⟩ := hr i d (by have := h.1; omega) hd
  exact ⟨by rw [f, r1], by rw [g, r2, h.1], by rw [k]; exact r3, by rw [a, a0, r4], by rw [b, b0, r5], by rw [c, c0, r6]⟩
theorem but_fits {ds es : List Dt} {bb : List (List Int)} (h : But ds es) (hf : Fits ds bb) : Fits es bb := by
  obtain ⟨d0, h0, hr, ht⟩ := hf
  have he : es[0]? = some (es[0]'(by have := (List.getElem?_eq_some_iff.1 h0).1; have := h.1; omega)) := List.getElem?_eq_getElem _
  exact ⟨_, he, but_rights h h0 he hr, ht⟩
/-- Join, told at once for pieces that differ in their numbers alone. -/
theorem join_told {ds : List Dt} {bb : List (List Int)} {w w' : World} {e : Ending} (h : JoinOut ds bb w e w') : ∃ (st : Int) (o : Bool) (ys : List Int) (A : Option Addr) (c : Nat) (r : Bool), e = .returned (.tuple #[.agg #[.int .u16 st, .bool o, .slice A ys.length c], .bool r]) ∧ w'.ownsRow w.heap.size 5 1 (.slice A ys.length c) ys.length (bs ys) ∧ Below w.heap.size w w' ∧
    ((Fits ds bb ∧ r = true ∧ ys = bb.flatten ∧ ∃ d0, ds[0]? = some d0 ∧ st = d0.st ∧ o = !d0.un) ∨ (¬ Fits ds bb ∧ r = false ∧ ys = [] ∧ st = 0 ∧ o = false)) := by
  rcases h with ⟨d0, A, c, h0, hR, ht, he, ho, hb⟩ | ⟨hn, he, hb⟩
  · exact ⟨_, _, bb.flatten, A, c, true, he, ho, hb, .inl ⟨⟨d0, h0, hR, ht⟩, rfl, rfl, d0, h0, rfl, rfl⟩⟩
  · exact ⟨0, false, [], none, 0, false, he, by simpa [bs] using own_none w' w.heap.size 5 1, hb, .inr ⟨hn, rfl, rfl, rfl, rfl⟩⟩
theorem rd_more {w : World} {B B' : Nat} {ds : List Dt} {bb : List (List Int)} (h : RdB w B ds bb) (hB : B ≤ B') : RdB w B' ds bb :=
  ⟨h.1, fun i d b hd hb => let ⟨r1, r2, r3⟩ := h.2 i d b hd hb; ⟨r1.more hB, r2, r3⟩⟩
theorem flat_ok {w : World} {B : Nat} {ds : List Dt} {bb : List (List Int)} (h : RdB w B ds bb) : BOk bb.flatten := by
  intro y hy
  rw [List.mem_flatten] at hy
  obtain ⟨b, hb, hyb⟩ := hy
  obtain ⟨i, hi⟩ := List.getElem?_of_mem hb
  have hd : ds[i]? = some (ds[i]'(by have := (List.getElem?_eq_some_iff.1 hi).1; have := h.1; omega)) := List.getElem?_eq_getElem _
  exact (h.2 i _ b hd hi).2.2 y hyb

set_option maxRecDepth 100000 in
set_option maxHeartbeats 2000000 in
theorem walk (A : Option Addr) (n c B : Nat) (ds : List Dt) (bb : List (List Int)) (T : Option Addr) (tn tc : Nat) (ts : List Int) (w : World) (hn : n ≤ 9223372036854775807) (htn : tn ≤ 9223372036854775807) (hB : B ≤ w.heap.size) (h : Reads w B 7 A n (dts ds)) (hb : RdB w B ds bb) (hdo : Hid (∀ d ∈ ds, d.Ok ∧ d.n ≤ 9223372036854775807)) (ht : Reads w B 1 T tn (us ts)) :
    Calls Try.prog 9 #[.slice A n c, .slice T tn tc] w fun e w' => e = .returned (.bool true) ∧ Below w.heap.size w w' := by
  obtain ⟨i0, hi0, hz0, hz1, hz2⟩ := info_parts info38
  have L := hide (dlen_ h)
  have H := hide (And.intro h (And.intro hb ht))
  clear ht
  go_enter Try.func9, Try.ntmps9
  go_wp2_with fail
  refine (c18 A n c B ds bb w hn hB h hb (fun d hd => (unhide hdo d hd).2)).mono ?_
  rintro e w1 ⟨r, rfl, hr, rfl⟩
  cases r with
  | true =>
    go_wp2_with fail
    refine (Wk.works _).mono ?_
    rintro e w6 ⟨rfl, hb6⟩
    go_wp2
    go_ret
    exact ⟨rfl, hb6⟩
  | false =>
    obtain ⟨hn2, htot⟩ := hr rfl
    clear h hb hn
    go_wp2_with fail
    refine (Jr.join A n c B ds bb w1 (by omega) hB (unhide H).1 (unhide H).2.1 (by omega)).mono ?_
    intro e w2 hj
    obtain ⟨st, o, ys, A2, c2, r2, rfl, ho2, hb2, hT⟩ := join_told hj
    have hs2 := hb2.size
    have hb3 := hb2.alloc hs2 (.cells #[.int .u16 st, .bool o, .slice A2 ys.length c2] 25)
    have hm3 := Blk.new w2 25 #[.int .u16 st, .bool o, .slice A2 ys.length c2]
    have hy3 := (Reads.of_own ho2).alloc (Nat.le_refl _) (.cells #[.int .u16 st, .bool o, .slice A2 ys.length c2] 25)
    have hlt3 : w2.heap.size < (w2.alloc (.cells #[.int .u16 st, .bool o, .slice A2 ys.length c2] 25)).heap.size := by simp
    have HT := hide hT
    clear hj hT ho2 hb2
    go_upto_region 5 with fail
    generalize (w2.alloc (.cells #[.int .u16 st, .bool o, .slice A2 ys.length c2] 25)) = w3 at *
    generalize w2.heap.size = bm at *
    have hr3 := (unhide H).1.keep (w' := w3) (fun p hp => hb3.cell (by omega))
    have hs3 := hb3.size
    go_wp2_with (at_builtin; refine wpList_append_any _ rfl (.tmp 19) (.tmp 20) _ rfl w3.heap.size 38 i0 _ 7 40 Try.underlying29 hi0 hz0 hz1 hz2 rfl (by omega) (.slice none 0 0) 0 [] rfl (own_none _ _ _ _) B A n c (dts ds) rfl hr3 (dts_one ds) (by simp only [maxLen]; omega) (by omega) (Nat.le_refl _) ?_; intro v1 w4 hown4 hg4 hat4; simp only [Nat.zero_add, List.nil_append] at hown4; obtain ⟨A4, c4, rfl, _, _⟩ := own_slice hown4)
    have hb4 : Below w3.heap.size w3 w4 := (Below.refl _ _).grown hg4 (Nat.le_refl _) (by intro g hg; simp [Value.ownBlock] at hg)
    have hb4' := below_then hb3 hb3.size hb4
    clear hg4 hat4
    go_loopw [8] (fun i wr => ∃ (k : Nat) (es : List Dt), k ≤ n ∧ i = .int .i64 k ∧ Below w3.heap.size w3 wr ∧ wr.ownsRow w3.heap.size 38 7 (.slice A4 n c4) n (dts es) ∧ Hid (But ds es)) (fun i _ => n - (intOf i).toNat)
    case atStart => exact ⟨0, ds, Nat.zero_le _, rfl, hb4, hown4, but_refl ds⟩
    case round =>
      obtain ⟨k, es, hk, rfl, hbr, hor, hBt⟩ := hrel
      have hbw := below_then hb3 hb3.size hbr
      by_cases hlt : k < n ∧ k < tn
      · obtain ⟨hkn, hkt⟩ := hlt
        obtain ⟨g, c', hv, hgb, hgl⟩ := hor.form (by omega)
        obtain ⟨e1, rfl⟩ : A4 = some ⟨g, 0, none⟩ ∧ c4 = c' := by injection hv with a b c; exact ⟨a, c⟩
        subst e1
        have hel : es.length = n := by have := hor.1; rw [dts_length] at this; omega
        have hd : es[k]? = some (es[k]'(by omega)) := List.getElem?_eq_getElem _
        generalize (es[k]'(by omega)) = d at hd
        have hrt := (unhide H).2.2.keep (w' := wr) (fun p hp => hbw.cell (by omega))
        obtain ⟨ad, u, hTe, _, hu, huc⟩ := hrt.at_ hkt
        subst hTe
        obtain ⟨t, rfl⟩ : ∃ t, u = .int .u32 t := by
          simp only [us, List.getElem?_map] at hu
          cases hx : ts[k]? with
          | none => rw [hx] at hu; cases hu
          | some y => rw [hx] at hu; injection hu with hu; exact ⟨y, hu.symm⟩
        have y0 := own_dt hor hd 0 _ rfl
        rw [Nat.add_zero] at y0
        have y1 : wr.frozen? ⟨g, k * 7, none⟩ = false := hor.frozenAt _
        have HD := hide hd
        clear hd hrt hu
        go_wp2
        go_roundw
        case rel =>
          have ho2 := own_set_dt (j := 0) (u := .int .u32 t) hor (unhide HD) (cs_tsn d t) (by omega)
          rw [Nat.add_zero] at ho2
          exact ⟨k + 1, _, by omega, by go_num, hbr.setCell (by simpa using hgb) _, ho2, but_set (unhide hBt) (unhide HD) t⟩
        case measure => simp [intOf]; omega
      · have hx : n ≤ k ∨ (k < n ∧ tn ≤ k) := by omega
        have hrd := (unhide H).2.1.keep (w' := wr) (fun p hp => hbw.cell (by omega))
        have hrd2 := but_rd (unhide hBt) hrd
        have HW := hide hbw
        have hm5 := hm3.below hbr hlt3
        have hy5 := hy3.keep (w' := wr) (fun p hp => hbr.cell (by omega))
        have hsr := hbr.size
        clear hlt
        rcases hx with hx | ⟨hx, hx2⟩
        all_goals
          go_wp2_with fail
          refine (Jr.join A4 n c4 wr.heap.size es bb wr (by omega) (Nat.le_refl _) (Reads.of_own hor) (rd_more hrd2 (by omega)) (by omega)).mono ?_
          intro e w6 hj
          obtain ⟨st', o', ys', A6, c6, r6, rfl, ho6, hb6, hT6⟩ := join_told hj
          have hsame : st' = st ∧ o' = o ∧ ys' = ys ∧ r6 = r2 := by
            rcases unhide HT with ⟨f1, f2, f3, d0, f4, f5, f6⟩ | ⟨f1, f2, f3, f4, f5⟩ <;> rcases hT6 with ⟨g1, g2, g3, e0, g4, g5, g6⟩ | ⟨g1, g2, g3, g4, g5⟩
            · obtain ⟨a1, _, a3, _⟩ := (unhide hBt).2 0 d0 e0 f4 g4
              exact ⟨by rw [g5, f5, a1], by rw [g6, f6, a3], by rw [g3, f3], by rw [g2, f2]⟩
            · exact absurd (but_fits (unhide hBt) f1) g1
            · exact absurd (but_fits (but_symm (unhide hBt)) g1) f1
            · exact ⟨by rw [g4, f4], by rw [g5, f5], by rw [g3, f3], by rw [g2, f2]⟩
          obtain ⟨rfl, rfl, rfl, rfl⟩ := hsame
          have hyl : ys'.length ≤ 131072 := by
            rcases hT6 with ⟨_, _, g3, _⟩ | ⟨_, _, g3, _⟩
            · rw [g3]; exact htot
            · rw [g3]; simp
          have hyo : Hid (BOk ys') := by
            show BOk ys'
            rcases hT6 with ⟨_, _, g3, _⟩ | ⟨_, _, g3, _⟩
            · rw [g3]; exact flat_ok hrd
            · rw [g3]; intro y hy; simp at hy
          have hs6 := hb6.size
          have hb7 := (below_then (unhide HW) (unhide HW).size hb6).alloc (by have := (unhide HW).size; omega) (.cells #[.int .u16 st', .bool o', .slice A6 ys'.length c6] 25)
          have hm7 := (hm5.below hb6 (by omega)).alloc (.cells #[.int .u16 st', .bool o', .slice A6 ys'.length c6] 25)
          have hn7 := Blk.new w6 25 #[.int .u16 st', .bool o', .slice A6 ys'.length c6]
          have hy7 := (hy5.keep (w' := w6) (fun p hp => hb6.cell (by omega))).alloc (by omega) (.cells #[.int .u16 st', .bool o', .slice A6 ys'.length c6] 25)
          have hz7 := (Reads.of_own ho6).alloc (Nat.le_refl _) (.cells #[.int .u16 st', .bool o', .slice A6 ys'.length c6] 25)
          have hlt7 : w6.heap.size < (w6.alloc (.cells #[.int .u16 st', .bool o', .slice A6 ys'.length c6] 25)).heap.size := by simp
          clear hj hT6 ho6 hb6 hm5 hy5 hor hrd hrd2 HT
          go_upto_region 11 with fail
          generalize (w6.alloc (.cells #[.int .u16 st', .bool o', .slice A6 ys'.length c6] 25)) = w7 at *
          generalize w6.heap.size = b7 at *
          have x0 := hm7.cell 0
          have x1 := hm7.cell 1
          have x2 := hm7.cell 2
          have z0 := hn7.cell 0
          have z1 := hn7.cell 1
          have z2 := hn7.cell 2
          have hrr : (r6 == r6) = true := by simp
          have HX := hide (And.intro hy7 hz7)
          have HB := hide hb7
          clear hy7 hz7 hb7 hm7 hn7
          go_wp2_with fail
          refine (c22 st' st' o' o' A2 A6 ys'.length ys'.length c2 c6 bm b7 ys' ys' w7 (by omega) (by omega) (by omega) (by omega) (unhide HX).1 (unhide HX).2 hyo hyo).mono ?_
          rintro e w8 ⟨rfl, hb8⟩
          have t1 : decide (st' = st' ∧ o' = o' ∧ ys' = ys') = true := by simp
          rw [t1]
          have HB8 := hide (below_then (unhide HB) (unhide HB).size hb8)
          clear hb8
          go_wp2_with fail
          refine (Wk.works _).mono ?_
          rintro e w9 ⟨rfl, hb9⟩
          go_wp2
          go_ret
          exact ⟨rfl, below_then (unhide HB8) (unhide HB8).size hb9⟩
theorem own : ownKnob Try.prog.godebug = none := by kernel_rfl
theorem laidOut : laidOutB Try.prog = true := by kernel_rfl
set_option maxRecDepth 100000 in
theorem lifted (os : Os) (started : os.Started) (H : Type) (enc : TypeId × Value → H) :
    ReturnsInHanded {} Try.checked os 9 .any (Rows.fragTsnsSpec.pre6 enc Try.prog Try.f9 Rows.fragTsnsRow.domain false) (Rows.fragTsnsSpec.post enc Try.prog Try.f9 false true false false) := by
  refine returnsInHanded_of_change (C := Try.checked) own started (by kernel_rfl) Try.func9
    (ChangeSpec.witness6 (enc := enc) (C := Try.checked) false ⟨#[], #[.slice none 0 0, .slice none 0 0], []⟩ 8 (by kernel_rfl) (by kernel_rfl) (by kernel_rfl) (by kernel_rfl)) ?_
  intro W base args ds gs before hval0 hW hcnd _
  have hval : ∀ (j : Nat) t v, Try.f9.params[j]? = some t → args[j]? = some v → Value.okWide Try.prog W .any base t v := hval0
  have hW' := hW
  obtain ⟨p, q, hA0, hV, rfl, hfz, hnd⟩ := hW
  have hA : DataW.TrodAll enc Try.prog W 0 (fun _ => true) true Try.f9.params.toList args.toList ds p := hA0
  rw [Try.params9] at hA hval
  obtain ⟨v0, vs0, d0, ds0, p0, q0, hargs, rfl, rfl, h0, r0⟩ := trodAll_cons hA
  obtain ⟨v1, vs1, d1, ds1, p1, q1, rfl, rfl, rfl, h1, r1⟩ := trodAll_cons r0
  obtain ⟨rfl, rfl, rfl⟩ := trodAll_nil r1
  obtain rfl : args = #[v0, v1] := by cases args; simp_all
  obtain ⟨rfl, rfl⟩ := trodVars_none hV
  have k0 := h0
  have lt0 : ∀ x ∈ p0, x.block < W.heap.size := by obtain ⟨m, hm⟩ := k0; exact DataW.trod_lt m _ _ _ hm
  have k1 := h1
  have lt1 : ∀ x ∈ p1, x.block < W.heap.size := by obtain ⟨m, hm⟩ := k1; exact DataW.trod_lt m _ _ _ hm
  obtain ⟨A0, len0, cap0, rfl⟩ := okWide_slice Try.underlying29 (hval 0 29 v0 rfl rfl)
  obtain ⟨x0, bb0, hr0, hb0, ho0, hc0, hm0, hn0⟩ := Op.open_pcs h0
  unfold maxLen at hm0 ho0
  obtain ⟨A1, len1, cap1, rfl⟩ := okWide_slice Try.underlying53 (hval 1 53 v1 rfl rfl)
  obtain ⟨x1, hr1, ho1, hc1, hm1, hn1⟩ := Op.open_u32s h1
  unfold maxLen at hm1
  clear hA0 hval0
  refine (walk A0 len0 cap0 W.heap.size x0 bb0 A1 len1 cap1 x1 W (by omega) (by omega) (Nat.le_refl _) hr0 hb0 ho0 hr1).mono fun e W' ⟨he, bel⟩ => ?_
  subst he
  exact ⟨_, rfl, _, _, _, [], _, [], hW', trodAll_mk1 (shut_bool Try.underlying4 _), (trodAll_cons_mk (Below.trod laidOut (by kernel_rfl) (of_decide_eq_true (by kernel_rfl)) k0 bel lt0) (trodAll_cons_mk (Below.trod laidOut (by kernel_rfl) (of_decide_eq_true (by kernel_rfl)) k1 bel lt1) trodAll_mk0)), rfl, bel.frame _, fun h => by cases h⟩
theorem over : Rows.fragTsnsRow.holds Try.pinned (OpenSpec.ofChange Rows.fragTsnsSpec) :=
  OpenClaim.holds_of_wide 9 Try.f9 rfl rfl rfl rfl rfl rfl rfl ⟨rfl, rfl, rfl, rfl, rfl⟩ rfl rfl rfl rfl rfl (by kernel_rfl) Try.func9 (by kernel_rfl)
    (of_decide_eq_true (by kernel_rfl)) (by unfold Func.isWrapper; first | (rw [if_pos (by decide +kernel)]; kernel_rfl) | (rw [if_neg (by decide +kernel)]; exact ⟨rfl, rfl⟩))
    (fun os started H enc _ => lifted os started H enc)
theorem proved : Rows.FragTsnsSaid :=
  over
end Go.Proofs.Ytfgbegamdlafkaa.fragTsns

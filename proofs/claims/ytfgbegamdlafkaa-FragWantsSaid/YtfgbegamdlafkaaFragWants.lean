/-
  Proved: Join refuses a run that wants its first or its last, one laid in the wrong order, and one whose piece is of another stream or kind; of another stream sequence number it tells the truth.
  Conditions: none; every input.
-/
import Derived.Test.YtfgbegamdlafkaaWt
import Derived.Test.YtfgbegamdlafkaaOp
import Derived.Deep.DeepCutAuto
import Derived.Test.YtfgbegamdlafkaaRows
import Derived.ProofKit
import Derived.OpenShut
import Derived.Carry
set_option linter.unusedVariables false
set_option linter.unusedSimpArgs false
namespace Go.Proofs.Ytfgbegamdlafkaa.fragWants
open Go.ChangeShapes Go.WideShapes Go.ChangeAt
open Go.RowKit Wd Md Cm Cb Ch Ct Cu Jo Bk Jt Wt

set_option maxRecDepth 100000 in
set_option maxHeartbeats 2000000 in
theorem walk (st : Int) (o : Bool) (A : Option Addr) (n c B : Nat) (most s1 : Int) (s0 : Nat) (xs : List Int) (w : World) (hst : 0 ≤ st ∧ st ≤ 65535) (hs0 : s0 ≤ 65535) (h0 : -9223372036854775808 ≤ most) (h1 : most ≤ 9223372036854775807) (hn : n ≤ 9223372036854775807) (hc : n ≤ c) (hB : B ≤ w.heap.size) (h : Reads w B 1 A n (bs xs)) (hok : Hid (BOk xs)) :
    Calls Try.prog 7 #[.agg #[.int .u16 st, .bool o, .slice A n c], .int .i64 most, .agg #[.int .u16 s0, .int .u16 s1]] w fun e w' => e = .returned (.bool true) ∧ Below w.heap.size w w' := by
  obtain ⟨i0, hi0, hz0, hz1, hz2⟩ := info_parts info38
  have HR : Hid (Reads w B 1 A n (bs xs) ∧ BOk xs ∧ xs.length = n) := ⟨h, hok, blen_ h⟩
  clear h
  go_enter Try.func7, Try.ntmps7
  go_upto_region 3 with fail
  have hm3 := (Blk.new w 25 #[.int .u16 st, .bool o, .slice A n c]).alloc (.cells #[.int .u16 s0, .int .u16 s1] 50)
  have hb3 := ((Below.refl w.heap.size w).alloc (Nat.le_refl _) (.cells #[.int .u16 st, .bool o, .slice A n c] 25)).alloc (by simp) (.cells #[.int .u16 s0, .int .u16 s1] 50)
  generalize ((w.alloc (.cells #[.int .u16 st, .bool o, .slice A n c] 25)).alloc (.cells #[.int .u16 s0, .int .u16 s1] 50)) = w3 at *
  have x0 := hm3.cell 0
  have x1 := hm3.cell 1
  have x2 := hm3.cell 2
  have hs3 := hb3.size
  have hml := hm3.lt
  go_wp2_with fail
  refine (c10 st o A n c most w3 hn h0 h1).mono ?_
  rintro e w4 ⟨rfl, hb4⟩
  have hb5 := below_then hb3 hb3.size hb4
  have hm5 := hm3.below hb4 hml
  have hs4 := hb4.size
  have HB5 := hide hb5
  clear x0 x1 x2 hb4 hb3 hm3 hb5
  have x0 := hm5.cell 0
  have x1 := hm5.cell 1
  have x2 := hm5.cell 2
  cases hl1 : longB n most with
  | true =>
    go_wp2_with fail
    refine (Wk.works _).mono ?_
    rintro e w6 ⟨rfl, hb6⟩
    go_wp2
    go_ret
    exact ⟨rfl, below_then (unhide HB5) (unhide HB5).size hb6⟩
  | false =>
    clear hl1
    by_cases hbig : 65536 < n
    · go_wp2_with fail
      refine (Wk.works _).mono ?_
      rintro e w6 ⟨rfl, hb6⟩
      go_wp2
      go_ret
      exact ⟨rfl, below_then (unhide HB5) (unhide HB5).size hb6⟩
    · have hbig' : n ≤ 65536 := by omega
      clear hbig
      go_wp2_with fail
      refine (cut st 5 o A n c B most xs w4 hn h0 h1 hc (by omega) ((unhide HR).1.keep (fun p hp => (unhide HB5).cell (by omega))) (unhide HR).2.1).mono ?_
      intro e w6 hcut
      have hlt5 : w.heap.size < w4.heap.size := by omega
      rcases hcut with ⟨hm, rfl, hb6⟩ | ⟨hm, hx, rfl, hb6⟩ | ⟨mm, rfl, hm, hx, hx2, hcp⟩
      · have HB6 := hide (below_then (unhide HB5) (unhide HB5).size hb6)
        clear x0 x1 x2 hb6 hm5
        go_wp2_with fail
        refine (Wk.works _).mono ?_
        rintro e w7 ⟨rfl, hb7⟩
        go_wp2
        go_ret
        exact ⟨rfl, below_then (unhide HB6) (unhide HB6).size hb7⟩
      · have HB6 := hide (below_then (unhide HB5) (unhide HB5).size hb6)
        clear x0 x1 x2 hb6 hm5 hx
        go_wp2_with fail
        refine (Wk.works _).mono ?_
        rintro e w7 ⟨rfl, hb7⟩
        go_wp2
        go_ret
        exact ⟨rfl, below_then (unhide HB6) (unhide HB6).size hb7⟩
      · obtain ⟨g, c', ds, rfl, hdl, hown6, hOw, hPc, hb6⟩ := Wk.cut_made (.inr (.inr ⟨mm, rfl, hm, hx, hx2, hcp⟩)) hm ⟨hx, hx2⟩
        have hxl := (unhide HR).2.2
        have hFit : Fits ds ((List.range (nch mm xs.length)).map (chk mm xs)) := by
          have h0 : ds[0]? = some (ds[0]'(by have := (nch_pos (mm := mm) hx).1; omega)) := List.getElem?_eq_getElem _
          exact ⟨_, h0, cut_rights hm hdl hOw hPc h0, by rw [cut_tot hm]; exact hx2⟩
        have htt : tot ((List.range (nch mm xs.length)).map (chk mm xs)) ≤ 65536 := by rw [cut_tot hm]; omega
        have hNb : nch mm xs.length ≤ 65536 := by
          have h3 : nch mm xs.length ≤ xs.length := by
            rcases Nat.lt_or_ge xs.length (nch mm xs.length) with h | h
            · have := (nch_lt (mm := mm) (n := xs.length) (k := xs.length) hm).1 h
              have := Nat.le_mul_of_pos_right xs.length hm
              omega
            · exact h
          omega
        have hN0 := (nch_pos (mm := mm) hx).1
        generalize (List.range (nch mm xs.length)).map (chk mm xs) = bb at *
        generalize nch mm xs.length = N at *
        have hPs : Pcs st 5 o N ds := ⟨hdl, hPc⟩
        have hcN : N ≤ c' := by
          obtain ⟨_, _, hv, hle, _⟩ := own_slice hown6
          injection hv with _ _ hcc
          omega
        have HP := hide (And.intro hOw (And.intro hPs (And.intro hFit (And.intro htt (Reads.of_own hown6)))))
        have HB6 := hide (below_then (unhide HB5) (unhide HB5).size hb6)
        have hm6 := hm5.below hb6 hlt5
        have hs6 := hb6.size
        clear x0 x1 x2 hb6 hm5 hxl hdl hOw hPc hPs hFit htt hown6 hcp hx hx2 HB5
        by_cases hN1 : N = 1
        · subst hN1
          go_wp2_with fail
          refine (Wk.works _).mono ?_
          rintro e w7 ⟨rfl, hb7⟩
          go_wp2
          go_ret
          exact ⟨rfl, below_then (unhide HB6) (unhide HB6).size hb7⟩
        · obtain ⟨M, rfl⟩ : ∃ M, N = M + 1 := ⟨N - 1, by omega⟩
          have hc1 : ¬ c' = 1 := by omega
          go_wp2_with fail
          refine (Jr.join (some ⟨g, 7, none⟩) M (c' - 1) w6.heap.size (ds.drop 1) (bb.drop 1) w6 (by omega) (Nat.le_refl _) (reads_drop1 (unhide HP).2.2.2.2) (rdb_drop1 (unhide HP).1.rd) (by have := tot_drop_le bb 1; have := (unhide HP).2.2.2.1; omega)).mono ?_
          intro e w7 hj
          rcases hj with ⟨d0, A', c7, p0, p1, p2, _⟩ | ⟨_, rfl, hb7⟩
          · exact absurd ⟨d0, p0, p1, p2⟩ (no_first (unhide HP).2.1 (by omega))
          have hb8 := hb7.alloc hb7.size (.cells #[.int .u16 0, .bool false, .slice none 0 0] 25)
          clear hb7
          go_upto_region 9 with fail
          generalize (w7.alloc (.cells #[.int .u16 0, .bool false, .slice none 0 0] 25)) = w8 at *
          generalize w7.heap.size = b7 at *
          have hs8 := hb8.size
          go_wp2_with fail
          refine (Jr.join (some ⟨g, 0, none⟩) M c' w6.heap.size (ds.take M) (bb.take M) w8 (by omega) hs8 (reads_init ((unhide HP).2.2.2.2.keep (fun p hp => hb8.cell hp))) (rdb_take ((unhide HP).1.rd.keep (fun p hp => hb8.cell hp)) M) (by have := tot_take_le bb M; have := (unhide HP).2.2.2.1; omega)).mono ?_
          intro e w9 hj
          rcases hj with ⟨d0, A', c7, p0, p1, p2, _⟩ | ⟨_, rfl, hb9⟩
          · exact absurd ⟨d0, p0, p1, p2⟩ (no_last (N := M + 1) (unhide HP).2.1 (by omega))
          have hb10 := (below_then hb8 hs8 hb9).alloc (by have := hb9.size; omega) (.cells #[.int .u16 0, .bool false, .slice none 0 0] 25)
          clear hb9 hb8
          go_upto_region 10 with fail
          generalize (w9.alloc (.cells #[.int .u16 0, .bool false, .slice none 0 0] 25)) = w10 at *
          generalize w9.heap.size = b9 at *
          have hs10 := hb10.size
          have hr10 := (unhide HP).2.2.2.2.keep (w' := w10) (fun p hp => hb10.cell hp)
          go_upto_region 12 with (at_builtin; refine wpList_append_any _ rfl (.tmp 66) (.tmp 67) _ rfl w10.heap.size 38 i0 _ 7 40 Try.underlying29 hi0 hz0 hz1 hz2 rfl (by omega) (.slice none 0 0) 0 [] rfl (own_none _ _ _ _) w6.heap.size (some ⟨g, 0, none⟩) (M + 1) c' (dts ds) rfl hr10 (dts_one ds) (by simp only [maxLen]; omega) (by omega) (Nat.le_refl _) ?_; intro v1 w11 hown11 hg11 hat11; simp only [Nat.zero_add, List.nil_append] at hown11; obtain ⟨A11, c11, rfl, _, _⟩ := own_slice hown11)
          have hb11 : Below w10.heap.size w10 w11 := (Below.refl _ _).grown hg11 (Nat.le_refl _) (by intro g hg; simp [Value.ownBlock] at hg)
          have hB11 := below_then hb10 hs10 hb11
          obtain ⟨g4, c4, hv4, hg4b, hg4l⟩ := hown11.form (by omega)
          obtain ⟨e4, rfl⟩ : A11 = some ⟨g4, 0, none⟩ ∧ c11 = c4 := by injection hv4 with a b c; exact ⟨a, c⟩
          subst e4
          obtain ⟨ad, x, hae, hab, hx, q0, q1, q2, q3, q4, q5, q6⟩ := dat_ ((unhide HP).2.2.2.2.keep (w' := w11) (fun p hp => hB11.cell hp)) M (by omega)
          injection hae with hae
          subst hae
          obtain ⟨ad, y, hae, _, hy, y0, y1, y2, y3, y4, y5, y6⟩ := dat_ ((unhide HP).2.2.2.2.keep (w' := w11) (fun p hp => hB11.cell hp)) 0 (by omega)
          injection hae with hae
          subst hae
          obtain ⟨ad, z, hae, _, hz, v0, v1, v2, v3, v4, v5, v6⟩ := dat_ (Reads.of_own hown11) 0 (by omega)
          injection hae with hae
          subst hae
          simp only [Addr.add_lit, Nat.zero_add, Nat.zero_mul] at v0 v1 v2 v3 v4 v5 v6 q0 q1 q2 q3 q4 q5 q6 y0 y1 y2 y3 y4 y5 y6
          have hgg : g ≠ g4 := by have : g < w6.heap.size := hab; omega
          have hgg' : g4 ≠ g := hgg.symm
          have hfz : ∀ j, w11.frozen? ⟨g4, j, none⟩ = false := hown11.frozenAt
          have HX := hide (And.intro hx hy)
          have HO := hide (And.intro hown11 (And.intro hB11 hg4b))
          clear hx hy hz hv4 hown11 hB11 hb11 hg11 hat11 hb10 hr10
          go_upto_region 13 with fail
          have ho12 := own_put_dt (k := 0) (unhide HO).1 x (unhide HX).2
          have hB12 := ((((((((unhide HO).2.1.setCell (p := ⟨g4, 0, none⟩) (by show _ ≤ g4; omega) (.int .u32 x.tsn)).setCell (p := ⟨g4, 1, none⟩) (by show _ ≤ g4; omega) (.int .u16 x.st)).setCell (p := ⟨g4, 2, none⟩) (by show _ ≤ g4; omega) (.int .u16 x.ssn)).setCell (p := ⟨g4, 3, none⟩) (by show _ ≤ g4; omega) (.bool x.un)).setCell (p := ⟨g4, 4, none⟩) (by show _ ≤ g4; omega) (.bool x.fi)).setCell (p := ⟨g4, 5, none⟩) (by show _ ≤ g4; omega) (.bool x.la)).setCell (p := ⟨g4, 6, none⟩) (by show _ ≤ g4; omega) (.slice x.A x.n x.c))
          simp only [Nat.zero_mul, Nat.zero_add] at ho12
          have hg4c := (unhide HO).2.2
          clear q0 q1 q2 q3 q4 q5 q6 y0 y1 y2 y3 y4 y5 y6 v0 v1 v2 v3 v4 v5 v6 hfz HO
          generalize (((((((w11.setCell ⟨g4, 0, none⟩ (.int .u32 x.tsn)).setCell ⟨g4, 1, none⟩ (.int .u16 x.st)).setCell ⟨g4, 2, none⟩ (.int .u16 x.ssn)).setCell ⟨g4, 3, none⟩ (.bool x.un)).setCell ⟨g4, 4, none⟩ (.bool x.fi)).setCell ⟨g4, 5, none⟩ (.bool x.la)).setCell ⟨g4, 6, none⟩ (.slice x.A x.n x.c)) = w12 at *
          obtain ⟨ad, y', hae, _, hy', y0, y1, y2, y3, y4, y5, y6⟩ := dat_ ((unhide HP).2.2.2.2.keep (w' := w12) (fun p hp => hB12.cell hp)) 0 (by omega)
          injection hae with hae
          subst hae
          obtain rfl : y = y' := by have e1 := (unhide HX).2; rw [hy'] at e1; exact (Option.some.inj e1).symm
          obtain ⟨ad, z', hae, _, hz', v0, v1, v2, v3, v4, v5, v6⟩ := dat_ (Reads.of_own ho12) M (by omega)
          injection hae with hae
          subst hae
          simp only [Addr.add_lit, Nat.zero_add, Nat.zero_mul] at v0 v1 v2 v3 v4 v5 v6 y0 y1 y2 y3 y4 y5 y6
          have hfz : ∀ j, w12.frozen? ⟨g4, j, none⟩ = false := ho12.frozenAt
          have HO := hide (And.intro ho12 (And.intro hB12 hz'))
          clear hy' hz' ho12 hB12
          go_upto_region 14 with fail
          have ho13 := own_put_dt (k := M) (unhide HO).1 y (unhide HO).2.2
          have hB13 := ((((((((unhide HO).2.1.setCell (p := ⟨g4, M * 7, none⟩) (by show _ ≤ g4; omega) (.int .u32 y.tsn)).setCell (p := ⟨g4, M * 7 + 1, none⟩) (by show _ ≤ g4; omega) (.int .u16 y.st)).setCell (p := ⟨g4, M * 7 + 2, none⟩) (by show _ ≤ g4; omega) (.int .u16 y.ssn)).setCell (p := ⟨g4, M * 7 + 3, none⟩) (by show _ ≤ g4; omega) (.bool y.un)).setCell (p := ⟨g4, M * 7 + 4, none⟩) (by show _ ≤ g4; omega) (.bool y.fi)).setCell (p := ⟨g4, M * 7 + 5, none⟩) (by show _ ≤ g4; omega) (.bool y.la)).setCell (p := ⟨g4, M * 7 + 6, none⟩) (by show _ ≤ g4; omega) (.slice y.A y.n y.c))
          clear y0 y1 y2 y3 y4 y5 y6 v0 v1 v2 v3 v4 v5 v6 hfz HO
          generalize (((((((w12.setCell ⟨g4, M * 7, none⟩ (.int .u32 y.tsn)).setCell ⟨g4, M * 7 + 1, none⟩ (.int .u16 y.st)).setCell ⟨g4, M * 7 + 2, none⟩ (.int .u16 y.ssn)).setCell ⟨g4, M * 7 + 3, none⟩ (.bool y.un)).setCell ⟨g4, M * 7 + 4, none⟩ (.bool y.fi)).setCell ⟨g4, M * 7 + 5, none⟩ (.bool y.la)).setCell ⟨g4, M * 7 + 6, none⟩ (.slice y.A y.n y.c)) = w13 at *
          have hs13 := hB13.size
          have hrd := rd_more ((unhide HP).1.rd.keep (w' := w13) (fun p hp => hB13.cell hp)) hs13
          obtain ⟨bx, hbx1, hbx⟩ := hrd.at_ (unhide HX).1
          obtain ⟨bz, hbz1, hbz⟩ := hrd.at_ (unhide HX).2
          have hrd2 := rdb_put (rdb_put hrd 0 hbx) M hbz
          have htt2 : tot ((bb.set 0 bx).set M bz) ≤ 1000000000 := by
            have e1 := tot_set_le (bb.set 0 bx) M bz
            have e2 := tot_set_le bb 0 bx
            have e3 := tot_next hbx1
            have e4 := tot_take_le bb (M + 1)
            have e5 := tot_next hbz1
            have e6 := tot_take_le bb (0 + 1)
            have := (unhide HP).2.2.2.1
            omega
          have HJ := hide (And.intro ho13 (And.intro hrd2 htt2))
          clear hbx1 hbx hbz1 hbz hrd hrd2 htt2 ho13
          go_wp2_with fail
          refine (Jr.join (some ⟨g4, 0, none⟩) (M + 1) c11 w13.heap.size ((ds.set 0 x).set M y) ((bb.set 0 bx).set M bz) w13 (by omega) (Nat.le_refl _) (Reads.of_own (unhide HJ).1) (unhide HJ).2.1 (unhide HJ).2.2).mono ?_
          intro e w14 hj
          rcases hj with ⟨d0, A', c7, p0, p1, p2, _⟩ | ⟨_, rfl, hb14⟩
          · exact absurd ⟨d0, p0, p1, p2⟩ (no_swap (N := M + 1) (unhide HP).2.1 (by omega) (unhide HX).1)
          have hB15 := (below_then hB13 hs13 hb14).alloc (by have := hb14.size; omega) (.cells #[.int .u16 0, .bool false, .slice none 0 0] 25)
          clear hb14 hB13
          go_upto_region 17 with fail
          generalize (w14.alloc (.cells #[.int .u16 0, .bool false, .slice none 0 0] 25)) = w15 at *
          generalize w14.heap.size = b14 at *
          obtain ⟨p, hp⟩ : ∃ p, p = s0 % (M + 1) := ⟨_, rfl⟩
          have hpl : p < M + 1 := by rw [hp]; exact Nat.mod_lt _ (by omega)
          have hmz : ((M : Int) + 1 == 0) = false := by rw [beq_eq_false_iff_ne]; omega
          have hwr : IntKind.i64.wrap (s0 : Int) = s0 := by rw [IntKind.wrap_i64]; omega
          have hrem : ((s0 : Int)).tmod ((M : Int) + 1) = (p : Int) := by rw [hp, show ((M : Int) + 1) = ((M + 1 : Nat) : Int) by omega, ← Int.ofNat_tmod]
          have HB15 := hide hB15
          clear hp hB15 hg4c hg4b hgg hgg'
          go_wp2_with fail
          go_loopw [19] (fun i wr => ∃ k : Nat, k ≤ 3 ∧ i = .int .i64 k ∧ Below w6.heap.size w6 wr) (fun i _ => 3 - (intOf i).toNat)
          case atStart => exact ⟨0, by omega, rfl, unhide HB15⟩
          case round =>
            obtain ⟨k, hk, rfl, hbr⟩ := hrel
            have hsr := hbr.size
            by_cases hlt : k < 3
            · have hr16 := (unhide HP).2.2.2.2.keep (w' := wr) (fun p hp => hbr.cell hp)
              go_upto_region 23 with (at_builtin; refine wpList_append_any _ rfl (.tmp 106) (.tmp 107) _ rfl wr.heap.size 38 i0 _ 7 40 Try.underlying29 hi0 hz0 hz1 hz2 rfl (by omega) (.slice none 0 0) 0 [] rfl (own_none _ _ _ _) w6.heap.size (some ⟨g, 0, none⟩) (M + 1) c' (dts ds) rfl hr16 (dts_one ds) (by simp only [maxLen]; omega) (by omega) (Nat.le_refl _) ?_; intro v1 w16 hown16 hg16 hat16; simp only [Nat.zero_add, List.nil_append] at hown16; obtain ⟨A16, c16, rfl, _, _⟩ := own_slice hown16)
              have hb16 : Below wr.heap.size wr w16 := (Below.refl _ _).grown hg16 (Nat.le_refl _) (by intro g hg; simp [Value.ownBlock] at hg)
              have hB16 := below_then hbr hsr hb16
              obtain ⟨g5, c5, hv5, hg5b, hg5l⟩ := hown16.form (by omega)
              obtain ⟨e5, rfl⟩ : A16 = some ⟨g5, 0, none⟩ ∧ c16 = c5 := by injection hv5 with a b c; exact ⟨a, c⟩
              subst e5
              obtain ⟨ad, d, hae, _, hd, v0, v1, v2, v3, v4, v5, v6⟩ := dat_ (Reads.of_own hown16) p hpl
              injection hae with hae
              subst hae
              simp only [Addr.add_lit, Nat.zero_add] at v0 v1 v2 v3 v4 v5 v6
              have hfz : ∀ j, w16.frozen? ⟨g5, j, none⟩ = false := hown16.frozenAt
              have hmw := hm6.below hB16 (by omega)
              have x1 := hmw.cell 1
              have HO := hide (And.intro hown16 (And.intro hB16 hd))
              clear hown16 hB16 hd hb16 hg16 hat16 hr16 hv5
              rcases (show k = 0 ∨ k = 1 ∨ k = 2 by omega) with rfl | rfl | rfl
              · go_upto_region 29 with fail
                have ho17 := own_set_dt (j := 1) (u := .int .u16 (IntKind.u16.wrap (d.st + 1))) (unhide HO).1 (unhide HO).2.2 (d' := { d with st := IntKind.u16.wrap (d.st + 1) }) rfl (by omega)
                have hB17 := (unhide HO).2.1.setCell (p := ⟨g5, p * 7 + 1, none⟩) (by show _ ≤ g5; omega) (.int .u16 (IntKind.u16.wrap (d.st + 1)))
                clear v0 v1 v2 v3 v4 v5 v6 hfz x1 hmw
                generalize (w16.setCell ⟨g5, p * 7 + 1, none⟩ (.int .u16 (IntKind.u16.wrap (d.st + 1)))) = w17 at *
                have hrd := rdb_set (rd_more ((unhide HP).1.rd.keep (w' := w17) (fun p hp => hB17.cell hp)) hB17.size) (e := { d with st := IntKind.u16.wrap (d.st + 1) }) (unhide HO).2.2 rfl rfl rfl
                have hs17 := hB17.size
                go_wp2_with fail
                refine (Jr.join (some ⟨g5, 0, none⟩) (M + 1) c16 w17.heap.size (ds.set p { d with st := IntKind.u16.wrap (d.st + 1) }) bb w17 (by omega) (Nat.le_refl _) (Reads.of_own ho17) hrd (by have := (unhide HP).2.2.2.1; omega)).mono ?_
                intro e w18 hj
                rcases hj with ⟨d0, A', c7, p0, p1, p2, _⟩ | ⟨_, rfl, hb18⟩
                · exact absurd ⟨d0, p0, p1, p2⟩ (no_turn (N := M + 1) (unhide HP).2.1 (by omega) (unhide HO).2.2 (.inl (by have := ((unhide HP).2.1.2 p d (unhide HO).2.2).2.1; rw [IntKind.wrap_u16]; show (d.st + 1) % 65536 ≠ d.st; omega)))
                have HZ := hide ((below_then hB17 hs17 hb18).alloc (by have := hb18.size; omega) (.cells #[.int .u16 0, .bool false, .slice none 0 0] 25))
                clear hb18 ho17 hB17 hrd
                go_wp2_with fail
                go_roundw
                case rel => exact ⟨1, by omega, by go_num, unhide HZ⟩
                case measure => simp [intOf]
              · go_upto_region 29 with fail
                have ho17 := own_set_dt (j := 2) (u := .int .u16 s1) (unhide HO).1 (unhide HO).2.2 (d' := { d with ssn := s1 }) rfl (by omega)
                have hB17 := (unhide HO).2.1.setCell (p := ⟨g5, p * 7 + 2, none⟩) (by show _ ≤ g5; omega) (.int .u16 s1)
                clear v0 v1 v2 v3 v4 v5 v6 hfz x1 hmw
                generalize (w16.setCell ⟨g5, p * 7 + 2, none⟩ (.int .u16 s1)) = w17 at *
                have hrd := rdb_set (rd_more ((unhide HP).1.rd.keep (w' := w17) (fun p hp => hB17.cell hp)) hB17.size) (e := { d with ssn := s1 }) (unhide HO).2.2 rfl rfl rfl
                have hs17 := hB17.size
                have hiff := ssn_iff (N := M + 1) (unhide HP).2.1 (by omega) (unhide HO).2.2 (unhide HP).2.2.1 s1
                go_wp2_with fail
                refine (Jr.join (some ⟨g5, 0, none⟩) (M + 1) c16 w17.heap.size (ds.set p { d with ssn := s1 }) bb w17 (by omega) (Nat.le_refl _) (Reads.of_own ho17) hrd (by have := (unhide HP).2.2.2.1; omega)).mono ?_
                intro e w18 hj
                rcases hj with ⟨d0, A', c7, p0, p1, p2, rfl, _, hb18⟩ | ⟨hnf, rfl, hb18⟩
                · have hbz := (below_then hB17 hs17 hb18).alloc (by have := hb18.size; omega) (.cells #[.int .u16 d0.st, .bool (!d0.un), .slice A' (tot bb) c7] 25)
                  have HZ := hide hbz
                  obtain ⟨ad, d', hae, _, hd', _, _, z2, _, _, _, _⟩ := dat_ ((unhide HP).2.2.2.2.keep (fun p hp => hbz.cell hp)) p hpl
                  injection hae with hae
                  subst hae
                  obtain rfl : d = d' := by have e1 := (unhide HO).2.2; rw [hd'] at e1; exact (Option.some.inj e1).symm
                  simp only [Addr.add_lit, Nat.zero_add] at z2
                  have hff : (s1 == d.ssn) = true := by rw [beq_iff_eq]; exact hiff.1 ⟨d0, p0, p1, p2⟩
                  clear hb18 ho17 hB17 hrd hbz hd' hiff
                  go_wp2_with fail
                  go_roundw
                  case rel => exact ⟨2, by omega, by go_num, unhide HZ⟩
                  case measure => simp [intOf]
                · have hbz := (below_then hB17 hs17 hb18).alloc (by have := hb18.size; omega) (.cells #[.int .u16 0, .bool false, .slice none 0 0] 25)
                  have HZ := hide hbz
                  obtain ⟨ad, d', hae, _, hd', _, _, z2, _, _, _, _⟩ := dat_ ((unhide HP).2.2.2.2.keep (fun p hp => hbz.cell hp)) p hpl
                  injection hae with hae
                  subst hae
                  obtain rfl : d = d' := by have e1 := (unhide HO).2.2; rw [hd'] at e1; exact (Option.some.inj e1).symm
                  simp only [Addr.add_lit, Nat.zero_add] at z2
                  have hff : (s1 == d.ssn) = false := by rw [beq_eq_false_iff_ne]; exact fun h => hnf (hiff.2 h)
                  clear hb18 ho17 hB17 hrd hbz hd' hiff
                  go_wp2_with fail
                  go_roundw
                  case rel => exact ⟨2, by omega, by go_num, unhide HZ⟩
                  case measure => simp [intOf]
              · go_upto_region 29 with fail
                have ho17 := own_set_dt (j := 3) (u := .bool o) (unhide HO).1 (unhide HO).2.2 (d' := { d with un := o }) rfl (by omega)
                have hB17 := (unhide HO).2.1.setCell (p := ⟨g5, p * 7 + 3, none⟩) (by show _ ≤ g5; omega) (.bool o)
                clear v0 v1 v2 v3 v4 v5 v6 hfz x1 hmw
                generalize (w16.setCell ⟨g5, p * 7 + 3, none⟩ (.bool o)) = w17 at *
                have hrd := rdb_set (rd_more ((unhide HP).1.rd.keep (w' := w17) (fun p hp => hB17.cell hp)) hB17.size) (e := { d with un := o }) (unhide HO).2.2 rfl rfl rfl
                have hs17 := hB17.size
                go_wp2_with fail
                refine (Jr.join (some ⟨g5, 0, none⟩) (M + 1) c16 w17.heap.size (ds.set p { d with un := o }) bb w17 (by omega) (Nat.le_refl _) (Reads.of_own ho17) hrd (by have := (unhide HP).2.2.2.1; omega)).mono ?_
                intro e w18 hj
                rcases hj with ⟨d0, A', c7, p0, p1, p2, _⟩ | ⟨_, rfl, hb18⟩
                · exact absurd ⟨d0, p0, p1, p2⟩ (no_turn (N := M + 1) (unhide HP).2.1 (by omega) (unhide HO).2.2 (.inr (.inr (by have := ((unhide HP).2.1.2 p d (unhide HO).2.2).2.2.2.1; show o ≠ d.un; rw [this]; cases o <;> decide))))
                have HZ := hide ((below_then hB17 hs17 hb18).alloc (by have := hb18.size; omega) (.cells #[.int .u16 0, .bool false, .slice none 0 0] 25))
                clear hb18 ho17 hB17 hrd
                go_wp2_with fail
                go_roundw
                case rel => exact ⟨3, by omega, by go_num, unhide HZ⟩
                case measure => simp [intOf]
            · obtain rfl : k = 3 := by omega
              have HZ := hide (below_then (unhide HB6) (unhide HB6).size hbr)
              go_wp2_with fail
              refine (Wk.works _).mono ?_
              rintro e w17 ⟨rfl, hb17⟩
              go_wp2
              go_ret
              exact ⟨rfl, below_then (unhide HZ) (unhide HZ).size hb17⟩
theorem walkI (st : Int) (o : Bool) (A : Option Addr) (n c B : Nat) (most s0 s1 : Int) (xs : List Int) (w : World) (hst : 0 ≤ st ∧ st ≤ 65535) (hs0 : 0 ≤ s0 ∧ s0 ≤ 65535) (h0 : -9223372036854775808 ≤ most) (h1 : most ≤ 9223372036854775807) (hn : n ≤ 9223372036854775807) (hc : n ≤ c) (hB : B ≤ w.heap.size) (h : Reads w B 1 A n (bs xs)) (hok : Hid (BOk xs)) :
    Calls Try.prog 7 #[.agg #[.int .u16 st, .bool o, .slice A n c], .int .i64 most, .agg #[.int .u16 s0, .int .u16 s1]] w fun e w' => e = .returned (.bool true) ∧ Below w.heap.size w w' := by
  obtain ⟨m, rfl⟩ := Int.eq_ofNat_of_zero_le hs0.1
  exact walk st o A n c B most s1 m xs w hst (by omega) h0 h1 hn hc hB h hok
theorem own : ownKnob Try.prog.godebug = none := by kernel_rfl
theorem laidOut : laidOutB Try.prog = true := by kernel_rfl
set_option maxRecDepth 100000 in
theorem lifted (os : Os) (started : os.Started) (H : Type) (enc : TypeId × Value → H) :
    ReturnsInHanded {} Try.checked os 7 .any (Rows.fragWantsSpec.pre6 enc Try.prog Try.f7 Rows.fragWantsRow.domain false) (Rows.fragWantsSpec.post enc Try.prog Try.f7 false true false false) := by
  refine returnsInHanded_of_change (C := Try.checked) own started (by kernel_rfl) Try.func7
    (ChangeSpec.witness6 (enc := enc) (C := Try.checked) false ⟨#[], #[.agg #[.int .u16 0, .bool false, .slice none 0 0], .int .i64 0, .agg #[.int .u16 0, .int .u16 0]], []⟩ 8 (by kernel_rfl) (by kernel_rfl) (by kernel_rfl) (by kernel_rfl)) ?_
  intro W base args ds gs before hval0 hW hcnd _
  have hval : ∀ (j : Nat) t v, Try.f7.params[j]? = some t → args[j]? = some v → Value.okWide Try.prog W .any base t v := hval0
  have hW' := hW
  obtain ⟨p, q, hA0, hV, rfl, hfz, hnd⟩ := hW
  have hA : DataW.TrodAll enc Try.prog W 0 (fun _ => true) true Try.f7.params.toList args.toList ds p := hA0
  rw [Try.params7] at hA hval
  obtain ⟨v0, vs0, d0, ds0, p0, q0, hargs, rfl, rfl, h0, r0⟩ := trodAll_cons hA
  obtain ⟨v1, vs1, d1, ds1, p1, q1, rfl, rfl, rfl, h1, r1⟩ := trodAll_cons r0
  obtain ⟨v2, vs2, d2, ds2, p2, q2, rfl, rfl, rfl, h2, r2⟩ := trodAll_cons r1
  obtain ⟨rfl, rfl, rfl⟩ := trodAll_nil r2
  obtain rfl : args = #[v0, v1, v2] := by cases args; simp_all
  obtain ⟨rfl, rfl⟩ := trodVars_none hV
  have k0 := h0
  have lt0 : ∀ x ∈ p0, x.block < W.heap.size := by obtain ⟨m, hm⟩ := k0; exact DataW.trod_lt m _ _ _ hm
  have k1 := h1
  have lt1 : ∀ x ∈ p1, x.block < W.heap.size := by obtain ⟨m, hm⟩ := k1; exact DataW.trod_lt m _ _ _ hm
  have k2 := h2
  have lt2 : ∀ x ∈ p2, x.block < W.heap.size := by obtain ⟨m, hm⟩ := k2; exact DataW.trod_lt m _ _ _ hm
  obtain ⟨cs0, rfl, hsz0⟩ := okWide_struct Try.underlying25 (hval 0 25 v0 rfl rfl)
  obtain ⟨st0, o0, A0, len0, cap0, x0, rfl, b0, c0, hr0, ho0, hc0, hm0, hn0⟩ := Op.open_msg (by rw [hsz0]; exact Op.cells25) h0
  unfold maxLen at hm0
  obtain ⟨a1, rfl, rfl, rfl, w1⟩ := open_int Try.underlying3 (hval 1 3 v1 rfl rfl) h1
  obtain ⟨b1, c1⟩ := bounds_i64 w1
  obtain ⟨cs2, rfl, hsz2⟩ := okWide_struct Try.underlying50 (hval 2 50 v2 rfl rfl)
  obtain ⟨s2, a2, rfl, hs2, ha2⟩ := Op.open_skip (by rw [hsz2]; exact Op.cells50) h2
  clear hA0 hval0
  refine (walkI st0 o0 A0 len0 cap0 W.heap.size a1 s2 a2 x0 W ⟨b0, c0⟩ hs2 b1 c1 (by omega) hc0 (Nat.le_refl _) hr0 ho0).mono fun e W' ⟨he, bel⟩ => ?_
  subst he
  exact ⟨_, rfl, _, _, _, [], _, [], hW', trodAll_mk1 (shut_bool Try.underlying4 _), (trodAll_cons_mk (Below.trod laidOut (by kernel_rfl) (of_decide_eq_true (by kernel_rfl)) k0 bel lt0) (trodAll_cons_mk (Below.trod laidOut (by kernel_rfl) (of_decide_eq_true (by kernel_rfl)) k1 bel lt1) (trodAll_cons_mk (Below.trod laidOut (by kernel_rfl) (of_decide_eq_true (by kernel_rfl)) k2 bel lt2) trodAll_mk0))), rfl, bel.frame _, fun h => by cases h⟩
theorem over : Rows.fragWantsRow.holds Try.pinned (OpenSpec.ofChange Rows.fragWantsSpec) :=
  OpenClaim.holds_of_wide 7 Try.f7 rfl rfl rfl rfl rfl rfl rfl ⟨rfl, rfl, rfl, rfl, rfl⟩ rfl rfl rfl rfl rfl (by kernel_rfl) Try.func7 (by kernel_rfl)
    (of_decide_eq_true (by kernel_rfl)) (by unfold Func.isWrapper; first | (rw [if_pos (by decide +kernel)]; kernel_rfl) | (rw [if_neg (by decide +kernel)]; exact ⟨rfl, rfl⟩))
    (fun os started H enc _ => lifted os started H enc)
theorem proved : Rows.FragWantsSaid :=
  over
end Go.Proofs.Ytfgbegamdlafkaa.fragWants

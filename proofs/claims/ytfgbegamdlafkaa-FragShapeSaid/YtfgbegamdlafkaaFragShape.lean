/-
  Proved: the pieces of a cut message have the shape that they are to have; what is cut holds the message, in order.
  Conditions: none; every input.
-/
import Derived.Test.YtfgbegamdlafkaaWk
import Derived.Test.YtfgbegamdlafkaaOp
import Derived.Deep.QuietTactic
import Derived.BigQuiet
import Derived.Deep.DeepCutAuto
import Derived.Test.YtfgbegamdlafkaaRows
import Derived.ProofKit
import Derived.OpenShut
import Derived.Carry
set_option linter.unusedVariables false
set_option linter.unusedSimpArgs false
namespace Go.Proofs.Ytfgbegamdlafkaa.fragShape
open Go.ChangeShapes Go.WideShapes Go.ChangeAt
open Go.RowKit Wd Md Cm Cb Ch Ct Cu Jo Bk

theorem fi_spell (k : Nat) : decide (k = 0) = ((k : Int) == 0) := by
  by_cases h : k = 0
  · subst h; rfl
  · rw [decide_eq_false h]; symm; rw [beq_eq_false_iff_ne]; omega
theorem la_spell (k N : Nat) : decide (k + 1 = N) = ((k : Int) == (N : Int) - 1) := by
  by_cases h : k + 1 = N
  · rw [decide_eq_true h]; symm; rw [beq_iff_eq]; omega
  · rw [decide_eq_false h]; symm; rw [beq_eq_false_iff_ne]; omega

set_option maxRecDepth 100000 in
set_option maxHeartbeats 2000000 in
theorem walkT (st : Int) (A : Option Addr) (n c B : Nat) (s most : Int) (xs : List Int) (w : World) (h0 : -9223372036854775808 ≤ most) (h1 : most ≤ 9223372036854775807) (hn : n ≤ 9223372036854775807) (hc : n ≤ c) (hB : B ≤ w.heap.size) (h : Reads w B 1 A n (bs xs)) (hok : Hid (BOk xs)) :
    Calls Try.prog 6 #[.agg #[.int .u16 st, .bool true, .slice A n c], .int .u16 s, .int .i64 most] w fun e w' => e = .returned (.bool true) ∧ Below w.heap.size w w' := by
  have HR : Hid (Reads w B 1 A n (bs xs) ∧ BOk xs ∧ xs.length = n) := ⟨h, hok, blen_ h⟩
  clear h
  go_enter Try.func6, Try.ntmps6
  go_upto_region 1 with fail
  have hm3 := Blk.new w 25 #[.int .u16 st, .bool true, .slice A n c]
  have hb3 := (Below.refl w.heap.size w).alloc (Nat.le_refl _) (.cells #[.int .u16 st, .bool true, .slice A n c] 25)
  generalize (w.alloc (.cells #[.int .u16 st, .bool true, .slice A n c] 25)) = w3 at *
  have x0 := hm3.cell 0
  have x1 := hm3.cell 1
  have x2 := hm3.cell 2
  have hs3 := hb3.size
  have hml := hm3.lt
  go_wp2_with fail
  refine (c10 st true A n c most w3 hn h0 h1).mono ?_
  rintro e w4 ⟨rfl, hb4⟩
  have hb5 := below_then hb3 hb3.size hb4
  have hm5 := hm3.below hb4 hml
  have hs4 := hb4.size
  have HB5 := hide hb5
  clear x0 x1 x2 hb4 hb3 hm3 hb5
  have x0 := hm5.cell 0
  have x1 := hm5.cell 1
  have x2 := hm5.cell 2
  cases hl1 : longB n most with
  | true =>
    go_wp2_with fail
    refine (Wk.works _).mono ?_
    rintro e w6 ⟨rfl, hb6⟩
    go_wp2
    go_ret
    exact ⟨rfl, below_then (unhide HB5) (unhide HB5).size hb6⟩
  | false =>
    clear hl1
    by_cases hbig : 65536 < n
    · go_wp2_with fail
      refine (Wk.works _).mono ?_
      rintro e w6 ⟨rfl, hb6⟩
      go_wp2
      go_ret
      exact ⟨rfl, below_then (unhide HB5) (unhide HB5).size hb6⟩
    · have hbig' : n ≤ 65536 := by omega
      clear hbig
      go_wp2_with fail
      refine (cut st s true A n c B most xs w4 hn h0 h1 hc (by omega) ((unhide HR).1.keep (fun p hp => (unhide HB5).cell (by omega))) (unhide HR).2.1).mono ?_
      intro e w6 hcut
      have hlt5 : w.heap.size < w4.heap.size := by omega
      rcases hcut with ⟨hm, rfl, hb6⟩ | ⟨hm, hx, rfl, hb6⟩ | ⟨mm, rfl, hm, hx, hx2, hcp⟩
      · have HB6 := hide (below_then (unhide HB5) (unhide HB5).size hb6)
        have hm6 := hm5.below hb6 hlt5
        clear x0 x1 x2 hb6 hm5
        have x0 := hm6.cell 0
        have x1 := hm6.cell 1
        have x2 := hm6.cell 2
        go_wp2_with fail
        refine (Wk.works _).mono ?_
        rintro e w7 ⟨rfl, hb7⟩
        go_wp2
        go_ret
        exact ⟨by simp <;> omega, below_then (unhide HB6) (unhide HB6).size hb7⟩
      · have HB6 := hide (below_then (unhide HB5) (unhide HB5).size hb6)
        have hm6 := hm5.below hb6 hlt5
        obtain rfl : n = 0 := by have := (unhide HR).2.2; omega
        clear x0 x1 x2 hb6 hm5 hx
        have x0 := hm6.cell 0
        have x1 := hm6.cell 1
        have x2 := hm6.cell 2
        go_wp2_with fail
        refine (Wk.works _).mono ?_
        rintro e w7 ⟨rfl, hb7⟩
        go_wp2
        go_ret
        exact ⟨by simp <;> omega, below_then (unhide HB6) (unhide HB6).size hb7⟩
      · obtain ⟨g, c', ds, rfl, hdl, hown6, hOw, hPc, hb6⟩ := Wk.cut_made (.inr (.inr ⟨mm, rfl, hm, hx, hx2, hcp⟩)) hm ⟨hx, hx2⟩
        have hxl := (unhide HR).2.2
        have hn0 : 0 < n := by omega
        obtain ⟨N, hNN⟩ : ∃ N, N = nch mm xs.length := ⟨_, rfl⟩
        rw [← hNN] at hdl hown6 hOw hPc ⊢
        have hNq : N ≤ 65536 ∧ 0 < N := by
          have h2 := (nch_pos (mm := mm) hx).1
          have h3 : nch mm xs.length ≤ xs.length := by
            rcases Nat.lt_or_ge xs.length (nch mm xs.length) with h | h
            · have := (nch_lt (mm := mm) (n := xs.length) (k := xs.length) hm).1 h
              have := Nat.le_mul_of_pos_right xs.length hm
              omega
            · exact h
          omega
        obtain ⟨hN1, hN0⟩ := hNq
        have hNL : Hid (∀ k, k < N ↔ k * mm < n) := by
          intro k
          rw [hNN, ← hxl]
          exact nch_lt hm
        have HX := hide (And.intro hxl hNN)
        have HP := hide (And.intro hOw (And.intro hPc (And.intro hdl (Reads.of_own hown6))))
        have HB6 := hide (below_then (unhide HB5) (unhide HB5).size hb6)
        have hm6 := hm5.below hb6 hlt5
        have hs6 := hb6.size
        have hnz : ((n : Int) == 0) = false := by rw [beq_eq_false_iff_ne]; omega
        have hNz : ((N : Int) == 0) = false := by rw [beq_eq_false_iff_ne]; omega
        clear x0 x1 x2 hb6 hm5 hxl hNN hdl hOw hPc hown6 hcp hx hx2 HB5
        have x0 := hm6.cell 0
        have x1 := hm6.cell 1
        have x2 := hm6.cell 2
        go_wp2_with fail
        clear hnz hNz x0 x1 x2
        go_loopw [10, 11] (fun v i wr => ∃ k j : Nat, k ≤ N ∧ i = .int .i64 k ∧ v = .int .i64 j ∧ Hid (j = min (k * mm) n) ∧ Below w6.heap.size w6 wr) (fun _ i _ => N - (intOf i).toNat)
        case atStart => exact ⟨0, 0, by omega, rfl, rfl, by show 0 = min (0 * mm) n; simp, Below.refl _ _⟩
        case round =>
          obtain ⟨k, j, hk, rfl, rfl, hJ, hbr⟩ := hrel
          have hsr := hbr.size
          have hmr := hm6.below hbr (by omega)
          by_cases hlt : k < N
          · have hJk : j = k * mm ∧ j < n := by have e1 := unhide hJ; have e2 := (unhide hNL k).1 hlt; omega
            obtain ⟨ad, d, hae, hab, hd, q0, q1, q2, q3, q4, q5, q6⟩ := dat_ ((unhide HP).2.2.2.keep (w' := wr) (fun p hp => hbr.cell hp)) k hlt
            injection hae with hae
            subst hae
            obtain ⟨a1, a2, a3, a4, a5, a6⟩ := (unhide HP).2.1 k d hd
            obtain ⟨b, hb1, rb, cb, ob⟩ := ((unhide HP).1.rd.keep (w' := wr) (fun p hp => hbr.cell hp)).at_ hd
            have hbe : b = chk mm xs k := by
              rw [List.getElem?_map, List.getElem?_range hlt] at hb1
              exact (Option.some.inj hb1).symm
            subst hbe
            have hq := blen_ rb
            have hq0 := hq
            rw [chk_length, (unhide HX).1] at hq
            simp only [Addr.add_lit, Nat.zero_add] at q0 q1 q2 q3 q4 q5 q6
            rw [a1] at q0
            rw [a2] at q1
            rw [a3, if_pos rfl] at q2
            rw [a4] at q3
            rw [a5, fi_spell] at q4
            rw [a6, la_spell] at q5
            obtain ⟨A', n', c'', hdA, hdn, hdc⟩ : ∃ A' n' c'', A' = d.A ∧ n' = d.n ∧ c'' = d.c := ⟨_, _, _, rfl, rfl, rfl⟩
            rw [← hdA, ← hdn, ← hdc] at q6
            rw [← hdn, ← hJk.1] at hq
            rw [← hdn] at hq0
            rw [← hdA, ← hdn] at rb
            obtain ⟨ax, hA, hax, _⟩ := (unhide HR).1.2 hn0
            subst hA
            have hbw := below_then (unhide HB6) (unhide HB6).size hbr
            have hrc : Reads wr B 1 (some (ax.add j)) n' (bs (chk mm xs k)) := by
              have := chk_reads (mm := mm) ((unhide HR).1.keep (w' := wr) (fun p hp => hbw.cell (by omega))) k
              rw [hJk.1, ← hq0]
              exact this
            have HK := hide hJk
            have hjn := hJk.2
            have hnx : min (k * mm + mm) n = j + n' := by omega
            have HNX := hide hnx
            have hlast := unhide hNL (k + 1)
            rw [Nat.add_mul, Nat.one_mul] at hlast
            have hq1 : 1 ≤ n' := by omega
            have hq2 : n' ≤ mm := by omega
            have hq3 : j + n' ≤ n := by omega
            have hql : k + 1 < N → n' = mm := by intro h; have := hlast.1 h; omega
            have heq : decide (chk mm xs k = chk mm xs k) = true := decide_eq_true rfl
            clear hJ hJk hq hq0 hnx hlast hdA hdn hdc hb1 a1 a2 a3 a4 a5 a6 hab
            have y0 := hmr.cell 0
            have y1 := hmr.cell 1
            have y2 := hmr.cell 2
            go_upto_region 16 with fail
            have hd7 := Blk.new wr 38 #[.int .u32 0, .int .u16 st, .int .u16 s, .bool false, .bool ((k : Int) == 0), .bool ((k : Int) == (N : Int) - 1), .slice A' n' c'']
            have hm7 := hmr.alloc (.cells #[.int .u32 0, .int .u16 st, .int .u16 s, .bool false, .bool ((k : Int) == 0), .bool ((k : Int) == (N : Int) - 1), .slice A' n' c''] 38)
            have hb7 := hbr.alloc hsr (.cells #[.int .u32 0, .int .u16 st, .int .u16 s, .bool false, .bool ((k : Int) == 0), .bool ((k : Int) == (N : Int) - 1), .slice A' n' c''] 38)
            have hrc7 := hrc.alloc (by omega) (.cells #[.int .u32 0, .int .u16 st, .int .u16 s, .bool false, .bool ((k : Int) == 0), .bool ((k : Int) == (N : Int) - 1), .slice A' n' c''] 38)
            have hrb7 := rb.alloc (by omega) (.cells #[.int .u32 0, .int .u16 st, .int .u16 s, .bool false, .bool ((k : Int) == 0), .bool ((k : Int) == (N : Int) - 1), .slice A' n' c''] 38)
            have hbz : wr.heap.size < (wr.alloc (.cells #[.int .u32 0, .int .u16 st, .int .u16 s, .bool false, .bool ((k : Int) == 0), .bool ((k : Int) == (N : Int) - 1), .slice A' n' c''] 38)).heap.size := by simp
            generalize (wr.alloc (.cells #[.int .u32 0, .int .u16 st, .int .u16 s, .bool false, .bool ((k : Int) == 0), .bool ((k : Int) == (N : Int) - 1), .slice A' n' c''] 38)) = w7 at *
            clear q0 q1 q2 q3 q4 q5 q6 y0 y1 y2 hd
            have e0 := hd7.cell 0
            have e1 := hd7.cell 1
            have e2 := hd7.cell 2
            have e3 := hd7.cell 3
            have e4 := hd7.cell 4
            have e5 := hd7.cell 5
            have e6 := hd7.cell 6
            have y0 := hm7.cell 0
            have y1 := hm7.cell 1
            have y2 := hm7.cell 2
            have hb7s := hb7.size
            have hbwd := below_then (unhide HB6) (unhide HB6).size hb7
            have QC : ∀ q, Calls Try.prog 23 #[.slice A' n' c'', .slice (some (ax.add j)) n' (c - j)] (w7.drewN q) fun e w' => e = .returned (.bool true) ∧ ∃ m, w' = (w7.drewN q).drewN m := fun q => by
              have := c23 A' (some (ax.add j)) n' n' c'' (c - j) w6.heap.size B (chk mm xs k) (chk mm xs k) (w7.drewN q) (by omega) (by omega) hb7s (by show B ≤ w7.heap.size; omega) (hrb7.drewN q) (hrc7.drewN q) ob (by exact ob)
              rw [heq] at this
              exact this
            have HZ7 := hide hb7
            have htn : ((j : Int) + n').toNat = j + n' := by omega
            have hcj : ¬ c = j := by omega
            have hjc : j ≤ c := by omega
            have f1 : decide ((n' : Int) < 1) = false := decide_eq_false (by omega)
            have f2 : decide ((mm : Int) < (n' : Int)) = false := decide_eq_false (by omega)
            have f3 : decide (mm < n') = false := decide_eq_false (by omega)
            have f5 : decide ((n : Int) < (j : Int) + n') = false := decide_eq_false (by omega)
            clear heq hrb7 hrc7 rb hrc hb7 hbwd hbw hmr hd7 hm7
            go_upto_region 19 with fail
            rcases Nat.lt_or_ge (k + 1) N with hkl | hkl
            · obtain rfl := hql hkl
              have hkt : decide ((k : Int) < (N : Int) - 1) = true := decide_eq_true (by omega)
              go_quiet ((go_at_call 23; exact Calls.quiet_of (QC _)))
              go_wp2
              go_roundw
              case rel => exact ⟨k + 1, j + n', by omega, by go_num, by go_num, by show j + n' = min ((k + 1) * n') n; rw [Nat.add_mul, Nat.one_mul]; exact (unhide HNX).symm, below_drewN (unhide HZ7) _⟩
              case measure => simp [intOf]; omega
            · have hkt : decide ((k : Int) < (N : Int) - 1) = false := decide_eq_false (by omega)
              have hw1 : IntKind.i64.wrap ((j : Int) + n') = (j : Int) + n' := by rw [IntKind.wrap_i64]; omega
              have hw2 : IntKind.i64.wrap ((N : Int) - 1) = (N : Int) - 1 := by rw [IntKind.wrap_i64]; omega
              go_quiet ((go_at_call 23; exact Calls.quiet_of (QC _)))
              go_wp2
              go_roundw
              case rel => exact ⟨k + 1, j + n', by omega, by go_num, by go_num, by show j + n' = min ((k + 1) * mm) n; rw [Nat.add_mul, Nat.one_mul]; exact (unhide HNX).symm, below_drewN (unhide HZ7) _⟩
              case measure => simp [intOf]; omega
          · obtain rfl : k = N := by omega
            obtain rfl : j = n := by
              have e1 := unhide hJ
              have e2 := (unhide hNL k)
              have : ¬ k * mm < n := fun h => Nat.lt_irrefl _ (e2.2 h)
              omega
            have HZ := hide (below_then (unhide HB6) (unhide HB6).size hbr)
            have y0 := hmr.cell 0
            have y1 := hmr.cell 1
            have y2 := hmr.cell 2
            go_wp2_with fail
            refine (Wk.works _).mono ?_
            rintro e w7 ⟨rfl, hb9⟩
            go_wp2
            go_ret
            exact ⟨rfl, below_then (unhide HZ) (unhide HZ).size hb9⟩

set_option maxRecDepth 100000 in
set_option maxHeartbeats 2000000 in
theorem walkF (st : Int) (A : Option Addr) (n c B : Nat) (s most : Int) (xs : List Int) (w : World) (h0 : -9223372036854775808 ≤ most) (h1 : most ≤ 9223372036854775807) (hn : n ≤ 9223372036854775807) (hc : n ≤ c) (hB : B ≤ w.heap.size) (h : Reads w B 1 A n (bs xs)) (hok : Hid (BOk xs)) :
    Calls Try.prog 6 #[.agg #[.int .u16 st, .bool false, .slice A n c], .int .u16 s, .int .i64 most] w fun e w' => e = .returned (.bool true) ∧ Below w.heap.size w w' := by
  have HR : Hid (Reads w B 1 A n (bs xs) ∧ BOk xs ∧ xs.length = n) := ⟨h, hok, blen_ h⟩
  clear h
  go_enter Try.func6, Try.ntmps6
  go_upto_region 1 with fail
  have hm3 := Blk.new w 25 #[.int .u16 st, .bool false, .slice A n c]
  have hb3 := (Below.refl w.heap.size w).alloc (Nat.le_refl _) (.cells #[.int .u16 st, .bool false, .slice A n c] 25)
  generalize (w.alloc (.cells #[.int .u16 st, .bool false, .slice A n c] 25)) = w3 at *
  have x0 := hm3.cell 0
  have x1 := hm3.cell 1
  have x2 := hm3.cell 2
  have hs3 := hb3.size
  have hml := hm3.lt
  go_wp2_with fail
  refine (c10 st false A n c most w3 hn h0 h1).mono ?_
  rintro e w4 ⟨rfl, hb4⟩
  have hb5 := below_then hb3 hb3.size hb4
  have hm5 := hm3.below hb4 hml
  have hs4 := hb4.size
  have HB5 := hide hb5
  clear x0 x1 x2 hb4 hb3 hm3 hb5
  have x0 := hm5.cell 0
  have x1 := hm5.cell 1
  have x2 := hm5.cell 2
  cases hl1 : longB n most with
  | true =>
    go_wp2_with fail
    refine (Wk.works _).mono ?_
    rintro e w6 ⟨rfl, hb6⟩
    go_wp2
    go_ret
    exact ⟨rfl, below_then (unhide HB5) (unhide HB5).size hb6⟩
  | false =>
    clear hl1
    by_cases hbig : 65536 < n
    · go_wp2_with fail
      refine (Wk.works _).mono ?_
      rintro e w6 ⟨rfl, hb6⟩
      go_wp2
      go_ret
      exact ⟨rfl, below_then (unhide HB5) (unhide HB5).size hb6⟩
    · have hbig' : n ≤ 65536 := by omega
      clear hbig
      go_wp2_with fail
      refine (cut st s false A n c B most xs w4 hn h0 h1 hc (by omega) ((unhide HR).1.keep (fun p hp => (unhide HB5).cell (by omega))) (unhide HR).2.1).mono ?_
      intro e w6 hcut
      have hlt5 : w.heap.size < w4.heap.size := by omega
      rcases hcut with ⟨hm, rfl, hb6⟩ | ⟨hm, hx, rfl, hb6⟩ | ⟨mm, rfl, hm, hx, hx2, hcp⟩
      · have HB6 := hide (below_then (unhide HB5) (unhide HB5).size hb6)
        have hm6 := hm5.below hb6 hlt5
        clear x0 x1 x2 hb6 hm5
        have x0 := hm6.cell 0
        have x1 := hm6.cell 1
        have x2 := hm6.cell 2
        go_wp2_with fail
        refine (Wk.works _).mono ?_
        rintro e w7 ⟨rfl, hb7⟩
        go_wp2
        go_ret
        exact ⟨by simp <;> omega, below_then (unhide HB6) (unhide HB6).size hb7⟩
      · have HB6 := hide (below_then (unhide HB5) (unhide HB5).size hb6)
        have hm6 := hm5.below hb6 hlt5
        obtain rfl : n = 0 := by have := (unhide HR).2.2; omega
        clear x0 x1 x2 hb6 hm5 hx
        have x0 := hm6.cell 0
        have x1 := hm6.cell 1
        have x2 := hm6.cell 2
        go_wp2_with fail
        refine (Wk.works _).mono ?_
        rintro e w7 ⟨rfl, hb7⟩
        go_wp2
        go_ret
        exact ⟨by simp <;> omega, below_then (unhide HB6) (unhide HB6).size hb7⟩
      · obtain ⟨g, c', ds, rfl, hdl, hown6, hOw, hPc, hb6⟩ := Wk.cut_made (.inr (.inr ⟨mm, rfl, hm, hx, hx2, hcp⟩)) hm ⟨hx, hx2⟩
        have hxl := (unhide HR).2.2
        have hn0 : 0 < n := by omega
        obtain ⟨N, hNN⟩ : ∃ N, N = nch mm xs.length := ⟨_, rfl⟩
        rw [← hNN] at hdl hown6 hOw hPc ⊢
        have hNq : N ≤ 65536 ∧ 0 < N := by
          have h2 := (nch_pos (mm := mm) hx).1
          have h3 : nch mm xs.length ≤ xs.length := by
            rcases Nat.lt_or_ge xs.length (nch mm xs.length) with h | h
            · have := (nch_lt (mm := mm) (n := xs.length) (k := xs.length) hm).1 h
              have := Nat.le_mul_of_pos_right xs.length hm
              omega
            · exact h
          omega
        obtain ⟨hN1, hN0⟩ := hNq
        have hNL : Hid (∀ k, k < N ↔ k * mm < n) := by
          intro k
          rw [hNN, ← hxl]
          exact nch_lt hm
        have HX := hide (And.intro hxl hNN)
        have HP := hide (And.intro hOw (And.intro hPc (And.intro hdl (Reads.of_own hown6))))
        have HB6 := hide (below_then (unhide HB5) (unhide HB5).size hb6)
        have hm6 := hm5.below hb6 hlt5
        have hs6 := hb6.size
        have hnz : ((n : Int) == 0) = false := by rw [beq_eq_false_iff_ne]; omega
        have hNz : ((N : Int) == 0) = false := by rw [beq_eq_false_iff_ne]; omega
        clear x0 x1 x2 hb6 hm5 hxl hNN hdl hOw hPc hown6 hcp hx hx2 HB5
        have x0 := hm6.cell 0
        have x1 := hm6.cell 1
        have x2 := hm6.cell 2
        go_wp2_with fail
        clear hnz hNz x0 x1 x2
        go_loopw [10, 11] (fun v i wr => ∃ k j : Nat, k ≤ N ∧ i = .int .i64 k ∧ v = .int .i64 j ∧ Hid (j = min (k * mm) n) ∧ Below w6.heap.size w6 wr) (fun _ i _ => N - (intOf i).toNat)
        case atStart => exact ⟨0, 0, by omega, rfl, rfl, by show 0 = min (0 * mm) n; simp, Below.refl _ _⟩
        case round =>
          obtain ⟨k, j, hk, rfl, rfl, hJ, hbr⟩ := hrel
          have hsr := hbr.size
          have hmr := hm6.below hbr (by omega)
          by_cases hlt : k < N
          · have hJk : j = k * mm ∧ j < n := by have e1 := unhide hJ; have e2 := (unhide hNL k).1 hlt; omega
            obtain ⟨ad, d, hae, hab, hd, q0, q1, q2, q3, q4, q5, q6⟩ := dat_ ((unhide HP).2.2.2.keep (w' := wr) (fun p hp => hbr.cell hp)) k hlt
            injection hae with hae
            subst hae
            obtain ⟨a1, a2, a3, a4, a5, a6⟩ := (unhide HP).2.1 k d hd
            obtain ⟨b, hb1, rb, cb, ob⟩ := ((unhide HP).1.rd.keep (w' := wr) (fun p hp => hbr.cell hp)).at_ hd
            have hbe : b = chk mm xs k := by
              rw [List.getElem?_map, List.getElem?_range hlt] at hb1
              exact (Option.some.inj hb1).symm
            subst hbe
            have hq := blen_ rb
            have hq0 := hq
            rw [chk_length, (unhide HX).1] at hq
            simp only [Addr.add_lit, Nat.zero_add] at q0 q1 q2 q3 q4 q5 q6
            rw [a1] at q0
            rw [a2] at q1
            rw [a3, if_neg (by decide)] at q2
            rw [a4] at q3
            rw [a5, fi_spell] at q4
            rw [a6, la_spell] at q5
            obtain ⟨A', n', c'', hdA, hdn, hdc⟩ : ∃ A' n' c'', A' = d.A ∧ n' = d.n ∧ c'' = d.c := ⟨_, _, _, rfl, rfl, rfl⟩
            rw [← hdA, ← hdn, ← hdc] at q6
            rw [← hdn, ← hJk.1] at hq
            rw [← hdn] at hq0
            rw [← hdA, ← hdn] at rb
            obtain ⟨ax, hA, hax, _⟩ := (unhide HR).1.2 hn0
            subst hA
            have hbw := below_then (unhide HB6) (unhide HB6).size hbr
            have hrc : Reads wr B 1 (some (ax.add j)) n' (bs (chk mm xs k)) := by
              have := chk_reads (mm := mm) ((unhide HR).1.keep (w' := wr) (fun p hp => hbw.cell (by omega))) k
              rw [hJk.1, ← hq0]
              exact this
            have HK := hide hJk
            have hjn := hJk.2
            have hnx : min (k * mm + mm) n = j + n' := by omega
            have HNX := hide hnx
            have hlast := unhide hNL (k + 1)
            rw [Nat.add_mul, Nat.one_mul] at hlast
            have hq1 : 1 ≤ n' := by omega
            have hq2 : n' ≤ mm := by omega
            have hq3 : j + n' ≤ n := by omega
            have hql : k + 1 < N → n' = mm := by intro h; have := hlast.1 h; omega
            have heq : decide (chk mm xs k = chk mm xs k) = true := decide_eq_true rfl
            clear hJ hJk hq hq0 hnx hlast hdA hdn hdc hb1 a1 a2 a3 a4 a5 a6 hab
            have y0 := hmr.cell 0
            have y1 := hmr.cell 1
            have y2 := hmr.cell 2
            go_upto_region 16 with fail
            have hd7 := Blk.new wr 38 #[.int .u32 0, .int .u16 st, .int .u16 0, .bool true, .bool ((k : Int) == 0), .bool ((k : Int) == (N : Int) - 1), .slice A' n' c'']
            have hm7 := hmr.alloc (.cells #[.int .u32 0, .int .u16 st, .int .u16 0, .bool true, .bool ((k : Int) == 0), .bool ((k : Int) == (N : Int) - 1), .slice A' n' c''] 38)
            have hb7 := hbr.alloc hsr (.cells #[.int .u32 0, .int .u16 st, .int .u16 0, .bool true, .bool ((k : Int) == 0), .bool ((k : Int) == (N : Int) - 1), .slice A' n' c''] 38)
            have hrc7 := hrc.alloc (by omega) (.cells #[.int .u32 0, .int .u16 st, .int .u16 0, .bool true, .bool ((k : Int) == 0), .bool ((k : Int) == (N : Int) - 1), .slice A' n' c''] 38)
            have hrb7 := rb.alloc (by omega) (.cells #[.int .u32 0, .int .u16 st, .int .u16 0, .bool true, .bool ((k : Int) == 0), .bool ((k : Int) == (N : Int) - 1), .slice A' n' c''] 38)
            have hbz : wr.heap.size < (wr.alloc (.cells #[.int .u32 0, .int .u16 st, .int .u16 0, .bool true, .bool ((k : Int) == 0), .bool ((k : Int) == (N : Int) - 1), .slice A' n' c''] 38)).heap.size := by simp
            generalize (wr.alloc (.cells #[.int .u32 0, .int .u16 st, .int .u16 0, .bool true, .bool ((k : Int) == 0), .bool ((k : Int) == (N : Int) - 1), .slice A' n' c''] 38)) = w7 at *
            clear q0 q1 q2 q3 q4 q5 q6 y0 y1 y2 hd
            have e0 := hd7.cell 0
            have e1 := hd7.cell 1
            have e2 := hd7.cell 2
            have e3 := hd7.cell 3
            have e4 := hd7.cell 4
            have e5 := hd7.cell 5
            have e6 := hd7.cell 6
            have y0 := hm7.cell 0
            have y1 := hm7.cell 1
            have y2 := hm7.cell 2
            have hb7s := hb7.size
            have hbwd := below_then (unhide HB6) (unhide HB6).size hb7
            have QC : ∀ q, Calls Try.prog 23 #[.slice A' n' c'', .slice (some (ax.add j)) n' (c - j)] (w7.drewN q) fun e w' => e = .returned (.bool true) ∧ ∃ m, w' = (w7.drewN q).drewN m := fun q => by
              have := c23 A' (some (ax.add j)) n' n' c'' (c - j) w6.heap.size B (chk mm xs k) (chk mm xs k) (w7.drewN q) (by omega) (by omega) hb7s (by show B ≤ w7.heap.size; omega) (hrb7.drewN q) (hrc7.drewN q) ob (by exact ob)
              rw [heq] at this
              exact this
            have HZ7 := hide hb7
            have htn : ((j : Int) + n').toNat = j + n' := by omega
            have hcj : ¬ c = j := by omega
            have hjc : j ≤ c := by omega
            have f1 : decide ((n' : Int) < 1) = false := decide_eq_false (by omega)
            have f2 : decide ((mm : Int) < (n' : Int)) = false := decide_eq_false (by omega)
            have f3 : decide (mm < n') = false := decide_eq_false (by omega)
            have f5 : decide ((n : Int) < (j : Int) + n') = false := decide_eq_false (by omega)
            clear heq hrb7 hrc7 rb hrc hb7 hbwd hbw hmr hd7 hm7
            go_upto_region 19 with fail
            rcases Nat.lt_or_ge (k + 1) N with hkl | hkl
            · obtain rfl := hql hkl
              have hkt : decide ((k : Int) < (N : Int) - 1) = true := decide_eq_true (by omega)
              go_quiet ((go_at_call 23; exact Calls.quiet_of (QC _)))
              go_wp2
              go_roundw
              case rel => exact ⟨k + 1, j + n', by omega, by go_num, by go_num, by show j + n' = min ((k + 1) * n') n; rw [Nat.add_mul, Nat.one_mul]; exact (unhide HNX).symm, below_drewN (unhide HZ7) _⟩
              case measure => simp [intOf]; omega
            · have hkt : decide ((k : Int) < (N : Int) - 1) = false := decide_eq_false (by omega)
              have hw1 : IntKind.i64.wrap ((j : Int) + n') = (j : Int) + n' := by rw [IntKind.wrap_i64]; omega
              have hw2 : IntKind.i64.wrap ((N : Int) - 1) = (N : Int) - 1 := by rw [IntKind.wrap_i64]; omega
              go_quiet ((go_at_call 23; exact Calls.quiet_of (QC _)))
              go_wp2
              go_roundw
              case rel => exact ⟨k + 1, j + n', by omega, by go_num, by go_num, by show j + n' = min ((k + 1) * mm) n; rw [Nat.add_mul, Nat.one_mul]; exact (unhide HNX).symm, below_drewN (unhide HZ7) _⟩
              case measure => simp [intOf]; omega
          · obtain rfl : k = N := by omega
            obtain rfl : j = n := by
              have e1 := unhide hJ
              have e2 := (unhide hNL k)
              have : ¬ k * mm < n := fun h => Nat.lt_irrefl _ (e2.2 h)
              omega
            have HZ := hide (below_then (unhide HB6) (unhide HB6).size hbr)
            have y0 := hmr.cell 0
            have y1 := hmr.cell 1
            have y2 := hmr.cell 2
            go_wp2_with fail
            refine (Wk.works _).mono ?_
            rintro e w7 ⟨rfl, hb9⟩
            go_wp2
            go_ret
            exact ⟨rfl, below_then (unhide HZ) (unhide HZ).size hb9⟩

theorem walk (st : Int) (o : Bool) (A : Option Addr) (n c B : Nat) (s most : Int) (xs : List Int) (w : World) (h0 : -9223372036854775808 ≤ most) (h1 : most ≤ 9223372036854775807) (hn : n ≤ 9223372036854775807) (hc : n ≤ c) (hB : B ≤ w.heap.size) (h : Reads w B 1 A n (bs xs)) (hok : Hid (BOk xs)) :
    Calls Try.prog 6 #[.agg #[.int .u16 st, .bool o, .slice A n c], .int .u16 s, .int .i64 most] w fun e w' => e = .returned (.bool true) ∧ Below w.heap.size w w' := by
  cases o with
  | true => exact walkT st A n c B s most xs w h0 h1 hn hc hB h hok
  | false => exact walkF st A n c B s most xs w h0 h1 hn hc hB h hok
theorem own : ownKnob Try.prog.godebug = none := by kernel_rfl
theorem laidOut : laidOutB Try.prog = true := by kernel_rfl
set_option maxRecDepth 100000 in
theorem lifted (os : Os) (started : os.Started) (H : Type) (enc : TypeId × Value → H) :
    ReturnsInHanded {} Try.checked os 6 .any (Rows.fragShapeSpec.pre6 enc Try.prog Try.f6 Rows.fragShapeRow.domain false) (Rows.fragShapeSpec.post enc Try.prog Try.f6 false true false false) := by
  refine returnsInHanded_of_change (C := Try.checked) own started (by kernel_rfl) Try.func6
    (ChangeSpec.witness6 (enc := enc) (C := Try.checked) false ⟨#[], #[.agg #[.int .u16 0, .bool false, .slice none 0 0], .int .u16 0, .int .i64 0], []⟩ 8 (by kernel_rfl) (by kernel_rfl) (by kernel_rfl) (by kernel_rfl)) ?_
  intro W base args ds gs before hval0 hW hcnd _
  have hval : ∀ (j : Nat) t v, Try.f6.params[j]? = some t → args[j]? = some v → Value.okWide Try.prog W .any base t v := hval0
  have hW' := hW
  obtain ⟨p, q, hA0, hV, rfl, hfz, hnd⟩ := hW
  have hA : DataW.TrodAll enc Try.prog W 0 (fun _ => true) true Try.f6.params.toList args.toList ds p := hA0
  rw [Try.params6] at hA hval
  obtain ⟨v0, vs0, d0, ds0, p0, q0, hargs, rfl, rfl, h0, r0⟩ := trodAll_cons hA
  obtain ⟨v1, vs1, d1, ds1, p1, q1, rfl, rfl, rfl, h1, r1⟩ := trodAll_cons r0
  obtain ⟨v2, vs2, d2, ds2, p2, q2, rfl, rfl, rfl, h2, r2⟩ := trodAll_cons r1
  obtain ⟨rfl, rfl, rfl⟩ := trodAll_nil r2
  obtain rfl : args = #[v0, v1, v2] := by cases args; simp_all
  obtain ⟨rfl, rfl⟩ := trodVars_none hV
  have k0 := h0
  have lt0 : ∀ x ∈ p0, x.block < W.heap.size := by obtain ⟨m, hm⟩ := k0; exact DataW.trod_lt m _ _ _ hm
  have k1 := h1
  have lt1 : ∀ x ∈ p1, x.block < W.heap.size := by obtain ⟨m, hm⟩ := k1; exact DataW.trod_lt m _ _ _ hm
  have k2 := h2
  have lt2 : ∀ x ∈ p2, x.block < W.heap.size := by obtain ⟨m, hm⟩ := k2; exact DataW.trod_lt m _ _ _ hm
  obtain ⟨cs0, rfl, hsz0⟩ := okWide_struct Try.underlying25 (hval 0 25 v0 rfl rfl)
  obtain ⟨st0, o0, A0, len0, cap0, x0, rfl, b0, c0, hr0, ho0, hc0, hm0, hn0⟩ := Op.open_msg (by rw [hsz0]; exact Op.cells25) h0
  unfold maxLen at hm0
  obtain ⟨a1, rfl, rfl, rfl, w1⟩ := open_int Try.underlying22 (hval 1 22 v1 rfl rfl) h1
  obtain ⟨b1, c1⟩ := bounds_u16 w1
  obtain ⟨a2, rfl, rfl, rfl, w2⟩ := open_int Try.underlying3 (hval 2 3 v2 rfl rfl) h2
  obtain ⟨b2, c2⟩ := bounds_i64 w2
  clear hA0 hval0
  refine (walk st0 o0 A0 len0 cap0 W.heap.size a1 a2 x0 W b2 c2 (by omega) hc0 (Nat.le_refl _) hr0 ho0).mono fun e W' ⟨he, bel⟩ => ?_
  subst he
  exact ⟨_, rfl, _, _, _, [], _, [], hW', trodAll_mk1 (shut_bool Try.underlying4 _), (trodAll_cons_mk (Below.trod laidOut (by kernel_rfl) (of_decide_eq_true (by kernel_rfl)) k0 bel lt0) (trodAll_cons_mk (Below.trod laidOut (by kernel_rfl) (of_decide_eq_true (by kernel_rfl)) k1 bel lt1) (trodAll_cons_mk (Below.trod laidOut (by kernel_rfl) (of_decide_eq_true (by kernel_rfl)) k2 bel lt2) trodAll_mk0))), rfl, bel.frame _, fun h => by cases h⟩
theorem over : Rows.fragShapeRow.holds Try.pinned (OpenSpec.ofChange Rows.fragShapeSpec) :=
  OpenClaim.holds_of_wide 6 Try.f6 rfl rfl rfl rfl rfl rfl rfl ⟨rfl, rfl, rfl, rfl, rfl⟩ rfl rfl rfl rfl rfl (by kernel_rfl) Try.func6 (by kernel_rfl)
    (of_decide_eq_true (by kernel_rfl)) (by unfold Func.isWrapper; first | (rw [if_pos (by decide +kernel)]; kernel_rfl) | (rw [if_neg (by decide +kernel)]; exact ⟨rfl, rfl⟩))
    (fun os started H enc _ => lifted os started H enc)
theorem proved : Rows.FragShapeSaid :=
  over
end Go.Proofs.Ytfgbegamdlafkaa.fragShape

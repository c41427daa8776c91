/-
  Proved: a cut's leading entries are those that fit, and a cut is as the reference cuts: sizes, coverage and the whole are left as they were.
  Conditions: none; every input.
-/
import Derived.Test.YtkjohgokkfghiaaCt
import Derived.Test.YtkjohgokkfghiaaWk
import Derived.Test.YtkjohgokkfghiaaOs
import Derived.Deep.RegionHeld3
import Derived.Deep.RegionLaw
import Derived.Deep.DeepCutAuto
import Derived.Test.YtkjohgokkfghiaaRows
import Derived.ProofKit
import Derived.OpenShut
import Derived.Carry
set_option linter.unusedVariables false
set_option linter.unusedSimpArgs false
namespace Go.Proofs.Ytkjohgokkfghiaa.forwardCuts
open Go.ChangeShapes Go.WideShapes Go.ChangeAt
open Go.RowKit Wd Sk Pl Ct
open Go.Proofs.Ytkjohgokkfghiaa.Fn

/-- What the copy leaves: a block of its own with an entry row of its own. -/
def R3 (cum : Int) (A : Option Addr) (n c : Nat) (l : List (Int × Int)) (w : World) (s7 : Value) (wx : World) : Prop := ∃ (g : Nat) (v : Value), w.heap.size < g ∧ s7 = .pointer (some ⟨g, 0, none⟩) ∧ Blk wx w.heap.size 27 #[.int .u32 cum, .slice A n c] ∧ Blk wx g 27 #[.int .u32 cum, v] ∧ wx.ownsRow (w.heap.size + 1) 41 2 v n (sks l) ∧ Below w.heap.size w wx
theorem meetA {cum : Int} {A A3 : Option Addr} {n c c3 : Nat} {l : List (Int × Int)} {w w3 : World} (hq : Blk w3 w.heap.size 27 #[.int .u32 cum, .slice A n c]) (ho : w3.ownsRow (w.heap.size + 1) 41 2 (.slice A3 n c3) n (sks l)) (hb : Below w.heap.size w w3) :
    R3 cum A n c l w (.pointer (some ⟨w3.heap.size, 0, none⟩)) (w3.alloc (.cells #[.int .u32 cum, .slice A3 n c3] 27)) :=
  ⟨_, _, hq.lt, rfl, hq.alloc _, Blk.new _ _ _, ho.alloc _, hb.alloc (by have := hq.lt; omega) _⟩
theorem meetB {cum : Int} {A A3 : Option Addr} {n c c3 g : Nat} {l : List (Int × Int)} {w w3 : World} (hg : w.heap.size < g) (hq : Blk w3 w.heap.size 27 #[.int .u32 cum, .slice A n c]) (hz : Blk w3 g 27 #[.int .u32 0, .slice none 0 0]) (ho : w3.ownsRow (w.heap.size + 1) 41 2 (.slice A3 n c3) n (sks l)) (hb : Below w.heap.size w w3) :
    R3 cum A n c l w (.pointer (some ⟨g, 0, none⟩)) ((w3.setCell ⟨g, 0, none⟩ (.int .u32 cum)).setCell ⟨g, 1, none⟩ (.slice A3 n c3)) := by
  have hz1 := hz.set_ 0 (.int .u32 cum)
  have ho1 := ho.kept (grown_set w3 g 0 (.int .u32 cum)) (.inr (own_blk_ne ho hz (by decide)))
  have hz2 := hz1.set_ 1 (.slice A3 n c3)
  have ho2 := ho1.kept (grown_set _ g 1 (.slice A3 n c3)) (.inr (own_blk_ne ho1 hz1 (by decide)))
  exact ⟨_, _, hg, rfl, (hq.far (by simp; omega) _).far (by simp; omega) _, by simpa using hz2, ho2, (hb.setCell (by simp; omega) _).setCell (by simp; omega) _⟩

theorem below_low {B B' : Nat} {w w' : World} (h : Below B' w w') (hB : B ≤ B') : Below B w w' := ⟨h.os, h.tape, h.output, h.size, fun i hi => h.block i (Nat.lt_of_lt_of_le hi hB)⟩
theorem cut_props (n : Nat) (most : Int) : (cutN n most = 0 ∨ 4 + 4 * (cutN n most : Int) ≤ most) ∧ (cutN n most = n ∨ most < 4 + 4 * ((cutN n most : Int) + 1)) := by
  rcases Nat.eq_zero_or_pos n with rfl | hn
  · have := cutN_le 0 most
    omega
  · by_cases h : most < 8
    · rw [cutN_is n 0 most (Nat.zero_le _) (.inl rfl) (.inr (by omega))]
      omega
    · obtain ⟨q, hq⟩ : ∃ q : Nat, (q : Int) = most / 4 - 1 := ⟨(most / 4 - 1).toNat, by omega⟩
      by_cases hqn : q < n
      · rw [cutN_is n q most (by omega) (.inr (by omega)) (.inr (by omega))]
        omega
      · rw [cutN_is n n most (Nat.le_refl _) (.inr (by omega)) (.inl rfl)]
        omega

set_option maxRecDepth 100000 in
set_option maxHeartbeats 16000000 in
theorem walk (cum most tsn : Int) (A : Option Addr) (n c B : Nat) (l : List (Int × Int)) (w : World) (h0 : -9223372036854775808 ≤ most) (h1 : most ≤ 9223372036854775807) (hn : n ≤ 9223372036854775807) (hB : B ≤ w.heap.size) (h : Reads w B 2 A n (sks l)) (hc : n ≤ c) (hnil : A = none → n = 0 ∧ c = 0) :
    Calls Try.prog 4 #[.agg #[.int .u32 cum, .slice A n c], .int .i64 most, .int .u32 tsn] w fun e w' => e = .returned (.bool true) ∧ Below w.heap.size w w' := by
  obtain ⟨i0, hi0, hz0, hz1, hz2⟩ := info_parts info41
  by_cases hbig : 1000 < n
  · go_enter Try.func4, Try.ntmps4
    go_wp2_with (go_at_call 8; refine (Wk.works _).mono ?_; rintro e w1 ⟨rfl, hb⟩)
    go_ret
    exact ⟨rfl, below_then ((Below.refl _ _).alloc (Nat.le_refl _) _) (by simp) hb⟩
  · have hn' : n ≤ 1000 := by omega
    have hl := len_ h
    have HL := hide hl
    have H := hide h
    clear hbig hn hl h
    go_enter Try.func4, Try.ntmps4
    go_upto_region 3 with fail
    go_cut [7] (fun s7 wx => R3 cum A n c l w s7 wx)
    case first =>
      have hBx := Blk.new w 27 #[.int .u32 cum, .slice A n c]
      have hRx := (unhide H).alloc hB (.cells #[.int .u32 cum, .slice A n c] 27)
      have hbx := (Below.refl w.heap.size w).alloc (Nat.le_refl _) (.cells #[.int .u32 cum, .slice A n c] 27)
      have hsx : (w.alloc (.cells #[.int .u32 cum, .slice A n c] 27)).heap.size = w.heap.size + 1 := by simp
      generalize w.alloc (.cells #[.int .u32 cum, .slice A n c] 27) = W0 at *
      have x0 := hBx.cell 0
      have x1 := hBx.cell 1
      have xa0 : ∀ o, (W0.drew.alloc o).cell? ⟨w.heap.size, 0, none⟩ = some (.int .u32 cum) := fun o => ((hBx.drew).alloc o).cell 0
      have xa1 : ∀ o, (W0.drew.alloc o).cell? ⟨w.heap.size, 1, none⟩ = some (.slice A n c) := fun o => ((hBx.drew).alloc o).cell 1
      have xb0 : ∀ o o', ((W0.drew.alloc o).alloc o').cell? ⟨w.heap.size, 0, none⟩ = some (.int .u32 cum) := fun o o' => (((hBx.drew).alloc o).alloc o').cell 0
      have xb1 : ∀ o o', ((W0.drew.alloc o).alloc o').cell? ⟨w.heap.size, 1, none⟩ = some (.slice A n c) := fun o o' => (((hBx.drew).alloc o).alloc o').cell 1
      have hOA : (W0.alloc (.cells #[] 41)).ownsRow (w.heap.size + 1) 41 2 (.slice (some ⟨w.heap.size + 1, 0, none⟩) 0 0) 0 [] := own_empty_at W0 (w.heap.size + 1) 41 2 _ (by omega) (by omega)
      have hRA : Reads (W0.alloc (.cells #[] 41)) B 2 A n (sks l) := hRx.alloc (by omega) _
      have hRB : Reads ((W0.alloc (.cells #[] 41)).alloc (.cells #[.int .u32 0, .slice none 0 0] 27)) B 2 A n (sks l) := hRA.alloc (by simp; omega) _
      have hOB : ((W0.alloc (.cells #[] 41)).alloc (.cells #[.int .u32 0, .slice none 0 0] 27)).ownsRow (w.heap.size + 1) 41 2 (.slice (some ⟨w.heap.size + 1, 0, none⟩) 0 0) 0 [] := hOA.alloc _
      have hzB : Blk ((W0.alloc (.cells #[] 41)).alloc (.cells #[.int .u32 0, .slice none 0 0] 27)) (w.heap.size + 1 + 1) 27 #[.int .u32 0, .slice none 0 0] := by have := Blk.new (W0.alloc (.cells #[] 41)) 27 #[.int .u32 0, .slice none 0 0]; simpa [hsx] using this
      have hOC : ((W0.alloc (.cells #[.int .u32 0, .slice none 0 0] 27)).alloc (.cells #[] 41)).ownsRow (w.heap.size + 1) 41 2 (.slice (some ⟨w.heap.size + 1 + 1, 0, none⟩) 0 0) 0 [] := own_empty_at (W0.alloc (.cells #[.int .u32 0, .slice none 0 0] 27)) (w.heap.size + 1) 41 2 _ (by omega) (by simp; omega)
      have hRC : Reads ((W0.alloc (.cells #[.int .u32 0, .slice none 0 0] 27)).alloc (.cells #[] 41)) B 2 A n (sks l) := (hRx.alloc (by omega) _).alloc (by simp; omega) _
      have hzC : Blk ((W0.alloc (.cells #[.int .u32 0, .slice none 0 0] 27)).alloc (.cells #[] 41)) (w.heap.size + 1) 27 #[.int .u32 0, .slice none 0 0] := by have := (Blk.new W0 27 #[.int .u32 0, .slice none 0 0]).alloc (.cells #[] 41); simpa [hsx] using this
      go_region_law (((first | (refine step_append_any _ rfl (.tmp 17) (.tmp 19) _ rfl (w.heap.size + 1) 41 i0 _ 2 4 Try.underlying25 hi0 hz0 hz1 hz2 rfl (by omega) _ 0 [] rfl hOA B A n c (sks l) rfl hRA (sks_one _) (by simp only [maxLen]; omega) (by omega) (by simp <;> omega) ?_; intro v1 w3 hown3 hg3 hat3; obtain ⟨A3, c3, rfl, _, _⟩ := own_slice hown3; skip; have hq3 := (Blk.drew (hBx.alloc _)).grown hg3 (show some w.heap.size ≠ some (w.heap.size + 1) by simp <;> omega); have q0 := hq3.cell 0; have q1 := hq3.cell 1; have hb3 : Below w.heap.size w w3 := Below.grown ((hbx.alloc (by omega) _).drew) hg3 (by simp <;> omega) (fun k hk => by (have hk' : some (w.heap.size + 1) = some k := hk); (injection hk' with e); omega); have q2 : ∀ o, (w3.alloc o).cell? ⟨w.heap.size, 0, none⟩ = some (.int .u32 cum) := fun o => (hq3.alloc o).cell 0) | (refine step_append_any _ rfl (.tmp 17) (.tmp 19) _ rfl (w.heap.size + 1) 41 i0 _ 2 4 Try.underlying25 hi0 hz0 hz1 hz2 rfl (by omega) _ 0 [] rfl hOB B A n c (sks l) rfl hRB (sks_one _) (by simp only [maxLen]; omega) (by omega) (by simp <;> omega) ?_; intro v1 w3 hown3 hg3 hat3; obtain ⟨A3, c3, rfl, _, _⟩ := own_slice hown3; have hz3 := (Blk.drew hzB).grown hg3 (show some (w.heap.size + 1 + 1) ≠ some (w.heap.size + 1) by simp); have z0 := hz3.cell 0; have z1 := hz3.cell 1; have z2 := hz3.frozen 0; have z3 := hz3.frozen 1; have hq3 := (Blk.drew ((hBx.alloc _).alloc _)).grown hg3 (show some w.heap.size ≠ some (w.heap.size + 1) by simp <;> omega); have q0 := hq3.cell 0; have q1 := hq3.cell 1; have hb3 : Below w.heap.size w w3 := Below.grown (((hbx.alloc (by omega) _).alloc (by simp <;> omega) _).drew) hg3 (by simp <;> omega) (fun k hk => by (have hk' : some (w.heap.size + 1) = some k := hk); (injection hk' with e); omega); have q2 : ∀ o, (w3.alloc o).cell? ⟨w.heap.size, 0, none⟩ = some (.int .u32 cum) := fun o => (hq3.alloc o).cell 0) | (refine step_append_any _ rfl (.tmp 17) (.tmp 19) _ rfl (w.heap.size + 1) 41 i0 _ 2 4 Try.underlying25 hi0 hz0 hz1 hz2 rfl (by omega) _ 0 [] rfl hOC B A n c (sks l) rfl hRC (sks_one _) (by simp only [maxLen]; omega) (by omega) (by simp <;> omega) ?_; intro v1 w3 hown3 hg3 hat3; obtain ⟨A3, c3, rfl, _, _⟩ := own_slice hown3; have hz3 := (Blk.drew hzC).grown hg3 (show some (w.heap.size + 1) ≠ some (w.heap.size + 1 + 1) by simp); have z0 := hz3.cell 0; have z1 := hz3.cell 1; have z2 := hz3.frozen 0; have z3 := hz3.frozen 1; have hq3 := (Blk.drew ((hBx.alloc _).alloc _)).grown hg3 (show some w.heap.size ≠ some (w.heap.size + 1 + 1) by simp <;> omega); have q0 := hq3.cell 0; have q1 := hq3.cell 1; have hb3 : Below w.heap.size w w3 := Below.grown (((hbx.alloc (by omega) _).alloc (by simp <;> omega) _).drew) hg3 (by simp <;> omega) (fun k hk => by (have hk' : some (w.heap.size + 1 + 1) = some k := hk); (injection hk' with e); omega); have q2 : ∀ o, (w3.alloc o).cell? ⟨w.heap.size, 0, none⟩ = some (.int .u32 cum) := fun o => (hq3.alloc o).cell 0))))
      all_goals (go_wp2_with fail; go_meet; first | exact meetA hq3 (by simpa using hown3) hb3 | exact meetB (by omega) hq3 hz3 (by simpa using hown3) hb3)
    case rest =>
      obtain ⟨g, v, hg, rfl, hb0, hbg, hown, hbel⟩ := hcut
      obtain ⟨A1, c1, rfl, hle1, hnil1⟩ := own_slice hown
      have x0 := hb0.cell 0
      have x1 := hb0.cell 1
      have y0 := hbg.cell 0
      have y1 := hbg.cell 1
      have hsc : g < wc.heap.size := hbg.lt
      have hro := Reads.of_own hown
      go_wp2_with fail
      refine (c12 cum most A1 n c1 wc.heap.size l wc (by omega) h0 h1 (Nat.le_refl _) hro hle1 hnil1).mono ?_
      rintro e w4 ⟨v4, rfl, hown4, hb4⟩
      obtain ⟨A4, c4, rfl, hle4, hnil4⟩ := own_slice hown4
      have hs4 := hb4.size
      have hq0 := hb0.below hb4 (by omega)
      have hqg := hbg.below hb4 hsc
      have hbe := below_then hbel hbel.size hb4
      have hRl := (unhide H).keep (w' := w4) (fun p hp => hbe.cell (by omega))
      have hR1 : Reads w4 wc.heap.size 2 A1 n (sks l) := hro.keep (fun p hp => hb4.cell hp)
      have hkn : cutN n most ≤ n := cutN_le n most
      obtain ⟨hk2, hk3⟩ := cut_props n most
      clear hb0 hbg hb4 hbel x0 x1 y0 y1 hown hle1 hnil1 hro
      generalize hkk : cutN n most = k at *
      have c16k : ∀ W : World, B ≤ W.heap.size → Reads W B 2 A n (sks l) → Calls Try.prog 16 #[.agg #[.int .u32 cum, .slice A n c], .int .i64 most] W fun e w' => ∃ v, e = .returned v ∧ w'.ownsRow W.heap.size 41 2 v k (sks (l.take k)) ∧ Below W.heap.size W w' := by
        intro W hBW hr
        have := c16 cum most A n c B l W (by omega) h0 h1 hBW hr hc hnil
        rw [hkk] at this
        exact this
      clear hkk
      generalize wc.heap.size = b4 at *
      go_upto_region 5 with fail
      have mkS : ∀ w', Below w4.heap.size w4 w' → (Below w4.heap.size w4 w' ∧ w'.cell? ⟨w.heap.size, 0, none⟩ = some (.int .u32 cum) ∧ w'.cell? ⟨w.heap.size, 1, none⟩ = some (.slice A n c) ∧ w'.cell? ⟨g, 0, none⟩ = some (.int .u32 cum) ∧ w'.cell? ⟨g, 1, none⟩ = some (.slice A1 n c1)) := fun w' h => ⟨h, (hq0.below h (by omega)).cell 0, (hq0.below h (by omega)).cell 1, (hqg.below h (by omega)).cell 0, (hqg.below h (by omega)).cell 1⟩
      go_cut [52] (fun s wx => s = .bool false ∧ Below w4.heap.size w4 wx)
      case first =>
        go_region_held3 (fun w' => Below w4.heap.size w4 w' ∧ w'.cell? ⟨w.heap.size, 0, none⟩ = some (.int .u32 cum) ∧ w'.cell? ⟨w.heap.size, 1, none⟩ = some (.slice A n c) ∧ w'.cell? ⟨g, 0, none⟩ = some (.int .u32 cum) ∧ w'.cell? ⟨g, 1, none⟩ = some (.slice A1 n c1)) ((first | exact mkS _ (Below.refl _ _).drew | exact mkS _ hB5))
          (first
            | (go_at_call 13; have hp : Below w4.heap.size w4 _ := And.left (by assumption); have hps := hp.size; refine (c13 cum A1 n c1 _ (by omega)).mono ?_; rintro e w5 ⟨rfl, hb5⟩; have hB5 := below_then hp hp.size hb5)
            | (go_at_call 14; have hp : Below w4.heap.size w4 _ := And.left (by assumption); have hps := hp.size; refine (c14 cum A n c _ (by omega)).mono ?_; rintro e w5 ⟨rfl, hb5⟩; have hB5 := below_then hp hp.size hb5)
            | (go_at_call 16; have hp : Below w4.heap.size w4 _ := And.left (by assumption); have hps := hp.size; refine (c16k _ (by omega) (hRl.keep (fun p hp' => hp.cell (by omega)))).mono ?_; rintro e w5 ⟨v6, rfl, hown6, hb5⟩; have hB5 := below_then hp hp.size hb5; obtain ⟨A6, c6, rfl, hle6, hnil6⟩ := own_slice hown6; have hb6 := hb5; have hs6 := hb5.size; have hR6 := Reads.of_own hown6)
            | (go_at_call 15; have hp : Below w4.heap.size w4 _ := And.left (by assumption); have hps := hp.size; refine (same A4 A6 k k c4 c6 w4.heap.size _ (l.take k) (l.take k) _ (by omega) (by omega) (by omega) (Nat.le_refl _) ((Reads.of_own hown4).keep (fun p hp' => hp.cell (by omega))) hR6).mono ?_; rintro e w5 ⟨rfl, hb5⟩; have hB5 := below_then hp hp.size hb5)
            | (go_at_call 17; have hp : Below w4.heap.size w4 _ := And.left (by assumption); have hps := hp.size; refine (c17 cum tsn A1 n c1 _).mono ?_; rintro e w5 ⟨rfl, hb5⟩; have hB5 := below_then hp hp.size hb5)
            | (go_at_call 18; have hp : Below w4.heap.size w4 _ := And.left (by assumption); have hps := hp.size; refine (c18 cum tsn A n c _).mono ?_; rintro e w5 ⟨rfl, hb5⟩; have hB5 := below_then hp hp.size hb5)
            | (go_at_call 11; have hp : Below w4.heap.size w4 _ := And.left (by assumption); have hps := hp.size; refine (c11 cum cum A1 A n n c1 c b4 B l l _ (by omega) (by omega) (by omega) (by omega) (hR1.keep (fun p hp' => hp.cell (by omega))) (hRl.keep (fun p hp' => hp.cell (by omega)))).mono ?_; rintro e w5 ⟨rfl, hb5⟩; have hB5 := below_then hp hp.size hb5)
          )
        go_wp2_with fail
        go_meet
        exact ⟨rfl, hB5⟩
      case rest =>
        obtain ⟨rfl, hB6⟩ := hcut
        clear mkS
        have hqe := hq0.below hB6 (by omega)
        have hqf := hqg.below hB6 (by omega)
        have hRm := hRl.keep (w' := wc) (fun p hp => hB6.cell (by omega))
        have hR2 := hR1.keep (w' := wc) (fun p hp => hB6.cell (by omega))
        have hO := own_below hown4 hB6
        have HW := hide (below_then hbe hbe.size hB6)
        clear hq0 hqg hbe hRl hR1 hown4
        go_upto_region 7 with fail
        go_cut [97] (fun s wx => s = .bool false ∧ Below wc.heap.size wc wx)
        case first =>
          have hsz : w.heap.size < wc.heap.size := hqe.lt
          have e0 := hqe.cell 0
          have e1 := hqe.cell 1
          have hr1 := Reads.of_own hO
          have hr2 := reads_take hRm k hkn
          have HO := hide hO
          have HX := hide (And.intro hqe (And.intro hqf (And.intro hRm hR2)))
          clear hqe hqf hRm hR2 hO hB6 hs4
          have hk5 : k ≤ 1000 := by omega
          go_wp2_with fail
          refine (same A4 A k k c4 c wc.heap.size B (l.take k) (l.take k) wc (by omega) (by omega) (Nat.le_refl _) (by omega) hr1 hr2).mono ?_
          rintro e w7 ⟨rfl, hb7⟩
          have t1 : decide (l.take k = l.take k) = true := by simp
          rw [t1]
          have e2 := ((unhide HX).1.below hb7 hsz).cell 1
          clear hr1 hr2 e0 e1 t1 c16k
          go_wp2_with fail
          all_goals
            go_meet
            refine ⟨?_, hb7⟩
            first | rfl | exact congrArg Value.bool (decide_eq_false (by omega)) | (exfalso; omega) | exact congrArg Value.bool (by simp only [Bool.or_eq_false_iff, decide_eq_false_iff_not]; omega)
        case rest =>
          obtain ⟨rfl, hB8⟩ := hcut
          have hqe := hqe.below hB8 hqe.lt
          have hqf := hqf.below hB8 hqf.lt
          have hRm := hRm.keep (w' := wc) (fun p hp => hB8.cell (by have := hB6.size; omega))
          have hR2 := hR2.keep (w' := wc) (fun p hp => hB8.cell (by have := hB6.size; omega))
          have hO := own_below hO hB8
          have hss : b4 ≤ wc.heap.size := by have := hB6.size; have := hB8.size; omega
          have HX := hide (And.intro hqe (And.intro hqf (And.intro hRm hR2)))
          have hLk : (l.take k).length = k := by have := unhide HL; simp; omega
          have HLk := hide hLk
          have HW2 := hide (below_then (unhide HW) (unhide HW).size hB8)
          clear hqe hqf hRm hR2 hB6 hB8 c16k hLk hk2 hk3
          go_wp2_with fail
          go_loopw [9] (fun i wr => ∃ (j : Nat) (L : List (Int × Int)), j ≤ k ∧ i = .int .i64 j ∧ Hid (L.length = k) ∧ Below b4 wc wr ∧ wr.ownsRow b4 41 2 (.slice A4 k c4) k (sks L)) (fun i _ => k - (intOf i).toNat)
          case atStart => exact ⟨0, l.take k, Nat.zero_le _, rfl, HLk, Below.refl _ _, hO⟩
          case round =>
            obtain ⟨j, L, hj, rfl, hL, hbr, hor⟩ := hrel
            by_cases hlt : j < k
            · obtain ⟨g4, c', hv, hgb, hgl⟩ := hor.form (by omega)
              obtain ⟨e1, rfl⟩ : A4 = some ⟨g4, 0, none⟩ ∧ c4 = c' := by injection hv with a b c; exact ⟨a, c⟩
              subst e1
              have hjl : j < L.length := by rw [unhide hL]; exact hlt
              have hs : L[j]? = some (L[j]'hjl) := List.getElem?_eq_getElem _
              generalize (L[j]'hjl) = s at hs
              have y0 : wr.cell? ⟨g4, j * 2 + 1, none⟩ = some (.int .u16 s.2) := by
                rw [hor.cellAt (j * 2 + 1) (by omega)]; exact (sks_get L j _ hs).2
              have y1 : wr.frozen? ⟨g4, j * 2 + 1, none⟩ = false := hor.frozenAt (j * 2 + 1)
              have HS := hide hs
              clear hs hjl hO
              go_wp2
              go_roundw
              case rel =>
                have ho3 := (hor.stored (j * 2 + 1) (.int .u16 ((s.2 + 1) % 65536))).1
                rw [← sks_set L j s.1 s.2 _ (unhide HS)] at ho3
                have q1 := hbr.setCell (p := ⟨g4, j * 2 + 1, none⟩) (by simpa using hgb) (.int .u16 ((s.2 + 1) % 65536))
                exact ⟨j + 1, _, by omega, by go_num, by show _ = _; simpa using unhide hL, q1, ho3⟩
              case measure => simp [intOf]; omega
            · obtain rfl : j = k := by omega
              have x0 := ((unhide HX).1.below hbr (by omega)).cell 0
              have x1 := ((unhide HX).1.below hbr (by omega)).cell 1
              have x2 := ((unhide HX).2.1.below hbr hsc).cell 0
              have x3 := ((unhide HX).2.1.below hbr hsc).cell 1
              have hr1 := (unhide HX).2.2.1.keep (w' := wr) (fun p hp => hbr.cell (by omega))
              have hr2 := (unhide HX).2.2.2.keep (w' := wr) (fun p hp => hbr.cell (by omega))
              go_wp2_with fail
              refine (c11 cum cum A1 A n n c1 c b4 B l l wr (by omega) (by omega) (by have := hbr.size; omega) (by have := hbr.size; omega) hr2 hr1).mono ?_
              rintro e w9 ⟨rfl, hb9⟩
              have t1 : decide (cum = cum ∧ l = l) = true := by simp
              rw [t1]
              have HW3 := hide (below_then (Below.trans (unhide HW2) (below_low hbr (by omega))) (by have := hbr.size; have := (unhide HW2).size; omega) hb9)
              clear x0 x1 x2 x3 hr1 hr2 t1
              go_wp2_with fail
              refine (Wk.works _).mono ?_
              rintro e w10 ⟨rfl, hb10⟩
              go_wp2
              go_ret
              exact ⟨rfl, below_then (unhide HW3) (unhide HW3).size hb10⟩
theorem own : ownKnob Try.prog.godebug = none := by kernel_rfl
theorem laidOut : laidOutB Try.prog = true := by kernel_rfl
set_option maxRecDepth 100000 in
theorem lifted (os : Os) (started : os.Started) (H : Type) (enc : TypeId × Value → H) :
    ReturnsInHanded {} Try.checked os 4 .any (Rows.forwardCutsSpec.pre6 enc Try.prog Try.f4 Rows.forwardCutsRow.domain false) (Rows.forwardCutsSpec.post enc Try.prog Try.f4 false true false false) := by
  refine returnsInHanded_of_change (C := Try.checked) own started (by kernel_rfl) Try.func4
    (ChangeSpec.witness6 (enc := enc) (C := Try.checked) false ⟨#[], #[.agg #[.int .u32 0, .slice none 0 0], .int .i64 0, .int .u32 0], []⟩ 8 (by kernel_rfl) (by kernel_rfl) (by kernel_rfl) (by kernel_rfl)) ?_
  intro W base args ds gs before hval0 hW hcnd _
  have hval : ∀ (j : Nat) t v, Try.f4.params[j]? = some t → args[j]? = some v → Value.okWide Try.prog W .any base t v := hval0
  have hW' := hW
  obtain ⟨p, q, hA0, hV, rfl, hfz, hnd⟩ := hW
  have hA : DataW.TrodAll enc Try.prog W 0 (fun _ => true) true Try.f4.params.toList args.toList ds p := hA0
  rw [Try.params4] at hA hval
  obtain ⟨v0, vs0, d0, ds0, p0, q0, hargs, rfl, rfl, h0, r0⟩ := trodAll_cons hA
  obtain ⟨v1, vs1, d1, ds1, p1, q1, rfl, rfl, rfl, h1, r1⟩ := trodAll_cons r0
  obtain ⟨v2, vs2, d2, ds2, p2, q2, rfl, rfl, rfl, h2, r2⟩ := trodAll_cons r1
  obtain ⟨rfl, rfl, rfl⟩ := trodAll_nil r2
  obtain rfl : args = #[v0, v1, v2] := by cases args; simp_all
  obtain ⟨rfl, rfl⟩ := trodVars_none hV
  have k0 := h0
  have lt0 : ∀ x ∈ p0, x.block < W.heap.size := by obtain ⟨m, hm⟩ := k0; exact DataW.trod_lt m _ _ _ hm
  have k1 := h1
  have lt1 : ∀ x ∈ p1, x.block < W.heap.size := by obtain ⟨m, hm⟩ := k1; exact DataW.trod_lt m _ _ _ hm
  have k2 := h2
  have lt2 : ∀ x ∈ p2, x.block < W.heap.size := by obtain ⟨m, hm⟩ := k2; exact DataW.trod_lt m _ _ _ hm
  obtain ⟨cs0, rfl, hsz0⟩ := okWide_struct Try.underlying27 (hval 0 27 v0 rfl rfl)
  obtain ⟨cu0, A0, len0, cap0, x0, rfl, b0, c0, hr0, hc0, hm0, hn0⟩ := Os.open_fwd (by rw [hsz0]; exact Os.cells27) h0
  unfold maxLen at hm0
  obtain ⟨a1, rfl, rfl, rfl, w1⟩ := open_int Try.underlying3 (hval 1 3 v1 rfl rfl) h1
  obtain ⟨b1, c1⟩ := bounds_i64 w1
  obtain ⟨a2, rfl, rfl, rfl, w2⟩ := open_int Try.underlying22 (hval 2 22 v2 rfl rfl) h2
  obtain ⟨b2, c2⟩ := bounds_u32 w2
  clear hA0 hval0
  refine (walk cu0 a1 a2 A0 len0 cap0 W.heap.size x0 W b1 c1 (by omega) (Nat.le_refl _) hr0 hc0 hn0).mono fun e W' ⟨he, bel⟩ => ?_
  subst he
  exact ⟨_, rfl, _, _, _, [], _, [], hW', trodAll_mk1 (shut_bool Try.underlying4 _), (trodAll_cons_mk (Below.trod laidOut (by kernel_rfl) (of_decide_eq_true (by kernel_rfl)) k0 bel lt0) (trodAll_cons_mk (Below.trod laidOut (by kernel_rfl) (of_decide_eq_true (by kernel_rfl)) k1 bel lt1) (trodAll_cons_mk (Below.trod laidOut (by kernel_rfl) (of_decide_eq_true (by kernel_rfl)) k2 bel lt2) trodAll_mk0))), rfl, bel.frame _, fun h => by cases h⟩
theorem over : Rows.forwardCutsRow.holds Try.pinned (OpenSpec.ofChange Rows.forwardCutsSpec) :=
  OpenClaim.holds_of_wide 4 Try.f4 rfl rfl rfl rfl rfl rfl rfl ⟨rfl, rfl, rfl, rfl, rfl⟩ rfl rfl rfl rfl rfl (by kernel_rfl) Try.func4 (by kernel_rfl)
    (of_decide_eq_true (by kernel_rfl)) (by unfold Func.isWrapper; first | (rw [if_pos (by decide +kernel)]; kernel_rfl) | (rw [if_neg (by decide +kernel)]; exact ⟨rfl, rfl⟩))
    (fun os started H enc _ => lifted os started H enc)
theorem proved : Rows.ForwardCutsSaid :=
  over
end Go.Proofs.Ytkjohgokkfghiaa.forwardCuts

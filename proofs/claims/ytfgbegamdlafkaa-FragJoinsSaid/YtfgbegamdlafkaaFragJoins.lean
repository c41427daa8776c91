/-
  Proved: Join tells the message of any pieces, in new memory, or that there is none; the pieces stay.
  Conditions: none; every input.
-/
import Derived.Test.YtfgbegamdlafkaaJt
import Derived.Test.YtfgbegamdlafkaaSa
import Derived.Test.YtfgbegamdlafkaaOp
import Derived.Deep.DeepCutAuto
import Derived.Test.YtfgbegamdlafkaaRows
import Derived.ProofKit
import Derived.OpenShut
import Derived.Carry
set_option linter.unusedVariables false
set_option linter.unusedSimpArgs false
namespace Go.Proofs.Ytfgbegamdlafkaa.fragJoins
open Go.ChangeShapes Go.WideShapes Go.ChangeAt
open Go.RowKit Wd Md Cm Cb Ch Ct Cu Jo Bk Jt Sa

/-- The first k pieces, their bytes copied. -/
def Cp (ds es : List Dt) (k : Nat) : Prop := es.length = k ∧ ∀ (i : Nat) (d e : Dt), ds[i]? = some d → es[i]? = some e → e.tsn = d.tsn ∧ e.st = d.st ∧ e.ssn = d.ssn ∧ e.un = d.un ∧ e.fi = d.fi ∧ e.la = d.la ∧ e.n = d.n
theorem cp_next {ds es : List Dt} {k : Nat} {d : Dt} (h : Cp ds es k) (hd : ds[k]? = some d) (A : Option Addr) (c : Nat) : Cp ds (es ++ [{ d with A := A, c := c }]) (k + 1) := by
  refine ⟨by simp [h.1], fun i x e hx he => ?_⟩
  rw [List.getElem?_append] at he
  split at he
  · exact h.2 i x e hx he
  · have hi : i = k := by
      have h1 := (List.getElem?_eq_some_iff.1 he).1
      have h2 := h.1
      simp at h1
      omega
    subst hi
    rw [h.1, Nat.sub_self] at he
    simp at he
    subst he
    rw [hd] at hx
    injection hx with hx
    subst hx
    exact ⟨rfl, rfl, rfl, rfl, rfl, rfl, rfl⟩
theorem cp_all {ds es : List Dt} {bb : List (List Int)} {n : Nat} (h : Cp ds es n) (hl : ds.length = n) : SameAll es bb ds bb := by
  refine ⟨by rw [h.1, hl], rfl, fun i e d he hd => ?_⟩
  obtain ⟨a, b, c, f, g, k, _⟩ := h.2 i d e hd he
  rw [sameHd_iff]
  exact ⟨a, b, c, f, g, k⟩
theorem cp_rights {ds es : List Dt} {n : Nat} (h : Cp ds es n) (hl : ds.length = n) {d0 e0 : Dt} (hd0 : ds[0]? = some d0) (he0 : es[0]? = some e0) : Rights ds d0 ds.length ↔ Rights es e0 es.length := by
  obtain ⟨_, b0, c0, f0, _⟩ := h.2 0 d0 e0 hd0 he0
  have hle : es.length = n := h.1
  constructor
  · intro hr i e hi he
    have hd : ds[i]? = some (ds[i]'(by omega)) := List.getElem?_eq_getElem _
    obtain ⟨_, b, c, f, g, k, m⟩ := h.2 i _ e hd he
    obtain ⟨r1, r2, r3, r4, r5, r6⟩ := hr i _ (by omega) hd
    exact ⟨by rw [g, r1], by rw [k, r2, hl, hle], by omega, by rw [b, b0, r4], by rw [c, c0, r5], by rw [f, f0, r6]⟩
  · intro hr i d hi hd
    have he : es[i]? = some (es[i]'(by omega)) := List.getElem?_eq_getElem _
    obtain ⟨_, b, c, f, g, k, m⟩ := h.2 i d _ hd he
    obtain ⟨r1, r2, r3, r4, r5, r6⟩ := hr i _ (by omega) he
    exact ⟨by rw [← g, r1], by rw [← k, r2, hl, hle], by omega, by rw [← b, ← b0, r4], by rw [← c, ← c0, r5], by rw [← f, ← f0, r6]⟩
theorem cp_fits {ds es : List Dt} {bb : List (List Int)} {n : Nat} (h : Cp ds es n) (hl : ds.length = n) : Fits es bb ↔ Fits ds bb := by
  have hle : es.length = n := h.1
  constructor
  · rintro ⟨e0, he0, hr, ht⟩
    have hd : ds[0]? = some (ds[0]'(by have := (List.getElem?_eq_some_iff.1 he0).1; omega)) := List.getElem?_eq_getElem _
    exact ⟨_, hd, (cp_rights h hl hd he0).2 hr, ht⟩
  · rintro ⟨d0, hd0, hr, ht⟩
    have he : es[0]? = some (es[0]'(by have := (List.getElem?_eq_some_iff.1 hd0).1; omega)) := List.getElem?_eq_getElem _
    exact ⟨_, he, (cp_rights h hl hd0 he).1 hr, ht⟩
theorem rd_len {w : World} {B : Nat} {ds : List Dt} {bb : List (List Int)} (h : RdB w B ds bb) : ∀ d ∈ ds, d.n ≤ tot bb := fun d hd => by
  obtain ⟨i, hi⟩ := List.getElem?_of_mem hd
  obtain ⟨b, hb, hr, _⟩ := h.at_ hi
  have h1 := tot_next hb
  have h2 := tot_take_le bb (i + 1)
  have h3 := blen_ hr
  omega

set_option maxRecDepth 100000 in
set_option maxHeartbeats 2000000 in
theorem walk (A : Option Addr) (n c B : Nat) (ds : List Dt) (bb : List (List Int)) (w : World) (hn : n ≤ 9223372036854775807) (hB : B ≤ w.heap.size) (h : Reads w B 7 A n (dts ds)) (hb : RdB w B ds bb) (hdo : Hid (∀ d ∈ ds, d.Ok ∧ d.n ≤ 9223372036854775807)) :
    Calls Try.prog 4 #[.slice A n c] w fun e w' => e = .returned (.bool true) ∧ Below w.heap.size w w' := by
  obtain ⟨i0, hi0, hz0, hz1, hz2⟩ := info_parts info38
  have L := hide (dlen_ h)
  have H := hide (And.intro h hb)
  go_enter Try.func4, Try.ntmps4
  go_wp2_with fail
  refine (c18 A n c B ds bb w hn hB h hb (fun d hd => (unhide hdo d hd).2)).mono ?_
  rintro e w1 ⟨r, rfl, hr, rfl⟩
  cases r with
  | true =>
    go_wp2_with fail
    refine (Wk.works _).mono ?_
    rintro e w6 ⟨rfl, hb6⟩
    go_wp2
    go_ret
    exact ⟨rfl, hb6⟩
  | false =>
    obtain ⟨hn2, htot⟩ := hr rfl
    clear h hb hn hr
    go_wp2
    go_loopw [3, 4, 5] (fun v i s5 wr => ∃ (k : Nat) (es : List Dt), k ≤ n ∧ i = .int .i64 k ∧ Below w1.heap.size w1 wr ∧ wr.ownsRow w1.heap.size 38 7 v k (dts es) ∧ OwB wr w1.heap.size es (bb.take k) ∧ Hid (Cp ds es k)) (fun _ i _ _ => n - (intOf i).toNat)
    case atStart => exact ⟨0, [], Nat.zero_le _, rfl, Below.refl _ _, by simpa [dts] using own_none w1 w1.heap.size 38 7, by simpa using OwB.nil w1 w1.heap.size, ⟨rfl, fun i d e _ he => by simp at he⟩⟩
    case round =>
      obtain ⟨k, es, hk, rfl, hbr, hor, hOw, hCp⟩ := hrel
      have hsr := hbr.size
      obtain ⟨A1, c1, rfl, hle1, hnil1⟩ := own_slice hor
      by_cases hlt : k < n
      · obtain ⟨ad, d, rfl, hab, hd, q0, q1, q2, q3, q4, q5, q6⟩ := dat_ ((unhide H).1.keep (w' := wr) (fun p hp => hbr.cell (by omega))) k hlt
        obtain ⟨b, hb1, rb, cb, ob⟩ := ((unhide H).2.keep (w' := wr) (fun p hp => hbr.cell (by omega))).at_ hd
        have q6' : ∀ o, (wr.alloc o).cell? ⟨(ad.add (k * 7)).block, (ad.add (k * 7)).off + 6, none⟩ = some (.slice d.A d.n d.c) := fun o => (World.cell?_alloc_lt wr o _ (by show (ad.add (k * 7)).block < _; rw [block_of_add]; omega)).trans q6
        have hbn := blen_ rb
        have hdn : d.n ≤ 131072 := by
          have h1 := tot_next hb1
          have h2 := tot_take_le bb (k + 1)
          omega
        have HD := hide (And.intro hd hb1)
        clear hd hb1
        have hwn : Blk (wr.alloc (.cells #[.int .u32 d.tsn, .int .u16 d.st, .int .u16 d.ssn, .bool d.un, .bool d.fi, .bool d.la, .slice d.A d.n d.c] 38)) wr.heap.size 38 #[.int .u32 d.tsn, .int .u16 d.st, .int .u16 d.ssn, .bool d.un, .bool d.fi, .bool d.la, .slice d.A d.n d.c] := Blk.new _ _ _
        go_wp2_with (first
          | (go_at_call 19; refine (c19 d.A d.n d.c B b _ (by omega) (by simp; omega) (rb.alloc (by omega) _)).mono ?_; rintro e W1 ⟨v9, rfl, hown9, hb9⟩; obtain ⟨A9, c9, rfl, hle9, _⟩ := own_slice hown9; have hbx := hwn.below hb9 (by simp); have b0 := hbx.cell 0; have b1 := hbx.cell 1; have b2 := hbx.cell 2; have b3 := hbx.cell 3; have b4 := hbx.cell 4; have b5 := hbx.cell 5; have b6 := hbx.cell 6; have bf6 := hbx.frozen 6; have hsb := hb9.size; have hbd : Below wr.heap.size wr (W1.setCell ⟨wr.heap.size, 6, none⟩ (.slice A9 d.n c9)) := (below_then ((Below.refl _ _).alloc (Nat.le_refl _) _) (by simp) hb9).setCell (by simp) _; have ho9 : (W1.setCell ⟨wr.heap.size, 6, none⟩ (.slice A9 d.n c9)).ownsRow wr.heap.size 5 1 (.slice A9 d.n c9) d.n (bs b) := (own_weaken hown9 (by simp)).kept (grown_set _ _ _ _) (.inr (own_blk_ne hown9 hbx (by decide))))
          | (at_builtin; refine wpList_append_any _ rfl (.tmp 31) (.tmp 33) _ rfl w1.heap.size 38 i0 _ 7 40 Try.underlying29 hi0 hz0 hz1 hz2 rfl (by omega) (.slice A1 k c1) k (dts es) rfl ((own_below hor hbd).alloc _) (W1.heap.size + 1) (some ⟨W1.heap.size, 0, none⟩) 1 1 [.int .u32 d.tsn, .int .u16 d.st, .int .u16 d.ssn, .bool d.un, .bool d.fi, .bool d.la, .slice A9 d.n c9] rfl (by have := reads_new (W1.setCell ⟨wr.heap.size, 6, none⟩ (.slice A9 d.n c9)) #[.int .u32 d.tsn, .int .u16 d.st, .int .u16 d.ssn, .bool d.un, .bool d.fi, .bool d.la, .slice A9 d.n c9] 38 7 1 rfl; simpa using this) (by intro u hu; simp at hu; rcases hu with rfl | rfl | rfl | rfl | rfl | rfl | rfl <;> rfl) (by simp only [maxLen]; omega) (by omega) (by simp at hsb ⊢; omega) ?_; intro v3 W3 hown3 hg3 hat3))
        go_roundw
        case rel =>
          obtain ⟨r1, r2, r3, r4⟩ := ref_round (d := { d with A := A9, c := c9 }) (by omega) hor hOw hbd ho9 ob hown3 hg3
          have ht : bb.take (k + 1) = bb.take k ++ [b] := by rw [List.take_add_one, (unhide HD).2]; rfl
          exact ⟨k + 1, _, by omega, by go_num, r4 _ _ (Nat.le_refl _) hbr, r1, by rw [ht]; exact r2, cp_next (unhide hCp) (unhide HD).1 A9 c9⟩
        case measure => simp [intOf]; omega
      · obtain rfl : k = n := by omega
        have hbb : bb.take k = bb := List.take_of_length_le (by have e1 := unhide L; have e2 := (unhide H).2.1; omega)
        rw [hbb] at hOw
        have hdl := unhide L
        have CA := hide (cp_all (bb := bb) (unhide hCp) hdl)
        have CF := hide (cp_fits (bb := bb) (unhide hCp) hdl)
        have hel : es.length = k := (unhide hCp).1
        have HOR := hide (And.intro hor (And.intro hOw hbr))
        have HLD : Hid (Hid (∀ d ∈ ds, d.n ≤ 1000000000)) := fun d hd => by have := rd_len (unhide H).2 d hd; omega
        have HLE : Hid (Hid (∀ d ∈ es, d.n ≤ 1000000000)) := fun d hd => by have := rd_len hOw.rd d hd; omega
        clear hbb hdl
        go_wp2_with fail
        refine (Jr.join A1 k c1 wr.heap.size es bb wr (by omega) (Nat.le_refl _) (Reads.of_own hor) hOw.rd (by omega)).mono ?_
        intro e w2 hj
        obtain ⟨st, o, ys, A2, c2, r2, rfl, ho2, hb2, hT⟩ := join_told hj
        have hs2 := hb2.size
        have hb3 := hb2.alloc hs2 (.cells #[.int .u16 st, .bool o, .slice A2 ys.length c2] 25)
        have hm3 := Blk.new w2 25 #[.int .u16 st, .bool o, .slice A2 ys.length c2]
        have ho3 := ho2.alloc (.cells #[.int .u16 st, .bool o, .slice A2 ys.length c2] 25)
        have hlt3 : w2.heap.size < (w2.alloc (.cells #[.int .u16 st, .bool o, .slice A2 ys.length c2] 25)).heap.size := by simp
        clear hj ho2 hb2 hor hOw
        go_wp2_with fail
        generalize (w2.alloc (.cells #[.int .u16 st, .bool o, .slice A2 ys.length c2] 25)) = w3 at *
        generalize w2.heap.size = bm at *
        have hbw3 := below_then hbr hsr hb3
        have hs3 := hb3.size
        refine (Jr.ref A k c B ds bb w3 (by omega) (by omega) ((unhide H).1.keep (fun p hp => hbw3.cell (by omega))) ((unhide H).2.keep (fun p hp => hbw3.cell (by omega))) (by omega)).mono ?_
        intro e w4 hj
        obtain ⟨st', o', ys', A4, c4, r4, rfl, ho4, hb4, hT4⟩ := join_told hj
        have hsame : st' = st ∧ o' = o ∧ ys' = ys ∧ r4 = r2 := by
          rcases hT with ⟨f1, f2, f3, d0, f4, f5, f6⟩ | ⟨f1, f2, f3, f4, f5⟩ <;> rcases hT4 with ⟨g1, g2, g3, e0, g4, g5, g6⟩ | ⟨g1, g2, g3, g4, g5⟩
          · obtain ⟨_, a1, _, a3, _⟩ := (unhide hCp).2 0 e0 d0 g4 f4
            exact ⟨by rw [g5, f5, a1], by rw [g6, f6, a3], by rw [g3, f3], by rw [g2, f2]⟩
          · exact absurd ((unhide CF).1 f1) g1
          · exact absurd ((unhide CF).2 g1) f1
          · exact ⟨by rw [g4, f4], by rw [g5, f5], by rw [g3, f3], by rw [g2, f2]⟩
        obtain ⟨rfl, rfl, rfl, rfl⟩ := hsame
        have hyl : ys'.length ≤ 131072 := by
          rcases hT4 with ⟨_, _, g3, _⟩ | ⟨_, _, g3, _⟩
          · rw [g3]; exact htot
          · rw [g3]; simp
        have hyo : Hid (BOk ys') := by
          show BOk ys'
          rcases hT4 with ⟨_, _, g3, _⟩ | ⟨_, _, g3, _⟩
          · rw [g3]; exact flat_ok (unhide H).2
          · rw [g3]; intro y hy; simp at hy
        have hs4 := hb4.size
        have hb5 := (below_then hb3 hs3 hb4).alloc (by omega) (.cells #[.int .u16 st', .bool o', .slice A4 ys'.length c4] 25)
        have hm5 := (hm3.below hb4 hlt3).alloc (.cells #[.int .u16 st', .bool o', .slice A4 ys'.length c4] 25)
        have hn5 := Blk.new w4 25 #[.int .u16 st', .bool o', .slice A4 ys'.length c4]
        have ho5 := (own_below ho3 hb4).alloc (.cells #[.int .u16 st', .bool o', .slice A4 ys'.length c4] 25)
        have hz5 := (Reads.of_own ho4).alloc (Nat.le_refl _) (.cells #[.int .u16 st', .bool o', .slice A4 ys'.length c4] 25)
        have hlt5 : w4.heap.size < (w4.alloc (.cells #[.int .u16 st', .bool o', .slice A4 ys'.length c4] 25)).heap.size := by simp
        clear hj hT hT4 ho4 hb4 hm3 ho3 CF hbw3
        go_upto_region 12 with fail
        generalize (w4.alloc (.cells #[.int .u16 st', .bool o', .slice A4 ys'.length c4] 25)) = w5 at *
        generalize w4.heap.size = b5 at *
        have x0 := hm5.cell 0
        have x1 := hm5.cell 1
        have x2 := hm5.cell 2
        have z0 := hn5.cell 0
        have z1 := hn5.cell 1
        have z2 := hn5.cell 2
        have hs5 := hb5.size
        have hrr : (r4 == r4) = true := by simp
        have hrn : (r4 != r4) = false := by simp
        go_wp2_with fail
        refine (c22 st' st' o' o' A2 A4 ys'.length ys'.length c2 c4 w5.heap.size b5 ys' ys' w5 (by omega) (by omega) (Nat.le_refl _) (by omega) (Reads.of_own ho5) hz5 hyo hyo).mono ?_
        rintro e w6 ⟨rfl, hb6⟩
        have t1 : decide (st' = st' ∧ o' = o' ∧ ys' = ys') = true := by simp
        rw [t1]
        have hb7 := below_then hb5 hs5 hb6
        have hs6 := hb6.size
        have hm7 := hm5.below hb6 (by omega)
        have ho7 := own_below ho5 hb6
        clear x0 x1 x2 z0 z1 z2 hm5 hn5 ho5 hz5 hb5 hb6
        have hbw7 := below_then (unhide HOR).2.2 hsr hb7
        go_wp2_with fail
        refine (c15 A1 A k k c1 c wr.heap.size B es ds bb bb w6 (by omega) (by omega) (by omega) (by omega) ((Reads.of_own (unhide HOR).1).keep (fun p hp => hb7.cell hp)) ((unhide H).1.keep (fun p hp => hbw7.cell (by omega))) ((unhide HOR).2.1.rd.keep (fun p hp => hb7.cell hp)) ((unhide H).2.keep (fun p hp => hbw7.cell (by omega))) (unhide HLE) (unhide HLD)).mono ?_
        rintro e w8 ⟨r, rfl, hrt, hb8⟩
        obtain rfl : r = true := hrt.2 (unhide CA)
        clear hrt
        go_wp2_with fail
        have hs8 := hb8.size
        have hm9 := hm7.below hb8 (by omega)
        have ho9 := own_below ho7 hb8
        have hb9 := below_then hb7 (by omega) hb8
        obtain ⟨w0, hw0⟩ : ∃ w0 : World, w0 = wr := ⟨_, rfl⟩
        subst hw0
        clear hm7 ho7 hb7 hb8 hbw7 hz0 hz1 hz2 hi0 hnil1 hle1
        go_loopw [10] (fun i wq => ∃ (j : Nat) (zs : List Int), j ≤ ys'.length ∧ i = .int .i64 j ∧ Below w0.heap.size w0 wq ∧ Blk wq bm 25 #[.int .u16 st', .bool o', .slice A2 ys'.length c2] ∧ wq.ownsRow w0.heap.size 5 1 (.slice A2 ys'.length c2) ys'.length (bs zs)) (fun i _ => ys'.length - (intOf i).toNat)
        case atStart => exact ⟨0, ys', Nat.zero_le _, rfl, hb9, hm9, ho9⟩
        case round =>
          obtain ⟨j, zs, hj, rfl, hbq, hmq, hoq⟩ := hrel
          have x0 := hmq.cell 0
          have x1 := hmq.cell 1
          have x2 := hmq.cell 2
          have hltq := hmq.lt
          by_cases hlt : j < ys'.length
          · obtain ⟨g, c', hv, hgb, hgl⟩ := hoq.form (by omega)
            obtain ⟨e1, rfl⟩ : A2 = some ⟨g, 0, none⟩ ∧ c2 = c' := by injection hv with a b c; exact ⟨a, c⟩
            subst e1
            have hzl := own_bytes hoq
            have hz : zs[j]? = some (zs[j]'(by omega)) := List.getElem?_eq_getElem _
            generalize (zs[j]'(by omega)) = y at hz
            have y0 : wr.cell? ⟨g, j, none⟩ = some (.int .u8 y) := by
              rw [hoq.cellAt j (by omega)]
              exact bs_get _ j y hz
            have y1 : wr.frozen? ⟨g, j, none⟩ = false := hoq.frozenAt j
            have hgm : g ≠ bm := fun e => own_blk_ne hoq hmq (by decide) (by rw [← e]; rfl)
            clear hz hzl
            go_wp2
            refine still_tail 10 (by kernel_rfl) (by kernel_rfl) (fun W2 hW => ?_)
            simp only [List.take_succ_cons, List.take_zero, List.drop_succ_cons, List.drop_zero]
            have q0 : W2.cell? ⟨g, j, none⟩ = some (.int .u8 y) := by rw [hW]; exact y0
            have q1 : W2.frozen? ⟨g, j, none⟩ = false := by rw [hW]; exact y1
            have q2 : W2.cell? ⟨bm, 2, none⟩ = some (.slice (some ⟨g, 0, none⟩) ys'.length c2) := by rw [hW]; exact x2
            have hbq2 : Below w0.heap.size w0 W2 := by rw [hW]; exact hbq.drew
            have hmq2 : Blk W2 bm 25 #[.int .u16 st', .bool o', .slice (some ⟨g, 0, none⟩) ys'.length c2] := by rw [hW]; exact hmq
            have hoq2 : W2.ownsRow w0.heap.size 5 1 (.slice (some ⟨g, 0, none⟩) ys'.length c2) ys'.length (bs zs) := by rw [hW]; exact hoq
            clear hW y0 y1 x2 hbq hmq hoq
            iterate 10 still_step
            refine wpStill_nil ?_
            go_wp2
            go_roundw
            case rel =>
              have ho3 := fun u => (hoq2.stored j (.int .u8 u)).1
              refine ⟨j + 1, zs.set j ((y + 1) % 256), by omega, by go_num, hbq2.setCell (by simpa using hgb) _, hmq2.far (by simpa using hgm.symm) _, ?_⟩
              have := ho3 ((y + 1) % 256)
              rw [← bs_set] at this
              exact this
            case measure => simp [intOf]; omega
          · obtain rfl : j = ys'.length := by omega
            have hbw := below_then (unhide HOR).2.2 hsr hbq
            have hsq := hbq.size
            go_wp2_with fail
            refine (c15 A1 A k k c1 c w0.heap.size B es ds bb bb wr (by omega) (by omega) (by omega) (by omega) ((Reads.of_own (unhide HOR).1).keep (fun p hp => hbq.cell hp)) ((unhide H).1.keep (fun p hp => hbw.cell (by omega))) ((unhide HOR).2.1.rd.keep (fun p hp => hbq.cell hp)) ((unhide H).2.keep (fun p hp => hbw.cell (by omega))) (unhide HLE) (unhide HLD)).mono ?_
            rintro e w9 ⟨r, rfl, hrt, hb10⟩
            obtain rfl : r = true := hrt.2 (unhide CA)
            have HB := hide (below_then hbw hbw.size hb10)
            clear hb10 hrt
            go_wp2_with fail
            refine (Wk.works _).mono ?_
            rintro e w10 ⟨rfl, hb11⟩
            go_wp2
            go_ret
            exact ⟨rfl, below_then (unhide HB) (unhide HB).size hb11⟩
theorem own : ownKnob Try.prog.godebug = none := by kernel_rfl
theorem laidOut : laidOutB Try.prog = true := by kernel_rfl
set_option maxRecDepth 100000 in
theorem lifted (os : Os) (started : os.Started) (H : Type) (enc : TypeId × Value → H) :
    ReturnsInHanded {} Try.checked os 4 .any (Rows.fragJoinsSpec.pre6 enc Try.prog Try.f4 Rows.fragJoinsRow.domain false) (Rows.fragJoinsSpec.post enc Try.prog Try.f4 false true false false) := by
  refine returnsInHanded_of_change (C := Try.checked) own started (by kernel_rfl) Try.func4
    (ChangeSpec.witness6 (enc := enc) (C := Try.checked) false ⟨#[], #[.slice none 0 0], []⟩ 8 (by kernel_rfl) (by kernel_rfl) (by kernel_rfl) (by kernel_rfl)) ?_
  intro W base args ds gs before hval0 hW hcnd _
  have hval : ∀ (j : Nat) t v, Try.f4.params[j]? = some t → args[j]? = some v → Value.okWide Try.prog W .any base t v := hval0
  have hW' := hW
  obtain ⟨p, q, hA0, hV, rfl, hfz, hnd⟩ := hW
  have hA : DataW.TrodAll enc Try.prog W 0 (fun _ => true) true Try.f4.params.toList args.toList ds p := hA0
  rw [Try.params4] at hA hval
  obtain ⟨v0, vs0, d0, ds0, p0, q0, hargs, rfl, rfl, h0, r0⟩ := trodAll_cons hA
  obtain ⟨rfl, rfl, rfl⟩ := trodAll_nil r0
  obtain rfl : args = #[v0] := by cases args; simp_all
  obtain ⟨rfl, rfl⟩ := trodVars_none hV
  have k0 := h0
  have lt0 : ∀ x ∈ p0, x.block < W.heap.size := by obtain ⟨m, hm⟩ := k0; exact DataW.trod_lt m _ _ _ hm
  obtain ⟨A0, len0, cap0, rfl⟩ := okWide_slice Try.underlying29 (hval 0 29 v0 rfl rfl)
  obtain ⟨x0, bb0, hr0, hb0, ho0, hc0, hm0, hn0⟩ := Op.open_pcs h0
  unfold maxLen at hm0 ho0
  clear hA0 hval0
  refine (walk A0 len0 cap0 W.heap.size x0 bb0 W (by omega) (Nat.le_refl _) hr0 hb0 ho0).mono fun e W' ⟨he, bel⟩ => ?_
  subst he
  exact ⟨_, rfl, _, _, _, [], _, [], hW', trodAll_mk1 (shut_bool Try.underlying4 _), (trodAll_cons_mk (Below.trod laidOut (by kernel_rfl) (of_decide_eq_true (by kernel_rfl)) k0 bel lt0) trodAll_mk0), rfl, bel.frame _, fun h => by cases h⟩
theorem over : Rows.fragJoinsRow.holds Try.pinned (OpenSpec.ofChange Rows.fragJoinsSpec) :=
  OpenClaim.holds_of_wide 4 Try.f4 rfl rfl rfl rfl rfl rfl rfl ⟨rfl, rfl, rfl, rfl, rfl⟩ rfl rfl rfl rfl rfl (by kernel_rfl) Try.func4 (by kernel_rfl)
    (of_decide_eq_true (by kernel_rfl)) (by unfold Func.isWrapper; first | (rw [if_pos (by decide +kernel)]; kernel_rfl) | (rw [if_neg (by decide +kernel)]; exact ⟨rfl, rfl⟩))
    (fun os started H enc _ => lifted os started H enc)
theorem proved : Rows.FragJoinsSaid :=
  over
end Go.Proofs.Ytfgbegamdlafkaa.fragJoins

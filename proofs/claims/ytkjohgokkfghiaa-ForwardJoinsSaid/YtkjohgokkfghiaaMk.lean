/-
  Contract of forward.Make: it tells whether pieces are a row, and of a row the document's skips, in a row of memory of its own.
-/
import Derived.Test.YtkjohgokkfghiaaDt
import Derived.Maps.OwnSet
import Derived.Lib.Hide
import Derived.StillTailTactics
set_option linter.unusedVariables false
namespace Go.Proofs.Ytkjohgokkfghiaa.Mk
open Go.RowKit Wd Sk Pl
open Go.Proofs.Ytkjohgokkfghiaa.Fn
open Go.Maps
theorem law31 : Keyed Try.prog 31 := int_keyed Try.underlying31
theorem zero3 (w : World) : (zeroValue 3).run Try.prog w = .ok (.int .i64 0) w := by kernel_rfl
theorem size27 : (Try.prog.info? 27).map (·.size) = some 2 := by kernel_rfl
def MkPost (cum : Int) (ds : List Dt) (w : World) (e : Ending) (w' : World) : Prop :=
  (RowOk cum ds ∧ ∃ v, e = .returned (.tuple #[.agg #[.int .u32 ((cum + ds.length) % 4294967296), v], .bool true]) ∧ w'.ownsRow w.heap.size 41 2 v (skips ds).length (sks (skips ds)) ∧ Below w.heap.size w w') ∨
  (¬ RowOk cum ds ∧ e = .returned (.tuple #[.agg #[.int .u32 0, .slice none 0 0], .bool false]) ∧ Below w.heap.size w w')
/-- The map of places: each stream's place among the skips; no other key. -/
def MapInv (D : DataW Unit) (L : List (Int × Int)) : Prop :=
  IsMap D ∧ ∀ st : Int, (idx st L < L.length → Maps.has D (.int .u16 st) = true ∧ D.atKey (.int .u16 st) (.lit (.int .i64 0)) = .lit (.int .i64 (idx st L))) ∧ (¬ idx st L < L.length → Maps.has D (.int .u16 st) = false)
theorem mapInv_put {D : DataW Unit} {L : List (Int × Int)} {st ssn : Int} (h : MapInv D L) (hx : ¬ idx st L < L.length) : MapInv (D.put (.int .u16 st) (.lit (.int .i64 L.length))) (L ++ [(st, ssn)]) := by
  refine ⟨h.1.put _ _, fun s => ?_⟩
  have hsl : (L ++ [(st, ssn)]).length = L.length + 1 := by simp
  by_cases e : st = s
  · subst e
    have e1 : idx st (L ++ [(st, ssn)]) = L.length := by rw [idx_snoc, if_neg hx, if_pos rfl]
    rw [e1, hsl]
    have hkl : WideAt.IsKeyLit (.int .u16 st) := trivial
    exact ⟨fun _ => ⟨has_put_same h.1 hkl _, atKey_put_same h.1 hkl _ _⟩, fun hn => absurd (by omega) hn⟩
  · have hne : (Lit.int .u16 s) ≠ Lit.int .u16 st := fun he => e (by injection he with _ he; exact he.symm)
    obtain ⟨g1, g2⟩ := h.2 s
    rw [has_put_other hne, atKey_put_other hne, hsl, idx_snoc]
    by_cases hs : idx s L < L.length
    · rw [if_pos hs]
      exact ⟨fun _ => g1 hs, fun hn => absurd (by omega) hn⟩
    · rw [if_neg hs, if_neg e]
      exact ⟨fun hn => absurd hn (by omega), fun _ => g2 hs⟩
theorem mapInv_set {D : DataW Unit} {L : List (Int × Int)} {st q : Int} (h : MapInv D L) (hx : idx st L < L.length) : MapInv D (L.set (idx st L) (st, q)) := by
  refine ⟨h.1, fun s => ?_⟩
  rw [idx_set s st q L hx, List.length_set]
  exact h.2 s
set_option maxHeartbeats 1000000 in
theorem c9 (cum : Int) (A : Option Addr) (m c B : Nat) (ds : List Dt) (w : World) (hn : m + 1 ≤ 1000000) (h0 : 0 ≤ cum) (h1 : cum ≤ 4294967295) (hB : B ≤ w.heap.size) (h : Reads w B 7 A (m + 1) (dts ds)) (hok : Hid (∀ d ∈ ds, d.Ok)) :
    Calls Try.prog 9 #[.int .u32 cum, .slice A (m + 1) c] w (MkPost cum ds w) := by
  obtain ⟨i0, hi0, hz0, hz1, hz2⟩ := info_parts info41
  have hmm := @run_makeMap Try.prog
  have hnz : ((m : Int) + 1 == 0) = false := by rw [beq_eq_false_iff_ne]; omega
  have H := hide h
  clear h
  go_enter Try.func9, Try.ntmps9
  go_wp2
  go_loopw [16] (fun i wr => ∃ k : Nat, k ≤ m + 1 ∧ i = .int .i64 k ∧ Below w.heap.size w wr ∧ Blk wr w.heap.size 27 #[.int .u32 0, .slice none 0 0] ∧ Hid (RowOk cum (ds.take k))) (fun i _ => m + 1 - (intOf i).toNat)
  case atStart => exact ⟨0, Nat.zero_le _, rfl, (Below.refl _ _).alloc (Nat.le_refl _) _, Blk.new _ _ _, by intro j d hd; simp at hd⟩
  case round =>
    obtain ⟨k, hk, rfl, hb, hB0, hT⟩ := hrel
    by_cases hlt : k < m + 1
    · obtain ⟨ad, d, rfl, hab, hd, q0, q1, q2, q3, q4, q5, q6⟩ := dat_ ((unhide H).keep (w' := wr) (fun p hp => hb.cell (by omega))) k hlt
      have g0 := hB0.cell 0
      have g1 := hB0.cell 1
      have f0 := hB0.frozen 0
      have f1 := hB0.frozen 1
      have hlt0 := hB0.lt
      have hdo : d.Ok := unhide hok d (List.mem_of_getElem? hd)
      by_cases ht : d.tsn = (cum + 1 + k) % 4294967296
      · have hm : (ah32 cum d.tsn != (k : Int) + 1) = false := by
          rw [bne_eq_false_iff_eq]; unfold ah32; obtain ⟨o1, o2, _⟩ := hdo; omega
        have hT' : Hid (RowOk cum (ds.take (k + 1))) := by
          intro j d2 hj
          rw [List.take_add_one, hd] at hj
          have hlen := dlen_ (unhide H)
          rcases Nat.lt_or_ge j k with h | h
          · rw [List.getElem?_append_left (by rw [List.length_take]; omega)] at hj
            exact unhide hT j d2 hj
          · rw [List.getElem?_append_right (by rw [List.length_take]; omega)] at hj
            have e1 : j - (ds.take k).length = 0 := by
              rcases Nat.eq_zero_or_pos (j - (ds.take k).length) with h0 | h0
              · exact h0
              · rw [List.getElem?_eq_none (by simp only [List.length_cons, List.length_nil, Option.toList]; omega)] at hj; cases hj
            rw [e1] at hj
            simp at hj
            subst hj
            rw [List.length_take] at e1
            have : j = k := by omega
            subst this
            exact ht
        clear hd ht hdo
        go_wp2_with (go_at_call 19; refine (c19 _ _ _).mono ?_; rintro e w' ⟨rfl, rfl⟩)
        go_roundw
        case rel => exact ⟨k + 1, by omega, by go_num, hb.alloc hb.size _, hB0.alloc _, hT'⟩
        case measure => simp [intOf]; omega
      · have hm : (ah32 cum d.tsn != (k : Int) + 1) = true := by
          rw [bne_iff_ne]; unfold ah32; obtain ⟨o1, o2, _⟩ := hdo; omega
        have hno : Hid (¬ RowOk cum ds) := fun hr => ht (hr k d hd)
        clear hd ht hdo
        go_wp2_with (go_at_call 19; refine (c19 _ _ _).mono ?_; rintro e w' ⟨rfl, rfl⟩)
        have hres : Blk (((wr.setCell ⟨w.heap.size, 0, none⟩ (.int .u32 0)).setCell ⟨w.heap.size, 1, none⟩ (.slice none 0 0)).alloc (.cells #[.int .u32 d.tsn, .int .u16 d.st, .int .u16 d.ssn, .bool d.un, .bool d.fi, .bool d.la, .slice d.A d.n d.c] 34)) w.heap.size 27 #[.int .u32 0, .slice none 0 0] := by
          simpa using ((hB0.set_ 0 (.int .u32 0)).set_ 1 (.slice none 0 0)).alloc (.cells #[.int .u32 d.tsn, .int .u16 d.st, .int .u16 d.ssn, .bool d.un, .bool d.fi, .bool d.la, .slice d.A d.n d.c] 34)
        refine bodyPost_ret (results_ct (P := Try.prog) Try.results9 _ _ w.heap.size 27 _ _ rfl hres Try.underlying27 rfl size27) rfl ?_
        exact .inr ⟨unhide hno, rfl, ((hb.setCell (by simp) _).setCell (by simp) _).alloc (by have := hb.size; simpa [World.setCell] using this) _⟩
    · obtain rfl : k = m + 1 := by omega
      obtain ⟨ad, d, hA, hab, hd, q0, q1, q2, q3, q4, q5, q6⟩ := dat_ ((unhide H).keep (w' := wr) (fun p hp => hb.cell (by omega))) m (by omega)
      have HA := hide hA
      have hD := hide hd
      clear hd
      subst hA
      have g0 := hB0.cell 0
      have g1 := hB0.cell 1
      have f0 := hB0.frozen 0
      have f1 := hB0.frozen 1
      have hlt0 := hB0.lt
      obtain ⟨wo, rfl⟩ : ∃ wo : World, wo = wr := ⟨_, rfl⟩
      go_wp2
      go_loopw [11, 12, 13, 46] (fun x11 x12 x13 i wr => ∃ (k : Nat) (v : Value) (L : List (Int × Int)) (D : DataW Unit), k ≤ m + 1 ∧ i = .int .i64 k ∧ Below w.heap.size w wr ∧ Blk wr w.heap.size 27 #[.int .u32 0, .slice none 0 0] ∧ Blk wr wo.heap.size 27 #[.int .u32 d.tsn, v] ∧ wr.ownsRow (wo.heap.size + 2) 41 2 v L.length (sks L) ∧ wr.ownsMap Try.prog 31 (plainElem Try.prog 3) (wo.heap.size + 1) k D ∧ Hid (MapInv D L) ∧ Hid (L = skips (ds.take k))) (fun _ _ _ i _ => m + 1 - (intOf i).toNat)
      case atStart =>
        refine ⟨0, .slice none 0 0, [], .map [], Nat.zero_le _, rfl, (hb.alloc (by have := hb.size; omega) _).alloc (by have := hb.size; simp; omega) _, (hB0.alloc _).alloc _, (Blk.new wo 27 _).alloc _, own_none _ _ _ _, ?_, ?_, rfl⟩
        · have := World.ownsMap_made (w := wo.alloc (.cells #[.int .u32 d.tsn, .slice none 0 0] 27)) Try.prog 31 (plainElem (H := Unit) Try.prog 3)
          simpa using this
        · exact ⟨isMap_empty, fun st => ⟨fun h => absurd h (by simp), fun _ => rfl⟩⟩
      case round =>
        obtain ⟨k, v, L, D, hk, rfl, hbr, hBr, hBf, hown, hmap, hI, hL⟩ := hrel
        by_cases hlt : k < m + 1
        · obtain ⟨ad', d', hA', hab', hd', r0, r1, r2, r3, r4, r5, r6⟩ := dat_ ((unhide H).keep (w' := wr) (fun p hp => hbr.cell (by omega))) k hlt
          have hdd : Hid (skips (ds.take (k + 1)) = stp (skips (ds.take k)) d') := skips_take ds k d' hd'
          have hdo : d'.Ok := unhide hok d' (List.mem_of_getElem? hd')
          have HD' := hide hd'
          have HA' := hide hA'
          clear hd' hA'
          have e0 : Hid (some ad = some ad') := (unhide HA').symm ▸ rfl
          obtain rfl : ad = ad' := by injection (unhide e0)
          have b0 := hBf.cell 0
          have b1 := hBf.cell 1
          have bf0 := hBf.frozen 0
          have bf1 := hBf.frozen 1
          have hltf := hBf.lt
          have hltr := hBr.lt
          have hltm := hmap.lt
          obtain ⟨A2, c2, rfl, hle2, hnil2⟩ := own_slice hown
          have hL1 : L.length ≤ k := by have := skips_length ds k (by have := dlen_ (unhide H); omega); rw [← show L = _ from hL] at this; exact this
          have hwf : (Lit.int .u16 d'.st).wf = true := Wd.wf_u16 ⟨hdo.2.2.1, hdo.2.2.2.1⟩
          cases hu : d'.un with
          | true =>
            rw [hu] at r3
            have hs : Hid (stp (skips (ds.take k)) d' = skips (ds.take k)) := by show _ = _; unfold stp; rw [if_pos hu]
            clear hu
            go_wp2
            go_roundw
            case rel => exact ⟨k + 1, _, L, D, by omega, by go_num, hbr.alloc hbr.size _, hBr.alloc _, hBf.alloc _, hown.alloc _, (hmap.alloc _).mono (by omega), hI, by show _ = _; rw [hdd, hs]; exact hL⟩
            case measure => simp [intOf]; omega
          | false =>
            rw [hu] at r3
            have hs : Hid (stp (skips (ds.take k)) d' = upd d'.st d'.ssn L) := by show _ = _; unfold stp; rw [if_neg (by rw [hu]; simp), ← show L = _ from hL]
            clear hu
            by_cases hx : idx d'.st L < L.length
            · obtain ⟨q, hq⟩ := idx_at d'.st L hx
              obtain ⟨hhas, hat0⟩ := ((unhide hI).2 d'.st).1 hx
              have hup : Hid (upd d'.st d'.ssn L = L.set (idx d'.st L) (d'.st, mx16 q d'.ssn)) := by show _ = _; unfold upd; rw [if_pos hx, List.getD_eq_getElem?_getD, hq]; rfl
              have hI2 := hide (mapInv_set (q := mx16 q d'.ssn) (unhide hI) hx)
              obtain ⟨j, hj⟩ : ∃ j, idx d'.st L = j := ⟨_, rfl⟩
              rw [hj] at hx hq hup hat0 hI2
              have HQ := hide hq
              have HAT := hide hat0
              clear hq hat0 hj
              obtain ⟨g, cap, hv, hg1, hg2⟩ := hown.form (by omega)
              obtain ⟨rfl, rfl⟩ : A2 = some ⟨g, 0, none⟩ ∧ c2 = cap := by injection hv with a b c; exact ⟨a, c⟩
              clear hv hnil2
              have hc1 : wr.cell? ⟨g, j * 2 + 1, none⟩ = some (.int .u16 q) := by
                rw [hown.cellAt (j * 2 + 1) (by omega)]; exact (sks_get L j _ (unhide HQ)).2
              have hfz : wr.frozen? ⟨g, j * 2 + 1, none⟩ = false := hown.frozenAt (j * 2 + 1)
              go_wp2_with (first | (at_lookup; refine wpList_lookup_own_ok_int _ rfl _ _ 47 rfl 31 3 .i64 law31 Try.underlying47 Try.underlying3 (zero3 _) (wo.heap.size + 1) k D rfl (hmap.alloc _) _ _ rfl (keyOf_int_mk Try.underlying31 hwf) ?_; intro cx hat hwc; obtain rfl : cx = (j : Int) := (by have := hat.symm.trans (unhide HAT); injection this with this; injection this); clear hat hwc))
              have hBd : Blk (wr.alloc (.cells #[.int .u32 d'.tsn, .int .u16 d'.st, .int .u16 d'.ssn, .bool false, .bool d'.fi, .bool d'.la, .slice d'.A d'.n d'.c] 34)) wr.heap.size 34 #[.int .u32 d'.tsn, .int .u16 d'.st, .int .u16 d'.ssn, .bool false, .bool d'.fi, .bool d'.la, .slice d'.A d'.n d'.c] := Blk.new _ _ _
              have hf1 := hBf.alloc (.cells #[.int .u32 d'.tsn, .int .u16 d'.st, .int .u16 d'.ssn, .bool false, .bool d'.fi, .bool d'.la, .slice d'.A d'.n d'.c] 34)
              have ho1 := hown.alloc (.cells #[.int .u32 d'.tsn, .int .u16 d'.st, .int .u16 d'.ssn, .bool false, .bool d'.fi, .bool d'.la, .slice d'.A d'.n d'.c] 34)
              refine still_tail 12 (by kernel_rfl) (by kernel_rfl) (fun W2 hW => ?_)
              simp only [List.take_succ_cons, List.take_zero, List.drop_succ_cons, List.drop_zero]
              have y0 : W2.cell? ⟨wo.heap.size, 1, none⟩ = some (.slice (some ⟨g, 0, none⟩) L.length c2) := by rw [hW]; exact hf1.cell 1
              have y1 : W2.cell? ⟨g, j * 2 + 1, none⟩ = some (.int .u16 q) := by
                rw [hW]; exact (ho1.cellAt (j * 2 + 1) (by omega)).trans (sks_get L j _ (unhide HQ)).2
              have y2 : W2.frozen? ⟨g, j * 2 + 1, none⟩ = false := by rw [hW]; exact ho1.frozenAt (j * 2 + 1)
              have y3 : W2.cell? ⟨wr.heap.size, 2, none⟩ = some (.int .u16 d'.ssn) := by rw [hW]; exact hBd.cell 2
              have HW := hide hW
              clear hW
              iterate 11 still_step
              still_call ((c20 _ _ _).mono fun e w' h => ⟨h.1, h.2.symm⟩)
              refine wpStill_nil ?_
              go_wp2
              go_roundw
              case rel =>
                have hW : W2 = _ := unhide HW
                have ho2 : W2.ownsRow (wo.heap.size + 2) 41 2 (.slice (some ⟨g, 0, none⟩) L.length c2) L.length (sks L) := by rw [hW]; exact ho1.drew
                have ho3 := (ho2.stored (j * 2 + 1) (.int .u16 (mx16 q d'.ssn))).1
                rw [← sks_set L j d'.st q _ (unhide HQ)] at ho3
                have hg3 := own_base hown g (by simp [Value.ownBlock])
                refine ⟨k + 1, .slice (some ⟨g, 0, none⟩) L.length c2, L.set j (d'.st, mx16 q d'.ssn), D, by omega, by go_num, ?_, ?_, ?_, ?_, ?_, unhide hI2, by show _ = _; rw [hdd, hs, hup]⟩
                · rw [hW]; exact ((hbr.alloc hbr.size _).drew).setCell (by have := hbr.size; simp; omega) _
                · rw [hW]; exact (hBr.alloc _).drew.far (by simp; omega) _
                · rw [hW]; exact hf1.drew.far (by simp; omega) _
                · simpa using ho3
                · rw [hW]; exact ((((hmap.alloc _).drew).kept (grown_set _ _ _ _) (by simp; omega)).mono (by omega))
              case measure => simp [intOf]; omega
            · have hhas : Maps.has D (.int .u16 d'.st) = false := ((unhide hI).2 d'.st).2 hx
              have hup : Hid (upd d'.st d'.ssn L = L ++ [(d'.st, d'.ssn)]) := by show _ = _; unfold upd; rw [if_neg hx]
              have HX := hide hx
              clear hx
              have hBd : Blk (wr.alloc (.cells #[.int .u32 d'.tsn, .int .u16 d'.st, .int .u16 d'.ssn, .bool false, .bool d'.fi, .bool d'.la, .slice d'.A d'.n d'.c] 34)) wr.heap.size 34 #[.int .u32 d'.tsn, .int .u16 d'.st, .int .u16 d'.ssn, .bool false, .bool d'.fi, .bool d'.la, .slice d'.A d'.n d'.c] := Blk.new _ _ _
              go_wp2_with (first | (at_lookup; refine wpList_lookup_own_ok_int _ rfl _ _ 47 rfl 31 3 .i64 law31 Try.underlying47 Try.underlying3 (zero3 _) (wo.heap.size + 1) k D rfl (hmap.alloc _) _ _ rfl (keyOf_int_mk Try.underlying31 hwf) ?_; intro cx hat hwc; clear hat hwc) | (at_mapUpdate; refine wpList_mapUpdate_own _ rfl _ _ _ 47 rfl 31 3 law31 Try.underlying47 _ (wo.heap.size + 1) k D rfl (hmap.alloc _) (by unfold maxLen; omega) _ _ _ rfl rfl (keyOf_int_mk Try.underlying31 hwf) _ [] (plainElem_int Try.underlying3 (WalkArith.wf_i64 (by omega))) ?_; intro w1 hmap1 hg1; have hf1 := (hBf.alloc _).grown hg1 (by simp); have hd1 := hBd.grown hg1 (by simp; omega); have y0 := hf1.cell 1; have y1 := hd1.cell 1; have y2 := hd1.cell 2; clear b0 b1 bf0 bf1) | (at_builtin; refine wpList_append_any _ rfl (.tmp 68) (.tmp 74) _ rfl (wo.heap.size + 2) 41 i0 _ 2 4 Try.underlying25 hi0 hz0 hz1 hz2 rfl (by omega) (.slice A2 L.length c2) L.length (sks L) rfl (((hown.alloc _).kept hg1 (own_ne' hown (by omega))).alloc _) (w1.heap.size + 1) (some ⟨w1.heap.size, 0, none⟩) 1 1 [.int .u16 d'.st, .int .u16 d'.ssn] rfl (reads_new w1 #[.int .u16 d'.st, .int .u16 d'.ssn] 41 2 1 rfl) (by intro u hu; simp at hu; rcases hu with rfl | rfl <;> rfl) (by simp only [maxLen]; omega) (by omega) (by have := hg1.size; simp at this ⊢; omega) ?_; intro v1 w2 hown2 hg2 hat2; obtain ⟨A3, c3, rfl, _, _⟩ := own_slice hown2; have hf2 := (hf1.alloc _).grown hg2 (own_ne hown (by omega)); have z0 := hf2.cell 1; have z1 := hf2.frozen 1; clear y0 y1 y2))
              go_roundw
              case rel =>
                have hg1' := hg1
                have hbw : Below w.heap.size w (w2.setCell ⟨wo.heap.size, 1, none⟩ (.slice A3 (L.length + 1) c3)) :=
                  ((((((hbr.alloc hbr.size _).grown hg1 (by have := hbr.size; simp; omega) (by intro g hg; injection hg with hg; omega)).alloc (by have := hbr.size; have := hg1.size; simp at this; omega) _).grown hg2 (by have := hbr.size; have := hg1.size; simp at this ⊢; omega) (fun g hg => by have := own_base hown g hg; omega)).setCell (by simp; omega) _))
                refine ⟨k + 1, .slice A3 (L.length + 1) c3, L ++ [(d'.st, d'.ssn)], D.put (.int .u16 d'.st) (.lit (.int .i64 L.length)), by omega, by go_num, hbw, ?_, ?_, ?_, ?_, mapInv_put (unhide hI) (unhide HX), by show _ = _; rw [hdd, hs, hup]⟩
                · exact ((((hBr.alloc _).grown hg1 (by simp; omega)).alloc _).grown hg2 (own_ne hown (by omega))).far (by simp; omega) _
                · simpa using hf2.set_ 1 (.slice A3 (L.length + 1) c3)
                · rw [sks_append]
                  simpa [sks, Sk.cs] using own_set (i := 1) (u := .slice A3 (L.length + 1) c3) hown2 (g := wo.heap.size) (by omega)
                · exact ((hmap1.alloc _).kept hg2 (own_ne hown (by omega))).kept (grown_set _ _ _ _) (by simp)
              case measure => simp [intOf]; omega
        · obtain rfl : k = m + 1 := by omega
          have b0 := hBf.cell 0
          have b1 := hBf.cell 1
          have c0 := hBr.cell 0
          have c1 := hBr.cell 1
          have cf0 := hBr.frozen 0
          have cf1 := hBr.frozen 1
          obtain ⟨A2, c2, rfl, hle2, hnil2⟩ := own_slice hown
          have hlt1 := hBr.lt
          have hlt2 := hBf.lt
          go_wp2
          have hres : Blk ((wr.setCell ⟨w.heap.size, 0, none⟩ (.int .u32 d.tsn)).setCell ⟨w.heap.size, 1, none⟩ (.slice A2 L.length c2)) w.heap.size 27 #[.int .u32 d.tsn, .slice A2 L.length c2] := by
            simpa using ((hBr.set_ 0 (.int .u32 d.tsn)).set_ 1 (.slice A2 L.length c2))
          have hlen := dlen_ (unhide H)
          have hR : RowOk cum ds := by
            have e1 : RowOk cum (ds.take (m + 1)) := unhide hT
            rwa [List.take_of_length_le (by omega)] at e1
          have hts : d.tsn = (cum + ds.length) % 4294967296 := by
            rw [hR m d (unhide hD), hlen]
            congr 1
            omega
          have hLs : L = skips ds := by
            have e1 : L = skips (ds.take (m + 1)) := unhide hL
            rwa [List.take_of_length_le (by omega)] at e1
          refine bodyPost_ret (results_ct (P := Try.prog) Try.results9 _ _ w.heap.size 27 _ _ rfl hres Try.underlying27 rfl size27) rfl ?_
          refine .inl ⟨hR, _, by rw [← hts]; rfl, ?_, (hbr.setCell (by simp) _).setCell (by simp) _⟩
          have o1 := own_weaken (base' := w.heap.size + 1) hown (by omega)
          have o2 := own_weaken (base' := w.heap.size) (own_set (i := 1) (u := .slice A2 L.length c2) (own_set (i := 0) (u := .int .u32 d.tsn) o1 (g := w.heap.size) (by omega)) (g := w.heap.size) (by omega)) (by omega)
          rw [hLs] at o2
          rw [hLs]
          exact o2

theorem c9z (cum : Int) (A : Option Addr) (c : Nat) (w : World) :
    Calls Try.prog 9 #[.int .u32 cum, .slice A 0 c] w fun e w' => e = .returned (.tuple #[.agg #[.int .u32 0, .slice none 0 0], .bool false]) ∧ Below w.heap.size w w' := by
  go_enter Try.func9, Try.ntmps9
  go_wp2
  refine wp_loop_rounds 1 ?_
  rw [rounds_succ]
  go_wp2
  refine bodyPost_ret (results_ct (P := Try.prog) Try.results9 _ _ w.heap.size 27 _ _ rfl (Blk.new w 27 _) Try.underlying27 rfl size27) rfl ?_
  exact ⟨rfl, (Below.refl _ _).alloc (Nat.le_refl _) _⟩
end Go.Proofs.Ytkjohgokkfghiaa.Mk

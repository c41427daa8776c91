/-
  Contract of the document's Make: it tells just what forward.Make's contract tells.
-/
import Derived.Test.YtkjohgokkfghiaaMk
import Derived.Deep.RegionLaw
set_option linter.unusedVariables false
set_option linter.unusedSimpArgs false
namespace Go.Proofs.Ytkjohgokkfghiaa.Rm
open Go.RowKit Wd Sk Pl Mk
open Go.Proofs.Ytkjohgokkfghiaa.Fn

theorem c10z (cum : Int) (A : Option Addr) (c : Nat) (w : World) :
    Calls Try.prog 10 #[.int .u32 cum, .slice A 0 c] w fun e w' => e = .returned (.tuple #[.agg #[.int .u32 0, .slice none 0 0], .bool false]) ∧ Below w.heap.size w w' := by
  go_enter Try.func10, Try.ntmps10
  go_wp2
  refine bodyPost_ret (results_ct (P := Try.prog) Try.results10 _ _ w.heap.size 27 _ _ rfl ((Blk.new w 27 _).alloc _) Try.underlying27 rfl size27) rfl ?_
  exact ⟨rfl, ((Below.refl _ _).alloc (Nat.le_refl _) _).alloc (by simp) _⟩

/-- One round more of a row. -/
theorem rowOk_next {cum : Int} {ds : List Dt} {k : Nat} {d : Dt} (h : RowOk cum (ds.take k)) (hd : ds[k]? = some d) (ht : d.tsn = (cum + 1 + k) % 4294967296) : RowOk cum (ds.take (k + 1)) := by
  have hk : k < ds.length := (List.getElem?_eq_some_iff.1 hd).1
  intro j d2 hj
  rw [List.getElem?_take] at hj
  split at hj
  · rename_i hjk
    rcases Nat.lt_or_ge j k with h1 | h1
    · exact h j d2 (by rw [List.getElem?_take, if_pos h1]; exact hj)
    · have : j = k := by omega
      subst this
      rw [hd] at hj
      injection hj with hj
      subst hj
      exact ht
  · cases hj

set_option maxRecDepth 100000 in
set_option maxHeartbeats 2000000 in
theorem c10 (cum : Int) (A : Option Addr) (m c B : Nat) (ds : List Dt) (w : World) (hn : m + 1 ≤ 1000000) (h0 : 0 ≤ cum) (h1 : cum ≤ 4294967295) (hB : B ≤ w.heap.size) (h : Reads w B 7 A (m + 1) (dts ds)) (hok : Hid (∀ d ∈ ds, d.Ok)) :
    Calls Try.prog 10 #[.int .u32 cum, .slice A (m + 1) c] w (MkPost cum ds w) := by
  obtain ⟨i0, hi0, hz0, hz1, hz2⟩ := info_parts info41
  have hnz : ((m : Int) + 1 == 0) = false := by rw [beq_eq_false_iff_ne]; omega
  have H := hide h
  clear h
  go_enter Try.func10, Try.ntmps10
  go_wp2
  go_loopw [7] (fun i wr => ∃ k : Nat, k ≤ m + 1 ∧ i = .int .i64 k ∧ wr = (w.alloc (.cells #[.int .u32 0, .slice none 0 0] 27)).alloc (.cells #[.int .u32 0, .slice none 0 0] 27) ∧ Hid (RowOk cum (ds.take k))) (fun i _ => m + 1 - (intOf i).toNat)
  case atStart => exact ⟨0, Nat.zero_le _, rfl, rfl, by intro j d hd; simp at hd⟩
  case round =>
    obtain ⟨k, hk, rfl, rfl, hT⟩ := hrel
    have HR := hide (((unhide H).alloc hB (.cells #[.int .u32 0, .slice none 0 0] 27)).alloc (by simp; omega) (.cells #[.int .u32 0, .slice none 0 0] 27))
    by_cases hlt : k < m + 1
    · obtain ⟨ad, d, rfl, hab, hd, q0, q1, q2, q3, q4, q5, q6⟩ := dat_ (unhide HR) k hlt
      have hdo : d.Ok := unhide hok d (List.mem_of_getElem? hd)
      by_cases ht : d.tsn = (cum + 1 + k) % 4294967296
      · have hT' : Hid (RowOk cum (ds.take (k + 1))) := rowOk_next (unhide hT) hd ht
        have hm : (d.tsn != (cum + 1 + k) % 4294967296) = false := by rw [bne_eq_false_iff_eq]; exact ht
        clear hd ht hdo q1 q2 q3 q4 q5 q6
        go_wp2
        go_roundw
        case rel => exact ⟨k + 1, by omega, by go_num, trivial, hT'⟩
        case measure => simp [intOf]; omega
      · have hno : Hid (¬ RowOk cum ds) := fun hr => ht (hr k d hd)
        have hm : (d.tsn != (cum + 1 + k) % 4294967296) = true := by rw [bne_iff_ne]; exact ht
        clear hd ht hdo q1 q2 q3 q4 q5 q6
        go_wp2
        refine bodyPost_ret (results_ct (P := Try.prog) Try.results10 _ _ w.heap.size 27 _ _ rfl ((Blk.new w 27 _).alloc _) Try.underlying27 rfl size27) rfl ?_
        exact .inr ⟨unhide hno, rfl, ((Below.refl _ _).alloc (Nat.le_refl _) _).alloc (by simp) _⟩
    · obtain rfl : k = m + 1 := by omega
      obtain ⟨ad, d, hA, hab, hd, q0, q1, q2, q3, q4, q5, q6⟩ := dat_ (unhide HR) m (by omega)
      have hD := hide hd
      clear hd
      subst hA
      clear q1 q2 q3 q4 q5 q6 HR
      go_wp2
      go_loopw [8, 9] (fun i x9 wr => ∃ (k : Nat) (v : Value) (L : List (Int × Int)), k ≤ m + 1 ∧ i = .int .i64 k ∧ Below w.heap.size w wr ∧ Blk wr w.heap.size 27 #[.int .u32 0, .slice none 0 0] ∧ Blk wr (w.heap.size + 1) 27 #[.int .u32 d.tsn, v] ∧ wr.ownsRow (w.heap.size + 2) 41 2 v L.length (sks L) ∧ Hid (L = skips (ds.take k))) (fun i _ _ => m + 1 - (intOf i).toNat)
      case atStart =>
        refine ⟨0, .slice none 0 0, [], Nat.zero_le _, rfl, ((Below.refl _ _).alloc (Nat.le_refl _) _).alloc (by simp) _, (Blk.new w 27 _).alloc _, ?_, own_none _ _ _ _, rfl⟩
        simpa using Blk.new (w.alloc (.cells #[.int .u32 0, .slice none 0 0] 27)) 27 #[.int .u32 d.tsn, .slice none 0 0]
      case round =>
        obtain ⟨k, v, L, hk, rfl, hbr, hBr, hBf, hown, hL⟩ := hrel
        by_cases hlt : k < m + 1
        · obtain ⟨ad', d', hA', hab', hd', r0, r1, r2, r3, r4, r5, r6⟩ := dat_ ((unhide H).keep (w' := wr) (fun p hp => hbr.cell (by omega))) k hlt
          have hdd : Hid (skips (ds.take (k + 1)) = stp (skips (ds.take k)) d') := skips_take ds k d' hd'
          have hdo : d'.Ok := unhide hok d' (List.mem_of_getElem? hd')
          have HD' := hide hd'
          have HA' := hide hA'
          clear hd' hA'
          have e0 : Hid (some ad = some ad') := (unhide HA').symm ▸ rfl
          obtain rfl : ad = ad' := by injection (unhide e0)
          have b0 := hBf.cell 0
          have b1 := hBf.cell 1
          have bf0 := hBf.frozen 0
          have bf1 := hBf.frozen 1
          have hltf := hBf.lt
          have hltr := hBr.lt
          obtain ⟨A2, c2, rfl, hle2, hnil2⟩ := own_slice hown
          have hL1 : L.length ≤ k := by have := skips_length ds k (by have := dlen_ (unhide H); omega); rw [← show L = _ from hL] at this; exact this
          clear r0 r4 r5 r6
          cases hu : d'.un with
          | true =>
            rw [hu] at r3
            have hs : Hid (stp (skips (ds.take k)) d' = skips (ds.take k)) := by show _ = _; unfold stp; rw [if_pos hu]
            clear hu
            go_wp2
            go_roundw
            case rel => exact ⟨k + 1, _, L, by omega, by go_num, hbr, hBr, hBf, hown, by show _ = _; rw [hdd, hs]; exact hL⟩
            case measure => simp [intOf]; omega
          | false =>
            rw [hu] at r3
            have hs : Hid (stp (skips (ds.take k)) d' = upd d'.st d'.ssn L) := by show _ = _; unfold stp; rw [if_neg (by rw [hu]; simp), ← show L = _ from hL]
            clear hu
            obtain ⟨wo, hwo⟩ : ∃ wo : World, wo = wr := ⟨_, rfl⟩
            subst hwo
            go_wp2
            go_loopw [9] (fun x9 wq => ∃ (j nq : Nat), j ≤ L.length ∧ x9 = .int .i64 j ∧ wq = wo.drewN nq ∧ Hid (∀ (i : Nat) (a : Int × Int), i < j → L[i]? = some a → a.1 ≠ d'.st)) (fun x9 _ => L.length - (intOf x9).toNat)
            case atStart => exact ⟨0, 0, Nat.zero_le _, rfl, rfl, fun i a hi => absurd hi (by omega)⟩
            case round =>
              obtain ⟨j, nq, hj, rfl, rfl, hN⟩ := hrel
              by_cases hjl : j < L.length
              · obtain ⟨ad2, s, hA2, hab2, hs2, z0, z1⟩ := at_ (Reads.of_own hown) j hjl
                subst hA2
                have HS := hide hs2
                clear hs2
                by_cases hne : s.1 = d'.st
                · have hst : Hid (L[j]? = some (d'.st, s.2)) := by
                    have e1 : L[j]? = some s := unhide HS
                    show _ = _
                    rw [← hne]
                    exact e1
                  have hidx : Hid (idx d'.st L = j) := idx_is d'.st L j (by omega) (fun i a hi ha => unhide hN i a hi ha) (fun _ => ⟨s.2, unhide hst⟩)
                  have hup : Hid (upd d'.st d'.ssn L = L.set j (d'.st, mx16 s.2 d'.ssn)) := by
                    show _ = _
                    have e1 : idx d'.st L = j := hidx
                    unfold upd
                    rw [e1, if_pos hjl, List.getD_eq_getElem?_getD, unhide hst]
                    rfl
                  have t1 : (s.1 != d'.st) = false := by rw [bne_eq_false_iff_eq]; exact hne
                  have t2 : ((j : Int) == L.length) = false := by rw [beq_eq_false_iff_ne]; omega
                  clear hne hN
                  cases hls : ls16 s.2 d'.ssn with
                  | false =>
                    have hup2 : Hid (L.set j (d'.st, mx16 s.2 d'.ssn) = L) := by
                      show _ = _
                      have e1 : mx16 s.2 d'.ssn = s.2 := by unfold mx16; rw [hls]; rfl
                      rw [e1]
                      apply List.ext_getElem?
                      intro i
                      rw [List.getElem?_set]
                      split
                      · rename_i e2
                        subst e2
                        exact (unhide hst).symm
                      · rfl
                    go_wp2
                    go_quiet (fail)
                    go_wp2
                    go_quiet ((go_at_call 21; exact quiet_add_left ((c21 s.2 d'.ssn _).mono fun e w' h => ⟨h.1.trans (by rw [hls]), h.2⟩)))
                    go_wp2
                    go_roundw
                    case rel =>
                      repeat apply Exists.intro
                      exact ⟨⟨k + 1, _, L, by omega, by go_num, below_drewN hbr _, hBr.drewN _, hBf.drewN _, hown, by show _ = _; rw [hdd, hs, hup, hup2]⟩, rfl⟩
                    case measure => simp [intOf]; omega
                  | true =>
                    obtain ⟨g, cap, hv, hg1, hg2⟩ := hown.form (by omega)
                    obtain ⟨e1, rfl⟩ : some ad2 = some ⟨g, 0, none⟩ ∧ c2 = cap := by injection hv with a b c; exact ⟨a, c⟩
                    obtain rfl : ad2 = ⟨g, 0, none⟩ := by injection e1
                    clear hv e1 hnil2
                    have hmx : Hid (mx16 s.2 d'.ssn = d'.ssn) := by show _ = _; unfold mx16; rw [hls]; rfl
                    have e0 : (⟨g, 0, none⟩ : Addr).add (j * 2) = ⟨g, j * 2, none⟩ := by unfold Addr.add; split <;> simp_all
                    rw [e0] at z0 z1
                    clear e0
                    go_wp2
                    go_quiet (fail)
                    go_wp2
                    go_quiet ((go_at_call 21; exact quiet_add_left ((c21 s.2 d'.ssn _).mono fun e w' h => ⟨h.1.trans (by rw [hls]), h.2⟩)))
                    go_wp2
                    refine still_tail 8 (by kernel_rfl) (by kernel_rfl) (fun W2 hW => ?_)
                    simp only [List.take_succ_cons, List.take_zero, List.drop_succ_cons, List.drop_zero]
                    have hbr2 : Below w.heap.size w W2 := by rw [hW]; exact (below_drewN (below_drewN hbr _) _).drew
                    have hBr2 : Blk W2 w.heap.size 27 #[.int .u32 0, .slice none 0 0] := by rw [hW]; exact hBr
                    have hBf2 : Blk W2 (w.heap.size + 1) 27 #[.int .u32 d.tsn, .slice (some ⟨g, 0, none⟩) L.length c2] := by rw [hW]; exact hBf
                    have hown2 : W2.ownsRow (w.heap.size + 2) 41 2 (.slice (some ⟨g, 0, none⟩) L.length c2) L.length (sks L) := by rw [hW]; exact hown
                    have y0 := hBf2.cell 1
                    have y1 : W2.cell? ⟨(ad.add (k * 7)).block, (ad.add (k * 7)).off + 2, none⟩ = some (.int .u16 d'.ssn) := by rw [hW]; exact r2
                    have y2 : W2.cell? ⟨g, j * 2 + 1, none⟩ = some (.int .u16 s.2) := by
                      rw [hown2.cellAt (j * 2 + 1) (by omega)]; exact (sks_get L j _ (unhide HS)).2
                    have y3 : W2.frozen? ⟨g, j * 2 + 1, none⟩ = false := hown2.frozenAt (j * 2 + 1)
                    clear hW z0 z1 r1 r2 r3 b0 b1 bf0 bf1
                    iterate 8 still_step
                    refine wpStill_nil ?_
                    go_wp2
                    go_roundw
                    case rel =>
                      have ho3 := (hown2.stored (j * 2 + 1) (.int .u16 d'.ssn)).1
                      rw [← sks_set L j d'.st s.2 _ (unhide hst)] at ho3
                      have q1 := hbr2.setCell (p := ⟨g, j * 2 + 1, none⟩) (by simp; omega) (.int .u16 d'.ssn)
                      have q2 := hBr2.far (p := ⟨g, j * 2 + 1, none⟩) (by simp; omega) (.int .u16 d'.ssn)
                      have q3 := hBf2.far (p := ⟨g, j * 2 + 1, none⟩) (by simp; omega) (.int .u16 d'.ssn)
                      have ho4 : (W2.setCell ⟨g, j * 2 + 1, none⟩ (.int .u16 d'.ssn)).ownsRow (w.heap.size + 2) 41 2 (.slice (some ⟨g, 0, none⟩) L.length c2) (L.set j (d'.st, d'.ssn)).length (sks (L.set j (d'.st, d'.ssn))) := by simpa using ho3
                      have hLL : L.set j (d'.st, d'.ssn) = skips (ds.take (k + 1)) := by rw [hdd, hs, hup, hmx]
                      repeat apply Exists.intro
                      exact ⟨⟨k + 1, _, _, by omega, by go_num, q1, q2, q3, ho4, hLL⟩, rfl⟩
                    case measure => simp [intOf]; omega
                · have t1 : (s.1 != d'.st) = true := by rw [bne_iff_ne]; exact hne
                  have hN' : Hid (∀ (i : Nat) (a : Int × Int), i < j + 1 → L[i]? = some a → a.1 ≠ d'.st) := by
                    intro i a hi ha
                    rcases Nat.lt_or_ge i j with h | h
                    · exact unhide hN i a h ha
                    · have : i = j := by omega
                      subst this
                      rw [unhide HS] at ha
                      injection ha with ha
                      subst ha
                      exact hne
                  clear hne
                  go_wp2
                  go_quiet (fail)
                  go_wp2
                  go_roundw
                  case rel => exact ⟨j + 1, _, by omega, by go_num, rfl, hN'⟩
                  case measure => simp [intOf]; omega
              · obtain rfl : j = L.length := by omega
                have hnx : ¬ idx d'.st L < L.length := fun hx => by
                  obtain ⟨q, hq⟩ := idx_at d'.st L hx
                  exact unhide hN _ _ hx hq rfl
                have hup : Hid (upd d'.st d'.ssn L = L ++ [(d'.st, d'.ssn)]) := by show _ = _; unfold upd; rw [if_neg hnx]
                have hbr' := below_drewN hbr nq
                have hBr' := hBr.drewN nq
                have hBf' := hBf.drewN nq
                have hown' : (wo.drewN nq).ownsRow (w.heap.size + 2) 41 2 (.slice A2 L.length c2) L.length (sks L) := hown
                have r1' : (wo.drewN nq).cell? ⟨(ad.add (k * 7)).block, (ad.add (k * 7)).off + 1, none⟩ = some (.int .u16 d'.st) := r1
                have r2' : (wo.drewN nq).cell? ⟨(ad.add (k * 7)).block, (ad.add (k * 7)).off + 2, none⟩ = some (.int .u16 d'.ssn) := r2
                generalize wo.drewN nq = W1 at hbr' hBr' hBf' hown' r1' r2' ⊢
                clear hbr hBr hBf hown r1 r2 r3 b0 b1 bf0 bf1 hnx hltf hltr
                have b0 := hBf'.cell 0
                have b1 := hBf'.cell 1
                have bf0 := hBf'.frozen 0
                have bf1 := hBf'.frozen 1
                have hltf := hBf'.lt
                have hltr := hBr'.lt
                have t1 : decide ((L.length : Int) < (L.length : Int)) = false := by simp
                go_wp2
                go_quiet (fail)
                go_wp2
                have hown2 : (W1.drewN (nq + 1)).ownsRow (w.heap.size + 2) 41 2 (.slice A2 L.length c2) L.length (sks L) := hown'
                have hBf2 : Blk (W1.drewN (nq + 1)) (w.heap.size + 1) 27 #[.int .u32 d.tsn, .slice A2 L.length c2] := hBf'
                have yb1 : ∀ X, ((W1.drewN (nq + 1)).alloc (.cells X 41)).cell? ⟨w.heap.size + 1, 1, none⟩ = some (.slice A2 L.length c2) := fun X => (hBf2.alloc (.cells X 41)).cell 1
                go_region_law ((refine step_append_any _ rfl (.tmp 78) (.tmp 90) _ rfl (w.heap.size + 2) 41 i0 _ 2 4 Try.underlying25 hi0 hz0 hz1 hz2 rfl (by omega) (.slice A2 L.length c2) L.length (sks L) rfl (hown2.alloc _) (W1.heap.size + 1) (some ⟨W1.heap.size, 0, none⟩) 1 1 [.int .u16 d'.st, .int .u16 d'.ssn] rfl (reads_new (W1.drewN (nq + 1)) #[.int .u16 d'.st, .int .u16 d'.ssn] 41 2 1 rfl) (by intro u hu; simp at hu; rcases hu with rfl | rfl <;> rfl) (by simp only [maxLen]; omega) (by omega) (by simp; omega) ?_; intro v1 w3 hown3 hg3 hat3; obtain ⟨A3, c3, rfl, _, _⟩ := own_slice hown3; have hf3 := (hBf2.alloc _).grown hg3 (own_ne hown2 (by omega)); have z0 := hf3.cell 1; have z1 := hf3.frozen 1))
                all_goals
                  have hbr4 : Below w.heap.size w (w3.setCell ⟨w.heap.size + 1, 1, none⟩ (.slice A3 (L.length + 1) c3)) :=
                    (((hbr'.drew).alloc (by have := hbr'.size; exact this) (.cells #[.int .u16 d'.st, .int .u16 d'.ssn] 41)).trans ⟨hg3.os, hg3.tape, hg3.output, hg3.size, fun i hi => hg3.block i (by simp; omega) (by have := own_ne hown' (g := i) (by omega); exact this)⟩).setCell (by simp) _
                  have hown4 : (w3.setCell ⟨w.heap.size + 1, 1, none⟩ (.slice A3 (L.length + 1) c3)).ownsRow (w.heap.size + 2) 41 2 (.slice A3 (L.length + 1) c3) (L.length + 1) (sks (L ++ [(d'.st, d'.ssn)])) := by
                    rw [sks_append]
                    simpa [sks, Sk.cs] using own_set (i := 1) (u := .slice A3 (L.length + 1) c3) hown3 (g := w.heap.size + 1) (by omega)
                  have hBf4 : Blk (w3.setCell ⟨w.heap.size + 1, 1, none⟩ (.slice A3 (L.length + 1) c3)) (w.heap.size + 1) 27 #[.int .u32 d.tsn, .slice A3 (L.length + 1) c3] := by simpa using hf3.set_ 1 (.slice A3 (L.length + 1) c3)
                  have hBr4 : Blk (w3.setCell ⟨w.heap.size + 1, 1, none⟩ (.slice A3 (L.length + 1) c3)) w.heap.size 27 #[.int .u32 0, .slice none 0 0] := by
                    have e1 : Blk (W1.drewN (nq + 1)) w.heap.size 27 #[.int .u32 0, .slice none 0 0] := hBr'
                    exact ((e1.alloc _).grown hg3 (own_ne hown' (by omega))).far (by simp) _
                  clear hf3 z0 z1 hown3 hg3 hat3 yb1 hBf2 hown2 b0 b1 bf0 bf1 r1'
                  generalize w3.setCell ⟨w.heap.size + 1, 1, none⟩ (.slice A3 (L.length + 1) c3) = W4 at hbr4 hown4 hBf4 hBr4 ⊢
                  obtain ⟨ad2, s, hA2, hab2, hs2, y0, y1⟩ := at_ (Reads.of_own hown4) L.length (by omega)
                  have hs3 : Hid (s = (d'.st, d'.ssn)) := by
                    rw [List.getElem?_append_right (Nat.le_refl _)] at hs2
                    simp at hs2
                    exact hs2.symm
                  obtain rfl : s = (d'.st, d'.ssn) := unhide hs3
                  subst hA2
                  clear hs2 hs3
                  have hX : (⟨(ad.add (k * 7)).block, (ad.add (k * 7)).off + 2, none⟩ : Addr).block < w.heap.size := by show (ad.add (k * 7)).block < _; rw [block_of_add]; omega
                  have y2 : W4.cell? ⟨(ad.add (k * 7)).block, (ad.add (k * 7)).off + 2, none⟩ = some (.int .u16 d'.ssn) := (hbr4.cell hX).trans ((hbr'.cell hX).symm.trans r2')
                  have hls : ls16 d'.ssn d'.ssn = false := ls16_of (by unfold ah16; simp)
                  have y3 := hBf4.cell 1
                  clear hX r2' hbr' hBr' hBf' hown'
                  go_wp2
                  go_quiet ((go_at_call 21; exact quiet_left ((c21 d'.ssn d'.ssn _).mono fun e w' h => ⟨h.1.trans (by rw [hls]), h.2⟩)))
                  go_wp2
                  go_roundw
                  case rel =>
                    have hown5 : W4.ownsRow (w.heap.size + 2) 41 2 (.slice (some ad2) (L.length + 1) c3) (L ++ [(d'.st, d'.ssn)]).length (sks (L ++ [(d'.st, d'.ssn)])) := by simpa using hown4
                    have hLL : L ++ [(d'.st, d'.ssn)] = skips (ds.take (k + 1)) := by rw [hdd, hs, hup]
                    repeat apply Exists.intro
                    exact ⟨⟨k + 1, _, _, by omega, by go_num, below_drewN hbr4 _, hBr4.drewN _, hBf4.drewN _, hown5, hLL⟩, rfl⟩
                  case measure => simp [intOf]; omega
        · obtain rfl : k = m + 1 := by omega
          have b0 := hBf.cell 0
          have b1 := hBf.cell 1
          have c0 := hBr.cell 0
          have c1 := hBr.cell 1
          have cf0 := hBr.frozen 0
          have cf1 := hBr.frozen 1
          obtain ⟨A2, c2, rfl, hle2, hnil2⟩ := own_slice hown
          have hlt1 := hBr.lt
          have hlt2 := hBf.lt
          go_wp2
          have hres : Blk ((wr.setCell ⟨w.heap.size, 0, none⟩ (.int .u32 d.tsn)).setCell ⟨w.heap.size, 1, none⟩ (.slice A2 L.length c2)) w.heap.size 27 #[.int .u32 d.tsn, .slice A2 L.length c2] := by
            simpa using ((hBr.set_ 0 (.int .u32 d.tsn)).set_ 1 (.slice A2 L.length c2))
          have hlen := dlen_ (unhide H)
          have hR : RowOk cum ds := by
            have e1 : RowOk cum (ds.take (m + 1)) := unhide hT
            rwa [List.take_of_length_le (by omega)] at e1
          have hts : d.tsn = (cum + ds.length) % 4294967296 := by
            rw [hR m d (unhide hD), hlen]
            congr 1
            omega
          have hLs : L = skips ds := by
            have e1 : L = skips (ds.take (m + 1)) := unhide hL
            rwa [List.take_of_length_le (by omega)] at e1
          refine bodyPost_ret (results_ct (P := Try.prog) Try.results10 _ _ w.heap.size 27 _ _ rfl hres Try.underlying27 rfl size27) rfl ?_
          refine .inl ⟨hR, _, by rw [← hts]; rfl, ?_, (hbr.setCell (by simp) _).setCell (by simp) _⟩
          have o2 := own_weaken (base' := w.heap.size) (own_set (i := 1) (u := .slice A2 L.length c2) (own_set (i := 0) (u := .int .u32 d.tsn) hown (g := w.heap.size) (by omega)) (g := w.heap.size) (by omega)) (by omega)
          rw [hLs] at o2
          rw [hLs]
          exact o2
end Go.Proofs.Ytkjohgokkfghiaa.Rm

/-
  Proved: what is of no use any more, and was not begun, never comes, and takes no number of its stream; all else comes.
  Conditions: none; every input.
-/
import Derived.Test.YtmidnfkmefoleaaXp
import Derived.Deep.QuietTactic
import Derived.BigQuiet
import Derived.Deep.DeepCutAuto
import Derived.Test.YtmidnfkmefoleaaOq
import Derived.Test.YtmidnfkmefoleaaRows
import Derived.ProofKit
import Derived.OpenShut
import Derived.Carry
set_option linter.unusedVariables false
set_option linter.unusedSimpArgs false
namespace Go.Proofs.Ytmidnfkmefoleaa.outqExpires
open Go.ChangeShapes Go.WideShapes Go.ChangeAt
open Go.RowKit Wd Ra Qm Qs Qp Qn Qe Qd Qx Ql Qt Qk Xp

theorem u8_small {k : Nat} (h : k < 256) : IntKind.u8.wrap (k : Int) = k := by
  simp [IntKind.wrap, IntKind.signed, IntKind.bits]; omega

set_option maxRecDepth 100000 in
set_option maxHeartbeats 2000000 in
theorem walk (A : Option Addr) (n c B : Nat) (now : Int) (us : List Int) (w : World) (hn : n ≤ 9223372036854775807) (hnow : 0 ≤ now ∧ now ≤ 255) (hB : B ≤ w.heap.size) (h : Reads w B 1 A n (bs us)) (hok : Hid (BOk us)) :
    Calls Try.prog 3 #[.slice A n c, .int .u8 now] w fun e w' => e = .returned (.bool true) ∧ Below w.heap.size w w' := by
  obtain ⟨i0, hi0, hz0, hz1, hz2⟩ := info_parts info5
  have HL := hide (blen_ h)
  have H := hide h
  clear h
  by_cases hbig : 60 < n
  · go_enter Try.func3, Try.ntmps3
    go_wp2_with fail
    refine (works w).mono ?_
    rintro e w1 ⟨rfl, hb1⟩
    go_wp2
    go_ret
    exact ⟨rfl, hb1⟩
  · have hn2 : n ≤ 60 := by omega
    go_enter Try.func3, Try.ntmps3
    go_wp2_with fail
    refine (newS 1 1000 w (by omega) (by omega) (by omega) (by omega)).mono ?_
    rintro e w1 ⟨rfl, S1⟩
    generalize hs : w.heap.size = s at *
    have HS := hide hs
    clear hs
    have S1 : St s (fun _ => False) w (qE us 0) w1 := S1
    go_wp2
    go_loopw [7, 8] (fun v i wr => ∃ (k m c' : Nat) (A' : Option Addr), k ≤ n ∧ i = .int .i64 k ∧ v = .slice A' m c' ∧ m = (want us now k).length ∧ wr.ownsRow (s + 2) 5 1 (.slice A' m c') m (bs (wantI us now k)) ∧ Hid (St s (fun j => (Value.slice A' m c').ownBlock = some j) w (qE us k) wr)) (fun _ i _ => n - (intOf i).toNat)
    case atStart => exact ⟨0, 0, 0, none, Nat.zero_le _, rfl, rfl, rfl, own_none _ _ _ _, S1.weaken (fun k hk => by simp [Value.ownBlock] at hk)⟩
    case round =>
      obtain ⟨k, m, c', A', hk, rfl, rfl, hm, hrow, hSt⟩ := hrel
      have hml : m ≤ k := by rw [hm]; exact want_le us now k
      have HM := hide hm
      clear hm
      by_cases hlt : k < n
      · have hS := unhide hSt
        obtain ⟨ad, x, rfl, hab, hx, hcell⟩ := bat_ ((unhide H).keep (w' := wr) (fun p hp => hS.below.cell (by omega))) k hlt
        obtain ⟨x0, x1⟩ := (unhide hok) x (List.mem_of_getElem? hx)
        have hgx : us.getD k 0 = x := by rw [List.getD_eq_getElem?_getD, hx]; rfl
        have hsz := hS.size
        have hy := qE_why (us := us) (k := k) (by rw [hgx]; exact x0) (by omega)
        rw [hgx] at hy
        have u8k := u8_small (k := k) (by omega)
        have HX := hide hgx
        have S2 := hS.alloc (.cells #[.int .u8 k] 5)
        have n2 := reads_new wr #[.int .u8 k] 5 1 1 rfl
        have hrow2 := hrow.alloc (.cells #[.int .u8 k] 5)
        have hFl : Hid (∀ j, (Value.slice A' m c').ownBlock = some j → j < (wr.alloc (.cells #[.int .u8 k] 5)).heap.size) := fun j hj => own_lt hrow2 j hj
        have hadx : ad.block < (wr.alloc (.cells #[.int .u8 k] 5)).heap.size := by simp; omega
        have hcell2 : (wr.alloc (.cells #[.int .u8 k] 5)).cell? (ad.add k) = some (.int .u8 x) := (World.cell?_alloc_lt wr _ _ (by rw [block_of_add]; omega)).trans hcell
        clear hx hgx hS
        go_wp2_with fail
        refine (putS s (fun j => (Value.slice A' m c').ownBlock = some j) w (qE us k) _ 0 true (some ⟨wr.heap.size, 0, none⟩) 1 1 (wr.heap.size + 1) x [(k : Int)] S2 hy (by omega) (by omega) n2 (by simp) (by simp) hFl (fun y hy => by simp at hy; omega) (by show k < 1000000; omega)).mono ?_
        rintro e w3 ⟨rfl, S3, f3⟩
        rw [← unhide HX, qE_next] at S3
        have hrow3 := own_fr hrow2 f3 (fun e => by have := own_base hrow2 _ e; omega) (not_mine (by decide))
        have hcell3 : w3.cell? (ad.add k) = some (.int .u8 x) := by
          have := (unhide H).keep (w' := w3) (fun p hp => S3.below.cell (by omega))
          obtain ⟨ad', x', e1, _, hx', hc'⟩ := bat_ this k hlt
          injection e1 with e1
          subst e1
          have hxx : x' = x := by
            rw [← unhide HX, List.getD_eq_getElem?_getD, hx']
            rfl
          rw [hxx] at hc'
          exact hc'
        have hmk : ((qE us k).many : Int) = (k : Int) := rfl
        rw [hmk]
        have HS3 := hide S3
        have hsz3 := S3.size
        clear S2 n2 hrow2 hFl f3 S3 hy hcell hcell2 hrow hmk
        have hwn := want_next us now k
        cases hst : stay us now k with
        | true =>
          rw [hst] at hwn
          simp only [if_true] at hwn
          have hc1 : (x == 0) = true ∨ ((x == 0) = false ∧ now < x) := by
            have := hst
            unfold stay at this
            rw [unhide HX] at this
            simp only [Bool.or_eq_true, decide_eq_true_eq] at this
            rcases this with h1 | h1
            · exact .inl h1
            · right
              exact ⟨by rw [beq_eq_false_iff_ne]; omega, h1⟩
          have HW := hide hwn
          clear hwn hst
          have fin : ∀ (v4 : Value) (w4 : World), w4.ownsRow (s + 2) 5 1 v4 (m + 1) (bs (wantI us now k) ++ [.int .u8 k]) → (w3.alloc (.cells #[.int .u8 k] 5)).grownBy w4 (Value.slice A' m c').ownBlock → (v4.ownBlock = (Value.slice A' m c').ownBlock ∨ v4.ownBlock = some (w3.heap.size + 1)) →
              ∃ (m4 c4 : Nat) (A4 : Option Addr), v4 = .slice A4 m4 c4 ∧ m4 = (want us now (k + 1)).length ∧ w4.ownsRow (s + 2) 5 1 (.slice A4 m4 c4) m4 (bs (wantI us now (k + 1))) ∧ St s (fun j => (Value.slice A4 m4 c4).ownBlock = some j) w (qE us (k + 1)) w4 := by
            intro v4 w4 h4 hg4 hat4
            obtain ⟨A4, c4, rfl, _, _⟩ := own_slice h4
            have e1 : m + 1 = (want us now (k + 1)).length := by rw [unhide HW, List.length_append, ← unhide HM]; rfl
            have e2 : bs (wantI us now k) ++ [.int .u8 k] = bs (wantI us now (k + 1)) := by
              unfold wantI
              rw [unhide HW, List.map_append, bs_append]
              rfl
            rw [e2] at h4
            have T := ((unhide HS3).alloc (.cells #[.int .u8 k] 5)).qi.free
            have hr3 := hrow3.alloc (.cells #[.int .u8 k] 5)
            have T2 : St s (fun j => (Value.slice A' m c').ownBlock = some j ∨ (w3.alloc (.cells #[.int .u8 k] 5)).heap.size ≤ j) w (qE us (k + 1)) (w3.alloc (.cells #[.int .u8 k] 5)) := ⟨T, ((unhide HS3).alloc _).below, (unhide HS3).ok⟩
            have T3 := T2.grown hg4 (fun j hj _ => ⟨by have := own_base hr3 j hj; omega, fun cs t mk hc => by
              obtain ⟨cur, hcur⟩ := own_cells hr3 hj
              rw [hc] at hcur
              injection hcur with hcur
              injection hcur with _ e9
              subst e9
              exact ⟨not_mine (by decide), fun _ => .inl hj⟩⟩) (fun j hj => by have := own_base hr3 j hj; omega)
            refine ⟨m + 1, c4, A4, rfl, e1, h4, T3.weaken fun j hj => ?_⟩
            rcases hat4 with h9 | h9
            · left; rw [← h9]; exact hj
            · right
              rw [h9] at hj
              injection hj with hj
              rw [World.size_alloc, ← hj]
              exact Nat.le_refl _
          have FIN := hide fin
          clear fin
          have hr4 := hrow3.alloc (.cells #[.int .u8 k] 5)
          have n4 := reads_new w3 #[.int .u8 k] 5 1 1 rfl
          rcases hc1 with hc1 | ⟨hc1, hc2⟩
          all_goals
            go_wp2_with (at_builtin; refine wpList_append_any _ rfl (.tmp 66) (.tmp 69) _ rfl (s + 2) 5 i0 _ 1 1 Try.underlying22 hi0 hz0 hz1 hz2 rfl (by omega) (.slice A' m c') m (bs (wantI us now k)) rfl hr4 (w3.heap.size + 1) (some ⟨w3.heap.size, 0, none⟩) 1 1 [.int .u8 k] rfl n4 (by intro u hu; simp at hu; subst hu; rfl) (by simp only [maxLen]; omega) (by omega) (by simp; omega) ?_; intro v4 w4 hown4 hg4 hat4)
            go_roundw
            case rel =>
              rw [World.size_alloc] at hat4
              obtain ⟨m4, c4, A4, rfl, e1, e2, e3⟩ := unhide FIN v4 w4 hown4 hg4 hat4
              exact ⟨k + 1, m4, c4, A4, by omega, by go_num, rfl, e1, e2, e3⟩
            case measure => simp [intOf]; omega
        | false =>
          rw [hst] at hwn
          have hc1 : (x == 0) = false ∧ x ≤ now := by
            have := hst
            unfold stay at this
            rw [unhide HX] at this
            simp only [Bool.or_eq_false_iff, decide_eq_false_iff_not] at this
            exact ⟨this.1, by omega⟩
          have hwn2 : want us now (k + 1) = want us now k := by rw [hwn]; simp
          obtain ⟨hc1, hc2⟩ := hc1
          have HW := hide hwn2
          clear hwn hwn2 hst
          go_wp2
          go_roundw
          case rel => exact ⟨k + 1, m, c', A', by omega, by go_num, rfl, by rw [unhide HW]; exact unhide HM, by unfold wantI at hrow3 ⊢; rw [unhide HW]; exact hrow3, unhide HS3⟩
          case measure => simp [intOf]; omega
      · obtain rfl : k = n := by omega
        have hpos : ∀ x ∈ us, 0 ≤ x := fun x hx => ((unhide hok) x hx).1
        have hxx : exX now (qE us k) = (k - (want us now k).length, none) := (ex_want hpos k).1
        have hqn := qN_zero (now := now) hpos k
        go_wp2_with fail
        refine (expS s _ w (qE us k) wr now (unhide hSt)).mono ?_
        rintro e w3 ⟨A7, n7, c7, rfl, o7, S3, f3⟩
        rw [hxx]
        rw [hqn] at S3
        have S4 := S3.none_
        have hd7 : (lastD ((k - (want us now k).length, none) : Nat × Option PI).2).cs A7 n7 c7 = #[.int .u32 0, .int .u16 0, .int .u16 0, .bool false, .bool false, .bool false, .slice A7 n7 c7] := rfl
        have hi7 : ((lastI ((k - (want us now k).length, none) : Nat × Option PI).2 : Nat) : Int) = 0 := rfl
        have hs7 : ((k - (want us now k).length, none) : Nat × Option PI).2.isSome = false := rfl
        rw [hd7, hi7, hs7]
        have hrow3 := own_fr hrow f3 (fun e => by have := own_base hrow _ e; omega) (not_mine (by decide))
        have S5 := S4.alloc (.cells #[.int .u32 0, .int .u16 0, .int .u16 0, .bool false, .bool false, .bool false, .slice A7 n7 c7] 35)
        have hrow5 := hrow3.alloc (.cells #[.int .u32 0, .int .u16 0, .int .u16 0, .bool false, .bool false, .bool false, .slice A7 n7 c7] 35)
        clear hxx hqn hd7 hi7 hs7 o7 f3 S3 S4 hrow3 hrow hSt hpos
        go_upto_region 16 with fail
        generalize (w3.alloc (.cells #[.int .u32 0, .int .u16 0, .int .u16 0, .bool false, .bool false, .bool false, .slice A7 n7 c7] 35)) = w5 at *
        go_wp2_with fail
        refine (usedS s (fun _ => False) w (qN us now k 0) w5 S5).mono ?_
        rintro e w6 ⟨rfl, rfl⟩
        have hu6 : ((qN us now k 0).used : Int) = (m : Int) := by rw [unhide HM]; rfl
        rw [hu6]
        clear hu6
        go_wp2_with fail
        refine (waitS s (fun _ => False) w (qN us now k 0) w5 S5).mono ?_
        rintro e w6 ⟨rfl, d6, rfl⟩
        have hu6 : ((waits (qN us now k 0).its : Nat) : Int) = (m : Int) := by
          show ((waits (((want us now k).drop 0).map (itE us)) : Nat) : Int) = _
          rw [waits_want, List.drop_zero, unhide HM]
        rw [hu6]
        clear hu6
        have S6 := S5.drewN d6
        have hrow6 : (w5.drewN d6).ownsRow (s + 2) 5 1 (.slice A' m c') m (bs (wantI us now k)) := hrow5
        clear S5 hrow5
        go_upto_region 18 with fail
        generalize w5.drewN d6 = w6 at *
        go_wp2
        go_loopw [14] (fun i wr2 => ∃ (j : Nat), j ≤ m ∧ i = .int .i64 j ∧ wr2.ownsRow (s + 2) 5 1 (.slice A' m c') m (bs (wantI us now k)) ∧ Hid (St s (fun _ => False) w (qN us now k j) wr2)) (fun i _ => m - (intOf i).toNat)
        case atStart => exact ⟨0, Nat.zero_le _, rfl, hrow6, S6⟩
        case round =>
          obtain ⟨j, hj, rfl, hrowj, hSj⟩ := hrel
          by_cases hjl : j < m
          · obtain ⟨i, hi⟩ : ∃ i, (want us now k)[j]? = some i := ⟨_, List.getElem?_eq_getElem (by have := unhide HM; omega)⟩
            have hin := want_mem hi
            obtain ⟨e1, e2, e3⟩ := qN_next (us := us) (now := now) (n := k) (j := j) (i := i) (by omega)
            have hits := qN_its hi
            obtain ⟨gw, cw, hvw, _, _⟩ := hrowj.form (by omega)
            obtain ⟨rfl, rfl⟩ : A' = some ⟨gw, 0, none⟩ ∧ c' = cw := by injection hvw with a b c; exact ⟨a, c⟩
            have hcw : wr.cell? ⟨gw, j, none⟩ = some (.int .u8 (i : Int)) := by
              rw [hrowj.cellAt j (by omega)]
              refine bs_get _ j _ ?_
              unfold wantI
              rw [List.getElem?_map, hi]
              rfl
            have HI := hide (And.intro hi e1)
            go_wp2_with fail
            refine (nextS s (fun _ => False) w (qN us now k j) wr (itE us i) _ 5 (unhide hSj) hits (by omega) (by omega)).mono ?_
            rintro e w7 ⟨A9, c9, rfl, o9, S7, f7⟩
            rw [e3] at o9 ⊢
            rw [e2] at o9 ⊢
            rw [e1] at S7
            have S8 := S7.none_
            clear hi e1 e2 e3 hits S7
            have hd9 : (⟨0, (j : Int), false, true, true, [(i : Int)]⟩ : PD).cs A9 1 c9 = #[.int .u32 0, .int .u16 0, .int .u16 (j : Int), .bool false, .bool true, .bool true, .slice A9 1 c9] := rfl
            have hid9 : ((itE us i).id : Int) = (i : Int) := rfl
            rw [hd9, hid9]
            clear hd9 hid9
            have hrow7 := own_fr hrowj f7 (fun e => by have := own_base hrowj _ e; omega) (not_mine (by decide))
            have S9 := S8.alloc (.cells #[.int .u32 0, .int .u16 0, .int .u16 (j : Int), .bool false, .bool true, .bool true, .slice A9 1 c9] 35)
            have hrow9 := hrow7.alloc (.cells #[.int .u32 0, .int .u16 0, .int .u16 (j : Int), .bool false, .bool true, .bool true, .slice A9 1 c9] 35)
            have o10 := o9.alloc (.cells #[.int .u32 0, .int .u16 0, .int .u16 (j : Int), .bool false, .bool true, .bool true, .slice A9 1 c9] 35)
            have D9 := Blk.new w7 35 #[.int .u32 0, .int .u16 0, .int .u16 (j : Int), .bool false, .bool true, .bool true, .slice A9 1 c9]
            clear hcw hrow7 S8 f7 o9 hrowj
            go_upto_region 22 with fail
            generalize (w7.alloc (.cells #[.int .u32 0, .int .u16 0, .int .u16 (j : Int), .bool false, .bool true, .bool true, .slice A9 1 c9] 35)) = w9 at *
            obtain ⟨g9, c99, hv9, _, _⟩ := o10.form (by omega)
            obtain ⟨rfl, rfl⟩ : A9 = some ⟨g9, 0, none⟩ ∧ c9 = c99 := by injection hv9 with a b c; exact ⟨a, c⟩
            have hcw : w9.cell? ⟨gw, j, none⟩ = some (.int .u8 (i : Int)) := by
              rw [hrow9.cellAt j (by omega)]
              refine bs_get _ j _ ?_
              unfold wantI
              rw [List.getElem?_map, (unhide HI).1]
              rfl
            have hc9 : w9.cell? ⟨g9, 0, none⟩ = some (.int .u8 (i : Int)) := by
              rw [o10.cellAt 0 (by omega)]
              rfl
            have z2 : w9.cell? ⟨w7.heap.size, 2, none⟩ = some (.int .u16 (j : Int)) := D9.cell 2
            have z6 : w9.cell? ⟨w7.heap.size, 6, none⟩ = some (.slice (some ⟨g9, 0, none⟩) 1 c9) := D9.cell 6
            have q1 : (0 : Int) ≤ (j : Int) := by omega
            have q2 : (j : Int) < (m : Int) := by omega
            have q3 : IntKind.u16.wrap (j : Int) = j := by rw [u16_wrap]; omega
            have HO := hide (And.intro S9 (And.intro hrow9 o10))
            clear S9 hrow9 o10 D9
            go_quiet (fail)
            go_wp2
            go_roundw
            case rel => exact ⟨j + 1, by omega, by go_num, (unhide HO).2.1, (unhide HO).1.drewN _⟩
            case measure => simp [intOf]; omega
          · obtain rfl : j = m := by omega
            have hits : (qN us now k j).its = [] := by
              show ((want us now k).drop j).map (itE us) = []
              rw [List.drop_of_length_le (by rw [← unhide HM]; exact Nat.le_refl _)]
              rfl
            go_wp2_with fail
            refine (nextxS s (fun _ => False) w (qN us now k j) wr 5 (unhide hSj) (.inl hits)).mono ?_
            rintro e w7 ⟨rfl, S7, f7⟩
            have S8 := S7.alloc (.cells #[.int .u32 0, .int .u16 0, .int .u16 0, .bool false, .bool false, .bool false, .slice none 0 0] 35)
            clear hits S7 f7 hSj
            go_upto_region 25 with fail
            generalize (w7.alloc (.cells #[.int .u32 0, .int .u16 0, .int .u16 0, .bool false, .bool false, .bool false, .slice none 0 0] 35)) = w8 at *
            go_wp2_with fail
            refine (works w8).mono ?_
            rintro e w9 ⟨rfl, hb9⟩
            go_wp2
            go_ret
            have hbb := S8.below
            have hsz := S8.size
            refine ⟨rfl, ?_⟩
            rw [unhide HS]
            exact below_then hbb (by omega) hb9
theorem own : ownKnob Try.prog.godebug = none := by kernel_rfl
theorem laidOut : laidOutB Try.prog = true := by kernel_rfl
set_option maxRecDepth 100000 in
theorem lifted (os : Os) (started : os.Started) (H : Type) (enc : TypeId × Value → H) :
    ReturnsInHanded {} Try.checked os 3 .any (Rows.outqExpiresSpec.pre6 enc Try.prog Try.f3 Rows.outqExpiresRow.domain false) (Rows.outqExpiresSpec.post enc Try.prog Try.f3 false true false false) := by
  refine returnsInHanded_of_change (C := Try.checked) own started (by kernel_rfl) Try.func3
    (ChangeSpec.witness6 (enc := enc) (C := Try.checked) false ⟨#[], #[.slice none 0 0, .int .u8 0], []⟩ 8 (by kernel_rfl) (by kernel_rfl) (by kernel_rfl) (by kernel_rfl)) ?_
  intro W base args ds gs before hval0 hW hcnd _
  have hval : ∀ (j : Nat) t v, Try.f3.params[j]? = some t → args[j]? = some v → Value.okWide Try.prog W .any base t v := hval0
  have hW' := hW
  obtain ⟨p, q, hA0, hV, rfl, hfz, hnd⟩ := hW
  have hA : DataW.TrodAll enc Try.prog W 0 (fun _ => true) true Try.f3.params.toList args.toList ds p := hA0
  rw [Try.params3] at hA hval
  obtain ⟨v0, vs0, d0, ds0, p0, q0, hargs, rfl, rfl, h0, r0⟩ := trodAll_cons hA
  obtain ⟨v1, vs1, d1, ds1, p1, q1, rfl, rfl, rfl, h1, r1⟩ := trodAll_cons r0
  obtain ⟨rfl, rfl, rfl⟩ := trodAll_nil r1
  obtain rfl : args = #[v0, v1] := by cases args; simp_all
  obtain ⟨rfl, rfl⟩ := trodVars_none hV
  have k0 := h0
  have lt0 : ∀ x ∈ p0, x.block < W.heap.size := by obtain ⟨m, hm⟩ := k0; exact DataW.trod_lt m _ _ _ hm
  have k1 := h1
  have lt1 : ∀ x ∈ p1, x.block < W.heap.size := by obtain ⟨m, hm⟩ := k1; exact DataW.trod_lt m _ _ _ hm
  obtain ⟨A0, len0, cap0, rfl⟩ := okWide_slice Try.underlying22 (hval 0 22 v0 rfl rfl)
  obtain ⟨x0, hr0, ho0, hc0, hm0, hn0⟩ := Oq.open_bytes' h0
  unfold maxLen at hm0
  obtain ⟨a1, rfl, rfl, rfl, w1⟩ := open_int Try.underlying5 (hval 1 5 v1 rfl rfl) h1
  obtain ⟨b1, c1⟩ := bounds_u8 w1
  clear hA0 hval0
  refine (walk A0 len0 cap0 W.heap.size a1 x0 W (by omega) ⟨b1, c1⟩ (Nat.le_refl _) hr0 ho0).mono fun e W' ⟨he, bel⟩ => ?_
  subst he
  exact ⟨_, rfl, _, _, _, [], _, [], hW', trodAll_mk1 (shut_bool Try.underlying4 _), (trodAll_cons_mk (Below.trod laidOut (by kernel_rfl) (of_decide_eq_true (by kernel_rfl)) k0 bel lt0) (trodAll_cons_mk (Below.trod laidOut (by kernel_rfl) (of_decide_eq_true (by kernel_rfl)) k1 bel lt1) trodAll_mk0)), rfl, bel.frame _, fun h => by cases h⟩
theorem over : Rows.outqExpiresRow.holds Try.pinned (OpenSpec.ofChange Rows.outqExpiresSpec) :=
  OpenClaim.holds_of_wide 3 Try.f3 rfl rfl rfl rfl rfl rfl rfl ⟨rfl, rfl, rfl, rfl, rfl⟩ rfl rfl rfl rfl rfl (by kernel_rfl) Try.func3 (by kernel_rfl)
    (of_decide_eq_true (by kernel_rfl)) (by unfold Func.isWrapper; first | (rw [if_pos (by decide +kernel)]; kernel_rfl) | (rw [if_neg (by decide +kernel)]; exact ⟨rfl, rfl⟩))
    (fun os started H enc _ => lifted os started H enc)
theorem proved : Rows.OutqExpiresSaid :=
  over
end Go.Proofs.Ytmidnfkmefoleaa.outqExpires

/-
  Proved: the room is kept, whatever is done with the queue: no more than it is ever taken, what waits is part of it, and a message is refused for it alone where it does not fit.
  Conditions: none; every input.
-/
import Derived.Test.YtmidnfkmefoleaaPr
import Derived.Deep.DeepCutAuto
import Derived.Test.YtmidnfkmefoleaaOq
import Derived.Test.YtmidnfkmefoleaaRows
import Derived.ProofKit
import Derived.OpenShut
import Derived.Carry
import Derived.Test.YtmidnfkmefoleaaOw
import Derived.SizedLaws
set_option linter.unusedVariables false
set_option linter.unusedSimpArgs false
namespace Go.Proofs.Ytmidnfkmefoleaa.outqRoom
open Go.ChangeShapes Go.WideShapes Go.ChangeAt
open Go.RowKit Wd Ra Qm Qs Qp Qn Qe Qd Qx Ql Qt Qk Oq Vs Dk Do Dn Dt Ow Dq Pr

set_option maxRecDepth 100000 in
set_option maxHeartbeats 4000000 in
theorem walk (room : Int) (A : Option Addr) (n c : Nat) (l : List OV) (w : World) (hr : -9223372036854775808 ≤ room ∧ room ≤ 9223372036854775807) (hn : n ≤ 9223372036854775807) (hl : l.length = n) (h : Reads w w.heap.size 6 A n (l.flatMap OV.cs)) (hok : ∀ x ∈ l, OkW w x) :
    Calls Try.prog 8 #[.int .i64 room, .slice A n c] w fun e w' => e = .returned (.bool true) ∧ Below w.heap.size w w' := by
  have HL := hide hl
  have HOK := hide hok
  have H := hide h
  have hv := c16 A n c w.heap.size l w hn hl h (fun x hx => by have := (hok x hx).2; omega)
  clear hl hok h
  go_enter Try.func8, Try.ntmps8
  go_wp2_with fail
  refine hv.mono ?_
  rintro e w1 ⟨r, rfl, hr1, hw1⟩
  subst w1
  cases r with
  | true =>
    go_wp2_with fail
    refine (works w).mono ?_
    rintro e w2 ⟨rfl, hb2⟩
    go_wp2
    go_ret
    exact ⟨rfl, hb2⟩
  | false =>
    have hn2 := hr1 rfl
    clear hr1 hv
    by_cases hbad : room < 1 ∨ 1048576 < room
    · rcases hbad with hbad | hbad
      · go_wp2_with fail
        refine (c10x 4 room w (by omega)).mono ?_
        rintro e w2 ⟨rfl, rfl⟩
        go_wp2_with fail
        refine (works w).mono ?_
        rintro e w2 ⟨rfl, hb2⟩
        go_wp2
        go_ret
        exact ⟨rfl, hb2⟩
      · go_wp2_with fail
        refine (c10x 4 room w (by omega)).mono ?_
        rintro e w2 ⟨rfl, rfl⟩
        have hb1 : ¬ room < 1 := by omega
        go_wp2_with fail
        refine (works w).mono ?_
        rintro e w2 ⟨rfl, hb2⟩
        go_wp2
        go_ret
        exact ⟨rfl, hb2⟩
    · obtain ⟨rm, rfl⟩ : ∃ rm : Nat, room = (rm : Int) := ⟨room.toNat, by omega⟩
      go_wp2_with fail
      refine (newS 4 rm w (by omega) (by omega) (by omega) (by omega)).mono ?_
      rintro e w1 ⟨rfl, S1⟩
      generalize hs : w.heap.size = s at *
      have HS := hide hs
      clear hs
      go_wp2
      go_loopw [7, 8] (fun v i wr => ∃ (k out : Nat) (q : PQ), k ≤ n ∧ i = .int .i64 k ∧ v = .int .i64 out ∧ Hid (RInv rm q out) ∧ q.many ≤ k ∧ Hid (St s (fun _ => False) w q wr)) (fun _ i _ => n - (intOf i).toNat)
      case atStart => exact ⟨0, 0, fresh 4 rm, Nat.zero_le _, rfl, rfl, ⟨rfl, rfl, rfl, by intro p hp; simp [fresh] at hp⟩, Nat.le_refl _, S1⟩
      case round =>
        obtain ⟨k, out, q, hk, rfl, rfl, hI, hm, hSt⟩ := hrel
        by_cases hlt : k < n
        · have hS := unhide hSt
          have hsz := hS.size
          obtain ⟨ad, x, rfl, hab, hx, q0, q1, q2, q3, q4, q5⟩ := ov_at ((unhide H).keep (w' := wr) (fun p hp => hS.below.cell (by omega))) (unhide HL) k hlt
          have hxo := unhide HOK x (List.mem_of_getElem? hx)
          --BEGIN
          obtain ⟨kind, ⟨st, o, A', n', c', xs⟩, un, kk⟩ := x
          obtain ⟨⟨hkd, ⟨hst0, hst1, hxr, hxb, hxc, hxm, hxnil⟩, hun, hkk⟩, hxn⟩ := hxo
          have hxl := blen_ hxr
          have hxr2 : Reads wr s 1 A' n' (bs xs) := by
            have e := unhide HS
            simp only at hxr
            rw [e] at hxr
            exact hxr.keep fun p hp => hS.below.cell (by omega)
          have q0 : wr.cell? (ad.add (k * 6)) = some (.int .i64 kind) := q0
          have q1 : wr.cell? ⟨(ad.add (k * 6)).block, (ad.add (k * 6)).off + 1, none⟩ = some (.int .u16 st) := q1
          have q2 : wr.cell? ⟨(ad.add (k * 6)).block, (ad.add (k * 6)).off + 2, none⟩ = some (.bool o) := q2
          have q3 : wr.cell? ⟨(ad.add (k * 6)).block, (ad.add (k * 6)).off + 3, none⟩ = some (.slice A' n' c') := q3
          have q4 : wr.cell? ⟨(ad.add (k * 6)).block, (ad.add (k * 6)).off + 4, none⟩ = some (.int .i64 un) := q4
          have q5 : wr.cell? ⟨(ad.add (k * 6)).block, (ad.add (k * 6)).off + 5, none⟩ = some (.int .i64 kk) := q5
          simp only at hxn hst0 hst1 hxb hun hkk hxl hkd
          clear hx hxr hxc hxm hxnil
          by_cases k3 : kind = 3
          · subst k3
            have S1' := hS.alloc (.cells #[.int .i64 3, .int .u16 st, .bool o, .slice A' n' c', .int .i64 un, .int .i64 kk] 42)
            have D1 := Blk.new wr 42 #[.int .i64 3, .int .u16 st, .bool o, .slice A' n' c', .int .i64 un, .int .i64 kk]
            have r1 := hxr2.alloc (by omega) (.cells #[.int .i64 3, .int .u16 st, .bool o, .slice A' n' c', .int .i64 un, .int .i64 kk] 42)
            have hlt1 : wr.heap.size < (wr.alloc (.cells #[.int .i64 3, .int .u16 st, .bool o, .slice A' n' c', .int .i64 un, .int .i64 kk] 42)).heap.size := by simp
            clear hS hxr2
            go_upto_region 11 with fail
            generalize (wr.alloc (.cells #[.int .i64 3, .int .u16 st, .bool o, .slice A' n' c', .int .i64 un, .int .i64 kk] 42)) = w1 at *
            generalize wr.heap.size = t at *
            clear q0 q1 q2 q3 q4 q5
            have m0 : w1.cell? ⟨t, 0, none⟩ = some (.int .i64 3) := D1.cell 0
            have S2 := S1'.far D1 (by omega) (by decide) (fun h => absurd h (by decide)) 5 (.int .i64 out)
            have D2 := D1.set_ 5 (.int .i64 out)
            simp only [List.setIfInBounds_toArray, List.set_cons_zero, List.set_cons_succ] at D2
            have r2 : Reads (w1.setCell ⟨t, 5, none⟩ (.int .i64 out)) s 1 A' n' (bs xs) := r1.keep fun p hp => ((Below.refl t w1).setCell (Nat.le_refl t) _).cell (by omega)
            have hs2 : t < (w1.setCell ⟨t, 5, none⟩ (.int .i64 out)).heap.size := by simpa using hlt1
            have m5 := D1.cell 5
            have mf := fun i => D1.frozen i
            go_upto_region 14 with fail
            generalize (w1.setCell ⟨t, 5, none⟩ (.int .i64 out)) = w2 at *
            clear m0 m5 mf D1 r1 S1' hlt1
            have hsz2 := S2.size
            have m0 : w2.cell? ⟨t, 0, none⟩ = some (.int .i64 3) := D2.cell 0
            have m1 : w2.cell? ⟨t, 1, none⟩ = some (.int .u16 st) := D2.cell 1
            have m2 : w2.cell? ⟨t, 2, none⟩ = some (.bool o) := D2.cell 2
            have m3 : w2.cell? ⟨t, 3, none⟩ = some (.slice A' n' c') := D2.cell 3
            have m4 : w2.cell? ⟨t, 4, none⟩ = some (.int .i64 un) := D2.cell 4
            have m5 : w2.cell? ⟨t, 5, none⟩ = some (.int .i64 out) := D2.cell 5
            go_wp2_with fail
            refine (usedS s (fun _ => False) w q w2 S2).mono ?_
            rintro e w9 ⟨rfl, rfl⟩
            go_upto_region 15 with fail
            go_wp2_with fail
            refine (doesQ s w q w2 ⟨3, ⟨st, o, A', n', c', xs⟩, un, out⟩ S2 hxn ⟨hst0, hst1⟩ r2 hxb hun ⟨by show (-9223372036854775808 : Int) ≤ (out : Int); omega, by have a := (unhide hI).bal; have b := S2.ok.used; have c := S2.ok.room2; show (out : Int) ≤ 9223372036854775807; omega⟩ (by omega)).mono ?_
            rintro e w3 ⟨A9, n9, c9, rfl, o9, S3, f3⟩
            obtain ⟨hI3, hm3⟩ := play_inv (x := ⟨3, ⟨st, o, A', n', c', xs⟩, un, out⟩) (unhide hI) S2.ok (fun _ => rfl)
            rw [if_pos rfl] at hI3
            have hpl : Hid (play q ⟨3, ⟨st, o, A', n', c', xs⟩, un, out⟩ = play q ⟨3, ⟨st, o, A', n', c', xs⟩, un, out⟩) := rfl
            have herr := fun (h0 : 0 ≤ un) (h4 : st < 4) (h5 : 0 < n') (h6 : n' ≤ rm) => why_room (q := q) (st := st) (un := un) (n := n') (unhide hI) h0 h4 h5 h6
            have hperr : (3 : Int) = 0 → (play q ⟨3, ⟨st, o, A', n', c', xs⟩, un, out⟩).err = why q st n' un := fun h0 => absurd h0 (by decide)
            generalize play q ⟨3, ⟨st, o, A', n', c', xs⟩, un, out⟩ = a at *
            obtain ⟨aq, d, aid, aok, aerr⟩ := a
            simp only at hI3 hm3 S3 o9 hperr ⊢
            clear hpl
            have hn9 : d.xs.length = n9 := own_bytes o9
            rw [hn9] at hI3
            have D3 := blk_fr D2 f3 (by omega) (not_mine (by decide))
            have hct : told d A9 n9 c9 aid aok aerr = #[.int .u32 0, .int .u16 d.st, .int .u16 d.ssn, .bool d.un, .bool d.fi, .bool d.la, .slice A9 n9 c9, .int .i64 aid, .bool aok, .int .i64 aerr] := rfl
            rw [hct]
            have S4 := S3.alloc (.cells #[.int .u32 0, .int .u16 d.st, .int .u16 d.ssn, .bool d.un, .bool d.fi, .bool d.la, .slice A9 n9 c9, .int .i64 aid, .bool aok, .int .i64 aerr] 46)
            have D4 := D3.alloc (.cells #[.int .u32 0, .int .u16 d.st, .int .u16 d.ssn, .bool d.un, .bool d.fi, .bool d.la, .slice A9 n9 c9, .int .i64 aid, .bool aok, .int .i64 aerr] 46)
            have E4 := Blk.new w3 46 #[.int .u32 0, .int .u16 d.st, .int .u16 d.ssn, .bool d.un, .bool d.fi, .bool d.la, .slice A9 n9 c9, .int .i64 aid, .bool aok, .int .i64 aerr]
            clear hct m0 m1 m2 m3 m4 m5 o9 S2 D2 r2 f3 D3 S3
            go_upto_region 16 with fail
            generalize (w3.alloc (.cells #[.int .u32 0, .int .u16 d.st, .int .u16 d.ssn, .bool d.un, .bool d.fi, .bool d.la, .slice A9 n9 c9, .int .i64 aid, .bool aok, .int .i64 aerr] 46)) = w4 at *
            generalize w3.heap.size = t4 at *
            have m0 : w4.cell? ⟨t, 0, none⟩ = some (.int .i64 3) := D4.cell 0
            have m1 : w4.cell? ⟨t, 1, none⟩ = some (.int .u16 st) := D4.cell 1
            have m3 : w4.cell? ⟨t, 3, none⟩ = some (.slice A' n' c') := D4.cell 3
            have m4 : w4.cell? ⟨t, 4, none⟩ = some (.int .i64 un) := D4.cell 4
            have z6 : w4.cell? ⟨t4, 6, none⟩ = some (.slice A9 n9 c9) := E4.cell 6
            have z9 : w4.cell? ⟨t4, 9, none⟩ = some (.int .i64 aerr) := E4.cell 9
            clear D4 E4
            have hu1 := S4.ok.used
            have hu2 := S4.ok.room2
            have hu3 := hI3.bal
            have hu4 := hI3.room_
            have hv1 := (unhide hSt).ok.used
            have hv2 := (unhide hSt).ok.room2
            have hv3 := (unhide hI).bal
            have hv4 := (unhide hI).room_
            have HI3 := hide hI3
            have HM3 := hide hm3
            have HS4 := hide S4
            clear hI3 hm3 S4
            go_upto_region 17 with fail
            go_upto_region 19 with fail
            have hus : ((aq.used : Nat) : Int) = (waits aq.its : Int) + ((n9 : Int)) := by omega
            have g1 : (waits aq.its : Int) + ((n9 : Int)) ≤ (rm : Int) := by omega
            have g2 : (waits aq.its : Int) ≤ (waits aq.its : Int) + ((n9 : Int)) := by omega
            have g0 : (0 : Int) ≤ (waits aq.its : Int) := by omega
            have g3 : (rm : Int) ≤ 1048576 := by omega
            clear m0 m1 m3 m4 z6 z9
            go_wp2_with fail
            refine (usedS s (fun _ => False) w aq w4 (unhide HS4)).mono ?_
            rintro e w9 ⟨rfl, rfl⟩
            rw [hus]
            go_wp2_with fail
            refine (waitS s (fun _ => False) w aq w4 (unhide HS4)).mono ?_
            rintro e w9 ⟨rfl, k9, hw9⟩
            subst w9
            go_wp2_with fail
            refine (usedS s (fun _ => False) w aq (w4.drewN k9) ((unhide HS4).drewN k9)).mono ?_
            rintro e w9 ⟨rfl, rfl⟩
            rw [hus]
            go_wp2_with fail
            refine (usedS s (fun _ => False) w aq (w4.drewN k9) ((unhide HS4).drewN k9)).mono ?_
            rintro e w9 ⟨rfl, rfl⟩
            rw [hus]
            go_wp2_with fail
            refine (waitS s (fun _ => False) w aq (w4.drewN k9) ((unhide HS4).drewN k9)).mono ?_
            rintro e w10 ⟨rfl, k10, hw10⟩
            subst w10
            go_wp2
            go_roundw
            case rel =>
              have := unhide HM3
              exact ⟨k + 1, 0 + n9, aq, by omega, by go_num, by go_num, unhide HI3, by omega, (unhide HS4).drewN _⟩
            case measure => simp [intOf]; omega
          · skip
            have S1' := hS.alloc (.cells #[.int .i64 kind, .int .u16 st, .bool o, .slice A' n' c', .int .i64 un, .int .i64 kk] 42)
            have D1 := Blk.new wr 42 #[.int .i64 kind, .int .u16 st, .bool o, .slice A' n' c', .int .i64 un, .int .i64 kk]
            have r1 := hxr2.alloc (by omega) (.cells #[.int .i64 kind, .int .u16 st, .bool o, .slice A' n' c', .int .i64 un, .int .i64 kk] 42)
            have hlt1 : wr.heap.size < (wr.alloc (.cells #[.int .i64 kind, .int .u16 st, .bool o, .slice A' n' c', .int .i64 un, .int .i64 kk] 42)).heap.size := by simp
            clear hS hxr2
            go_upto_region 11 with fail
            generalize (wr.alloc (.cells #[.int .i64 kind, .int .u16 st, .bool o, .slice A' n' c', .int .i64 un, .int .i64 kk] 42)) = w1 at *
            generalize wr.heap.size = t at *
            clear q0 q1 q2 q3 q4 q5
            have m0 : w1.cell? ⟨t, 0, none⟩ = some (.int .i64 kind) := D1.cell 0
            go_upto_region 14 with fail
            have S2 := S1'
            have D2 := D1
            have r2 := r1
            have hs2 := hlt1
            clear m0 D1 r1 S1' hlt1
            generalize w1 = w2 at *
            have hsz2 := S2.size
            have m0 : w2.cell? ⟨t, 0, none⟩ = some (.int .i64 kind) := D2.cell 0
            have m1 : w2.cell? ⟨t, 1, none⟩ = some (.int .u16 st) := D2.cell 1
            have m2 : w2.cell? ⟨t, 2, none⟩ = some (.bool o) := D2.cell 2
            have m3 : w2.cell? ⟨t, 3, none⟩ = some (.slice A' n' c') := D2.cell 3
            have m4 : w2.cell? ⟨t, 4, none⟩ = some (.int .i64 un) := D2.cell 4
            have m5 : w2.cell? ⟨t, 5, none⟩ = some (.int .i64 kk) := D2.cell 5
            go_wp2_with fail
            refine (usedS s (fun _ => False) w q w2 S2).mono ?_
            rintro e w9 ⟨rfl, rfl⟩
            go_upto_region 15 with fail
            go_wp2_with fail
            refine (doesQ s w q w2 ⟨kind, ⟨st, o, A', n', c', xs⟩, un, kk⟩ S2 hxn ⟨hst0, hst1⟩ r2 hxb hun hkk (by omega)).mono ?_
            rintro e w3 ⟨A9, n9, c9, rfl, o9, S3, f3⟩
            obtain ⟨hI3, hm3⟩ := play_inv (x := ⟨kind, ⟨st, o, A', n', c', xs⟩, un, kk⟩) (unhide hI) S2.ok (fun h => absurd h k3)
            rw [if_neg k3] at hI3
            have hpl : Hid (play q ⟨kind, ⟨st, o, A', n', c', xs⟩, un, kk⟩ = play q ⟨kind, ⟨st, o, A', n', c', xs⟩, un, kk⟩) := rfl
            have herr := fun (h0 : 0 ≤ un) (h4 : st < 4) (h5 : 0 < n') (h6 : n' ≤ rm) => why_room (q := q) (st := st) (un := un) (n := n') (unhide hI) h0 h4 h5 h6
            have hperr : kind = 0 → (play q ⟨kind, ⟨st, o, A', n', c', xs⟩, un, kk⟩).err = why q st n' un := fun h0 => by
              show (play q ⟨kind, ⟨st, o, A', n', c', xs⟩, un, kk⟩).err = why q st n' un
              unfold play
              try simp only
              rw [if_pos h0]
              unfold pPut
              try simp only
              rw [hxl]
              split
              · rename_i h7; rw [h7]
              · rfl
            generalize play q ⟨kind, ⟨st, o, A', n', c', xs⟩, un, kk⟩ = a at *
            obtain ⟨aq, d, aid, aok, aerr⟩ := a
            simp only at hI3 hm3 S3 o9 hperr ⊢
            clear hpl
            have hn9 : d.xs.length = n9 := own_bytes o9
            rw [hn9] at hI3
            have D3 := blk_fr D2 f3 (by omega) (not_mine (by decide))
            have hct : told d A9 n9 c9 aid aok aerr = #[.int .u32 0, .int .u16 d.st, .int .u16 d.ssn, .bool d.un, .bool d.fi, .bool d.la, .slice A9 n9 c9, .int .i64 aid, .bool aok, .int .i64 aerr] := rfl
            rw [hct]
            have S4 := S3.alloc (.cells #[.int .u32 0, .int .u16 d.st, .int .u16 d.ssn, .bool d.un, .bool d.fi, .bool d.la, .slice A9 n9 c9, .int .i64 aid, .bool aok, .int .i64 aerr] 46)
            have D4 := D3.alloc (.cells #[.int .u32 0, .int .u16 d.st, .int .u16 d.ssn, .bool d.un, .bool d.fi, .bool d.la, .slice A9 n9 c9, .int .i64 aid, .bool aok, .int .i64 aerr] 46)
            have E4 := Blk.new w3 46 #[.int .u32 0, .int .u16 d.st, .int .u16 d.ssn, .bool d.un, .bool d.fi, .bool d.la, .slice A9 n9 c9, .int .i64 aid, .bool aok, .int .i64 aerr]
            clear hct m0 m1 m2 m3 m4 m5 o9 S2 D2 r2 f3 D3 S3
            go_upto_region 16 with fail
            generalize (w3.alloc (.cells #[.int .u32 0, .int .u16 d.st, .int .u16 d.ssn, .bool d.un, .bool d.fi, .bool d.la, .slice A9 n9 c9, .int .i64 aid, .bool aok, .int .i64 aerr] 46)) = w4 at *
            generalize w3.heap.size = t4 at *
            have m0 : w4.cell? ⟨t, 0, none⟩ = some (.int .i64 kind) := D4.cell 0
            have m1 : w4.cell? ⟨t, 1, none⟩ = some (.int .u16 st) := D4.cell 1
            have m3 : w4.cell? ⟨t, 3, none⟩ = some (.slice A' n' c') := D4.cell 3
            have m4 : w4.cell? ⟨t, 4, none⟩ = some (.int .i64 un) := D4.cell 4
            have z6 : w4.cell? ⟨t4, 6, none⟩ = some (.slice A9 n9 c9) := E4.cell 6
            have z9 : w4.cell? ⟨t4, 9, none⟩ = some (.int .i64 aerr) := E4.cell 9
            clear D4 E4
            have hu1 := S4.ok.used
            have hu2 := S4.ok.room2
            have hu3 := hI3.bal
            have hu4 := hI3.room_
            have hv1 := (unhide hSt).ok.used
            have hv2 := (unhide hSt).ok.room2
            have hv3 := (unhide hI).bal
            have hv4 := (unhide hI).room_
            have HI3 := hide hI3
            have HM3 := hide hm3
            have HS4 := hide S4
            clear hI3 hm3 S4
            go_upto_region 17 with fail
            have hc : kind ≠ 0 ∨ (kind = 0 ∧ un < 0) ∨ (kind = 0 ∧ 0 ≤ un ∧ 4 ≤ st) ∨ (kind = 0 ∧ 0 ≤ un ∧ st < 4 ∧ n' = 0) ∨ (kind = 0 ∧ 0 ≤ un ∧ st < 4 ∧ 0 < n' ∧ rm < n') ∨ (kind = 0 ∧ 0 ≤ un ∧ st < 4 ∧ 0 < n' ∧ n' ≤ rm ∧ (q.used : Int) + (n' : Int) ≤ (rm : Int) ∧ aerr = 0) ∨ (kind = 0 ∧ 0 ≤ un ∧ st < 4 ∧ 0 < n' ∧ n' ≤ rm ∧ rm < q.used + n' ∧ aerr = 6) := by
              by_cases k0 : kind = 0
              · have he := hperr k0
                by_cases h1 : un < 0
                · exact .inr (.inl ⟨k0, h1⟩)
                · by_cases h2 : 4 ≤ st
                  · exact .inr (.inr (.inl ⟨k0, by omega, h2⟩))
                  · by_cases h3 : n' = 0
                    · exact .inr (.inr (.inr (.inl ⟨k0, by omega, by omega, h3⟩)))
                    · by_cases h4 : rm < n'
                      · exact .inr (.inr (.inr (.inr (.inl ⟨k0, by omega, by omega, by omega, h4⟩))))
                      · have he2 := herr (by omega) (by omega) (by omega) (by omega)
                        rw [he] 
                        rw [he2]
                        by_cases h5 : rm < q.used + n'
                        · exact .inr (.inr (.inr (.inr (.inr (.inr ⟨k0, by omega, by omega, by omega, by omega, h5, by rw [if_pos h5]⟩)))))
                        · exact .inr (.inr (.inr (.inr (.inr (.inl ⟨k0, by omega, by omega, by omega, by omega, by omega, by rw [if_neg h5]⟩)))))
              · exact .inl k0
            clear herr hperr hv3
            rcases hc with k0 | ⟨rfl, h1⟩ | ⟨rfl, h1, h2⟩ | ⟨rfl, h1, h2, h3⟩ | ⟨rfl, h1, h2, h3, h4⟩ | ⟨rfl, h1, h2, h3, h4, h5, rfl⟩ | ⟨rfl, h1, h2, h3, h4, h5, rfl⟩
            all_goals
              go_upto_region 19 with fail
              have hus : ((aq.used : Nat) : Int) = (waits aq.its : Int) + ((out : Int) + (n9 : Int)) := by omega
              have g1 : (waits aq.its : Int) + ((out : Int) + (n9 : Int)) ≤ (rm : Int) := by omega
              have g2 : (waits aq.its : Int) ≤ (waits aq.its : Int) + ((out : Int) + (n9 : Int)) := by omega
              have g0 : (0 : Int) ≤ (waits aq.its : Int) := by omega
              have g3 : (rm : Int) ≤ 1048576 := by omega
              clear m0 m1 m3 m4 z6 z9
              go_wp2_with fail
              refine (usedS s (fun _ => False) w aq w4 (unhide HS4)).mono ?_
              rintro e w9 ⟨rfl, rfl⟩
              rw [hus]
              go_wp2_with fail
              refine (waitS s (fun _ => False) w aq w4 (unhide HS4)).mono ?_
              rintro e w9 ⟨rfl, k9, hw9⟩
              subst w9
              go_wp2_with fail
              refine (usedS s (fun _ => False) w aq (w4.drewN k9) ((unhide HS4).drewN k9)).mono ?_
              rintro e w9 ⟨rfl, rfl⟩
              rw [hus]
              go_wp2_with fail
              refine (usedS s (fun _ => False) w aq (w4.drewN k9) ((unhide HS4).drewN k9)).mono ?_
              rintro e w9 ⟨rfl, rfl⟩
              rw [hus]
              go_wp2_with fail
              refine (waitS s (fun _ => False) w aq (w4.drewN k9) ((unhide HS4).drewN k9)).mono ?_
              rintro e w10 ⟨rfl, k10, hw10⟩
              subst w10
              go_wp2
              go_roundw
              case rel =>
                have := unhide HM3
                exact ⟨k + 1, out + n9, aq, by omega, by go_num, by go_num, unhide HI3, by omega, (unhide HS4).drewN _⟩
              case measure => simp [intOf]; omega
        · obtain rfl : k = n := by omega
          go_wp2_with fail
          refine (works wr).mono ?_
          rintro e w2 ⟨rfl, hb2⟩
          go_wp2
          go_ret
          have hbb := (unhide hSt).below
          have hsz := (unhide hSt).size
          refine ⟨rfl, ?_⟩
          rw [unhide HS]
          exact below_then hbb (by omega) hb2
theorem own : ownKnob Try.prog.godebug = none := by kernel_rfl
theorem laidOut : laidOutB Try.prog = true := by kernel_rfl
set_option maxRecDepth 100000 in
theorem lifted (os : Os) (started : os.Started) (H : Type) (enc : TypeId × Value → H) :
    ReturnsInHanded {} Try.checked os 8 .any (Rows.outqRoomSpec.pre6 enc Try.prog Try.f8 Rows.outqRoomRow.domain false) (Rows.outqRoomSpec.post enc Try.prog Try.f8 false true false false) := by
  refine returnsInHanded_of_change_sized (C := Try.checked) own started (by kernel_rfl) Try.func8
    (ChangeSpec.witness6 (enc := enc) (C := Try.checked) false ⟨#[], #[.int .i64 0, .slice none 0 0], []⟩ 8 (by kernel_rfl) (by kernel_rfl) (by kernel_rfl) (by kernel_rfl)) ?_
  intro W base args ds gs before hval0 hW hcnd hsz _
  have hval : ∀ (j : Nat) t v, Try.f8.params[j]? = some t → args[j]? = some v → Value.okWide Try.prog W .any base t v := hval0
  have hW' := hW
  obtain ⟨p, q, hA0, hV, rfl, hfz, hnd⟩ := hW
  have hA : DataW.TrodAll enc Try.prog W 0 (fun _ => true) true Try.f8.params.toList args.toList ds p := hA0
  rw [Try.params8] at hA hval
  obtain ⟨v0, vs0, d0, ds0, p0, q0, hargs, rfl, rfl, h0, r0⟩ := trodAll_cons hA
  obtain ⟨v1, vs1, d1, ds1, p1, q1, rfl, rfl, rfl, h1, r1⟩ := trodAll_cons r0
  obtain ⟨rfl, rfl, rfl⟩ := trodAll_nil r1
  obtain rfl : args = #[v0, v1] := by cases args; simp_all
  obtain ⟨rfl, rfl⟩ := trodVars_none hV
  have k0 := h0
  have lt0 : ∀ x ∈ p0, x.block < W.heap.size := by obtain ⟨m, hm⟩ := k0; exact DataW.trod_lt m _ _ _ hm
  have k1 := h1
  have lt1 : ∀ x ∈ p1, x.block < W.heap.size := by obtain ⟨m, hm⟩ := k1; exact DataW.trod_lt m _ _ _ hm
  obtain ⟨a0, rfl, rfl, rfl, w0⟩ := open_int Try.underlying3 (hval 0 3 v0 rfl rfl) h0
  obtain ⟨b0, c0⟩ := bounds_i64 w0
  have hwt1 : Ow.Wt d1 44 := fun n hn => by have := List.all_eq_true.1 hsz n (DataW.weights_mem_each (j := 1) (t := 44) rfl rfl n hn); simpa using this
  obtain ⟨A1, len1, cap1, rfl⟩ := okWide_slice Try.underlying44 (hval 1 44 v1 rfl rfl)
  obtain ⟨x1, hl1, hr1, ho1, hc1, hm1, hn1⟩ := Ow.open_ops_w h1 hwt1
  unfold maxLen at hm1
  clear hA0 hval0
  refine (walk a0 A1 len1 cap1 x1 W ⟨b0, c0⟩ (by omega) hl1 hr1 ho1).mono fun e W' ⟨he, bel⟩ => ?_
  subst he
  exact ⟨_, rfl, _, _, _, [], _, [], hW', trodAll_mk1 (shut_bool Try.underlying4 _), (trodAll_cons_mk (Below.trod laidOut (by kernel_rfl) (of_decide_eq_true (by kernel_rfl)) k0 bel lt0) (trodAll_cons_mk (Below.trod laidOut (by kernel_rfl) (of_decide_eq_true (by kernel_rfl)) k1 bel lt1) trodAll_mk0)), rfl, bel.frame _, fun h => by cases h⟩
theorem over : Rows.outqRoomRow.holds Try.pinned (OpenSpec.ofChange Rows.outqRoomSpec) :=
  OpenClaim.holds_of_wide 8 Try.f8 rfl rfl rfl rfl rfl rfl rfl ⟨rfl, rfl, rfl, rfl, rfl⟩ rfl rfl rfl rfl rfl (by kernel_rfl) Try.func8 (by kernel_rfl)
    (of_decide_eq_true (by kernel_rfl)) (by unfold Func.isWrapper; first | (rw [if_pos (by decide +kernel)]; kernel_rfl) | (rw [if_neg (by decide +kernel)]; exact ⟨rfl, rfl⟩))
    (fun os started H enc _ => lifted os started H enc)
theorem proved : Rows.OutqRoomSaid :=
  over
end Go.Proofs.Ytmidnfkmefoleaa.outqRoom

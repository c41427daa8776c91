/-
  Proved: of two rows, one behind the other, the whole one's latest is told of each stream, as if the second were told behind the first.
  Conditions: none; every input.
-/
import Derived.Test.YtkjohgokkfghiaaMb
import Derived.Test.YtkjohgokkfghiaaWk
import Derived.Test.YtkjohgokkfghiaaOp
import Derived.Test.YtkjohgokkfghiaaSt
import Derived.Test.YtkjohgokkfghiaaJn
import Derived.Deep.RegionHeld3
import Derived.Deep.RegionLaw
import Derived.Deep.DeepCutAuto
import Derived.Test.YtkjohgokkfghiaaRows
import Derived.ProofKit
import Derived.OpenShut
import Derived.Carry
set_option linter.unusedVariables false
set_option linter.unusedSimpArgs false
namespace Go.Proofs.Ytkjohgokkfghiaa.forwardJoins
open Go.ChangeShapes Go.WideShapes Go.ChangeAt
open Go.RowKit Wd Sk Pl Mk Mb St
open Go.Proofs.Ytkjohgokkfghiaa.Fn

theorem info34 : (Try.prog.info? 34).map (fun i => (i.zero, i.size, i.bytes)) = some (some (.agg #[.int .u32 0, .int .u16 0, .int .u16 0, .bool false, .bool false, .bool false, .slice none 0 0]), 7, 40) := by kernel_rfl
theorem dts_take (l : List Dt) (k : Nat) : dts (l.take k) = (dts l).take (k * 7) := by
  have e : dts l = dts (l.take k) ++ dts (l.drop k) := by rw [← dts_append, List.take_append_drop]
  by_cases h : k ≤ l.length
  · have e2 : k * 7 = (dts (l.take k)).length := by rw [dts_length, List.length_take]; omega
    rw [e, e2, List.take_left]
  · rw [List.take_of_length_le (Nat.le_of_lt (Nat.lt_of_not_le h)), List.take_of_length_le (by rw [dts_length]; omega)]
theorem dts_drop (l : List Dt) (k : Nat) (h : k ≤ l.length) : dts (l.drop k) = (dts l).drop (k * 7) := by
  have e : dts l = dts (l.take k) ++ dts (l.drop k) := by rw [← dts_append, List.take_append_drop]
  have e2 : k * 7 = (dts (l.take k)).length := by rw [dts_length, List.length_take]; omega
  rw [e, e2, List.drop_left]
theorem reads_pre {w : World} {B size n k : Nat} {A : Option Addr} {xs : List Value} (h : Reads w B size A n xs) (hk : k ≤ n) : Reads w B size A k (xs.take (k * size)) := by
  have hl := h.1
  refine ⟨by rw [List.length_take, hl]; exact Nat.min_eq_left (Nat.mul_le_mul_right _ hk), fun hp => ?_⟩
  obtain ⟨ad, e, hb, hc⟩ := h.2 (by omega)
  refine ⟨ad, e, hb, fun j u hu => hc j u ?_⟩
  rw [List.getElem?_take] at hu
  split at hu
  · exact hu
  · cases hu

/-- forward.Make at a row. -/
theorem mk_row (cum cum2 : Int) (A : Option Addr) (n c B : Nat) (ds : List Dt) (w : World) (hp : 0 < n) (hn : n ≤ 1000000) (h0 : 0 ≤ cum) (h1 : cum ≤ 4294967295) (hB : B ≤ w.heap.size) (h : Reads w B 7 A n (dts ds)) (hok : Hid (∀ d ∈ ds, d.Ok)) (hr : Hid (RowOk cum ds)) (h2 : (cum + n) % 4294967296 = cum2) :
    Calls Try.prog 9 #[.int .u32 cum, .slice A n c] w fun e w' => ∃ A2 c2, e = .returned (.tuple #[.agg #[.int .u32 cum2, .slice A2 (skips ds).length c2], .bool true]) ∧ w'.ownsRow w.heap.size 41 2 (.slice A2 (skips ds).length c2) (skips ds).length (sks (skips ds)) ∧ Below w.heap.size w w' := by
  have hl := dlen_ h
  have hmB : mkB cum ds = true := mkB_t (fun e => by rw [e] at hl; simp at hl; omega) hr
  have hmC : mkC cum ds = cum2 := by unfold mkC; rw [hmB, hl, ← h2]; rfl
  have hmL : mkL cum ds = skips ds := by unfold mkL; rw [hmB]; rfl
  refine (make cum A n c B ds w hn h0 h1 hB h hok).mono ?_
  rintro e w' ⟨A2, c2, he, hv, hb⟩
  rw [hmB, hmC, hmL] at he
  rw [hmL] at hv
  exact ⟨A2, c2, he, hv, hb⟩
theorem skips_len {l : List Dt} {n : Nat} (h : l.length = n) : (skips l).length ≤ n := by
  have := skips_length l l.length (Nat.le_refl _)
  rw [List.take_length] at this
  omega

theorem jn_max {mx mx' t first : Int} (h : mx' = if mx < IntKind.u16.wrap (t - first) then IntKind.u16.wrap (t - first) else mx) : (mx' = mx ∧ ah16 first t ≤ mx) ∨ (mx' = ah16 first t ∧ mx ≤ ah16 first t) := by
  rw [IntKind.wrap_u16] at h
  unfold ah16
  split at h
  · exact .inr (by omega)
  · exact .inl (by omega)

set_option maxRecDepth 100000 in
set_option maxHeartbeats 4000000 in
theorem walk (cum first : Int) (a : Nat) (A : Option Addr) (n c B : Nat) (ds : List Dt) (w : World) (h0 : 0 ≤ cum) (h1 : cum ≤ 4294967295) (hf0 : 0 ≤ first) (hf1 : first ≤ 65535) (ha : a ≤ 255) (hn : n ≤ 9223372036854775807) (hB : B ≤ w.heap.size) (h : Reads w B 7 A n (dts ds)) (hok : Hid (∀ d ∈ ds, d.Ok)) :
    Calls Try.prog 6 #[.int .u32 cum, .int .u16 first, .slice A n c, .int .u8 a] w fun e w' => e = .returned (.bool true) ∧ Below w.heap.size w w' := by
  obtain ⟨i0, hi0, hz0, hz1, hz2⟩ := info_parts info34
  obtain ⟨i1, hi1, hy0, hy1, hy2⟩ := info_parts info41
  by_cases hbig : 200 < n ∨ n < 2
  · by_cases hbig2 : 200 < n
    · go_enter Try.func6, Try.ntmps6
      go_wp2_with (go_at_call 8; refine (Wk.works _).mono ?_; rintro e w1 ⟨rfl, hb⟩)
      go_ret
      exact ⟨rfl, hb⟩
    · have hn2 : n < 2 := by omega
      go_enter Try.func6, Try.ntmps6
      go_wp2_with (go_at_call 8; refine (Wk.works _).mono ?_; rintro e w1 ⟨rfl, hb⟩)
      go_ret
      exact ⟨rfl, hb⟩
  · have hn' : n ≤ 200 := by omega
    have hn2 : 2 ≤ n := by omega
    have hl := dlen_ h
    have HL := hide hl
    clear hbig hn hl
    obtain ⟨q, r, rfl, hq⟩ : ∃ q r : Nat, n = q + r + 2 ∧ (a : Int) % ((q : Int) + r + 2 - 1) = (q : Int) := by
      have hm : a % (n - 1) < n - 1 := Nat.mod_lt _ (by omega)
      refine ⟨a % (n - 1), n - 2 - a % (n - 1), by omega, ?_⟩
      rw [show ((a % (n - 1) : Nat) : Int) + ((n - 2 - a % (n - 1) : Nat) : Int) + 2 - 1 = ((n - 1 : Nat) : Int) from by omega]
      rfl
    have HQ := hide hq
    clear hq hn2
    go_enter Try.func6, Try.ntmps6
    go_wp2_with (at_builtin; refine wpList_append_any _ rfl (.tmp 32) (.tmp 33) _ rfl w.heap.size 34 i0 _ 7 40 Try.underlying23 hi0 hz0 hz1 hz2 rfl (by omega) (.slice (some ⟨w.heap.size, 0, none⟩) 0 0) 0 [] rfl (own_empty w _ 34 7 (Nat.le_refl _)) B A (q + r + 2) c (dts ds) rfl (h.alloc hB _) (dts_one ds) (by simp only [maxLen]; omega) (by omega) (by simp) ?_; intro v1 w1 hown1 hg1 hat1; obtain ⟨g, c1, hv1, hgb, hgl⟩ := hown1.form (by omega); subst hv1)
    have hc1 : q + r + 2 ≤ c1 := by obtain ⟨A', c', e1, e2, _⟩ := own_slice hown1; injection e1 with e1 e3 e4; omega
    have hs1 : w.heap.size ≤ w1.heap.size := by have := hg1.size; simp at this; omega
    have hb1 : Below w.heap.size w w1 := ((Below.refl _ _).alloc (Nat.le_refl _) _).grown hg1 (by simp) (by intro g hg; simp [Value.ownBlock] at hg; omega)
    have ho1 : w1.ownsRow w.heap.size 34 7 (.slice (some ⟨g, 0, none⟩) (q + r + 2) c1) (q + r + 2) (dts ds) := by simpa using hown1
    clear hg1 hown1 hat1
    go_loopw [10] (fun i wr => ∃ (k : Nat) (l : List Dt), k ≤ q + r + 2 ∧ i = .int .i64 k ∧ Below w.heap.size w wr ∧ wr.ownsRow w.heap.size 34 7 (.slice (some ⟨g, 0, none⟩) (q + r + 2) c1) (q + r + 2) (dts l) ∧ Hid (Prg cum first (q + r + 2) k l)) (fun i _ => q + r + 2 - (intOf i).toNat)
    case atStart => exact ⟨0, ds, Nat.zero_le _, rfl, hb1, ho1, ⟨unhide HL, fun j d _ hj => absurd hj (by omega), unhide hok⟩⟩
    case round =>
      obtain ⟨k, l, hk, rfl, hbr, hor, hP⟩ := hrel
      have hll : l.length = q + r + 2 := (unhide hP).1
      have HLL := hide hll
      by_cases hlt : k < q + r + 2
      · have hd : l[k]? = some (l[k]'(by omega)) := List.getElem?_eq_getElem _
        generalize (l[k]'(by omega)) = d at hd
        obtain ⟨-, -, -, -, o5, o6⟩ := (unhide hP).2.2 d (List.mem_of_getElem? hd)
        have y1 : wr.frozen? ⟨g, k * 7, none⟩ = false := hor.frozenAt _
        have y2 := own_dt hor hd 0 _ rfl
        rw [Nat.add_zero] at y2
        have y3 := own_dt hor hd 2 _ rfl
        have y4 : wr.frozen? ⟨g, k * 7 + 2, none⟩ = false := hor.frozenAt _
        have HD := hide hd
        clear hd hll
        go_wp2
        go_roundw
        case rel =>
          have ho2 := own_set_dt (j := 0) (u := .int .u32 ((cum + 1 + (k : Int)) % 4294967296)) hor (unhide HD) (cs_tsn d ((cum + 1 + (k : Int)) % 4294967296)) (by omega)
          rw [Nat.add_zero] at ho2
          have hdk : (l.set k { d with tsn := (cum + 1 + (k : Int)) % 4294967296 })[k]? = some { d with tsn := (cum + 1 + (k : Int)) % 4294967296 } := by rw [List.getElem?_set, if_pos rfl, if_pos (by have := unhide HLL; omega)]
          have ho3 := own_set_dt (j := 2) (u := .int .u16 ((first + d.ssn % 16384) % 65536)) ho2 hdk (cs_ssn _ ((first + d.ssn % 16384) % 65536)) (by omega)
          exact ⟨k + 1, _, by omega, by go_num, (hbr.setCell (by simpa using hgb) _).setCell (by simpa using hgb) _, ho3, prg_next (unhide hP) (unhide HD) hf0 hf1⟩
        case measure => simp [intOf]; omega
      · obtain rfl : k = q + r + 2 := by omega
        have hq := unhide HQ
        have z0 : IntKind.i64.wrap (a : Int) = a := by rw [IntKind.wrap_i64]; omega
        go_upto_region 9 with fail
        have z1 : (1 + (q : Int)).toNat = q + 1 := by omega
        have z2 : IntKind.i64.wrap (1 + (q : Int)) = 1 + q := by rw [IntKind.wrap_i64]; omega
        have hR := prg_row (unhide hP)
        have hN := prg_near (unhide hP)
        have hRA := hide (row_take hR (q + 1))
        have hRB := hide (row_drop hR (q + 1))
        have hRF := hide hR
        have hTA := hide (lat_skips (near_take hN (q + 1)))
        have hTB := hide (lat_skips (near_drop hN (q + 1)))
        have hTF := hide (lat_skips hN)
        have hJ := skips_join l (q + 1)
        have hokF : Hid (∀ d ∈ l, d.Ok) := (unhide hP).2.2
        have hokA : Hid (∀ d ∈ l.take (q + 1), d.Ok) := fun d hd => unhide hokF d (List.mem_of_mem_take hd)
        have hokB : Hid (∀ d ∈ l.drop (q + 1), d.Ok) := fun d hd => unhide hokF d (List.mem_of_mem_drop hd)
        have hla : (l.take (q + 1)).length = q + 1 := by rw [List.length_take]; omega
        have hlb : (l.drop (q + 1)).length = r + 1 := by rw [List.length_drop]; omega
        have hsa := skips_len hla
        have hsb := skips_len hlb
        have hsf := skips_len hll
        have hrF := Reads.of_own hor
        have hrA : Reads wr wr.heap.size 7 (some ⟨g, 0, none⟩) (q + 1) (dts (l.take (q + 1))) := by rw [dts_take]; exact reads_pre hrF (by omega)
        have hrB := hrF.cut (k := q + 1) (cap := c1) (by omega) (by omega)
        rw [← dts_drop l (q + 1) (by omega), if_neg (by omega), show q + r + 2 - (q + 1) = r + 1 from by omega] at hrB
        simp only [Option.map_some] at hrB
        have HJ := hide hJ
        clear hP hR hN hla hlb hll hJ
        have e1 : (cum + ((q + 1 : Nat) : Int)) % 4294967296 = (cum + (1 + (q : Int))) % 4294967296 := by omega
        have e2 : q + 1 ≤ 1000000 := by omega
        have hmA := mk_row cum ((cum + (1 + (q : Int))) % 4294967296) (some ⟨g, 0, none⟩) (q + 1) c1 wr.heap.size _ wr (Nat.succ_pos q) e2 h0 h1 (Nat.le_refl _) hrA hokA hRA e1
        clear e1 e2
        have hqq := hide hq
        go_wp2_with fail
        refine hmA.mono ?_
        rintro e w2 ⟨Aa, ca, rfl, hva, hb2⟩
        clear hmA
        have hs2 := hb2.size
        have hfa := Blk.new w2 27 #[.int .u32 ((cum + (1 + (q : Int))) % 4294967296), .slice Aa (skips (l.take (q + 1))).length ca]
        have hra := (Reads.of_own hva).alloc (Nat.le_refl _) (.cells #[.int .u32 ((cum + (1 + (q : Int))) % 4294967296), .slice Aa (skips (l.take (q + 1))).length ca] 27)
        have hb3 := (below_then hbr hbr.size hb2).alloc (by have := hbr.size; omega) (.cells #[.int .u32 ((cum + (1 + (q : Int))) % 4294967296), .slice Aa (skips (l.take (q + 1))).length ca] 27)
        have hrF3 := (hrF.below hb2).alloc hs2 (.cells #[.int .u32 ((cum + (1 + (q : Int))) % 4294967296), .slice Aa (skips (l.take (q + 1))).length ca] 27)
        have hrB3 := (hrB.below hb2).alloc hs2 (.cells #[.int .u32 ((cum + (1 + (q : Int))) % 4294967296), .slice Aa (skips (l.take (q + 1))).length ca] 27)
        have hlt3 : w2.heap.size < (w2.alloc (.cells #[.int .u32 ((cum + (1 + (q : Int))) % 4294967296), .slice Aa (skips (l.take (q + 1))).length ca] 27)).heap.size := by simp
        clear hb2 hva hbr hor hrF hrB hrA z2 z0 hq
        have z3 : q + r + 1 - q = r + 1 := by omega
        go_wp2_with fail
        generalize (w2.alloc (.cells #[.int .u32 ((cum + (1 + (q : Int))) % 4294967296), .slice Aa (skips (l.take (q + 1))).length ca] 27)) = w3 at *
        generalize w2.heap.size = ba at *
        have hs3 : wr.heap.size ≤ w3.heap.size := by omega
        have e1 : ((cum + (1 + (q : Int))) % 4294967296 + ((r + 1 : Nat) : Int)) % 4294967296 = (cum + ((q : Int) + r + 2)) % 4294967296 := by omega
        have e2 : r + 1 ≤ 1000000 := by omega
        have e3 : (⟨g, 0, none⟩ : Addr).add ((q + 1) * 7) = ⟨g, (q + 1) * 7, none⟩ := by unfold Addr.add; split <;> simp_all
        have e4 : (cum + ((q + 1 : Nat) : Int)) % 4294967296 = (cum + (1 + (q : Int))) % 4294967296 := by omega
        rw [e3] at hrB3
        rw [e4] at hRB
        have hmB := mk_row ((cum + (1 + (q : Int))) % 4294967296) ((cum + ((q : Int) + r + 2)) % 4294967296) (some ⟨g, (q + 1) * 7, none⟩) (r + 1) (c1 - (q + 1)) wr.heap.size _ w3 (Nat.succ_pos r) e2 (by omega) (by omega) hs3 hrB3 hokB hRB e1
        clear e1 e2 e3 e4 hrB3
        refine hmB.mono ?_
        rintro e w4 ⟨Ab, cb, rfl, hvb, hb4⟩
        clear hmB
        have hs4 := hb4.size
        have hfb := Blk.new w4 27 #[.int .u32 ((cum + ((q : Int) + r + 2)) % 4294967296), .slice Ab (skips (l.drop (q + 1))).length cb]
        have hrb := (Reads.of_own hvb).alloc (Nat.le_refl _) (.cells #[.int .u32 ((cum + ((q : Int) + r + 2)) % 4294967296), .slice Ab (skips (l.drop (q + 1))).length cb] 27)
        have hb5 := (below_then hb3 hb3.size hb4).alloc (by have := hb3.size; omega) (.cells #[.int .u32 ((cum + ((q : Int) + r + 2)) % 4294967296), .slice Ab (skips (l.drop (q + 1))).length cb] 27)
        have hrF5 := (hrF3.keep (w' := w4) (fun p hp => hb4.cell (by omega))).alloc (by omega) (.cells #[.int .u32 ((cum + ((q : Int) + r + 2)) % 4294967296), .slice Ab (skips (l.drop (q + 1))).length cb] 27)
        have hfa5 := (hfa.below hb4 hlt3).alloc (.cells #[.int .u32 ((cum + ((q : Int) + r + 2)) % 4294967296), .slice Ab (skips (l.drop (q + 1))).length cb] 27)
        have hra5 := (hra.keep (w' := w4) (fun p hp => hb4.cell (by omega))).alloc (by omega) (.cells #[.int .u32 ((cum + ((q : Int) + r + 2)) % 4294967296), .slice Ab (skips (l.drop (q + 1))).length cb] 27)
        have hlt5 : w4.heap.size < (w4.alloc (.cells #[.int .u32 ((cum + ((q : Int) + r + 2)) % 4294967296), .slice Ab (skips (l.drop (q + 1))).length cb] 27)).heap.size := by simp
        clear hb4 hvb hb3 hrF3 hfa hra z3 z1
        go_wp2_with fail
        generalize (w4.alloc (.cells #[.int .u32 ((cum + ((q : Int) + r + 2)) % 4294967296), .slice Ab (skips (l.drop (q + 1))).length cb] 27)) = w5 at *
        generalize w4.heap.size = bb at *
        have hs5 : wr.heap.size ≤ w5.heap.size := by omega
        have e1 : (cum + ((q + r + 2 : Nat) : Int)) % 4294967296 = (cum + ((q : Int) + r + 2)) % 4294967296 := by omega
        have e2 : q + r + 2 ≤ 1000000 := by omega
        have hmF := mk_row cum ((cum + ((q : Int) + r + 2)) % 4294967296) (some ⟨g, 0, none⟩) (q + r + 2) c1 wr.heap.size _ w5 (Nat.succ_pos _) e2 (by omega) (by omega) hs5 hrF5 hokF hRF e1
        clear e1 e2 hrF5
        refine hmF.mono ?_
        rintro e w6 ⟨Af, cf, rfl, hvf, hb6⟩
        clear hmF
        have hs6 := hb6.size
        have hff := Blk.new w6 27 #[.int .u32 ((cum + ((q : Int) + r + 2)) % 4294967296), .slice Af (skips l).length cf]
        have hrf := (Reads.of_own hvf).alloc (Nat.le_refl _) (.cells #[.int .u32 ((cum + ((q : Int) + r + 2)) % 4294967296), .slice Af (skips l).length cf] 27)
        have hb7 := (below_then hb5 hb5.size hb6).alloc (by have := hb5.size; omega) (.cells #[.int .u32 ((cum + ((q : Int) + r + 2)) % 4294967296), .slice Af (skips l).length cf] 27)
        have hfa7 := (hfa5.below hb6 (by omega)).alloc (.cells #[.int .u32 ((cum + ((q : Int) + r + 2)) % 4294967296), .slice Af (skips l).length cf] 27)
        have hfb7 := (hfb.below hb6 (by omega)).alloc (.cells #[.int .u32 ((cum + ((q : Int) + r + 2)) % 4294967296), .slice Af (skips l).length cf] 27)
        have hra7 := (hra5.keep (w' := w6) (fun p hp => hb6.cell (by omega))).alloc (by omega) (.cells #[.int .u32 ((cum + ((q : Int) + r + 2)) % 4294967296), .slice Af (skips l).length cf] 27)
        have hrb7 := (hrb.keep (w' := w6) (fun p hp => hb6.cell (by omega))).alloc (by omega) (.cells #[.int .u32 ((cum + ((q : Int) + r + 2)) % 4294967296), .slice Af (skips l).length cf] 27)
        have hlt7 : w6.heap.size < (w6.alloc (.cells #[.int .u32 ((cum + ((q : Int) + r + 2)) % 4294967296), .slice Af (skips l).length cf] 27)).heap.size := by simp
        clear hb6 hvf hb5 hfa5 hfb hra5 hrb
        go_upto_region 13 with fail
        generalize (w6.alloc (.cells #[.int .u32 ((cum + ((q : Int) + r + 2)) % 4294967296), .slice Af (skips l).length cf] 27)) = w7 at *
        generalize w6.heap.size = bf at *
        generalize skips (l.take (q + 1)) = La at *
        generalize skips (l.drop (q + 1)) = Lb at *
        generalize skips l = L at *
        have x0 := hfa7.cell 0
        have x1 := hfa7.cell 1
        have y0 := hfb7.cell 0
        have y1 := hfb7.cell 1
        have z0 := hff.cell 0
        have z1 := hff.cell 1
        go_wp2_with fail
        clear x0 x1 y0 y1 z0 z1
        have hsz : wr.heap.size ≤ ba ∧ ba < w7.heap.size ∧ bb < w7.heap.size ∧ bf < w7.heap.size ∧ wr.heap.size ≤ bb ∧ wr.heap.size ≤ bf := by omega
        clear hs2 hlt3 hs3 hs4 hlt5 hs5 hs6 hlt7
        go_loopw [18] (fun i wr => ∃ k : Nat, k ≤ L.length ∧ i = .int .i64 k ∧ Below w7.heap.size w7 wr) (fun i _ => L.length - (intOf i).toNat)
        case atStart => exact ⟨0, Nat.zero_le _, rfl, Below.refl _ _⟩
        case round =>
          obtain ⟨k, hk, rfl, hbq⟩ := hrel
          obtain ⟨wq, hwq⟩ : ∃ wq : World, wq = wr := ⟨_, rfl⟩
          subst hwq
          have x1 := (hff.below hbq (by omega)).cell 1
          by_cases hlt : k < L.length
          · have fa := hfa7.below hbq (by omega)
            have fb := hfb7.below hbq (by omega)
            go_upto_region 20 with fail
            go_cut [21] (fun s21 wx => ∃ A9 c9, s21 = .slice A9 (La.length + Lb.length) c9 ∧ Reads wx wx.heap.size 2 A9 (La.length + Lb.length) (sks (La ++ Lb)) ∧ Below w7.heap.size w7 wx)
            case first =>
              have ya := fa.cell 1
              have yb := fb.cell 1
              have ya2 : ∀ o, (wq.alloc o).cell? ⟨ba, 1, none⟩ = some (.slice Aa La.length ca) := fun o => (fa.alloc o).cell 1
              have yb2 : ∀ o, (wq.alloc o).cell? ⟨bb, 1, none⟩ = some (.slice Ab Lb.length cb) := fun o => (fb.alloc o).cell 1
              have hO1 : (wq.alloc (.cells #[] 41)).ownsRow wq.heap.size 41 2 (.slice (some ⟨wq.heap.size, 0, none⟩) 0 0) 0 [] := own_empty wq _ 41 2 (Nat.le_refl _)
              have hRa := (hra7.keep (w' := wq) (fun p hp => hbq.cell (by omega))).alloc (by have := hbq.size; omega) (.cells #[] 41)
              have hRb := (hrb7.keep (w' := wq) (fun p hp => hbq.cell (by omega))).alloc (by have := hbq.size; omega) (.cells #[] 41)
              have hbq' : w7.heap.size ≤ wq.heap.size := hbq.size
              go_region_law ((first | (refine step_append_any _ rfl (.tmp 127) (.tmp 129) _ rfl wq.heap.size 41 i1 _ 2 4 Try.underlying25 hi1 hy0 hy1 hy2 rfl (by omega) _ 0 [] rfl hO1 ba Aa La.length ca (sks La) rfl hRa (sks_one _) (by simp only [maxLen]; omega) (by omega) (by simp <;> omega) ?_; intro v1 w8 hown8 hg8 hat8; simp only [Nat.zero_add, List.nil_append] at hown8; obtain ⟨A8, c8, rfl, hle8, _⟩ := own_slice hown8; have fb8 := (Blk.drew (fb.alloc _)).grown hg8 (show some bb ≠ some wq.heap.size by simp <;> omega); have yb8 := fb8.cell 1; have hRb8 := (Reads.drew hRb).grown hg8 (by simp <;> omega) (fun k hk => by (have hk' : some wq.heap.size = some k := hk); (injection hk' with e); omega)) | (refine step_append_any _ rfl (.tmp 130) (.tmp 132) _ rfl wq.heap.size 41 i1 _ 2 4 Try.underlying25 hi1 hy0 hy1 hy2 rfl (by omega) (.slice A8 La.length c8) La.length (sks La) rfl hown8 bb Ab Lb.length cb (sks Lb) rfl hRb8 (sks_one _) (by simp only [maxLen]; omega) (by omega) (by have := hg8.size; simp at this; omega) ?_; intro v2 w9 hown9 hg9 hat9; obtain ⟨A9, c9, rfl, _, _⟩ := own_slice hown9)))
              all_goals
                go_wp2_with fail
                go_meet
                rw [← sks_append] at hown9
                exact ⟨_, _, rfl, Reads.of_own hown9, below_app (below_app (Below.drew ((hbq).alloc (by omega) (.cells #[] 41))) (own_weaken hO1 (by omega)) hg8 (by simp; omega)) (own_weaken hown8 (by omega)) hg9 (by have := hg8.size; simp at this; omega)⟩
            case rest =>
              obtain ⟨A9, c9, rfl, hR9, hbc⟩ := hcut
              clear x1 fa fb hbq
              obtain ⟨s, hs⟩ : ∃ s, L[k]? = some s := ⟨_, List.getElem?_eq_getElem hlt⟩
              have HS := hide hs
              clear hs
              have hbl : Hid ((La ++ Lb).length = La.length + Lb.length) := List.length_append
              have hN9 : La.length + Lb.length ≤ 400 := by omega
              have hcz := hbc.size
              go_wp2
              go_loopw [19, 20, 22] (fun s19 s20 i wx => ∃ (j : Nat) (mx : Int) (b : Bool), j ≤ La.length + Lb.length ∧ i = .int .i64 j ∧ s19 = .int .u16 mx ∧ s20 = .bool b ∧ Below wc.heap.size wc wx ∧ Hid (Jn (La ++ Lb) first s.1 j mx b)) (fun _ _ i _ => La.length + Lb.length - (intOf i).toNat)
              case atStart => exact ⟨0, 0, false, Nat.zero_le _, rfl, rfl, rfl, Below.refl _ _, jn_zero _ _ _⟩
              case round =>
                obtain ⟨j, mx, b, hj, rfl, rfl, rfl, hby, hJn⟩ := hrel
                have hbw := below_then hbc hcz hby
                have x1 := (hff.below hbw (by omega)).cell 1
                obtain ⟨ad2, s', hA2, hab2, hs2', z0, z1⟩ := at_ (hrf.keep (w' := wr) (fun p hp => hbw.cell (by omega))) k hlt
                obtain rfl : s = s' := by have := (unhide HS).symm.trans hs2'; injection this
                subst hA2
                clear hs2' hab2
                by_cases hjl : j < La.length + Lb.length
                · obtain ⟨ad9, t, hA9, hab9, ht, z2, z3⟩ := at_ (hR9.keep (w' := wr) (fun p hp => hby.cell hp)) j hjl
                  subst hA9
                  have HTT := hide ht
                  clear ht hab9
                  by_cases hst : t.1 = s.1
                  · have t1 : (t.1 == s.1) = true := by rw [beq_iff_eq]; exact hst
                    have HST := hide hst
                    clear hst
                    go_wp2
                    go_quiet (fail)
                    go_wp2
                    go_roundw
                    case rel => exact ⟨j + 1, _, true, by omega, by go_num, rfl, rfl, below_drewN hby _, jn_take (unhide hJn) (unhide HTT) (unhide HST) (jn_max rfl)⟩
                    case measure => simp [intOf]; omega
                  · have t1 : (t.1 == s.1) = false := by rw [beq_eq_false_iff_ne]; exact hst
                    have HST := hide hst
                    clear hst
                    go_wp2
                    go_quiet (fail)
                    go_wp2
                    go_roundw
                    case rel => exact ⟨j + 1, mx, b, by omega, by go_num, rfl, rfl, below_drewN hby _, jn_skip (unhide hJn) (unhide HTT) (unhide HST)⟩
                    case measure => simp [intOf]; omega
                · obtain rfl : j = La.length + Lb.length := by omega
                  have hjn := unhide hJn
                  rw [← unhide hbl] at hjn
                  obtain ⟨rfl, hmx⟩ := jn_all hjn (unhide hTF) (unhide hTA) (unhide hTB) (unhide HS)
                  rw [← IntKind.wrap_u16] at hmx
                  subst hmx
                  clear hjn hJn
                  go_wp2
                  go_roundw
                  case rel => exact ⟨k + 1, by omega, by go_num, hbw⟩
                  case measure => simp [intOf]; omega
          · obtain rfl : k = L.length := by omega
            have x2 := (hfa7.below hbq (by omega)).cell 1
            have x3 := (hfb7.below hbq (by omega)).cell 1
            have HX := hide (below_then hb7 hb7.size hbq)
            have hj := unhide HJ
            go_wp2_with fail
            refine (Wk.works _).mono ?_
            rintro e w9 ⟨rfl, hb8⟩
            go_wp2
            go_ret
            exact ⟨rfl, below_then (unhide HX) (unhide HX).size hb8⟩
theorem own : ownKnob Try.prog.godebug = none := by kernel_rfl
theorem laidOut : laidOutB Try.prog = true := by kernel_rfl
set_option maxRecDepth 100000 in
theorem lifted (os : Os) (started : os.Started) (H : Type) (enc : TypeId × Value → H) :
    ReturnsInHanded {} Try.checked os 6 .any (Rows.forwardJoinsSpec.pre6 enc Try.prog Try.f6 Rows.forwardJoinsRow.domain false) (Rows.forwardJoinsSpec.post enc Try.prog Try.f6 false true false false) := by
  refine returnsInHanded_of_change (C := Try.checked) own started (by kernel_rfl) Try.func6
    (ChangeSpec.witness6 (enc := enc) (C := Try.checked) false ⟨#[], #[.int .u32 0, .int .u16 0, .slice none 0 0, .int .u8 0], []⟩ 8 (by kernel_rfl) (by kernel_rfl) (by kernel_rfl) (by kernel_rfl)) ?_
  intro W base args ds gs before hval0 hW hcnd _
  have hval : ∀ (j : Nat) t v, Try.f6.params[j]? = some t → args[j]? = some v → Value.okWide Try.prog W .any base t v := hval0
  have hW' := hW
  obtain ⟨p, q, hA0, hV, rfl, hfz, hnd⟩ := hW
  have hA : DataW.TrodAll enc Try.prog W 0 (fun _ => true) true Try.f6.params.toList args.toList ds p := hA0
  rw [Try.params6] at hA hval
  obtain ⟨v0, vs0, d0, ds0, p0, q0, hargs, rfl, rfl, h0, r0⟩ := trodAll_cons hA
  obtain ⟨v1, vs1, d1, ds1, p1, q1, rfl, rfl, rfl, h1, r1⟩ := trodAll_cons r0
  obtain ⟨v2, vs2, d2, ds2, p2, q2, rfl, rfl, rfl, h2, r2⟩ := trodAll_cons r1
  obtain ⟨v3, vs3, d3, ds3, p3, q3, rfl, rfl, rfl, h3, r3⟩ := trodAll_cons r2
  obtain ⟨rfl, rfl, rfl⟩ := trodAll_nil r3
  obtain rfl : args = #[v0, v1, v2, v3] := by cases args; simp_all
  obtain ⟨rfl, rfl⟩ := trodVars_none hV
  have k0 := h0
  have lt0 : ∀ x ∈ p0, x.block < W.heap.size := by obtain ⟨m, hm⟩ := k0; exact DataW.trod_lt m _ _ _ hm
  have k1 := h1
  have lt1 : ∀ x ∈ p1, x.block < W.heap.size := by obtain ⟨m, hm⟩ := k1; exact DataW.trod_lt m _ _ _ hm
  have k2 := h2
  have lt2 : ∀ x ∈ p2, x.block < W.heap.size := by obtain ⟨m, hm⟩ := k2; exact DataW.trod_lt m _ _ _ hm
  have k3 := h3
  have lt3 : ∀ x ∈ p3, x.block < W.heap.size := by obtain ⟨m, hm⟩ := k3; exact DataW.trod_lt m _ _ _ hm
  obtain ⟨a0, rfl, rfl, rfl, w0⟩ := open_int Try.underlying22 (hval 0 22 v0 rfl rfl) h0
  obtain ⟨b0, c0⟩ := bounds_u32 w0
  obtain ⟨a1, rfl, rfl, rfl, w1⟩ := open_int Try.underlying31 (hval 1 31 v1 rfl rfl) h1
  obtain ⟨b1, c1⟩ := bounds_u16 w1
  obtain ⟨A2, len2, cap2, rfl⟩ := okWide_slice Try.underlying23 (hval 2 23 v2 rfl rfl)
  obtain ⟨x2, hr2, ho2, hc2, hm2, hn2⟩ := Op.open_dts h2
  unfold maxLen at hm2
  obtain ⟨a3, rfl, rfl, rfl, w3⟩ := open_int Try.underlying5 (hval 3 5 v3 rfl rfl) h3
  obtain ⟨b3, c3⟩ := bounds_u8 w3
  obtain ⟨m3, rfl⟩ := Int.eq_ofNat_of_zero_le b3
  clear hA0 hval0
  refine (walk a0 a1 m3 A2 len2 cap2 W.heap.size x2 W b0 c0 b1 c1 (by omega) (by omega) (Nat.le_refl _) hr2 ho2).mono fun e W' ⟨he, bel⟩ => ?_
  subst he
  exact ⟨_, rfl, _, _, _, [], _, [], hW', trodAll_mk1 (shut_bool Try.underlying4 _), (trodAll_cons_mk (Below.trod laidOut (by kernel_rfl) (of_decide_eq_true (by kernel_rfl)) k0 bel lt0) (trodAll_cons_mk (Below.trod laidOut (by kernel_rfl) (of_decide_eq_true (by kernel_rfl)) k1 bel lt1) (trodAll_cons_mk (Below.trod laidOut (by kernel_rfl) (of_decide_eq_true (by kernel_rfl)) k2 bel lt2) (trodAll_cons_mk (Below.trod laidOut (by kernel_rfl) (of_decide_eq_true (by kernel_rfl)) k3 bel lt3) trodAll_mk0)))), rfl, bel.frame _, fun h => by cases h⟩
theorem over : Rows.forwardJoinsRow.holds Try.pinned (OpenSpec.ofChange Rows.forwardJoinsSpec) :=
  OpenClaim.holds_of_wide 6 Try.f6 rfl rfl rfl rfl rfl rfl rfl ⟨rfl, rfl, rfl, rfl, rfl⟩ rfl rfl rfl rfl rfl (by kernel_rfl) Try.func6 (by kernel_rfl)
    (of_decide_eq_true (by kernel_rfl)) (by unfold Func.isWrapper; first | (rw [if_pos (by decide +kernel)]; kernel_rfl) | (rw [if_neg (by decide +kernel)]; exact ⟨rfl, rfl⟩))
    (fun os started H enc _ => lifted os started H enc)
theorem proved : Rows.ForwardJoinsSaid :=
  over
end Go.Proofs.Ytkjohgokkfghiaa.forwardJoins

/-
  Proved: pieces are a row just if their TSNs follow one another behind the cumulative one: with one of them turned they are none.
  Conditions: none; every input.
-/
import Derived.Test.YtkjohgokkfghiaaMb
import Derived.Test.YtkjohgokkfghiaaWk
import Derived.Test.YtkjohgokkfghiaaOp
import Derived.Test.YtkjohgokkfghiaaSt
import Derived.Test.YtkjohgokkfghiaaRows
import Derived.ProofKit
import Derived.OpenShut
import Derived.Carry
set_option linter.unusedVariables false
set_option linter.unusedSimpArgs false
namespace Go.Proofs.Ytkjohgokkfghiaa.forwardRow
open Go.ChangeShapes Go.WideShapes Go.ChangeAt
open Go.RowKit Wd Sk Pl Mk Mb St
open Go.Proofs.Ytkjohgokkfghiaa.Fn

theorem info34 : (Try.prog.info? 34).map (fun i => (i.zero, i.size, i.bytes)) = some (some (.agg #[.int .u32 0, .int .u16 0, .int .u16 0, .bool false, .bool false, .bool false, .slice none 0 0]), 7, 40) := by kernel_rfl
/-- The first k pieces bear the TSNs of a row. -/
def Pre (cum : Int) (n k : Nat) (l : List Dt) : Prop := l.length = n ∧ (∀ j d, l[j]? = some d → j < k → d.tsn = (cum + 1 + j) % 4294967296) ∧ ∀ d ∈ l, d.Ok
theorem pre_next {cum : Int} {n k : Nat} {l : List Dt} {d : Dt} (h : Pre cum n k l) (hd : l[k]? = some d) : Pre cum n (k + 1) (l.set k { d with tsn := (cum + 1 + k) % 4294967296 }) := by
  obtain ⟨h1, h2, h3⟩ := h
  refine ⟨by simpa using h1, fun j e he hj => ?_, fun e he => ?_⟩
  · rw [List.getElem?_set] at he
    split at he
    · rename_i e1
      subst e1
      split at he
      · injection he with he
        subst he
        rfl
      · cases he
    · exact h2 j e he (by omega)
  · rcases List.mem_or_eq_of_mem_set he with h | rfl
    · exact h3 e h
    · obtain ⟨o1, o2, o3⟩ := h3 d (List.mem_of_getElem? hd)
      exact ⟨by show 0 ≤ (cum + 1 + (k : Int)) % 4294967296; omega, by show (cum + 1 + (k : Int)) % 4294967296 ≤ 4294967295; omega, o3⟩
theorem pre_row {cum : Int} {n : Nat} {l : List Dt} (h : Pre cum n n l) : RowOk cum l := fun j d hd => h.2.1 j d hd (by have := (List.getElem?_eq_some_iff.1 hd).1; have := h.1; omega)
/-- One of them turned. -/
theorem turned {cum b : Int} {l : List Dt} {q : Nat} {d : Dt} (hr : RowOk cum l) (hd : l[q]? = some d) (hb0 : 0 < b) (hb : b ≤ 4294967295) : ¬ RowOk cum (l.set q { d with tsn := (d.tsn + b) % 4294967296 }) := by
  intro h
  have hq : q < l.length := (List.getElem?_eq_some_iff.1 hd).1
  have e1 := hr q d hd
  have e2 := h q _ (by rw [List.getElem?_set, if_pos rfl, if_pos hq])
  simp only at e2
  omega
theorem same_ {l : List Dt} {q : Nat} {d : Dt} (hd : l[q]? = some d) (ho : d.Ok) : l.set q { d with tsn := (d.tsn + 0) % 4294967296 } = l := by
  have e : ({ d with tsn := (d.tsn + 0) % 4294967296 } : Dt) = d := by
    obtain ⟨o1, o2, _⟩ := ho
    have : (d.tsn + 0) % 4294967296 = d.tsn := by omega
    rw [this]
  rw [e]
  apply List.ext_getElem?
  intro i
  rw [List.getElem?_set]
  split
  · rename_i e2
    subst e2
    rw [if_pos (List.getElem?_eq_some_iff.1 hd).1, hd]
  · rfl
theorem set_ok {l : List Dt} {q : Nat} {d : Dt} (t : Int) (h : ∀ d ∈ l, d.Ok) (hd : l[q]? = some d) (h0 : 0 ≤ t) (h1 : t ≤ 4294967295) : ∀ e ∈ l.set q { d with tsn := t }, e.Ok := by
  intro e he
  rcases List.mem_or_eq_of_mem_set he with h2 | rfl
  · exact h e h2
  · obtain ⟨o1, o2, o3⟩ := h d (List.mem_of_getElem? hd)
    exact ⟨h0, h1, o3⟩

set_option maxRecDepth 100000 in
set_option maxHeartbeats 1000000 in
theorem walk (cum b : Int) (a : Nat) (A : Option Addr) (n c B : Nat) (ds : List Dt) (w : World) (h0 : 0 ≤ cum) (h1 : cum ≤ 4294967295) (ha : a ≤ 255) (hb0 : 0 ≤ b) (hb1 : b ≤ 4294967295) (hn : n ≤ 9223372036854775807) (hB : B ≤ w.heap.size) (h : Reads w B 7 A n (dts ds)) (hok : Hid (∀ d ∈ ds, d.Ok)) :
    Calls Try.prog 7 #[.int .u32 cum, .slice A n c, .int .u8 a, .int .u32 b] w fun e w' => e = .returned (.bool true) ∧ Below w.heap.size w w' := by
  obtain ⟨i0, hi0, hz0, hz1, hz2⟩ := info_parts info34
  by_cases hbig : 200 < n
  · go_enter Try.func7, Try.ntmps7
    go_wp2_with (go_at_call 8; refine (Wk.works _).mono ?_; rintro e w1 ⟨rfl, hb⟩)
    go_ret
    exact ⟨rfl, hb⟩
  · have hn' : n ≤ 200 := by omega
    have hl := dlen_ h
    have HL := hide hl
    clear hbig hn hl
    rcases Nat.eq_zero_or_pos n with rfl | hp
    · have hmB : mkB cum [] = false := mkB_f (.inl rfl)
      go_enter Try.func7, Try.ntmps7
      go_wp2_with (at_builtin; refine wpList_append_any _ rfl (.tmp 18) (.tmp 19) _ rfl w.heap.size 34 i0 _ 7 40 Try.underlying23 hi0 hz0 hz1 hz2 rfl (by omega) (.slice (some ⟨w.heap.size, 0, none⟩) 0 0) 0 [] rfl (own_empty w _ 34 7 (Nat.le_refl _)) B A 0 c (dts ds) rfl (h.alloc hB _) (dts_one ds) (by simp only [maxLen]; omega) (by omega) (by simp) ?_; intro v1 w1 hown1 hg1 hat1; obtain ⟨A1, c1, rfl, _, _⟩ := own_slice hown1)
      have hb1 : Below w.heap.size w w1 := ((Below.refl _ _).alloc (Nat.le_refl _) _).grown hg1 (by simp) (by intro g hg; simp [Value.ownBlock] at hg; omega)
      have hr1 : Reads w1 w1.heap.size 7 A1 0 (dts []) := ⟨by simp [dts], fun h => absurd h (by omega)⟩
      clear hg1 hown1 hat1
      refine wp_loop_rounds 1 ?_
      rw [rounds_succ]
      go_wp2_with fail
      refine (make cum A1 0 c1 w1.heap.size [] w1 (by omega) h0 h1 (Nat.le_refl _) hr1 (by intro d hd; simp at hd)).mono ?_
      rintro e w2 ⟨A2, c2, rfl, hv2, hb2⟩
      have hb3 := (below_then hb1 hb1.size hb2).alloc (by have := hb1.size; have := hb2.size; omega) (.cells #[.int .u32 (mkC cum []), .slice A2 (mkL cum []).length c2] 27)
      have HB := hide hb3
      clear hb1 hb2 hb3 hv2
      go_wp2_with fail
      refine (Wk.works _).mono ?_
      rintro e w3 ⟨rfl, hb3⟩
      go_wp2
      go_ret
      exact ⟨rfl, below_then (unhide HB) (unhide HB).size hb3⟩
    · obtain ⟨m, rfl⟩ : ∃ m, n = m + 1 := ⟨n - 1, by omega⟩
      clear hp
      obtain ⟨q, hq, hqm⟩ : ∃ q : Nat, (a : Int) % ((m : Int) + 1) = (q : Int) ∧ q < m + 1 := ⟨a % (m + 1), by rw [Int.natCast_emod]; rfl, Nat.mod_lt _ (by omega)⟩
      have HQ := hide hq
      clear hq
      have hnz : ((m : Int) + 1 == 0) = false := by rw [beq_eq_false_iff_ne]; omega
      have hgt : decide ((0 : Int) < (m : Int) + 1) = true := decide_eq_true (by omega)
      go_enter Try.func7, Try.ntmps7
      go_wp2_with (at_builtin; refine wpList_append_any _ rfl (.tmp 18) (.tmp 19) _ rfl w.heap.size 34 i0 _ 7 40 Try.underlying23 hi0 hz0 hz1 hz2 rfl (by omega) (.slice (some ⟨w.heap.size, 0, none⟩) 0 0) 0 [] rfl (own_empty w _ 34 7 (Nat.le_refl _)) B A (m + 1) c (dts ds) rfl (h.alloc hB _) (dts_one ds) (by simp only [maxLen]; omega) (by omega) (by simp) ?_; intro v1 w1 hown1 hg1 hat1; obtain ⟨g, c1, hv1, hgb, hgl⟩ := hown1.form (by omega); subst hv1)
      have hs1 : w.heap.size ≤ w1.heap.size := by have := hg1.size; simp at this; omega
      have hb1 : Below w.heap.size w w1 := ((Below.refl _ _).alloc (Nat.le_refl _) _).grown hg1 (by simp) (by intro g hg; simp [Value.ownBlock] at hg; omega)
      have ho1 : w1.ownsRow w.heap.size 34 7 (.slice (some ⟨g, 0, none⟩) (m + 1) c1) (m + 1) (dts ds) := by simpa using hown1
      clear hg1 hown1 hat1
      go_loopw [10] (fun i wr => ∃ (k : Nat) (l : List Dt), k ≤ m + 1 ∧ i = .int .i64 k ∧ Below w.heap.size w wr ∧ wr.ownsRow w.heap.size 34 7 (.slice (some ⟨g, 0, none⟩) (m + 1) c1) (m + 1) (dts l) ∧ Hid (Pre cum (m + 1) k l)) (fun i _ => m + 1 - (intOf i).toNat)
      case atStart => exact ⟨0, ds, Nat.zero_le _, rfl, hb1, ho1, ⟨unhide HL, fun j d _ hj => absurd hj (by omega), unhide hok⟩⟩
      case round =>
        obtain ⟨k, l, hk, rfl, hbr, hor, hP⟩ := hrel
        have hll : l.length = m + 1 := (unhide hP).1
        have HLL := hide hll
        by_cases hlt : k < m + 1
        · have hd : l[k]? = some (l[k]'(by omega)) := List.getElem?_eq_getElem _
          generalize (l[k]'(by omega)) = d at hd
          have y0 := own_dt hor hd 0 _ rfl
          have y1 : wr.frozen? ⟨g, k * 7 + 0, none⟩ = false := hor.frozenAt _
          rw [Nat.add_zero] at y0 y1
          have HD := hide hd
          clear hd hll
          go_wp2
          go_roundw
          case rel =>
            have ho2 := own_set_dt (j := 0) (u := .int .u32 ((cum + 1 + (k : Int)) % 4294967296)) hor (unhide HD) (cs_tsn d ((cum + 1 + (k : Int)) % 4294967296)) (by omega)
            rw [Nat.add_zero] at ho2
            exact ⟨k + 1, _, by omega, by go_num, hbr.setCell (by simpa using hgb) _, ho2, pre_next (unhide hP) (unhide HD)⟩
          case measure => simp [intOf]; omega
        · obtain rfl : k = m + 1 := by omega
          have hR := pre_row (unhide hP)
          have hmB : mkB cum l = true := mkB_t (fun e => by rw [e] at hll; simp at hll) hR
          have hok' : Hid (∀ d ∈ l, d.Ok) := (unhide hP).2.2
          have hML := mkL_le cum l
          have HR := hide hR
          clear hR hll
          go_wp2_with fail
          refine (make cum (some ⟨g, 0, none⟩) (m + 1) c1 wr.heap.size l wr (by omega) h0 h1 (Nat.le_refl _) (Reads.of_own hor) hok').mono ?_
          rintro e w2 ⟨A2, c2, rfl, hv2, hb2⟩
          have hs2 := hb2.size
          have hb3 := (below_then hbr hbr.size hb2).alloc (by have := hbr.size; omega) (.cells #[.int .u32 (mkC cum l), .slice A2 (mkL cum l).length c2] 27)
          have ho3 := (own_below hor hb2).alloc (.cells #[.int .u32 (mkC cum l), .slice A2 (mkL cum l).length c2] 27)
          clear hb2 hv2 hbr
          go_wp2
          have hqmd := hqm
          rw [← (unhide HLL)] at hqmd
          have hd : l[q]? = some (l[q]'hqmd) := List.getElem?_eq_getElem _
          generalize (l[q]'hqmd) = d at hd
          have hs3 : w2.heap.size < (w2.alloc (.cells #[.int .u32 (mkC cum l), .slice A2 (mkL cum l).length c2] 27)).heap.size := by simp
          generalize (w2.alloc (.cells #[.int .u32 (mkC cum l), .slice A2 (mkL cum l).length c2] 27)) = w3 at *
          have y0 := own_dt ho3 hd 0 _ rfl
          have y1 : w3.frozen? ⟨g, q * 7 + 0, none⟩ = false := ho3.frozenAt _
          rw [Nat.add_zero] at y0 y1
          have hq' := unhide HQ
          have hqn : (0 : Int) ≤ (q : Int) := by omega
          have HD := hide hd
          clear hd hqmd
          refine still_tail 17 (by kernel_rfl) (by kernel_rfl) (fun W2 hW => ?_)
          simp only [List.take_succ_cons, List.take_zero, List.drop_succ_cons, List.drop_zero]
          have hb4 : Below w.heap.size w W2 := by rw [hW]; exact hb3.drew
          have ho4 : W2.ownsRow w.heap.size 34 7 (.slice (some ⟨g, 0, none⟩) (m + 1) c1) (m + 1) (dts l) := by rw [hW]; exact ho3
          have y2 : W2.cell? ⟨g, q * 7, none⟩ = some (.int .u32 d.tsn) := by rw [hW]; exact y0
          have y3 : W2.frozen? ⟨g, q * 7, none⟩ = false := by rw [hW]; exact y1
          clear hW
          have z1 : IntKind.i64.wrap (a : Int) = a := by rw [IntKind.wrap_i64]; omega
          have z2 : (a : Int).tmod ((m : Int) + 1) = q := by rw [Int.tmod_eq_emod_of_nonneg (by omega), hq']
          have z3 : ((m : Int) + 1 = 0) = False := by simp; omega
          have z4 : (q : Int) < (m : Int) + 1 := by omega
          iterate 17 still_step
          refine wpStill_nil ?_
          go_wp2_with fail
          have ho5 := own_set_dt (j := 0) (u := .int .u32 ((d.tsn + b) % 4294967296)) ho4 (unhide HD) (cs_tsn d ((d.tsn + b) % 4294967296)) (by omega)
          rw [Nat.add_zero] at ho5
          have hb5 := hb4.setCell (p := ⟨g, q * 7, none⟩) (by simpa using hgb) (.int .u32 ((d.tsn + b) % 4294967296))
          generalize W2.setCell ⟨g, q * 7, none⟩ (.int .u32 ((d.tsn + b) % 4294967296)) = w4 at *
          have hok5 : Hid (∀ e ∈ l.set q { d with tsn := (d.tsn + b) % 4294967296 }, e.Ok) := hide (set_ok _ (unhide hok') (unhide HD) (by omega) (by omega))
          have hlen5 : (l.set q { d with tsn := (d.tsn + b) % 4294967296 }).length = m + 1 := by rw [List.length_set]; exact unhide HLL
          have hmb5 : mkB cum (l.set q { d with tsn := (d.tsn + b) % 4294967296 }) = decide (b = 0) := by
            by_cases e : b = 0
            · subst e
              rw [same_ (unhide HD) ((unhide hok') d (List.mem_of_getElem? (unhide HD)))]
              exact hmB
            · rw [mkB_f (.inr (turned (unhide HR) (unhide HD) (by omega) (by omega)))]
              simp [e]
          generalize (l.set q { d with tsn := (d.tsn + b) % 4294967296 }) = l5 at *
          have HL5 := hide hlen5
          clear hb3 ho3 hs3 y0 y1 y2 y3 hq' hb4 ho4 z1 z2 z3 z4 hlen5 hML
          refine (make cum (some ⟨g, 0, none⟩) (m + 1) c1 w4.heap.size l5 w4 (by omega) h0 h1 (Nat.le_refl _) (Reads.of_own ho5) hok5).mono ?_
          rintro e w5 ⟨A5, c5, rfl, hv5, hb6⟩
          have hs5 := hb5.size
          have hs6 := hb6.size
          by_cases e : b = 0
          · have hf : mkB cum l5 = true := by rw [hmb5]; simp [e]
            rw [hf]
            have hb7 := (below_then hb5 hb5.size hb6).alloc (by omega) (.cells #[.int .u32 (mkC cum l5), .slice A5 (mkL cum l5).length c5] 27)
            have HB := hide hb7
            have e2 : (b == 0) = true := by rw [beq_iff_eq]; exact e
            clear hb6 hb5 hb7 hv5 ho5 e hf hmb5
            go_wp2_with fail
            refine (Wk.works _).mono ?_
            rintro e w6 ⟨rfl, hb8⟩
            go_wp2
            go_ret
            exact ⟨rfl, below_then (unhide HB) (unhide HB).size hb8⟩
          · have hf : mkB cum l5 = false := by rw [hmb5]; simp [e]
            have e1 : mkC cum l5 = 0 := by unfold mkC; rw [hf]; rfl
            have e2 : mkL cum l5 = [] := by unfold mkL; rw [hf]; rfl
            rw [e1, e2, hf]
            have hb7 := (below_then hb5 hb5.size hb6).alloc (by omega) (.cells #[.int .u32 0, .slice A5 0 c5] 27)
            have hs7 : w5.heap.size < (w5.alloc (.cells #[.int .u32 0, .slice A5 0 c5] 27)).heap.size := by simp
            have HB := hide hb7
            have e3 : (b == 0) = false := by rw [beq_eq_false_iff_ne]; exact e
            clear hb6 hb5 hb7 hv5 ho5 e hf e1 e2 hmb5
            go_wp2_with fail
            refine (c11 0 0 A5 none 0 0 c5 0 0 0 [] [] _ (by omega) (by omega) (Nat.zero_le _) (Nat.zero_le _) ⟨by simp [sks], fun h => absurd h (by omega)⟩ ⟨by simp [sks], fun h => absurd h (by omega)⟩).mono ?_
            rintro e w6 ⟨rfl, hb8⟩
            have t1 : decide ((0 : Int) = 0 ∧ ([] : List (Int × Int)) = []) = true := by simp
            have HB8 := hide (below_then (unhide HB) (unhide HB).size hb8)
            clear hb8
            go_wp2_with fail
            refine (Wk.works _).mono ?_
            rintro e w7 ⟨rfl, hb9⟩
            go_wp2
            go_ret
            exact ⟨rfl, below_then (unhide HB8) (unhide HB8).size hb9⟩
theorem own : ownKnob Try.prog.godebug = none := by kernel_rfl
theorem laidOut : laidOutB Try.prog = true := by kernel_rfl
set_option maxRecDepth 100000 in
theorem lifted (os : Os) (started : os.Started) (H : Type) (enc : TypeId × Value → H) :
    ReturnsInHanded {} Try.checked os 7 .any (Rows.forwardRowSpec.pre6 enc Try.prog Try.f7 Rows.forwardRowRow.domain false) (Rows.forwardRowSpec.post enc Try.prog Try.f7 false true false false) := by
  refine returnsInHanded_of_change (C := Try.checked) own started (by kernel_rfl) Try.func7
    (ChangeSpec.witness6 (enc := enc) (C := Try.checked) false ⟨#[], #[.int .u32 0, .slice none 0 0, .int .u8 0, .int .u32 0], []⟩ 8 (by kernel_rfl) (by kernel_rfl) (by kernel_rfl) (by kernel_rfl)) ?_
  intro W base args ds gs before hval0 hW hcnd _
  have hval : ∀ (j : Nat) t v, Try.f7.params[j]? = some t → args[j]? = some v → Value.okWide Try.prog W .any base t v := hval0
  have hW' := hW
  obtain ⟨p, q, hA0, hV, rfl, hfz, hnd⟩ := hW
  have hA : DataW.TrodAll enc Try.prog W 0 (fun _ => true) true Try.f7.params.toList args.toList ds p := hA0
  rw [Try.params7] at hA hval
  obtain ⟨v0, vs0, d0, ds0, p0, q0, hargs, rfl, rfl, h0, r0⟩ := trodAll_cons hA
  obtain ⟨v1, vs1, d1, ds1, p1, q1, rfl, rfl, rfl, h1, r1⟩ := trodAll_cons r0
  obtain ⟨v2, vs2, d2, ds2, p2, q2, rfl, rfl, rfl, h2, r2⟩ := trodAll_cons r1
  obtain ⟨v3, vs3, d3, ds3, p3, q3, rfl, rfl, rfl, h3, r3⟩ := trodAll_cons r2
  obtain ⟨rfl, rfl, rfl⟩ := trodAll_nil r3
  obtain rfl : args = #[v0, v1, v2, v3] := by cases args; simp_all
  obtain ⟨rfl, rfl⟩ := trodVars_none hV
  have k0 := h0
  have lt0 : ∀ x ∈ p0, x.block < W.heap.size := by obtain ⟨m, hm⟩ := k0; exact DataW.trod_lt m _ _ _ hm
  have k1 := h1
  have lt1 : ∀ x ∈ p1, x.block < W.heap.size := by obtain ⟨m, hm⟩ := k1; exact DataW.trod_lt m _ _ _ hm
  have k2 := h2
  have lt2 : ∀ x ∈ p2, x.block < W.heap.size := by obtain ⟨m, hm⟩ := k2; exact DataW.trod_lt m _ _ _ hm
  have k3 := h3
  have lt3 : ∀ x ∈ p3, x.block < W.heap.size := by obtain ⟨m, hm⟩ := k3; exact DataW.trod_lt m _ _ _ hm
  obtain ⟨a0, rfl, rfl, rfl, w0⟩ := open_int Try.underlying22 (hval 0 22 v0 rfl rfl) h0
  obtain ⟨b0, c0⟩ := bounds_u32 w0
  obtain ⟨A1, len1, cap1, rfl⟩ := okWide_slice Try.underlying23 (hval 1 23 v1 rfl rfl)
  obtain ⟨x1, hr1, ho1, hc1, hm1, hn1⟩ := Op.open_dts h1
  unfold maxLen at hm1
  obtain ⟨a2, rfl, rfl, rfl, w2⟩ := open_int Try.underlying5 (hval 2 5 v2 rfl rfl) h2
  obtain ⟨b2, c2⟩ := bounds_u8 w2
  obtain ⟨m2, rfl⟩ := Int.eq_ofNat_of_zero_le b2
  obtain ⟨a3, rfl, rfl, rfl, w3⟩ := open_int Try.underlying22 (hval 3 22 v3 rfl rfl) h3
  obtain ⟨b3, c3⟩ := bounds_u32 w3
  clear hA0 hval0
  refine (walk a0 a3 m2 A1 len1 cap1 W.heap.size x1 W b0 c0 (by omega) b3 c3 (by omega) (Nat.le_refl _) hr1 ho1).mono fun e W' ⟨he, bel⟩ => ?_
  subst he
  exact ⟨_, rfl, _, _, _, [], _, [], hW', trodAll_mk1 (shut_bool Try.underlying4 _), (trodAll_cons_mk (Below.trod laidOut (by kernel_rfl) (of_decide_eq_true (by kernel_rfl)) k0 bel lt0) (trodAll_cons_mk (Below.trod laidOut (by kernel_rfl) (of_decide_eq_true (by kernel_rfl)) k1 bel lt1) (trodAll_cons_mk (Below.trod laidOut (by kernel_rfl) (of_decide_eq_true (by kernel_rfl)) k2 bel lt2) (trodAll_cons_mk (Below.trod laidOut (by kernel_rfl) (of_decide_eq_true (by kernel_rfl)) k3 bel lt3) trodAll_mk0)))), rfl, bel.frame _, fun h => by cases h⟩
theorem over : Rows.forwardRowRow.holds Try.pinned (OpenSpec.ofChange Rows.forwardRowSpec) :=
  OpenClaim.holds_of_wide 7 Try.f7 rfl rfl rfl rfl rfl rfl rfl ⟨rfl, rfl, rfl, rfl, rfl⟩ rfl rfl rfl rfl rfl (by kernel_rfl) Try.func7 (by kernel_rfl)
    (of_decide_eq_true (by kernel_rfl)) (by unfold Func.isWrapper; first | (rw [if_pos (by decide +kernel)]; kernel_rfl) | (rw [if_neg (by decide +kernel)]; exact ⟨rfl, rfl⟩))
    (fun os started H enc _ => lifted os started H enc)
theorem proved : Rows.ForwardRowSaid :=
  over
end Go.Proofs.Ytkjohgokkfghiaa.forwardRow

/-
  Proved: of a row each stream comes up once at most; no ordered piece's number is behind the one that is told; all TSNs of the row, and none behind it, will not come.
  Conditions: none; every input.
-/
import Derived.Test.YtkjohgokkfghiaaMb
import Derived.Test.YtkjohgokkfghiaaWk
import Derived.Test.YtkjohgokkfghiaaOp
import Derived.Test.YtkjohgokkfghiaaSt
import Derived.Test.YtkjohgokkfghiaaLt
import Derived.Deep.RegionHeld3
import Derived.Deep.RegionLaw
import Derived.Deep.DeepCutAuto
import Derived.Test.YtkjohgokkfghiaaRows
import Derived.ProofKit
import Derived.OpenShut
import Derived.Carry
set_option linter.unusedVariables false
set_option linter.unusedSimpArgs false
namespace Go.Proofs.Ytkjohgokkfghiaa.forwardCovers
open Go.ChangeShapes Go.WideShapes Go.ChangeAt
open Go.RowKit Wd Sk Pl Mk Mb St
open Go.Proofs.Ytkjohgokkfghiaa.Fn

theorem info34 : (Try.prog.info? 34).map (fun i => (i.zero, i.size, i.bytes)) = some (some (.agg #[.int .u32 0, .int .u16 0, .int .u16 0, .bool false, .bool false, .bool false, .slice none 0 0]), 7, 40) := by kernel_rfl
/-- The first k pieces bear the TSNs of a row, and numbers near the first one. -/
def Prg (cum first : Int) (n k : Nat) (l : List Dt) : Prop := l.length = n ∧ (∀ j d, l[j]? = some d → j < k → d.tsn = (cum + 1 + j) % 4294967296 ∧ ah16 first d.ssn < 16384) ∧ ∀ d ∈ l, d.Ok
theorem set_self {l : List Dt} {k j : Nat} {d e : Dt} (h : (l.set k d)[j]? = some e) : (j = k ∧ e = d) ∨ (j ≠ k ∧ l[j]? = some e) := by
  rw [List.getElem?_set] at h
  by_cases hk : k = j
  · rw [if_pos hk] at h
    split at h
    · injection h with h
      exact .inl ⟨hk.symm, h.symm⟩
    · cases h
  · rw [if_neg hk] at h
    exact .inr ⟨fun e => hk e.symm, h⟩
theorem prg_next {cum first : Int} {n k : Nat} {l : List Dt} {d : Dt} (h : Prg cum first n k l) (hd : l[k]? = some d) (hf0 : 0 ≤ first) (hf1 : first ≤ 65535) :
    Prg cum first n (k + 1) ((l.set k { d with tsn := (cum + 1 + k) % 4294967296 }).set k { d with tsn := (cum + 1 + k) % 4294967296, ssn := (first + d.ssn % 16384) % 65536 }) := by
  obtain ⟨h1, h2, h3⟩ := h
  obtain ⟨o1, o2, o3, o4, o5, o6⟩ := h3 d (List.mem_of_getElem? hd)
  rw [List.set_set]
  refine ⟨by simpa using h1, fun j e he hj => ?_, fun e he => ?_⟩
  · rcases set_self he with ⟨rfl, rfl⟩ | ⟨hne, he⟩
    · refine ⟨rfl, ?_⟩
      simp only
      unfold ah16
      omega
    · exact h2 j e he (by omega)
  · rcases List.mem_or_eq_of_mem_set he with h | rfl
    · exact h3 e h
    · refine ⟨?_, ?_, o3, o4, ?_, ?_⟩ <;> simp only <;> omega
theorem prg_row {cum first : Int} {n : Nat} {l : List Dt} (h : Prg cum first n n l) : RowOk cum l := fun j d hd => (h.2.1 j d hd (by have := (List.getElem?_eq_some_iff.1 hd).1; have := h.1; omega)).1
theorem prg_near {cum first : Int} {n : Nat} {l : List Dt} (h : Prg cum first n n l) : Near first l := fun d hd => by
  obtain ⟨j, hj⟩ := List.getElem?_of_mem hd
  obtain ⟨o1, o2, o3, o4, o5, o6⟩ := h.2.2 d hd
  exact ⟨o5, o6, (h.2.1 j d hj (by have := (List.getElem?_eq_some_iff.1 hj).1; have := h.1; omega)).2⟩

/-- Is there among the first j pieces an ordered one of which a skip tells? -/
def Ex (l : List Dt) (s : Int × Int) (j : Nat) (b : Bool) : Prop := b = true ↔ ∃ (i : Nat) (d : Dt), i < j ∧ l[i]? = some d ∧ d.un = false ∧ d.st = s.1 ∧ d.ssn = s.2
theorem ex_next {l : List Dt} {s : Int × Int} {j : Nat} {b b' : Bool} {d : Dt} (h : Ex l s j b) (hd : l[j]? = some d) (hb : b' = true ↔ b = true ∨ (d.un = false ∧ d.st = s.1 ∧ d.ssn = s.2)) : Ex l s (j + 1) b' := by
  unfold Ex at h ⊢
  rw [hb, h]
  constructor
  · rintro (⟨i, e, hi, r⟩ | r)
    · exact ⟨i, e, by omega, r⟩
    · exact ⟨j, d, by omega, hd, r⟩
  · rintro ⟨i, e, hi, he, r⟩
    by_cases hij : i = j
    · subst hij
      rw [hd] at he
      injection he with he
      subst he
      exact .inr r
    · exact .inl ⟨i, e, by omega, he, r⟩
theorem ex_all {first : Int} {l : List Dt} {L : List (Int × Int)} {s : Int × Int} {k n : Nat} {b : Bool} (h : Ex l s n b) (hl : l.length = n) (hT : Lat first l L) (hs : L[k]? = some s) : b = true := by
  obtain ⟨d, hd, r⟩ := hT.1 k s hs
  obtain ⟨i, hi⟩ := List.getElem?_of_mem hd
  exact h.2 ⟨i, d, by have := (List.getElem?_eq_some_iff.1 hi).1; omega, hi, r⟩
/-- Does one of the first j skips tell of a piece? -/
def Tl (L : List (Int × Int)) (first : Int) (d : Dt) (j : Nat) (b : Bool) : Prop := b = true ↔ (d.un = true ∨ ∃ (i : Nat) (s : Int × Int), i < j ∧ L[i]? = some s ∧ s.1 = d.st ∧ ah16 first d.ssn ≤ ah16 first s.2)
theorem tl_next {L : List (Int × Int)} {first : Int} {d : Dt} {j : Nat} {b b' : Bool} {s : Int × Int} (h : Tl L first d j b) (hs : L[j]? = some s) (hb : b' = true ↔ b = true ∨ (s.1 = d.st ∧ ah16 first d.ssn ≤ ah16 first s.2)) : Tl L first d (j + 1) b' := by
  unfold Tl at h ⊢
  rw [hb, h]
  constructor
  · rintro ((r | ⟨i, e, hi, r⟩) | r)
    · exact .inl r
    · exact .inr ⟨i, e, by omega, r⟩
    · exact .inr ⟨j, s, by omega, hs, r⟩
  · rintro (r | ⟨i, e, hi, he, r⟩)
    · exact .inl (.inl r)
    · by_cases hij : i = j
      · subst hij
        rw [hs] at he
        injection he with he
        subst he
        exact .inr r
      · exact .inl (.inr ⟨i, e, by omega, he, r⟩)
theorem tl_all {first : Int} {l : List Dt} {L : List (Int × Int)} {d : Dt} {k : Nat} {b : Bool} (h : Tl L first d L.length b) (hT : Lat first l L) (hd : l[k]? = some d) : b = true := by
  refine h.2 ?_
  cases hu : d.un with
  | true => exact .inl rfl
  | false =>
    obtain ⟨q, hq, hle⟩ := hT.2.1 d (List.mem_of_getElem? hd) hu
    exact .inr ⟨_, _, (List.getElem?_eq_some_iff.1 hq).1, hq, rfl, hle⟩
theorem lat_ne {first : Int} {l : List Dt} {L : List (Int × Int)} (hT : Lat first l L) {i j : Nat} {s t : Int × Int} (hs : L[i]? = some s) (ht : L[j]? = some t) (hij : i < j) : ¬ s.1 = t.1 := fun e => by
  have h1 := hT.2.2 i s hs
  have h2 := hT.2.2 j t ht
  rw [e] at h1
  omega

theorem over_row {cum t : Int} {k m : Nat} (h0 : 0 ≤ cum) (ht : t = (cum + 1 + k) % 4294967296) (hk : k < m + 1) (hm : m + 1 ≤ 200) :
    over ((cum + ((m : Int) + 1)) % 4294967296) t = true ∧ over ((cum + ((m : Int) + 1)) % 4294967296) (IntKind.u32.wrap (t + IntKind.u32.wrap ((m : Int) + 1))) = false := by
  subst ht
  rw [IntKind.wrap_u32, IntKind.wrap_u32]
  constructor
  · by_cases e : k = m
    · exact over_t (by omega)
    · rw [over_f (by omega), ls32_iff]
      unfold ah32
      omega
  · rw [over_f (by omega), Bool.eq_false_iff, ne_eq, ls32_iff]
    unfold ah32
    omega

set_option maxRecDepth 100000 in
set_option maxHeartbeats 4000000 in
theorem walk (cum first : Int) (A : Option Addr) (n c B : Nat) (ds : List Dt) (w : World) (h0 : 0 ≤ cum) (h1 : cum ≤ 4294967295) (hf0 : 0 ≤ first) (hf1 : first ≤ 65535) (hn : n ≤ 9223372036854775807) (hB : B ≤ w.heap.size) (h : Reads w B 7 A n (dts ds)) (hok : Hid (∀ d ∈ ds, d.Ok)) :
    Calls Try.prog 5 #[.int .u32 cum, .int .u16 first, .slice A n c] w fun e w' => e = .returned (.bool true) ∧ Below w.heap.size w w' := by
  obtain ⟨i0, hi0, hz0, hz1, hz2⟩ := info_parts info34
  by_cases hbig : 200 < n
  · go_enter Try.func5, Try.ntmps5
    go_wp2_with (go_at_call 8; refine (Wk.works _).mono ?_; rintro e w1 ⟨rfl, hb⟩)
    go_ret
    exact ⟨rfl, hb⟩
  · have hn' : n ≤ 200 := by omega
    have hl := dlen_ h
    have HL := hide hl
    clear hbig hn hl
    rcases Nat.eq_zero_or_pos n with rfl | hp
    · go_enter Try.func5, Try.ntmps5
      go_wp2_with (go_at_call 8; refine (Wk.works _).mono ?_; rintro e w1 ⟨rfl, hb⟩)
      go_ret
      exact ⟨rfl, hb⟩
    · obtain ⟨m, rfl⟩ : ∃ m, n = m + 1 := ⟨n - 1, by omega⟩
      clear hp
      have hnz : ((m : Int) + 1 == 0) = false := by rw [beq_eq_false_iff_ne]; omega
      go_enter Try.func5, Try.ntmps5
      go_wp2_with (at_builtin; refine wpList_append_any _ rfl (.tmp 27) (.tmp 28) _ rfl w.heap.size 34 i0 _ 7 40 Try.underlying23 hi0 hz0 hz1 hz2 rfl (by omega) (.slice (some ⟨w.heap.size, 0, none⟩) 0 0) 0 [] rfl (own_empty w _ 34 7 (Nat.le_refl _)) B A (m + 1) c (dts ds) rfl (h.alloc hB _) (dts_one ds) (by simp only [maxLen]; omega) (by omega) (by simp) ?_; intro v1 w1 hown1 hg1 hat1; obtain ⟨g, c1, hv1, hgb, hgl⟩ := hown1.form (by omega); subst hv1)
      have hs1 : w.heap.size ≤ w1.heap.size := by have := hg1.size; simp at this; omega
      have hb1 : Below w.heap.size w w1 := ((Below.refl _ _).alloc (Nat.le_refl _) _).grown hg1 (by simp) (by intro g hg; simp [Value.ownBlock] at hg; omega)
      have ho1 : w1.ownsRow w.heap.size 34 7 (.slice (some ⟨g, 0, none⟩) (m + 1) c1) (m + 1) (dts ds) := by simpa using hown1
      clear hg1 hown1 hat1
      go_loopw [8] (fun i wr => ∃ (k : Nat) (l : List Dt), k ≤ m + 1 ∧ i = .int .i64 k ∧ Below w.heap.size w wr ∧ wr.ownsRow w.heap.size 34 7 (.slice (some ⟨g, 0, none⟩) (m + 1) c1) (m + 1) (dts l) ∧ Hid (Prg cum first (m + 1) k l)) (fun i _ => m + 1 - (intOf i).toNat)
      case atStart => exact ⟨0, ds, Nat.zero_le _, rfl, hb1, ho1, ⟨unhide HL, fun j d _ hj => absurd hj (by omega), unhide hok⟩⟩
      case round =>
        obtain ⟨k, l, hk, rfl, hbr, hor, hP⟩ := hrel
        have hll : l.length = m + 1 := (unhide hP).1
        have HLL := hide hll
        by_cases hlt : k < m + 1
        · have hd : l[k]? = some (l[k]'(by omega)) := List.getElem?_eq_getElem _
          generalize (l[k]'(by omega)) = d at hd
          obtain ⟨-, -, -, -, o5, o6⟩ := (unhide hP).2.2 d (List.mem_of_getElem? hd)
          have y1 : wr.frozen? ⟨g, k * 7, none⟩ = false := hor.frozenAt _
          have y2 := own_dt hor hd 0 _ rfl
          rw [Nat.add_zero] at y2
          have y3 := own_dt hor hd 2 _ rfl
          have y4 : wr.frozen? ⟨g, k * 7 + 2, none⟩ = false := hor.frozenAt _
          have HD := hide hd
          clear hd hll
          go_wp2
          go_roundw
          case rel =>
            have ho2 := own_set_dt (j := 0) (u := .int .u32 ((cum + 1 + (k : Int)) % 4294967296)) hor (unhide HD) (cs_tsn d ((cum + 1 + (k : Int)) % 4294967296)) (by omega)
            rw [Nat.add_zero] at ho2
            have hdk : (l.set k { d with tsn := (cum + 1 + (k : Int)) % 4294967296 })[k]? = some { d with tsn := (cum + 1 + (k : Int)) % 4294967296 } := by rw [List.getElem?_set, if_pos rfl, if_pos (by have := unhide HLL; omega)]
            have ho3 := own_set_dt (j := 2) (u := .int .u16 ((first + d.ssn % 16384) % 65536)) ho2 hdk (cs_ssn _ ((first + d.ssn % 16384) % 65536)) (by omega)
            exact ⟨k + 1, _, by omega, by go_num, (hbr.setCell (by simpa using hgb) _).setCell (by simpa using hgb) _, ho3, prg_next (unhide hP) (unhide HD) hf0 hf1⟩
          case measure => simp [intOf]; omega
        · obtain rfl : k = m + 1 := by omega
          have hR := prg_row (unhide hP)
          have hmB : mkB cum l = true := mkB_t (fun e => by rw [e] at hll; simp at hll) hR
          have hmC : mkC cum l = (cum + ((m : Int) + 1)) % 4294967296 := by unfold mkC; rw [hmB, hll]; rfl
          have hmL : mkL cum l = skips l := by unfold mkL; rw [hmB]; rfl
          have hok' : Hid (∀ d ∈ l, d.Ok) := (unhide hP).2.2
          have hML := mkL_le cum l
          rw [hmL] at hML
          have HR := hide hR
          have HT := hide (lat_skips (prg_near (unhide hP)))
          clear hR
          go_wp2_with fail
          refine (make cum (some ⟨g, 0, none⟩) (m + 1) c1 wr.heap.size l wr (by omega) h0 h1 (Nat.le_refl _) (Reads.of_own hor) hok').mono ?_
          rintro e w2 ⟨A2, c2, rfl, hv2, hb2⟩
          rw [hmB, hmC, hmL]
          rw [hmL] at hv2
          have hs2 := hb2.size
          have hb3 := (below_then hbr hbr.size hb2).alloc (by have := hbr.size; omega) (.cells #[.int .u32 ((cum + ((m : Int) + 1)) % 4294967296), .slice A2 (skips l).length c2] 27)
          have ho3 := (own_below hor hb2).alloc (.cells #[.int .u32 ((cum + ((m : Int) + 1)) % 4294967296), .slice A2 (skips l).length c2] 27)
          have hr3 := (Reads.of_own hv2).alloc (Nat.le_refl _) (.cells #[.int .u32 ((cum + ((m : Int) + 1)) % 4294967296), .slice A2 (skips l).length c2] 27)
          have hf3 := Blk.new w2 27 #[.int .u32 ((cum + ((m : Int) + 1)) % 4294967296), .slice A2 (skips l).length c2]
          clear hb2 hv2 hbr hor hmB hmC hmL hP
          have hlt3 : w2.heap.size < (w2.alloc (.cells #[.int .u32 ((cum + ((m : Int) + 1)) % 4294967296), .slice A2 (skips l).length c2] 27)).heap.size := by simp
          go_wp2_with fail
          generalize (w2.alloc (.cells #[.int .u32 ((cum + ((m : Int) + 1)) % 4294967296), .slice A2 (skips l).length c2] 27)) = w3 at *
          generalize w2.heap.size = gF at *
          generalize skips l = L at *
          have hL2 : L.length ≤ 200 := by omega
          have hl2 : l.length ≤ 200 := by omega
          go_loopw [11] (fun i wq => ∃ k : Nat, k ≤ L.length ∧ i = .int .i64 k ∧ Below w3.heap.size w3 wq) (fun i _ => L.length - (intOf i).toNat)
          case atStart => exact ⟨0, Nat.zero_le _, rfl, Below.refl _ _⟩
          case round =>
            obtain ⟨k, hk, rfl, hbq⟩ := hrel
            obtain ⟨wq, hwq⟩ : ∃ wq : World, wq = wr := ⟨_, rfl⟩
            subst hwq
            have x1 := (hf3.below hbq hlt3).cell 1
            by_cases hlt : k < L.length
            · obtain ⟨ad2, s, hA2, hab2, hs2', z0, z1⟩ := at_ (hr3.keep (w' := wq) (fun p hp => hbq.cell (by omega))) k hlt
              subst hA2
              have HS := hide hs2'
              clear hs2' z0 z1
              go_wp2
              go_loopw [12, 13] (fun s12 s13 wx => ∃ (j : Nat) (b : Bool), j ≤ m + 1 ∧ s13 = .int .i64 j ∧ s12 = .bool b ∧ Below w3.heap.size w3 wx ∧ Hid (Ex l s j b)) (fun _ i _ => m + 1 - (intOf i).toNat)
              case atStart => exact ⟨0, false, Nat.zero_le _, rfl, rfl, hbq, ⟨fun h => (by cases h), fun ⟨i, d, h, _⟩ => absurd h (by omega)⟩⟩
              case round =>
                obtain ⟨j, b, hj, rfl, rfl, hbx, hB3⟩ := hrel
                clear x1
                have x1 := (hf3.below hbx hlt3).cell 1
                have hor := own_below ho3 hbx
                obtain ⟨ad2', s', hA2', hab2', hs2', z0, z1⟩ := at_ (hr3.keep (w' := wr) (fun p hp => hbx.cell (by omega))) k hlt
                obtain rfl : ad2 = ad2' := by injection hA2'
                obtain rfl : s = s' := by have := (unhide HS).symm.trans hs2'; injection this
                clear hA2' hs2' hab2'
                by_cases hjl : j < m + 1
                · have hd : l[j]? = some (l[j]'(by omega)) := List.getElem?_eq_getElem _
                  generalize (l[j]'(by omega)) = d at hd
                  have y1 := own_dt hor hd 1 _ rfl
                  have y2 := own_dt hor hd 2 _ rfl
                  have y3 := own_dt hor hd 3 _ rfl
                  have HD := hide hd
                  clear hd
                  cases b with
                  | true =>
                    go_wp2
                    go_quiet (fail)
                    go_wp2
                    go_roundw
                    case rel => exact ⟨j + 1, true, by omega, by go_num, rfl, below_drewN hbx _, ex_next (unhide hB3) (unhide HD) (by simp)⟩
                    case measure => simp [intOf]; omega
                  | false =>
                    cases hu : d.un with
                    | true =>
                      rw [hu] at y3
                      go_wp2
                      go_quiet (fail)
                      go_wp2
                      go_roundw
                      case rel => exact ⟨j + 1, false, by omega, by go_num, rfl, below_drewN hbx _, ex_next (unhide hB3) (unhide HD) (by rw [hu]; simp)⟩
                      case measure => simp [intOf]; omega
                    | false =>
                      rw [hu] at y3
                      by_cases hst : d.st = s.1
                      · have t1 : (d.st == s.1) = true := by rw [beq_iff_eq]; exact hst
                        by_cases hss : d.ssn = s.2
                        · have t2 : (d.ssn == s.2) = true := by rw [beq_iff_eq]; exact hss
                          have HST := hide hst
                          have HSS := hide hss
                          clear hst hss
                          go_wp2
                          go_quiet (fail)
                          go_wp2
                          go_roundw
                          case rel => exact ⟨j + 1, true, by omega, by go_num, rfl, below_drewN hbx _, ex_next (unhide hB3) (unhide HD) (by rw [hu]; simp [unhide HST, unhide HSS])⟩
                          case measure => simp [intOf]; omega
                        · have t2 : (d.ssn == s.2) = false := by rw [beq_eq_false_iff_ne]; exact hss
                          have HST := hide hst
                          have HSS := hide hss
                          clear hst hss
                          go_wp2
                          go_quiet (fail)
                          go_wp2
                          go_roundw
                          case rel => exact ⟨j + 1, false, by omega, by go_num, rfl, below_drewN hbx _, ex_next (unhide hB3) (unhide HD) (by rw [hu]; simp [unhide HSS])⟩
                          case measure => simp [intOf]; omega
                      · have t1 : (d.st == s.1) = false := by rw [beq_eq_false_iff_ne]; exact hst
                        have HST := hide hst
                        clear hst
                        go_wp2
                        go_quiet (fail)
                        go_wp2
                        go_roundw
                        case rel => exact ⟨j + 1, false, by omega, by go_num, rfl, below_drewN hbx _, ex_next (unhide hB3) (unhide HD) (by rw [hu]; simp [unhide HST])⟩
                        case measure => simp [intOf]; omega
                · obtain rfl : j = m + 1 := by omega
                  obtain rfl : b = true := ex_all (unhide hB3) (unhide HLL) (unhide HT) (unhide HS)
                  obtain ⟨wx, hwx⟩ : ∃ wx : World, wx = wr := ⟨_, rfl⟩
                  subst hwx
                  clear hB3
                  go_wp2
                  go_loopw [12, 14] (fun s12 s14 wx => ∃ (j : Nat), j ≤ k ∧ s14 = .int .i64 j ∧ s12 = .bool true ∧ Below w3.heap.size w3 wx) (fun _ i _ => k - (intOf i).toNat)
                  case atStart => exact ⟨0, Nat.zero_le _, rfl, rfl, hbx⟩
                  case round =>
                    obtain ⟨j, hj, rfl, rfl, hby⟩ := hrel
                    clear x1 z0 z1
                    have x1 := (hf3.below hby hlt3).cell 1
                    have hrs := hr3.keep (w' := wr) (fun p hp => hby.cell (by omega))
                    by_cases hjl : j < k
                    · obtain ⟨ad2', s', hA2', hab2', hs2', z0, z1⟩ := at_ hrs k hlt
                      obtain rfl : ad2 = ad2' := by injection hA2'
                      obtain rfl : s = s' := by have := (unhide HS).symm.trans hs2'; injection this
                      clear hA2' hs2' hab2' z1
                      obtain ⟨ad2', s', hA2', hab2', hs2', z2, z3⟩ := at_ hrs j (by omega)
                      obtain rfl : ad2 = ad2' := by injection hA2'
                      have hne := lat_ne (unhide HT) hs2' (unhide HS) hjl
                      have t1 : (s'.1 != s.1) = true := by rw [bne_iff_ne]; exact hne
                      clear hA2' hs2' hab2' z3 hne hrs
                      go_wp2
                      go_quiet (fail)
                      go_wp2
                      go_roundw
                      case rel => exact ⟨j + 1, by omega, by go_num, rfl, below_drewN hby _⟩
                      case measure => simp [intOf]; omega
                    · obtain rfl : j = k := by omega
                      go_wp2
                      go_roundw
                      case rel => exact ⟨j + 1, by omega, by go_num, hby⟩
                      case measure => simp [intOf]; omega
            · obtain rfl : k = L.length := by omega
              clear x1
              have x1 := (hf3.below hbq hlt3).cell 1
              go_wp2
              go_loopw [15] (fun i wx => ∃ k : Nat, k ≤ m + 1 ∧ i = .int .i64 k ∧ Below w3.heap.size w3 wx) (fun i _ => m + 1 - (intOf i).toNat)
              case atStart => exact ⟨0, Nat.zero_le _, rfl, hbq⟩
              case round =>
                obtain ⟨k, hk, rfl, hbx⟩ := hrel
                clear x1
                obtain ⟨wx, hwx⟩ : ∃ wx : World, wx = wr := ⟨_, rfl⟩
                subst hwx
                have hfx := hf3.below hbx hlt3
                have x0 := hfx.cell 0
                have x1 := hfx.cell 1
                have hox := own_below ho3 hbx
                by_cases hlt : k < m + 1
                · have hd : l[k]? = some (l[k]'(by omega)) := List.getElem?_eq_getElem _
                  generalize (l[k]'(by omega)) = d at hd
                  have y0 := own_dt hox hd 0 _ rfl
                  rw [Nat.add_zero] at y0
                  have HD := hide hd
                  clear hd
                  obtain ⟨t1, t2⟩ := over_row h0 ((unhide HR) k d (unhide HD)) hlt hn'
                  have hok1 : 0 ≤ d.tsn ∧ d.tsn ≤ 4294967295 := by have := (unhide hok') d (List.mem_of_getElem? (unhide HD)); exact ⟨this.1, this.2.1⟩
                  obtain ⟨hok2, hok3⟩ := hok1
                  have mkS : ∀ w', Below w3.heap.size w3 w' → (Below w3.heap.size w3 w' ∧ w'.cell? ⟨gF, 0, none⟩ = some (.int .u32 ((cum + ((m : Int) + 1)) % 4294967296)) ∧ w'.cell? ⟨gF, 1, none⟩ = some (.slice A2 L.length c2) ∧ w'.cell? ⟨g, k * 7, none⟩ = some (.int .u32 d.tsn)) := fun w' h => ⟨h, (hf3.below h hlt3).cell 0, (hf3.below h hlt3).cell 1, by have := own_dt (own_below ho3 h) (unhide HD) 0 _ rfl; rwa [Nat.add_zero] at this⟩
                  clear x0 x1 y0
                  go_wp2
                  go_region_held3 (fun w' => Below w3.heap.size w3 w' ∧ w'.cell? ⟨gF, 0, none⟩ = some (.int .u32 ((cum + ((m : Int) + 1)) % 4294967296)) ∧ w'.cell? ⟨gF, 1, none⟩ = some (.slice A2 L.length c2) ∧ w'.cell? ⟨g, k * 7, none⟩ = some (.int .u32 d.tsn)) ((first | exact mkS _ hbx.drew | exact mkS _ hB5))
                    ((go_at_call 17; have hp : Below w3.heap.size w3 _ := And.left (by assumption); have hps := hp.size; refine (c17 _ _ A2 L.length c2 _).mono ?_; rintro e w5 ⟨rfl, hb5⟩; have hB5 := below_then hp hp.size hb5; (first | rw [t1] | rw [t2])))
                  clear mkS
                  have hox5 := own_below ho3 hB5
                  have y3 := own_dt hox5 (unhide HD) 3 _ rfl
                  have hd4 := (unhide hok') d (List.mem_of_getElem? (unhide HD))
                  obtain ⟨-, -, -, -, hs5, hs6⟩ := hd4
                  go_wp2_with fail
                  go_loopw [16, 17] (fun s16 i wx => ∃ (j : Nat) (b : Bool), j ≤ L.length ∧ i = .int .i64 j ∧ s16 = .bool b ∧ Below w3.heap.size w3 wx ∧ Hid (Tl L first d j b)) (fun _ i _ => L.length - (intOf i).toNat)
                  case atStart => exact ⟨0, d.un, Nat.zero_le _, rfl, rfl, hB5, ⟨fun h => .inl h, fun h => h.elim id fun ⟨i, s, hi, _⟩ => absurd hi (by omega)⟩⟩
                  case round =>
                    obtain ⟨j, b, hj, rfl, rfl, hby, hB3⟩ := hrel
                    clear y3 hox5
                    have hfx := hf3.below hby hlt3
                    have x1 := hfx.cell 1
                    have hoy := own_below ho3 hby
                    have y1 := own_dt hoy (unhide HD) 1 _ rfl
                    have y2 := own_dt hoy (unhide HD) 2 _ rfl
                    by_cases hjl : j < L.length
                    · obtain ⟨ad2, s, hA2, hab2, hs2', z0, z1⟩ := at_ (hr3.keep (w' := wr) (fun p hp => hby.cell (by omega))) j hjl
                      subst hA2
                      have HS := hide hs2'
                      clear hs2'
                      cases b with
                      | true =>
                        go_wp2
                        go_quiet (fail)
                        go_wp2
                        go_roundw
                        case rel => exact ⟨j + 1, true, by omega, by go_num, rfl, below_drewN hby _, tl_next (unhide hB3) (unhide HS) (by simp)⟩
                        case measure => simp [intOf]; omega
                      | false =>
                        by_cases hst : s.1 = d.st
                        · have t1 : (s.1 == d.st) = true := by rw [beq_iff_eq]; exact hst
                          have HST := hide hst
                          clear hst
                          by_cases hss : (d.ssn - first) % 65536 ≤ (s.2 - first) % 65536
                          · have hss2 : ah16 first d.ssn ≤ ah16 first s.2 := hss
                            have HSS := hide hss2
                            clear hss2
                            go_wp2
                            go_quiet (fail)
                            go_wp2
                            go_roundw
                            case rel => exact ⟨j + 1, true, by omega, by go_num, congrArg Value.bool (decide_eq_true (by rw [IntKind.wrap_u16, IntKind.wrap_u16]; exact unhide HSS)), below_drewN hby _, tl_next (unhide hB3) (unhide HS) (by simp [unhide HST, unhide HSS])⟩
                            case measure => simp [intOf]; omega
                          · have hss2 : ¬ ah16 first d.ssn ≤ ah16 first s.2 := hss
                            have HSS := hide hss2
                            clear hss2
                            go_wp2
                            go_quiet (fail)
                            go_wp2
                            go_roundw
                            case rel => exact ⟨j + 1, false, by omega, by go_num, congrArg Value.bool (decide_eq_false (by rw [IntKind.wrap_u16, IntKind.wrap_u16]; have e := unhide HSS; unfold ah16 at e; omega)), below_drewN hby _, tl_next (unhide hB3) (unhide HS) (by simp only [Bool.false_eq_true, false_or, false_iff, not_and]; intro _; have e := unhide HSS; omega)⟩
                            case measure => simp [intOf]; omega
                        · have t1 : (s.1 == d.st) = false := by rw [beq_eq_false_iff_ne]; exact hst
                          have HST := hide hst
                          clear hst
                          go_wp2
                          go_quiet (fail)
                          go_wp2
                          go_roundw
                          case rel => exact ⟨j + 1, false, by omega, by go_num, rfl, below_drewN hby _, tl_next (unhide hB3) (unhide HS) (by simp [unhide HST])⟩
                          case measure => simp [intOf]; omega
                    · obtain rfl : j = L.length := by omega
                      obtain rfl : b = true := tl_all (unhide hB3) (unhide HT) (unhide HD)
                      go_wp2
                      go_roundw
                      case rel => exact ⟨k + 1, by omega, by go_num, hby⟩
                      case measure => simp [intOf]; omega
                · obtain rfl : k = m + 1 := by omega
                  have HX := hide (below_then hb3 hb3.size hbx)
                  have hsx := hbx.size
                  go_wp2_with fail
                  refine (Wk.works _).mono ?_
                  rintro e w6 ⟨rfl, hb8⟩
                  go_wp2
                  go_ret
                  exact ⟨rfl, below_then (unhide HX) (unhide HX).size hb8⟩
theorem own : ownKnob Try.prog.godebug = none := by kernel_rfl
theorem laidOut : laidOutB Try.prog = true := by kernel_rfl
set_option maxRecDepth 100000 in
theorem lifted (os : Os) (started : os.Started) (H : Type) (enc : TypeId × Value → H) :
    ReturnsInHanded {} Try.checked os 5 .any (Rows.forwardCoversSpec.pre6 enc Try.prog Try.f5 Rows.forwardCoversRow.domain false) (Rows.forwardCoversSpec.post enc Try.prog Try.f5 false true false false) := by
  refine returnsInHanded_of_change (C := Try.checked) own started (by kernel_rfl) Try.func5
    (ChangeSpec.witness6 (enc := enc) (C := Try.checked) false ⟨#[], #[.int .u32 0, .int .u16 0, .slice none 0 0], []⟩ 8 (by kernel_rfl) (by kernel_rfl) (by kernel_rfl) (by kernel_rfl)) ?_
  intro W base args ds gs before hval0 hW hcnd _
  have hval : ∀ (j : Nat) t v, Try.f5.params[j]? = some t → args[j]? = some v → Value.okWide Try.prog W .any base t v := hval0
  have hW' := hW
  obtain ⟨p, q, hA0, hV, rfl, hfz, hnd⟩ := hW
  have hA : DataW.TrodAll enc Try.prog W 0 (fun _ => true) true Try.f5.params.toList args.toList ds p := hA0
  rw [Try.params5] at hA hval
  obtain ⟨v0, vs0, d0, ds0, p0, q0, hargs, rfl, rfl, h0, r0⟩ := trodAll_cons hA
  obtain ⟨v1, vs1, d1, ds1, p1, q1, rfl, rfl, rfl, h1, r1⟩ := trodAll_cons r0
  obtain ⟨v2, vs2, d2, ds2, p2, q2, rfl, rfl, rfl, h2, r2⟩ := trodAll_cons r1
  obtain ⟨rfl, rfl, rfl⟩ := trodAll_nil r2
  obtain rfl : args = #[v0, v1, v2] := by cases args; simp_all
  obtain ⟨rfl, rfl⟩ := trodVars_none hV
  have k0 := h0
  have lt0 : ∀ x ∈ p0, x.block < W.heap.size := by obtain ⟨m, hm⟩ := k0; exact DataW.trod_lt m _ _ _ hm
  have k1 := h1
  have lt1 : ∀ x ∈ p1, x.block < W.heap.size := by obtain ⟨m, hm⟩ := k1; exact DataW.trod_lt m _ _ _ hm
  have k2 := h2
  have lt2 : ∀ x ∈ p2, x.block < W.heap.size := by obtain ⟨m, hm⟩ := k2; exact DataW.trod_lt m _ _ _ hm
  obtain ⟨a0, rfl, rfl, rfl, w0⟩ := open_int Try.underlying22 (hval 0 22 v0 rfl rfl) h0
  obtain ⟨b0, c0⟩ := bounds_u32 w0
  obtain ⟨a1, rfl, rfl, rfl, w1⟩ := open_int Try.underlying31 (hval 1 31 v1 rfl rfl) h1
  obtain ⟨b1, c1⟩ := bounds_u16 w1
  obtain ⟨A2, len2, cap2, rfl⟩ := okWide_slice Try.underlying23 (hval 2 23 v2 rfl rfl)
  obtain ⟨x2, hr2, ho2, hc2, hm2, hn2⟩ := Op.open_dts h2
  unfold maxLen at hm2
  clear hA0 hval0
  refine (walk a0 a1 A2 len2 cap2 W.heap.size x2 W b0 c0 b1 c1 (by omega) (Nat.le_refl _) hr2 ho2).mono fun e W' ⟨he, bel⟩ => ?_
  subst he
  exact ⟨_, rfl, _, _, _, [], _, [], hW', trodAll_mk1 (shut_bool Try.underlying4 _), (trodAll_cons_mk (Below.trod laidOut (by kernel_rfl) (of_decide_eq_true (by kernel_rfl)) k0 bel lt0) (trodAll_cons_mk (Below.trod laidOut (by kernel_rfl) (of_decide_eq_true (by kernel_rfl)) k1 bel lt1) (trodAll_cons_mk (Below.trod laidOut (by kernel_rfl) (of_decide_eq_true (by kernel_rfl)) k2 bel lt2) trodAll_mk0))), rfl, bel.frame _, fun h => by cases h⟩
theorem over : Rows.forwardCoversRow.holds Try.pinned (OpenSpec.ofChange Rows.forwardCoversSpec) :=
  OpenClaim.holds_of_wide 5 Try.f5 rfl rfl rfl rfl rfl rfl rfl ⟨rfl, rfl, rfl, rfl, rfl⟩ rfl rfl rfl rfl rfl (by kernel_rfl) Try.func5 (by kernel_rfl)
    (of_decide_eq_true (by kernel_rfl)) (by unfold Func.isWrapper; first | (rw [if_pos (by decide +kernel)]; kernel_rfl) | (rw [if_neg (by decide +kernel)]; exact ⟨rfl, rfl⟩))
    (fun os started H enc _ => lifted os started H enc)
theorem proved : Rows.ForwardCoversSaid :=
  over
end Go.Proofs.Ytkjohgokkfghiaa.forwardCovers

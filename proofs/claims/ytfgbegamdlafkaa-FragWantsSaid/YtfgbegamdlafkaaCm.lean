/-
  Contracts of what compares: bytes, messages, pieces, rows of pieces.
-/
import Derived.Test.YtfgbegamdlafkaaMd
set_option linter.unusedVariables false
set_option linter.unusedSimpArgs false
namespace Go.Proofs.Ytfgbegamdlafkaa.Cm
open Go.RowKit Wd Md

theorem ret_bool {a b : Bool} (h : b = a) : Ending.returned (.bool a) = .returned (.bool b) := by rw [h]
theorem nat_xor_zero (x y : Nat) : x ^^^ y = 0 ↔ x = y := by
  constructor
  · intro h
    have : x ^^^ y ^^^ y = x := by rw [Nat.xor_assoc, Nat.xor_self, Nat.xor_zero]
    rw [h, Nat.zero_xor] at this
    exact this.symm
  · rintro rfl
    exact Nat.xor_self x
theorem xor_zero {x y : Int} (hx : 0 ≤ x ∧ x ≤ 255) (hy : 0 ≤ y ∧ y ≤ 255) : 0 ≤ bits .xor .u8 x y ∧ bits .xor .u8 x y ≤ 255 ∧ (bits .xor .u8 x y = 0 ↔ x = y) := by
  rw [u8_xor x y hx.1 (by omega) hy.1 (by omega)]
  have h1 : x.toNat ^^^ y.toNat < 256 := Nat.xor_lt_two_pow (n := 8) (by omega) (by omega)
  refine ⟨by omega, by omega, ?_⟩
  rw [show ((x.toNat ^^^ y.toNat : Nat) : Int) = 0 ↔ x.toNat ^^^ y.toNat = 0 from by omega, nat_xor_zero]
  omega
theorem or_zero {x y : Int} (hx : 0 ≤ x ∧ x ≤ 255) (hy : 0 ≤ y ∧ y ≤ 255) : 0 ≤ bits .or .u8 x y ∧ bits .or .u8 x y ≤ 255 ∧ (bits .or .u8 x y = 0 ↔ x = 0 ∧ y = 0) := by
  rw [u8_or x y hx.1 (by omega) hy.1 (by omega)]
  have h1 : x.toNat ||| y.toNat < 256 := Nat.or_lt_two_pow (n := 8) (by omega) (by omega)
  refine ⟨by omega, by omega, ?_⟩
  rw [show ((x.toNat ||| y.toNat : Nat) : Int) = 0 ↔ x.toNat ||| y.toNat = 0 from by omega, Nat.or_eq_zero_iff]
  omega
/-- The first k of both are the same just if the number is 0. -/
def Dif (a b : List Int) (k : Nat) (m : Int) : Prop := 0 ≤ m ∧ m ≤ 255 ∧ (m = 0 ↔ a.take k = b.take k)
theorem dif_next {a b : List Int} {k : Nat} {m x y : Int} (h : Dif a b k m) (hx : a[k]? = some x) (hy : b[k]? = some y) (ha : BOk a) (hb : BOk b) : Dif a b (k + 1) (bits .or .u8 m (bits .xor .u8 x y)) := by
  obtain ⟨h0, h1, h2⟩ := h
  obtain ⟨x0, x1, x2⟩ := xor_zero (bok_get ha hx) (bok_get hb hy)
  obtain ⟨o0, o1, o2⟩ := or_zero ⟨h0, h1⟩ ⟨x0, x1⟩
  refine ⟨o0, o1, ?_⟩
  have hka : k < a.length := (List.getElem?_eq_some_iff.1 hx).1
  have hkb : k < b.length := (List.getElem?_eq_some_iff.1 hy).1
  rw [o2, h2, x2, List.take_add_one, List.take_add_one, hx, hy]
  simp only [Option.toList_some]
  constructor
  · rintro ⟨e1, e2⟩
    rw [e1, e2]
  · intro e
    obtain ⟨e1, e2⟩ := List.append_inj' e rfl
    exact ⟨e1, by simpa using e2⟩
set_option maxHeartbeats 400000 in
/-- EqBytes. -/
theorem c23 (A A' : Option Addr) (n m c d B B' : Nat) (a b : List Int) (w : World) (hn : n ≤ 9223372036854775807) (hm : m ≤ 9223372036854775807) (hB : B ≤ w.heap.size) (hB' : B' ≤ w.heap.size) (h : Reads w B 1 A n (bs a)) (h' : Reads w B' 1 A' m (bs b)) (ha : Hid (BOk a)) (hb : Hid (BOk b)) :
    Calls Try.prog 23 #[.slice A n c, .slice A' m d] w fun e w' => e = .returned (.bool (decide (a = b))) ∧ ∃ q, w' = w.drewN q := by
  have L := hide (blen_ h)
  have L' := hide (blen_ h')
  by_cases hnm : n = m
  · subst hnm
    go_enter Try.func23, Try.ntmps23
    go_wp2
    go_loopw [6, 7] (fun s6 i wr => ∃ (k q : Nat) (v : Int), k ≤ n ∧ i = .int .i64 k ∧ s6 = .int .u8 v ∧ wr = w.drewN q ∧ Hid (Dif a b k v)) (fun _ i _ => n - (intOf i).toNat)
    case atStart => exact ⟨0, 0, 0, Nat.zero_le _, rfl, rfl, rfl, ⟨by omega, by omega, by simp⟩⟩
    case round =>
      obtain ⟨k, q, v, hk, rfl, rfl, rfl, hT⟩ := hrel
      by_cases hlt : k < n
      · obtain ⟨ad, x, rfl, hab, hs, hs1⟩ := bat_ h k hlt
        obtain ⟨ad', y, rfl, hab', hs', hs1'⟩ := bat_ h' k hlt
        have HS := hide hs
        have HS' := hide hs'
        clear h h' hs hs'
        go_wp2
        go_quiet (fail)
        go_wp2
        go_roundw
        case rel => exact ⟨k + 1, _, _, by omega, by go_num, rfl, rfl, dif_next (unhide hT) (unhide HS) (unhide HS') (unhide ha) (unhide hb)⟩
        case measure => simp [intOf]; omega
      · have hkn : k = n := by omega
        subst hkn
        have hE : Hid (v = 0 ↔ a = b) := by
          have e1 := (unhide hT).2.2
          have e2 : a.length = k := L
          have e3 : b.length = k := L'
          rwa [List.take_of_length_le (by omega), List.take_of_length_le (by omega)] at e1
        go_wp2
        go_ret
        refine ⟨ret_bool ?_, q, rfl⟩
        by_cases e : v = 0
        · rw [decide_eq_true ((unhide hE).1 e)]; simp [e]
        · rw [decide_eq_false (fun h => e ((unhide hE).2 h))]; simp [e]
  · have hne : Hid (¬ a = b) := fun e => hnm (by rw [← show a.length = n from L, ← show b.length = m from L', e])
    have k1 : ((n : Int) == m) = false := by rw [beq_eq_false_iff_ne]; omega
    have k2 : ((n : Int) != m) = true := by rw [bne_iff_ne]; omega
    clear hnm
    go_enter Try.func23, Try.ntmps23
    go_wp2
    go_ret
    exact ⟨ret_bool (by rw [decide_eq_false (unhide hne)]), 0, rfl⟩

set_option maxHeartbeats 400000 in
/-- SameMsg. -/
theorem c22 (st st' : Int) (o o' : Bool) (A A' : Option Addr) (n m c d B B' : Nat) (a b : List Int) (w : World) (hn : n ≤ 9223372036854775807) (hm : m ≤ 9223372036854775807) (hB : B ≤ w.heap.size) (hB' : B' ≤ w.heap.size) (h : Reads w B 1 A n (bs a)) (h' : Reads w B' 1 A' m (bs b)) (ha : Hid (BOk a)) (hb : Hid (BOk b)) :
    Calls Try.prog 22 #[.agg #[.int .u16 st, .bool o, .slice A n c], .agg #[.int .u16 st', .bool o', .slice A' m d]] w fun e w' => e = .returned (.bool (decide (st = st' ∧ o = o' ∧ a = b))) ∧ Below w.heap.size w w' := by
  by_cases h1 : st = st'
  · have k1 : (st == st') = true := by rw [beq_iff_eq]; exact h1
    have H1 := hide h1
    clear h1
    by_cases h2 : o = o'
    · have k2 : (o == o') = true := by rw [beq_iff_eq]; exact h2
      have H2 := hide h2
      clear h2
      go_enter Try.func22, Try.ntmps22
      go_wp2_with (go_at_call 23; refine (c23 A A' n m c d B B' a b _ hn hm (by simp; omega) (by simp; omega) ((h.alloc hB _).alloc (by simp; omega) _) ((h'.alloc hB' _).alloc (by simp; omega) _) ha hb).mono ?_; rintro e w1 ⟨rfl, q, rfl⟩)
      go_ret
      exact ⟨ret_bool (by simp [unhide H1, unhide H2]), below_drewN (((Below.refl _ _).alloc (Nat.le_refl _) _).alloc (by simp) _) _⟩
    · have k2 : (o == o') = false := by rw [beq_eq_false_iff_ne]; exact h2
      have H2 := hide h2
      clear h2
      go_enter Try.func22, Try.ntmps22
      go_wp2
      go_ret
      exact ⟨ret_bool (by simp [unhide H2]), ((Below.refl _ _).alloc (Nat.le_refl _) _).alloc (by simp) _⟩
  · have k1 : (st == st') = false := by rw [beq_eq_false_iff_ne]; exact h1
    have H1 := hide h1
    clear h1
    go_enter Try.func22, Try.ntmps22
    go_wp2
    go_ret
    exact ⟨ret_bool (by simp [unhide H1]), ((Below.refl _ _).alloc (Nat.le_refl _) _).alloc (by simp) _⟩

/-- Two heads are the same but for where their bytes lie. -/
def sameHd (d e : Dt) : Bool := d.tsn == e.tsn && (d.st == e.st && (d.ssn == e.ssn && (d.un == e.un && (d.fi == e.fi && d.la == e.la))))
theorem sameHd_iff (d e : Dt) : sameHd d e = true ↔ d.tsn = e.tsn ∧ d.st = e.st ∧ d.ssn = e.ssn ∧ d.un = e.un ∧ d.fi = e.fi ∧ d.la = e.la := by
  simp [sameHd]
set_option maxHeartbeats 1000000 in
/-- SameData. -/
theorem c26 (x y : Dt) (B B' : Nat) (a b : List Int) (w : World) (hn : x.n ≤ 9223372036854775807) (hm : y.n ≤ 9223372036854775807) (hB : B ≤ w.heap.size) (hB' : B' ≤ w.heap.size) (h : Reads w B 1 x.A x.n (bs a)) (h' : Reads w B' 1 y.A y.n (bs b)) (ha : Hid (BOk a)) (hb : Hid (BOk b)) :
    Calls Try.prog 26 #[.agg #[.int .u32 x.tsn, .int .u16 x.st, .int .u16 x.ssn, .bool x.un, .bool x.fi, .bool x.la, .slice x.A x.n x.c], .agg #[.int .u32 y.tsn, .int .u16 y.st, .int .u16 y.ssn, .bool y.un, .bool y.fi, .bool y.la, .slice y.A y.n y.c]] w fun e w' => e = .returned (.bool (sameHd x y && decide (a = b))) ∧ Below w.heap.size w w' := by
  have fin : ∀ (k1 k2 k3 k4 k5 k6 : Bool), (x.tsn == y.tsn) = k1 → (x.st == y.st) = k2 → (x.ssn == y.ssn) = k3 → (x.un == y.un) = k4 → (x.fi == y.fi) = k5 → (x.la == y.la) = k6 → sameHd x y = (k1 && (k2 && (k3 && (k4 && (k5 && k6))))) := by
    rintro _ _ _ _ _ _ rfl rfl rfl rfl rfl rfl
    rfl
  have hd := hide fin
  clear fin
  cases k1 : (x.tsn == y.tsn) with
  | false =>
    go_enter Try.func26, Try.ntmps26
    go_wp2
    go_ret
    exact ⟨ret_bool (by rw [unhide hd _ _ _ _ _ _ k1 rfl rfl rfl rfl rfl]; simp), ((Below.refl _ _).alloc (Nat.le_refl _) _).alloc (by simp) _⟩
  | true =>
  cases k2 : (x.st == y.st) with
  | false =>
    go_enter Try.func26, Try.ntmps26
    go_wp2
    go_ret
    exact ⟨ret_bool (by rw [unhide hd _ _ _ _ _ _ k1 k2 rfl rfl rfl rfl]; simp), ((Below.refl _ _).alloc (Nat.le_refl _) _).alloc (by simp) _⟩
  | true =>
  cases k3 : (x.ssn == y.ssn) with
  | false =>
    go_enter Try.func26, Try.ntmps26
    go_wp2
    go_ret
    exact ⟨ret_bool (by rw [unhide hd _ _ _ _ _ _ k1 k2 k3 rfl rfl rfl]; simp), ((Below.refl _ _).alloc (Nat.le_refl _) _).alloc (by simp) _⟩
  | true =>
  cases k4 : (x.un == y.un) with
  | false =>
    go_enter Try.func26, Try.ntmps26
    go_wp2
    go_ret
    exact ⟨ret_bool (by rw [unhide hd _ _ _ _ _ _ k1 k2 k3 k4 rfl rfl]; simp), ((Below.refl _ _).alloc (Nat.le_refl _) _).alloc (by simp) _⟩
  | true =>
  cases k5 : (x.fi == y.fi) with
  | false =>
    go_enter Try.func26, Try.ntmps26
    go_wp2
    go_ret
    exact ⟨ret_bool (by rw [unhide hd _ _ _ _ _ _ k1 k2 k3 k4 k5 rfl]; simp), ((Below.refl _ _).alloc (Nat.le_refl _) _).alloc (by simp) _⟩
  | true =>
  cases k6 : (x.la == y.la) with
  | false =>
    go_enter Try.func26, Try.ntmps26
    go_wp2
    go_ret
    exact ⟨ret_bool (by rw [unhide hd _ _ _ _ _ _ k1 k2 k3 k4 k5 k6]; simp), ((Below.refl _ _).alloc (Nat.le_refl _) _).alloc (by simp) _⟩
  | true =>
    go_enter Try.func26, Try.ntmps26
    go_wp2_with (go_at_call 23; refine (c23 x.A y.A x.n y.n x.c y.c B B' a b _ hn hm (by simp; omega) (by simp; omega) ((h.alloc hB _).alloc (by simp; omega) _) ((h'.alloc hB' _).alloc (by simp; omega) _) ha hb).mono ?_; rintro e w1 ⟨rfl, q, rfl⟩)
    go_ret
    exact ⟨ret_bool (by rw [unhide hd _ _ _ _ _ _ k1 k2 k3 k4 k5 k6]; simp), below_drewN (((Below.refl _ _).alloc (Nat.le_refl _) _).alloc (by simp) _) _⟩
end Go.Proofs.Ytfgbegamdlafkaa.Cm

/-
  Contracts of both cuts: each tells the same first skips, in a row of its own.
-/
import Derived.Test.YtkjohgokkfghiaaFn
set_option linter.unusedVariables false
set_option linter.unusedSimpArgs false
namespace Go.Proofs.Ytkjohgokkfghiaa.Ct
open Go.RowKit Wd Sk Pl
open Go.Proofs.Ytkjohgokkfghiaa.Fn

/-- How many skips have room. -/
def cutN (n : Nat) (most : Int) : Nat := if 8 ≤ most then (if (most / 4 - 1).toNat < n then (most / 4 - 1).toNat else n) else 0
theorem cutN_le (n : Nat) (most : Int) : cutN n most ≤ n := by unfold cutN; split <;> (try split) <;> omega
theorem reads_take {w : World} {B n : Nat} {A : Option Addr} {l : List (Int × Int)} (h : Reads w B 2 A n (sks l)) (k : Nat) (hk : k ≤ n) : Reads w B 2 A k (sks (l.take k)) := by
  have hl := len_ h
  refine ⟨by rw [sks_length, List.length_take]; omega, fun hp => ?_⟩
  obtain ⟨ad, e, hb, hc⟩ := h.2 (by omega)
  refine ⟨ad, e, hb, fun j u hu => hc j u ?_⟩
  have e2 : sks l = sks (l.take k) ++ sks (l.drop k) := by rw [← sks_append, List.take_append_drop]
  rw [e2, List.getElem?_append_left (by
    rcases Nat.lt_or_ge j (sks (l.take k)).length with h1 | h1
    · exact h1
    · rw [List.getElem?_eq_none h1] at hu; cases hu)]
  exact hu

theorem tdiv_bounds (most : Int) (h0 : -9223372036854775808 ≤ most) (h1 : most ≤ 9223372036854775807) : -2305843009213693952 ≤ most.tdiv 4 ∧ most.tdiv 4 ≤ 2305843009213693951 ∧ (8 ≤ most → most.tdiv 4 = most / 4) ∧ (most < 8 → most.tdiv 4 ≤ 1) := by
  rw [Int.tdiv_eq_ediv]
  split
  · omega
  · have : Int.sign 4 = 1 := rfl
    rw [this]
    omega

set_option maxHeartbeats 400000 in
theorem c12 (cum most : Int) (A : Option Addr) (n c B : Nat) (l : List (Int × Int)) (w : World) (hn : n ≤ 1000000) (h0 : -9223372036854775808 ≤ most) (h1 : most ≤ 9223372036854775807) (hB : B ≤ w.heap.size) (h : Reads w B 2 A n (sks l)) (hc : n ≤ c) (hnil : A = none → n = 0 ∧ c = 0) :
    Calls Try.prog 12 #[.agg #[.int .u32 cum, .slice A n c], .int .i64 most] w fun e w' => ∃ v, e = .returned v ∧ w'.ownsRow w.heap.size 41 2 v (cutN n most) (sks (l.take (cutN n most))) ∧ Below w.heap.size w w' := by
  obtain ⟨q0, q1, q2, q3⟩ := tdiv_bounds most h0 h1
  have key : ∀ k : Nat, k ≤ n → cutN n most = k → ((k : Int) = 0 ∧ most.tdiv 4 ≤ 1 ∨ (k : Int) = most.tdiv 4 - 1 ∧ 1 < most.tdiv 4 ∧ most.tdiv 4 - 1 < n ∨ k = n ∧ 0 < k ∧ (n : Int) ≤ most.tdiv 4 - 1 ∨ k = 0 ∧ n = 0) → Calls Try.prog 12 #[.agg #[.int .u32 cum, .slice A n c], .int .i64 most] w fun e w' => ∃ v, e = .returned v ∧ w'.ownsRow w.heap.size 41 2 v (cutN n most) (sks (l.take (cutN n most))) ∧ Below w.heap.size w w' := by
    intro k hk hkk hw
    rw [hkk]
    have hr := reads_take h k hk
    obtain ⟨q, hq⟩ : ∃ q, most.tdiv 4 = q := ⟨_, rfl⟩
    rw [hq] at q0 q1 hw
    have hnil' : Hid (A = none → k = 0 ∧ c = 0) := fun e => ⟨by have := (hnil e).1; omega, (hnil e).2⟩
    clear hkk h0 h1 hnil h q2 q3
    rcases hw with ⟨e, hw⟩ | ⟨e, hw, hw'⟩ | ⟨e, hk0, hw⟩ | ⟨rfl, rfl⟩
    · obtain rfl : k = 0 := by omega
      clear e
      go_enter Try.func12, Try.ntmps12
      go_wp2_with (go_at_call 22; refine (c22 A 0 c B (l.take 0) _ (by omega) (by simp; omega) (hr.alloc hB _) hnil').mono ?_; rintro e w1 ⟨v, rfl, hv, hb⟩)
      all_goals
        go_ret
        exact ⟨v, rfl, own_weaken hv (by simp), below_then ((Below.refl _ _).alloc (Nat.le_refl _) _) (by simp) hb⟩
    · obtain rfl : q = (k : Int) + 1 := by omega
      have hkn : k < n := by omega
      have hk0 : 0 < k := by omega
      clear e hw hw'
      go_enter Try.func12, Try.ntmps12
      go_wp2_with (go_at_call 22; refine (c22 A k c B (l.take k) _ (by omega) (by simp; omega) (hr.alloc hB _) hnil').mono ?_; rintro e w1 ⟨v, rfl, hv, hb⟩)
      all_goals
        go_ret
        exact ⟨v, rfl, own_weaken hv (by simp), below_then ((Below.refl _ _).alloc (Nat.le_refl _) _) (by simp) hb⟩
    · obtain rfl : k = n := by omega
      clear e
      go_enter Try.func12, Try.ntmps12
      go_wp2_with (go_at_call 22; refine (c22 A k c B (l.take k) _ (by omega) (by simp; omega) (hr.alloc hB _) hnil').mono ?_; rintro e w1 ⟨v, rfl, hv, hb⟩)
      all_goals
        go_ret
        exact ⟨v, rfl, own_weaken hv (by simp), below_then ((Below.refl _ _).alloc (Nat.le_refl _) _) (by simp) hb⟩
    · go_enter Try.func12, Try.ntmps12
      go_wp2_with (go_at_call 22; refine (c22 A 0 c B (l.take 0) _ (by omega) (by simp; omega) (hr.alloc hB _) hnil').mono ?_; rintro e w1 ⟨v, rfl, hv, hb⟩)
      all_goals
        go_ret
        exact ⟨v, rfl, own_weaken hv (by simp), below_then ((Below.refl _ _).alloc (Nat.le_refl _) _) (by simp) hb⟩
  refine key (cutN n most) (cutN_le n most) rfl ?_
  unfold cutN
  by_cases e : 8 ≤ most
  · rw [if_pos e]
    have := q2 e
    split
    · exact .inr (.inl (by omega))
    · rcases Nat.eq_zero_or_pos n with h | h
      · exact .inr (.inr (.inr ⟨h, h⟩))
      · exact .inr (.inr (.inl (by omega)))
  · rw [if_neg e]
    exact .inl ⟨rfl, q3 (by omega)⟩

theorem cutN_is (n k : Nat) (most : Int) (hk : k ≤ n) (h : k = 0 ∨ 4 + 4 * (k : Int) ≤ most) (h' : k = n ∨ most < 4 + 4 * ((k : Int) + 1)) : cutN n most = k := by
  unfold cutN
  split
  · split <;> omega
  · omega
set_option maxHeartbeats 400000 in
theorem c16 (cum most : Int) (A : Option Addr) (n c B : Nat) (l : List (Int × Int)) (w : World) (hn : n ≤ 1000000) (h0 : -9223372036854775808 ≤ most) (h1 : most ≤ 9223372036854775807) (hB : B ≤ w.heap.size) (h : Reads w B 2 A n (sks l)) (hc : n ≤ c) (hnil : A = none → n = 0 ∧ c = 0) :
    Calls Try.prog 16 #[.agg #[.int .u32 cum, .slice A n c], .int .i64 most] w fun e w' => ∃ v, e = .returned v ∧ w'.ownsRow w.heap.size 41 2 v (cutN n most) (sks (l.take (cutN n most))) ∧ Below w.heap.size w w' := by
  obtain ⟨i0, hi0, hz0, hz1, hz2⟩ := info_parts info41
  have H := hide h
  clear h
  go_enter Try.func16, Try.ntmps16
  go_wp2
  go_loopw [5] (fun i wr => ∃ k : Nat, k ≤ n ∧ i = .int .i64 k ∧ wr = w.alloc (.cells #[.int .u32 cum, .slice A n c] 27) ∧ Hid (k = 0 ∨ 4 + 4 * (k : Int) ≤ most)) (fun i _ => n - (intOf i).toNat)
  case atStart => exact ⟨0, Nat.zero_le _, rfl, rfl, .inl rfl⟩
  case round =>
    obtain ⟨k, hk, rfl, rfl, hT⟩ := hrel
    by_cases hgo : k < n ∧ 4 + 4 * ((k : Int) + 1) ≤ most
    · obtain ⟨hlt, hle⟩ := hgo
      go_wp2
      go_roundw
      case rel => exact ⟨k + 1, by omega, by go_num, trivial, .inr (by omega)⟩
      case measure => simp [intOf]; omega
    · have hE := hide (cutN_is n k most hk (unhide hT) (by omega))
      have hr := reads_take (unhide H) k hk
      by_cases hlt : k < n
      · have hle : most < 4 + 4 * ((k : Int) + 1) := by omega
        clear hgo
        go_wp2_with (at_builtin; refine wpList_append_any _ rfl (.tmp 21) (.tmp 25) _ rfl (w.heap.size + 1) 41 i0 _ 2 4 Try.underlying25 hi0 hz0 hz1 hz2 rfl (by omega) (.slice (some ⟨w.heap.size + 1, 0, none⟩) 0 0) 0 [] rfl (own_empty_at (w.alloc (.cells #[.int .u32 cum, .slice A n c] 27)) _ 41 2 _ (by omega) (by simp)) B A k c (sks (l.take k)) rfl ((hr.alloc hB _).alloc (by simp; omega) _) (sks_one _) (by simp only [maxLen]; omega) (by omega) (by simp) ?_; intro v1 w1 hown1 hg1 hat1)
        go_ret
        refine ⟨v1, rfl, ?_⟩
        rw [unhide hE]
        exact ⟨own_weaken (by simpa using hown1) (by simp), (((Below.refl _ _).alloc (Nat.le_refl _) _).alloc (by simp) _).grown hg1 (by simp; omega) (by intro g hg; simp [Value.ownBlock] at hg; omega)⟩
      · obtain rfl : k = n := by omega
        clear hgo
        go_wp2_with (at_builtin; refine wpList_append_any _ rfl (.tmp 21) (.tmp 25) _ rfl (w.heap.size + 1) 41 i0 _ 2 4 Try.underlying25 hi0 hz0 hz1 hz2 rfl (by omega) (.slice (some ⟨w.heap.size + 1, 0, none⟩) 0 0) 0 [] rfl (own_empty_at (w.alloc (.cells #[.int .u32 cum, .slice A k c] 27)) _ 41 2 _ (by omega) (by simp)) B A k c (sks (l.take k)) rfl ((hr.alloc hB _).alloc (by simp; omega) _) (sks_one _) (by simp only [maxLen]; omega) (by omega) (by simp) ?_; intro v1 w1 hown1 hg1 hat1)
        go_ret
        refine ⟨v1, rfl, ?_⟩
        rw [unhide hE]
        exact ⟨own_weaken (by simpa using hown1) (by simp), (((Below.refl _ _).alloc (Nat.le_refl _) _).alloc (by simp) _).grown hg1 (by simp; omega) (by intro g hg; simp [Value.ownBlock] at hg; omega)⟩
end Go.Proofs.Ytkjohgokkfghiaa.Ct

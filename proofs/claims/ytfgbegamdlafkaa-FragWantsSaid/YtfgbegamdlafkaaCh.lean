/-
  Contract of slices.Chunk: the function that it gives hands on the chunks of a slice of bytes, one behind the other.
-/
import Derived.RangeFuncNested
import Derived.RangeFuncBound
import Derived.RangeFuncCalls
import Derived.RangeFuncLeaves
import Derived.RangeFuncBox
import Derived.Shelf.Abstract
import Derived.Shelf.RegionOpen
import Derived.WalkKit
import Derived.OwnWalkIn
import Derived.TacticsInMore
import Derived.LoopNIn
import Derived.LoopIn
import Derived.Test.YtfgbegamdlafkaaCb
set_option linter.unusedVariables false
set_option linter.unusedSimpArgs false
namespace Go.Proofs.Ytfgbegamdlafkaa.Ch
open Go.RowKit Go.Shelf Wd Md Cm Cb
attribute [local go_sem] Oper.semAt_some

/-- The chunk at a place. -/
def chk (mm : Nat) (xs : List Int) (i : Nat) : List Int := (xs.drop (i * mm)).take mm
/-- How many there are. -/
def nch (mm n : Nat) : Nat := if n = 0 then 0 else (n - 1) / mm + 1
theorem chk_length (mm : Nat) (xs : List Int) (i : Nat) : (chk mm xs i).length = min mm (xs.length - i * mm) := by simp [chk]
theorem nch_lt {mm n k : Nat} (hm : 0 < mm) : k < nch mm n ↔ k * mm < n := by
  unfold nch
  split
  · subst_vars
    omega
  · rw [Nat.lt_succ_iff, Nat.le_div_iff_mul_le hm]
    omega
theorem chk_reads {w : World} {B n mm : Nat} {ad : Addr} {xs : List Int} (h : Reads w B 1 (some ad) n (bs xs)) (k : Nat) : Reads w B 1 (some (ad.add (k * mm))) (chk mm xs k).length (bs (chk mm xs k)) := by
  have hl := blen_ h
  by_cases hk : k * mm ≤ n
  · have h1 := h.cut (k := k * mm) (cap := n + 1) hk (by omega)
    rw [if_neg (by omega), Nat.mul_one, ← bs_drop] at h1
    have h2 := reads_pre h1 (k := (chk mm xs k).length) (by rw [chk_length]; omega)
    rw [Nat.mul_one, ← bs_take] at h2
    have e : (xs.drop (k * mm)).take (chk mm xs k).length = chk mm xs k := by
      rw [chk_length]
      unfold chk
      apply List.ext_getElem?
      intro i
      rw [List.getElem?_take, List.getElem?_take, List.getElem?_drop]
      by_cases h1 : i < mm
      · by_cases h2 : k * mm + i < xs.length
        · rw [if_pos (by omega), if_pos h1]
        · rw [List.getElem?_eq_none (by omega)]
          simp
      · rw [if_neg (by omega), if_neg h1]
    rw [e] at h2
    exact h2
  · have e : chk mm xs k = [] := List.eq_nil_of_length_eq_zero (by rw [chk_length]; omega)
    rw [e]
    exact ⟨by simp [bs], fun h => absurd h (by simp)⟩

/-- Blocks below B lie as they lay, but for one. -/
def KB (B bl : Nat) (W W' : World) : Prop := W.heap.size ≤ W'.heap.size ∧ ∀ b, b < B → b ≠ bl → W'.heap[b]? = W.heap[b]?
theorem KB.refl (B bl : Nat) (W : World) : KB B bl W W := ⟨Nat.le_refl _, fun _ _ _ => rfl⟩
theorem KB.trans {B bl : Nat} {X Y Z : World} (h : KB B bl X Y) (k : KB B bl Y Z) : KB B bl X Z := ⟨Nat.le_trans h.1 k.1, fun b h1 h2 => (k.2 b h1 h2).trans (h.2 b h1 h2)⟩
theorem KB.cell {B bl : Nat} {W W' : World} (h : KB B bl W W') {p : Addr} (h1 : p.block < B) (h2 : p.block ≠ bl) : W'.cell? p = W.cell? p := World.cell?_of_block (h.2 _ h1 h2)

/-- slices.Chunk: both arguments are boxed; the function value captures the boxes. -/
theorem c24 (A : Option Addr) (n c mm : Nat) (w : World) (hm : 0 < mm) :
    Calls Try.prog 24 #[.slice A n c, .int .i64 mm] w fun e w' => e = .returned (.func (.func 28) #[] #[.pointer (some ⟨w.heap.size, 0, none⟩), .pointer (some ⟨w.heap.size + 1, 0, none⟩)]) ∧ w' = (w.alloc (.cells #[.slice A n c] 23)).alloc (.cells #[.int .i64 mm] 3) := by
  go_enter Try.func24, Try.ntmps24
  go_wp2
  go_ret
  exact ⟨rfl, rfl⟩

set_option maxRecDepth 100000 in
set_option maxHeartbeats 2000000 in
/-- The function that slices.Chunk gives: for every loop body that keeps the boxes and the bytes. -/
theorem c28 (n : Nat) (hn : 1 ≤ n) (l Bs Bm B0 bl : Nat) (ad : Addr) (N c mm : Nat) (hm : 0 < mm) (hm2 : mm ≤ 9223372036854775807) (hN : N ≤ 1048576) (hc : N ≤ c) (hBs : Bs < B0 ∧ Bs ≠ bl) (hBm : Bm < B0 ∧ Bm ≠ bl) (J Jx : List Nat → World → Prop) (xs : List Int) (hxs : xs.length = N) (hJd : ∀ pre W q, J pre W → J pre (W.drewN q))
    (hY : ∀ pre x W, J pre W → pre.length < nch mm N → YieldAt Fence.wide (n - 1) Try.prog l #[.slice (some (ad.add (x * mm))) (chk mm xs x).length (chk mm xs x).length] W fun e W' =>
      (e = .returned (.bool true) ∧ J (pre ++ [x]) W' ∧ KB B0 bl W W') ∨ (e = .returned (.bool false) ∧ Jx (pre ++ [x]) W'))
    (W : World) (hs : W.cell? ⟨Bs, 0, none⟩ = some (.slice (some ad) N c)) (hmc : W.cell? ⟨Bm, 0, none⟩ = some (.int .i64 mm)) (h0 : J [] W) :
    CallsIn Fence.wide n Try.prog 28 #[.func (.yield l) #[] #[], .pointer (some ⟨Bs, 0, none⟩), .pointer (some ⟨Bm, 0, none⟩)] W fun e W' => (∃ v, e = .returned v) ∧
      ((∃ ys, ys = List.range (nch mm N) ∧ J ys W') ∨ (∃ pre, (∃ k, pre = List.range k) ∧ Jx pre W')) := by
  refine callsIn_of_wp Try.func28 rfl trivial ?_ rfl
  simp only [Try.ntmps28, List.size_toArray, List.length_cons, List.length_nil, Nat.reduceAdd, Nat.reduceSub, Array.replicate_succ, Array.replicate_zero, List.push_toArray, List.append_toArray, List.nil_append, List.cons_append]
  gi_wp2
  gi_loopw [4] (fun i wr => ∃ k j : Nat, j = k * mm ∧ k ≤ nch mm N ∧ i = .int .i64 j ∧ J (List.range k) wr ∧ KB B0 bl W wr) (fun i _ => N + mm - (intOf i).toNat)
  case atStart => exact ⟨0, 0, by simp, Nat.zero_le _, rfl, h0, KB.refl _ _ _⟩
  case round =>
    obtain ⟨k, j, hj, hk, rfl, hJs, hK⟩ := hrel
    have hs' := (hK.cell (p := ⟨Bs, 0, none⟩) hBs.1 hBs.2).trans hs
    have hm' := (hK.cell (p := ⟨Bm, 0, none⟩) hBm.1 hBm.2).trans hmc
    by_cases hlt : k < nch mm N
    · have hjN : j < N := by rw [hj]; exact (nch_lt hm).1 hlt
      have hov : j + mm ≤ 9223372036854775807 := by
        rcases Nat.eq_zero_or_pos k with h | h
        · subst h; simp at hj; omega
        · have : mm ≤ k * mm := Nat.le_mul_of_pos_left mm h
          omega
      obtain ⟨q, hq⟩ : ∃ q, q = (chk mm xs k).length := ⟨_, rfl⟩
      have hqv : q = min mm (N - j) := by rw [hq, chk_length, hxs, hj]
      have hq1 : 0 < q := by omega
      have hjc : j ≤ c := by omega
      have hjq : j + q ≤ N := by omega
      have HJ := hide hj
      have HQ := hide hq
      have HQV := hide hqv
      have hYk := fun q => hY (List.range k) k (wr.drewN q) (hJd _ _ q hJs) (by rw [List.length_range]; exact hlt)
      rw [← hq, ← hj] at hYk
      have HY := hide hYk
      clear hj hq hqv hYk
      gi_wp2
      refine wpIn_wide.2 ?_
      by_cases hle : mm ≤ N - j
      · obtain rfl : q = mm := by have := unhide HQV; omega
        have hle2 : (q : Int) ≤ N - j := by omega
        go_quiet (fail)
        obtain ⟨fn, tmps, assign, body, hy, hR⟩ := unhide HY nq
        gi_wp2
        refine hR.mono ?_
        rintro e W3 (⟨rfl, hJ3, hk3⟩ | ⟨rfl, hJx3⟩)
        · have hm3 : W3.cell? ⟨Bm, 0, none⟩ = some (.int .i64 q) := (hk3.cell (p := ⟨Bm, 0, none⟩) hBm.1 hBm.2).trans hm'
          gi_wp2
          go_roundw
          case rel =>
            refine ⟨k + 1, j + q, by rw [Nat.add_mul, Nat.one_mul, unhide HJ], by omega, by go_num, by rw [List.range_succ]; exact hJ3, hK.trans ⟨hk3.1, hk3.2⟩⟩
          case measure => simp [intOf]; omega
        · gi_wp2
          refine bodyPost_ret (results_none rfl _ _ _) rfl ?_
          exact ⟨⟨_, rfl⟩, .inr ⟨List.range (k + 1), ⟨k + 1, rfl⟩, by rw [List.range_succ]; exact hJx3⟩⟩
      · obtain rfl : N = j + q := by have := unhide HQV; omega
        have hle2 : (q : Int) < mm := by omega
        have htn : ((j : Int) + q).toNat = j + q := by omega
        go_quiet (fail)
        obtain ⟨fn, tmps, assign, body, hy, hR⟩ := unhide HY nq
        gi_wp2
        refine hR.mono ?_
        rintro e W3 (⟨rfl, hJ3, hk3⟩ | ⟨rfl, hJx3⟩)
        · have hm3 : W3.cell? ⟨Bm, 0, none⟩ = some (.int .i64 mm) := (hk3.cell (p := ⟨Bm, 0, none⟩) hBm.1 hBm.2).trans hm'
          gi_wp2
          go_roundw
          case rel =>
            refine ⟨k + 1, j + mm, by rw [Nat.add_mul, Nat.one_mul, unhide HJ], by omega, by go_num, by rw [List.range_succ]; exact hJ3, hK.trans ⟨hk3.1, hk3.2⟩⟩
          case measure => simp [intOf]; omega
        · gi_wp2
          refine bodyPost_ret (results_none rfl _ _ _) rfl ?_
          exact ⟨⟨_, rfl⟩, .inr ⟨List.range (k + 1), ⟨k + 1, rfl⟩, by rw [List.range_succ]; exact hJx3⟩⟩
    · have hjN : N ≤ j := by
        rcases Nat.lt_or_ge j N with h | h
        · rw [hj] at h; exact absurd ((nch_lt hm).2 h) hlt
        · exact h
      obtain rfl : k = nch mm N := by omega
      clear hj
      gi_wp2
      go_end0
      exact ⟨⟨_, rfl⟩, .inl ⟨_, rfl, hJs⟩⟩
end Go.Proofs.Ytfgbegamdlafkaa.Ch

/-
  Contracts of the small functions: copies of bytes; what is long, what is large.
-/
import Derived.Test.YtfgbegamdlafkaaCm
set_option linter.unusedVariables false
set_option linter.unusedSimpArgs false
namespace Go.Proofs.Ytfgbegamdlafkaa.Cb
open Go.RowKit Wd Md Cm

theorem info5 : (Try.prog.info? 5).map (fun i => (i.zero, i.size, i.bytes)) = some (some (.int .u8 0), 1, 1) := by kernel_rfl
theorem info38 : (Try.prog.info? 38).map (fun i => (i.zero, i.size, i.bytes)) = some (some (.agg #[.int .u32 0, .int .u16 0, .int .u16 0, .bool false, .bool false, .bool false, .slice none 0 0]), 7, 40) := by kernel_rfl
theorem own_bytes {w : World} {base n : Nat} {v : Value} {l : List Int} (h : w.ownsRow base 5 1 v n (bs l)) : l.length = n := by
  have := h.1
  rw [bs_length] at this
  omega

/-- 'slices.Clone' of bytes: nil of nil, else a row of its own. -/
theorem c25 (A : Option Addr) (n c B : Nat) (l : List Int) (w : World) (hn : n ≤ 1000000000) (hB : B ≤ w.heap.size) (h : Reads w B 1 A n (bs l)) (hnil : A = none → n = 0 ∧ c = 0) :
    Calls Try.prog 25 #[.slice A n c] w fun e w' => ∃ v, e = .returned v ∧ w'.ownsRow w.heap.size 5 1 v n (bs l) ∧ Below w.heap.size w w' := by
  obtain ⟨i0, hi0, hz0, hz1, hz2⟩ := info_parts info5
  rcases A with _ | ad
  · obtain ⟨rfl, rfl⟩ := hnil rfl
    have hl : l = [] := List.eq_nil_of_length_eq_zero (blen_ h)
    subst hl
    have k1 := fun W => Lib.run_eql_slice_nil (P := Try.prog) W
    go_enter Try.func25, Try.ntmps25
    go_wp2
    go_ret
    exact ⟨_, rfl, ⟨by simp [bs], .inl ⟨rfl, rfl⟩⟩, Below.refl _ _⟩
  · have k1 := fun W => Lib.run_eql_slice_nil (P := Try.prog) W
    go_enter Try.func25, Try.ntmps25
    go_wp2_with (at_builtin; refine wpList_append_any _ rfl (.tmp 5) (.tmp 6) _ rfl w.heap.size 5 i0 _ 1 1 Try.underlying23 hi0 hz0 hz1 hz2 rfl (by omega) (.slice (some ⟨w.heap.size, 0, none⟩) 0 0) 0 [] rfl (own_empty w _ 5 1 (Nat.le_refl _)) B (some ad) n c (bs l) rfl (h.alloc hB _) (bs_one l) (by simp only [maxLen]; omega) (by omega) (by simp) ?_; intro v1 w1 hown1 hg1 hat1)
    go_ret
    refine ⟨v1, rfl, by simpa using hown1, ?_⟩
    exact below_app ((Below.refl _ _).alloc (Nat.le_refl _) _) (own_empty w _ 5 1 (Nat.le_refl _)) hg1 (by simp)

set_option maxHeartbeats 400000 in
/-- CopyBytes: nil of none, else a row of its own. -/
theorem c19 (A : Option Addr) (n c B : Nat) (l : List Int) (w : World) (hn : n ≤ 1000000000) (hB : B ≤ w.heap.size) (h : Reads w B 1 A n (bs l)) :
    Calls Try.prog 19 #[.slice A n c] w fun e w' => ∃ v, e = .returned v ∧ w'.ownsRow w.heap.size 5 1 v n (bs l) ∧ Below w.heap.size w w' := by
  obtain ⟨i0, hi0, hz0, hz1, hz2⟩ := info_parts info5
  have L := hide (blen_ h)
  rcases Nat.eq_zero_or_pos n with rfl | hp
  · have hl : l = [] := List.eq_nil_of_length_eq_zero (blen_ h)
    subst hl
    go_enter Try.func19, Try.ntmps19
    go_wp2
    go_ret
    exact ⟨_, rfl, ⟨by simp [bs], .inl ⟨rfl, rfl⟩⟩, Below.refl _ _⟩
  · have hnz : ((n : Int) == 0) = false := by rw [beq_eq_false_iff_ne]; omega
    have hmk := run_make_rowN (P := Try.prog) 23 5 i0 _ Try.underlying23 hi0 hz0 .i64 .i64 n n (Nat.le_refl _) (by rw [hz2]; omega) (by omega) w
    rw [hz1, Nat.mul_one] at hmk
    have hO : (w.alloc (.cells (madeCells (Value.cells (.int .u8 0)) n) 5)).ownsRow w.heap.size 5 1 (.slice (some ⟨w.heap.size, 0, none⟩) n n) n (bs (l.take 0 ++ List.replicate n 0)) := by
      have := World.ownsRow_lit (base := w.heap.size) (e := 5) (size := 1) w (madeCells (Value.cells (.int .u8 0)) n) n (Nat.le_refl _) (by simp only [maxLen]; omega) (by simp [size_madeCells])
      have e : (madeCells (Value.cells (.int .u8 0)) n).toList = bs (l.take 0 ++ List.replicate n 0) := by
        show (madeCells #[Value.int .u8 0] n).toList = _
        rw [toList_madeCells_one]
        simp [bs]
      rwa [e] at this
    clear hi0 hz0 hz1 hz2 hp
    go_enter Try.func19, Try.ntmps19
    go_wp2
    go_loopw [4] (fun i wr => ∃ (k : Nat), k ≤ n ∧ i = .int .i64 k ∧ Below w.heap.size w wr ∧ wr.ownsRow w.heap.size 5 1 (.slice (some ⟨w.heap.size, 0, none⟩) n n) n (bs (l.take k ++ List.replicate (n - k) 0))) (fun i _ => n - (intOf i).toNat)
    case atStart => exact ⟨0, Nat.zero_le _, rfl, (Below.refl _ _).alloc (Nat.le_refl _) _, hO⟩
    case round =>
      obtain ⟨k, hk, rfl, hbr, hor⟩ := hrel
      by_cases hlt : k < n
      · obtain ⟨ad, x, rfl, hab, hx, hc⟩ := bat_ (h.keep (w' := wr) (fun p hp => hbr.cell (by omega))) k hlt
        have hlen : (l.take k ++ List.replicate (n - k) (0 : Int)).length = n := own_bytes hor
        have y1 : wr.cell? ⟨w.heap.size, k, none⟩ = some (.int .u8 0) := by
          rw [hor.cellAt k (by omega)]
          refine bs_get _ k 0 ?_
          have := unhide L
          rw [List.getElem?_append_right (by rw [List.length_take]; omega), List.length_take, List.getElem?_replicate]
          rw [if_pos (by omega)]
        have y2 : wr.frozen? ⟨w.heap.size, k, none⟩ = false := hor.frozenAt k
        have HX := hide hx
        clear hx hlen
        go_wp2
        go_roundw
        case rel =>
          have ho3 := (hor.stored k (.int .u8 x)).1
          rw [← bs_set] at ho3
          have e : (l.take k ++ List.replicate (n - k) (0 : Int)).set k x = l.take (k + 1) ++ List.replicate (n - (k + 1)) 0 := by
            have hl := unhide L
            obtain ⟨q, hq⟩ : ∃ q, n - k = q + 1 := ⟨n - k - 1, by omega⟩
            rw [List.take_add_one, show l[k]? = some x from HX, hq, show n - (k + 1) = q from by omega, List.replicate_succ]
            rw [List.set_append_right _ _ (by rw [List.length_take]; omega), List.length_take, show k - min k l.length = 0 from by omega]
            simp
          rw [e] at ho3
          exact ⟨k + 1, by omega, by go_num, hbr.setCell (by simp) _, ho3⟩
        case measure => simp [intOf]; omega
      · obtain rfl : k = n := by omega
        go_wp2
        go_ret
        have e : l.take k ++ List.replicate (k - k) (0 : Int) = l := by
          have hl := unhide L
          rw [List.take_of_length_le (by omega)]
          simp
        rw [e] at hor
        exact ⟨_, rfl, hor, hbr⟩

/-- long. -/
def longB (n : Nat) (most : Int) : Bool := (decide (65536 < n) && decide (n ≤ 1048576)) || (decide (0 < most) && decide (2000 < (n : Int) / most))
theorem c10 (st : Int) (o : Bool) (A : Option Addr) (n c : Nat) (most : Int) (w : World) (hn : n ≤ 9223372036854775807) (h0 : -9223372036854775808 ≤ most) (h1 : most ≤ 9223372036854775807) :
    Calls Try.prog 10 #[.agg #[.int .u16 st, .bool o, .slice A n c], .int .i64 most] w fun e w' => e = .returned (.bool (longB n most)) ∧ Below w.heap.size w w' := by
  have fin : longB n most = ((decide (65536 < n) && decide (n ≤ 1048576)) || (decide (0 < most) && decide (2000 < (n : Int) / most))) := rfl
  have FIN := hide fin
  clear fin
  by_cases a : 65536 < n
  · by_cases b : n ≤ 1048576
    · go_enter Try.func10, Try.ntmps10
      go_wp2
      go_ret
      exact ⟨ret_bool (by rw [unhide FIN]; simp [a, b]), (Below.refl _ _).alloc (Nat.le_refl _) _⟩
    · have b' : 1048576 < n := by omega
      by_cases hm : 0 < most
      · have hmz : (most == 0) = false := by rw [beq_eq_false_iff_ne]; omega
        have q0 : 0 ≤ (n : Int) / most := Int.ediv_nonneg (by omega) (by omega)
        have q1 : (n : Int) / most ≤ 9223372036854775807 := Int.le_trans (Int.ediv_le_self _ (by omega)) (by omega)
        go_enter Try.func10, Try.ntmps10
        go_wp2
        go_ret
        exact ⟨ret_bool (by rw [unhide FIN]; simp [a, b, hm, show ¬ (n : Int) ≤ 1048576 from by omega]), (Below.refl _ _).alloc (Nat.le_refl _) _⟩
      · have hm' : most ≤ 0 := by omega
        go_enter Try.func10, Try.ntmps10
        go_wp2
        go_ret
        exact ⟨ret_bool (by rw [unhide FIN]; simp [a, b', show ¬ (n : Int) ≤ 1048576 from by omega, show ¬ 0 < most from by omega]), (Below.refl _ _).alloc (Nat.le_refl _) _⟩
  · have a' : n ≤ 65536 := by omega
    by_cases hm : 0 < most
    · have hmz : (most == 0) = false := by rw [beq_eq_false_iff_ne]; omega
      have q0 : 0 ≤ (n : Int) / most := Int.ediv_nonneg (by omega) (by omega)
      have q1 : (n : Int) / most ≤ 9223372036854775807 := Int.le_trans (Int.ediv_le_self _ (by omega)) (by omega)
      go_enter Try.func10, Try.ntmps10
      go_wp2
      go_ret
      exact ⟨ret_bool (by rw [unhide FIN]; simp [a, hm]), (Below.refl _ _).alloc (Nat.le_refl _) _⟩
    · have hm' : most ≤ 0 := by omega
      go_enter Try.func10, Try.ntmps10
      go_wp2
      go_ret
      exact ⟨ret_bool (by rw [unhide FIN]; simp [a, show ¬ 0 < most from by omega]), (Below.refl _ _).alloc (Nat.le_refl _) _⟩

/-- How many bytes the first k have. -/
def tot (bb : List (List Int)) : Nat := bb.flatten.length
theorem tot_next {bb : List (List Int)} {k : Nat} {b : List Int} (h : bb[k]? = some b) : tot (bb.take (k + 1)) = tot (bb.take k) + b.length := by
  unfold tot
  rw [List.take_add_one, h]
  simp
def LargePost (n : Nat) (bb : List (List Int)) (w : World) (e : Ending) (w' : World) : Prop := ∃ r, e = .returned (.bool r) ∧ (r = false → n ≤ 2000 ∧ tot bb ≤ 131072) ∧ w' = w
set_option maxHeartbeats 400000 in
/-- large: where it says no, there are few bytes and few pieces. -/
theorem c18 (A : Option Addr) (n c B : Nat) (ds : List Dt) (bb : List (List Int)) (w : World) (hn : n ≤ 9223372036854775807) (hB : B ≤ w.heap.size) (h : Reads w B 7 A n (dts ds)) (hb : RdB w B ds bb) (hbl : Hid (∀ d ∈ ds, d.n ≤ 9223372036854775807)) :
    Calls Try.prog 18 #[.slice A n c] w (LargePost n bb w) := by
  have L := hide (dlen_ h)
  have hL := hb.1
  go_enter Try.func18, Try.ntmps18
  go_wp2
  go_loop [3, 4] (fun s3 i => ∃ (k v : Nat), k ≤ n ∧ i = .int .i64 k ∧ s3 = .int .i64 v ∧ v ≤ 9223372036854775807 ∧ Hid (v ≤ 131072 → tot (bb.take k) + n ≤ v)) (fun _ i => n - (intOf i).toNat)
  case atStart => exact ⟨0, n, Nat.zero_le _, rfl, rfl, hn, fun _ => by simp [tot]⟩
  case round =>
    obtain ⟨k, v, hk, rfl, rfl, hv, hT⟩ := hrel
    by_cases hlt : k < n
    · obtain ⟨ad, d, rfl, hab, hd, q0, q1, q2, q3, q4, q5, q6⟩ := dat_ h k hlt
      obtain ⟨b, hb1, rb, cb, ob⟩ := hb.at_ hd
      have hbn := blen_ rb
      have hdn := unhide hbl d (List.mem_of_getElem? hd)
      have HT := hide (tot_next hb1)
      by_cases hv2 : v ≤ 131072
      · by_cases hm : d.n < 262144
        · go_wp2
          go_round
          case rel => exact ⟨k + 1, v + d.n, by omega, by go_num, by go_num, by omega, fun h2 => by have := unhide hT hv2; have := unhide HT; omega⟩
          case measure => simp [intOf]; omega
        · go_wp2
          go_round
          case rel => exact ⟨k + 1, v + 262144, by omega, by go_num, by go_num, by omega, fun h2 => by omega⟩
          case measure => simp [intOf]; omega
      · have hv3 : 131072 < v := by omega
        go_wp2
        go_ret
        exact ⟨true, by simp <;> omega, fun h => (by cases h), rfl⟩
    · obtain rfl : k = n := by omega
      have hbb : Hid (bb.take k = bb) := List.take_of_length_le (by have := unhide L; omega)
      by_cases hv2 : v ≤ 131072
      · have h9 := unhide hT hv2
        rw [unhide hbb] at h9
        go_wp2
        go_ret
        exact ⟨_, rfl, fun h => ⟨by simp at h; omega, by omega⟩, rfl⟩
      · have hv3 : 131072 < v := by omega
        go_wp2
        go_ret
        exact ⟨true, by simp <;> omega, fun h => (by cases h), rfl⟩
end Go.Proofs.Ytfgbegamdlafkaa.Cb

/-
  What is kept by each step of the queue; contracts where there is no queue; bytes as a string.
-/
import Derived.Test.YtmidnfkmefoleaaQp
import Derived.Test.YtmidnfkmefoleaaQx
import Derived.Laws.BytesArg
set_option linter.unusedVariables false
set_option linter.unusedSimpArgs false
namespace Go.Proofs.Ytmidnfkmefoleaa.Ql
open Go.RowKit Wd Ra Qm Qs Qp Qn Qe Qd Qx

theorem put_ok {q : PQ} {st un : Int} {o : Bool} {xs : List Int} (h : q.Ok) (hy : why q st xs.length un = 0) (hb : BOk xs) (hs : 0 ≤ st) (hu : un ≤ 9223372036854775807) (hm : q.many < 1000000) : (put q st o xs un).Ok := by
  obtain ⟨y1, y2, y3, y4, y5⟩ := why_zero hy
  refine ⟨h.room1, h.room2, y5, h.ssn1, h.ssn2, h.ssn, fun p hp => ?_, ?_, by simp only [put]; omega⟩
  · simp only [put, List.mem_append, List.mem_singleton] at hp
    rcases hp with hp | rfl
    · exact h.its p hp
    · exact ⟨hs, y2, hb, y1, hu, by simp, by simp, y3, y4⟩
  · have := h.len
    simp only [put, List.length_append, List.length_singleton]
    omega
theorem nxNum_len (q : PQ) (p : PI) : (nxNum q p).length = q.ssn.length := by unfold nxNum; split <;> simp
theorem nxSsn_ok {q : PQ} {p : PI} (h : q.Ok) (hp : p.Ok q.room q.ssn.length) : 0 ≤ nxSsn q p ∧ nxSsn q p ≤ 65535 := by
  obtain ⟨a1, a2, a3, a4, a5, a6, a7, a8, a9⟩ := hp
  unfold nxSsn
  split
  · have hlt : p.st.toNat < q.ssn.length := by omega
    have e : q.ssn[p.st.toNat]? = some q.ssn[p.st.toNat] := List.getElem?_eq_getElem hlt
    rw [List.getD_eq_getElem?_getD, e]
    exact h.ssn _ (List.getElem_mem hlt)
  · exact ⟨a6, a7⟩
theorem nx_ok {q : PQ} {p : PI} {r : List PI} {m : Nat} (h : q.Ok) (hi : q.its = p :: r) (hm : 1 ≤ m) : (nxQ q p r m).Ok := by
  have hp : p.Ok q.room q.ssn.length := h.its p (by rw [hi]; simp)
  obtain ⟨s0, s1⟩ := nxSsn_ok h hp
  obtain ⟨a1, a2, a3, a4, a5, a6, a7, a8, a9⟩ := hp
  have hr : ∀ x ∈ r, x.Ok q.room q.ssn.length := fun x hx => h.its x (by rw [hi]; simp [hx])
  refine ⟨h.room1, h.room2, h.used, by simp only [nxQ, nxNum_len]; exact h.ssn1, by simp only [nxQ, nxNum_len]; exact h.ssn2, fun x hx => ?_, fun x hx => ?_, ?_, h.many⟩
  · simp only [nxQ, nxNum] at hx
    split at hx
    · rcases List.mem_or_eq_of_mem_set hx with hx | rfl
      · exact h.ssn x hx
      · omega
    · exact h.ssn x hx
  · simp only [nxQ] at hx ⊢
    rw [nxNum_len]
    split at hx
    · exact hr x hx
    · rename_i hl
      rcases List.mem_cons.1 hx with rfl | hx
      · refine ⟨a1, a2, a3, a4, a5, s0, s1, ?_, a9⟩
        simp only [nxI]
        have h1 : ¬ nxEnd p m = p.xs.length := fun e => hl (by unfold nxLast; rw [e]; simp)
        have h2 : nxEnd p m ≤ p.xs.length := by unfold nxEnd nxLen PI.left; omega
        omega
      · exact hr x hx
  · have := h.len
    rw [hi] at this
    simp only [nxQ]
    split
    · simp only [List.length_cons] at this; omega
    · simpa using this
theorem free_ok {q : PQ} (h : q.Ok) (k : Nat) : PQ.Ok { q with used := q.used - k } :=
  ⟨h.room1, h.room2, Nat.le_trans (Nat.sub_le _ _) h.used, h.ssn1, h.ssn2, h.ssn, h.its, h.len, h.many⟩
theorem ex_ok {q : PQ} (h : q.Ok) (now : Int) : (exQ now q).Ok := free_ok (ok_keep h now) _

set_option maxRecDepth 100000 in
/-- No queue: Put. -/
theorem c11n (st : Int) (o : Bool) (A : Option Addr) (n c : Nat) (un : Int) (w : World) :
    Calls Try.prog 11 #[.pointer none, .agg #[.int .u16 st, .bool o, .slice A n c], .int .i64 un] w fun e w' => e = .returned (.tuple #[.int .i64 0, .int .i64 2]) ∧ Below w.heap.size w w' := by
  go_enter Try.func11, Try.ntmps11
  go_wp2
  go_ret2
  exact ⟨rfl, (Below.refl _ _).alloc (Nat.le_refl _) _⟩
set_option maxRecDepth 100000 in
/-- No queue: Next. -/
theorem c15n (most : Int) (w : World) :
    Calls Try.prog 15 #[.pointer none, .int .i64 most] w fun e w' => e = .returned (.tuple #[.agg #[.int .u32 0, .int .u16 0, .int .u16 0, .bool false, .bool false, .bool false, .slice none 0 0], .int .i64 0, .bool false]) ∧ Below w.heap.size w w' := by
  go_enter Try.func15, Try.ntmps15
  go_wp2
  refine bodyPost_ret (results_ctt (P := Try.prog) Try.results15 _ _ w.heap.size 35 #[.int .u32 0, .int .u16 0, .int .u16 0, .bool false, .bool false, .bool false, .slice none 0 0] _ rfl ?_ Try.underlying35 rfl size35) rfl ?_
  · exact (Blk.new w 35 _)
  · exact ⟨rfl, (Below.refl _ _).alloc (Nat.le_refl _) _⟩
set_option maxRecDepth 100000 in
/-- No queue: Expire. -/
theorem c12n (now : Int) (w : World) :
    Calls Try.prog 12 #[.pointer none, .int .i64 now] w fun e w' => e = .returned (.tuple #[.agg #[.int .u32 0, .int .u16 0, .int .u16 0, .bool false, .bool false, .bool false, .slice none 0 0], .int .i64 0, .bool false]) ∧ Below w.heap.size w w' := by
  go_enter Try.func12, Try.ntmps12
  go_wp2
  refine bodyPost_ret (v := .tuple #[.agg #[.int .u32 0, .int .u16 0, .int .u16 0, .bool false, .bool false, .bool false, .slice none 0 0], .int .i64 0, .bool false]) (by simp [results, Try.results12, go_sem]) rfl ⟨rfl, ?_⟩
  exact (((((Below.refl _ _).alloc (Nat.le_refl _) _).alloc (by simp) _).alloc (by simp <;> omega) _).alloc (by simp <;> omega) _)

/-! ### Bytes as a string -/
theorem conv_ {w : World} {B n c : Nat} {A : Option Addr} {xs : List Int} (h : Reads w B 1 A n (bs xs)) : (convert 22 9 (.slice A n c)).run Try.prog w = .ok (.string (strOfNums xs)) w := by
  rcases A with _ | ad
  · have hn : n = 0 := by
      rcases Nat.eq_zero_or_pos n with h0 | h0
      · exact h0
      · obtain ⟨ad, h1, _⟩ := h.2 h0
        cases h1
    subst hn
    have hx : xs = [] := List.eq_nil_of_length_eq_zero (blen_ h)
    subst hx
    exact run_convert_bytes_nil w 22 5 Try.underlying22 Try.underlying5 0 c 9 Try.underlying9
  · have hl : (loadCells ad n).run Try.prog w = .ok (xs.map (Value.int .u8)).toArray w := by
      have := run_loadCells_list (P := Try.prog) w ad (bs xs) (fun j v hj => by
        rcases Nat.eq_zero_or_pos n with h0 | h0
        · subst h0
          have hx : xs = [] := List.eq_nil_of_length_eq_zero (blen_ h)
          subst hx
          simp [bs] at hj
        · obtain ⟨ad', h1, _, hc⟩ := h.2 h0
          injection h1 with h1
          subst h1
          exact hc j v hj)
      rw [bs_length, blen_ h] at this
      exact this
    rw [run_convert_bytes_string w 22 9 5 _ n c Try.underlying22 Try.underlying5 Try.underlying9, run_bytesToString w _ n c xs hl, foldl_push_bytes]
    simp [strOfNums, ByteArray.empty, ByteArray.emptyWithCapacity]
    rfl
theorem str_inj {xs ys : List Int} (hx : BOk xs) (hy : BOk ys) : strOfNums xs = strOfNums ys ↔ xs = ys := by
  constructor
  · intro h
    have h1 : (strOfNums xs).data.toList = (strOfNums ys).data.toList := by rw [h]
    rw [strOfNums_data, strOfNums_data] at h1
    have key : ∀ (a b : List Int), BOk a → BOk b → a.map (fun n => UInt8.ofNat n.toNat) = b.map (fun n => UInt8.ofNat n.toNat) → a = b := by
      intro a
      induction a with
      | nil => intro b _ _ h; cases b with | nil => rfl | cons x y => simp at h
      | cons x a ih =>
        intro b ha hb h
        cases b with
        | nil => simp at h
        | cons y b =>
          simp only [List.map_cons, List.cons.injEq] at h
          obtain ⟨h2, h3⟩ := h
          have hxx := ha x (by simp)
          have hyy := hb y (by simp)
          have h4 : x.toNat % 256 = y.toNat % 256 := by
            have := congrArg UInt8.toNat h2
            simpa using this
          have : x = y := by omega
          rw [this, ih b (fun z hz => ha z (by simp [hz])) (fun z hz => hb z (by simp [hz])) h3]
    exact key xs ys hx hy h1
  · rintro rfl
    rfl
end Go.Proofs.Ytmidnfkmefoleaa.Ql

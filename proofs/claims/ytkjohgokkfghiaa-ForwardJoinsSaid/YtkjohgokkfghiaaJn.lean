/-
  The plain side of two rows, one behind the other: the whole one's skips and the two ones'.
-/
import Derived.Test.YtkjohgokkfghiaaLt
set_option linter.unusedVariables false
set_option linter.unusedSimpArgs false
namespace Go.Proofs.Ytkjohgokkfghiaa.Pl

/-- The first k pieces bear the TSNs of a row, and numbers near the first one. -/
def Prg (cum first : Int) (n k : Nat) (l : List Dt) : Prop := l.length = n ∧ (∀ j d, l[j]? = some d → j < k → d.tsn = (cum + 1 + j) % 4294967296 ∧ ah16 first d.ssn < 16384) ∧ ∀ d ∈ l, d.Ok
theorem set_self {l : List Dt} {k j : Nat} {d e : Dt} (h : (l.set k d)[j]? = some e) : (j = k ∧ e = d) ∨ (j ≠ k ∧ l[j]? = some e) := by
  rw [List.getElem?_set] at h
  by_cases hk : k = j
  · rw [if_pos hk] at h
    split at h
    · injection h with h
      exact .inl ⟨hk.symm, h.symm⟩
    · cases h
  · rw [if_neg hk] at h
    exact .inr ⟨fun e => hk e.symm, h⟩
theorem prg_next {cum first : Int} {n k : Nat} {l : List Dt} {d : Dt} (h : Prg cum first n k l) (hd : l[k]? = some d) (hf0 : 0 ≤ first) (hf1 : first ≤ 65535) :
    Prg cum first n (k + 1) ((l.set k { d with tsn := (cum + 1 + k) % 4294967296 }).set k { d with tsn := (cum + 1 + k) % 4294967296, ssn := (first + d.ssn % 16384) % 65536 }) := by
  obtain ⟨h1, h2, h3⟩ := h
  obtain ⟨o1, o2, o3, o4, o5, o6⟩ := h3 d (List.mem_of_getElem? hd)
  rw [List.set_set]
  refine ⟨by simpa using h1, fun j e he hj => ?_, fun e he => ?_⟩
  · rcases set_self he with ⟨rfl, rfl⟩ | ⟨hne, he⟩
    · refine ⟨rfl, ?_⟩
      simp only
      unfold ah16
      omega
    · exact h2 j e he (by omega)
  · rcases List.mem_or_eq_of_mem_set he with h | rfl
    · exact h3 e h
    · refine ⟨?_, ?_, o3, o4, ?_, ?_⟩ <;> simp only <;> omega
theorem prg_row {cum first : Int} {n : Nat} {l : List Dt} (h : Prg cum first n n l) : RowOk cum l := fun j d hd => (h.2.1 j d hd (by have := (List.getElem?_eq_some_iff.1 hd).1; have := h.1; omega)).1
theorem prg_near {cum first : Int} {n : Nat} {l : List Dt} (h : Prg cum first n n l) : Near first l := fun d hd => by
  obtain ⟨j, hj⟩ := List.getElem?_of_mem hd
  obtain ⟨o1, o2, o3, o4, o5, o6⟩ := h.2.2 d hd
  exact ⟨o5, o6, (h.2.1 j d hj (by have := (List.getElem?_eq_some_iff.1 hj).1; have := h.1; omega)).2⟩
theorem row_take {cum : Int} {l : List Dt} (h : RowOk cum l) (k : Nat) : RowOk cum (l.take k) := fun j d hd => by
  rw [List.getElem?_take] at hd
  split at hd
  · exact h j d hd
  · cases hd
theorem row_drop {cum : Int} {l : List Dt} (h : RowOk cum l) (k : Nat) : RowOk ((cum + k) % 4294967296) (l.drop k) := fun j d hd => by
  rw [List.getElem?_drop] at hd
  rw [h _ d hd]
  omega
theorem near_take {first : Int} {l : List Dt} (h : Near first l) (k : Nat) : Near first (l.take k) := fun d hd => h d (List.mem_of_mem_take hd)
theorem near_drop {first : Int} {l : List Dt} (h : Near first l) (k : Nat) : Near first (l.drop k) := fun d hd => h d (List.mem_of_mem_drop hd)

/-- Of the first j skips of both: is one of the stream there, and what is the latest number of it. -/
def Jn (both : List (Int × Int)) (first st : Int) (j : Nat) (mx : Int) (b : Bool) : Prop :=
  (b = true ↔ ∃ (q : Nat) (t : Int × Int), q < j ∧ both[q]? = some t ∧ t.1 = st) ∧ 0 ≤ mx ∧ mx ≤ 65535 ∧
  (∀ (q : Nat) (t : Int × Int), q < j → both[q]? = some t → t.1 = st → ah16 first t.2 ≤ mx) ∧
  (mx = 0 ∨ ∃ (q : Nat) (t : Int × Int), q < j ∧ both[q]? = some t ∧ t.1 = st ∧ ah16 first t.2 = mx)
theorem jn_zero (both : List (Int × Int)) (first st : Int) : Jn both first st 0 0 false :=
  ⟨⟨fun h => (by cases h), fun ⟨q, t, h, _⟩ => absurd h (by omega)⟩, by omega, by omega, fun q t h => absurd h (by omega), .inl rfl⟩
theorem jn_skip {both : List (Int × Int)} {first st mx : Int} {j : Nat} {b : Bool} {t : Int × Int} (h : Jn both first st j mx b) (ht : both[j]? = some t) (hne : ¬ t.1 = st) : Jn both first st (j + 1) mx b := by
  obtain ⟨h1, h2, h3, h4, h5⟩ := h
  refine ⟨h1.trans ⟨fun ⟨q, u, hq, r⟩ => ⟨q, u, by omega, r⟩, fun ⟨q, u, hq, hu, r⟩ => ⟨q, u, ?_, hu, r⟩⟩, h2, h3, fun q u hq hu r => ?_, h5.imp id fun ⟨q, u, hq, r⟩ => ⟨q, u, by omega, r⟩⟩
  · rcases Nat.lt_or_ge q j with h | h
    · exact h
    · have : q = j := by omega
      subst this
      rw [ht] at hu
      injection hu with hu
      subst hu
      exact absurd r hne
  · rcases Nat.lt_or_ge q j with h | h
    · exact h4 q u h hu r
    · have : q = j := by omega
      subst this
      rw [ht] at hu
      injection hu with hu
      subst hu
      exact absurd r hne
theorem jn_take {both : List (Int × Int)} {first st mx mx' : Int} {j : Nat} {b : Bool} {t : Int × Int} (h : Jn both first st j mx b) (ht : both[j]? = some t) (he : t.1 = st) (hm : (mx' = mx ∧ ah16 first t.2 ≤ mx) ∨ (mx' = ah16 first t.2 ∧ mx ≤ ah16 first t.2)) : Jn both first st (j + 1) mx' true := by
  obtain ⟨h1, h2, h3, h4, h5⟩ := h
  have hb : 0 ≤ ah16 first t.2 ∧ ah16 first t.2 ≤ 65535 := by clear h1 h4 h5 hm; unfold ah16; omega
  have hm0 : 0 ≤ mx' ∧ mx' ≤ 65535 ∧ mx ≤ mx' ∧ ah16 first t.2 ≤ mx' := by clear h1 h4 h5; omega
  refine ⟨⟨fun _ => ⟨j, t, Nat.lt_succ_self j, ht, he⟩, fun _ => rfl⟩, hm0.1, hm0.2.1, fun q u hq hu r => ?_, ?_⟩
  · rcases Nat.lt_or_ge q j with h | h
    · exact Int.le_trans (h4 q u h hu r) hm0.2.2.1
    · have : q = j := by clear h1 h4 h5 hm; omega
      subst this
      rw [ht] at hu
      injection hu with hu
      subst hu
      exact hm0.2.2.2
  · rcases hm with ⟨e, _⟩ | ⟨e, _⟩
    · subst e
      exact h5.imp id fun ⟨q, u, hq, r⟩ => ⟨q, u, Nat.lt_succ_of_lt hq, r⟩
    · exact .inr ⟨j, t, Nat.lt_succ_self j, ht, he, e.symm⟩
theorem jn_all {first mx : Int} {l : List Dt} {L La Lb : List (Int × Int)} {s : Int × Int} {i k : Nat} {b : Bool} (h : Jn (La ++ Lb) first s.1 (La ++ Lb).length mx b) (hT : Lat first l L) (ha : Lat first (l.take k) La) (hb : Lat first (l.drop k) Lb) (hs : L[i]? = some s) :
    b = true ∧ mx = (s.2 - first) % 65536 := by
  obtain ⟨h1, h2, h3, h4, h5⟩ := h
  obtain ⟨d, hd, hu, hst, hss⟩ := hT.1 i s hs
  have hin : ∃ (q : Nat) (t : Int × Int), q < (La ++ Lb).length ∧ (La ++ Lb)[q]? = some t ∧ t.1 = s.1 ∧ ah16 first s.2 ≤ ah16 first t.2 := by
    have hd2 := hd
    rw [← List.take_append_drop k l, List.mem_append] at hd2
    rcases hd2 with hd2 | hd2
    · obtain ⟨q, hq, hle⟩ := ha.2.1 d hd2 hu
      have hlt := (List.getElem?_eq_some_iff.1 hq).1
      exact ⟨idx d.st La, (d.st, q), by rw [List.length_append]; exact Nat.lt_of_lt_of_le hlt (Nat.le_add_right _ _), by rw [List.getElem?_append_left hlt]; exact hq, hst, by rw [← hss]; exact hle⟩
    · obtain ⟨q, hq, hle⟩ := hb.2.1 d hd2 hu
      have hlt := (List.getElem?_eq_some_iff.1 hq).1
      exact ⟨La.length + idx d.st Lb, (d.st, q), by rw [List.length_append]; exact Nat.add_lt_add_left hlt _, by rw [List.getElem?_append_right (by omega), Nat.add_sub_cancel_left]; exact hq, hst, by rw [← hss]; exact hle⟩
  obtain ⟨q0, t0, hq0, ht0, he0, hle0⟩ := hin
  have hup : ∀ (q : Nat) (t : Int × Int), (La ++ Lb)[q]? = some t → t.1 = s.1 → ah16 first t.2 ≤ ah16 first s.2 := by
    intro q t ht he
    have hp : ∃ e ∈ l, e.un = false ∧ e.st = s.1 ∧ e.ssn = t.2 := by
      rw [List.getElem?_append] at ht
      split at ht
      · obtain ⟨e, h6, h7, h8, h9⟩ := ha.1 _ t ht
        exact ⟨e, List.mem_of_mem_take h6, h7, by rw [h8, he], h9⟩
      · obtain ⟨e, h6, h7, h8, h9⟩ := hb.1 _ t ht
        exact ⟨e, List.mem_of_mem_drop h6, h7, by rw [h8, he], h9⟩
    obtain ⟨e, h6, h7, h8, h9⟩ := hp
    obtain ⟨q', hq', hle⟩ := hT.2.1 e h6 h7
    rw [h8, hT.2.2 i s hs, hs] at hq'
    injection hq' with hq'
    rw [← h9, hq']
    exact hle
  refine ⟨h1.2 ⟨q0, t0, hq0, ht0, he0⟩, ?_⟩
  have hA : (s.2 - first) % 65536 = ah16 first s.2 := rfl
  rw [hA]
  have h6 := h4 q0 t0 hq0 ht0 he0
  rcases h5 with h5 | ⟨q1, t1, hq1, ht1, he1, hm⟩
  · have : 0 ≤ ah16 first s.2 := by unfold ah16; omega
    omega
  · have := hup q1 t1 ht1 he1
    omega
theorem in_upd (st q s : Int) (L : List (Int × Int)) : idx s (upd st q L) < (upd st q L).length ↔ (idx s L < L.length ∨ s = st) := by
  unfold upd
  split
  · rename_i hx
    rw [idx_set s st _ L hx, List.length_set]
    constructor
    · exact .inl
    · rintro (h | rfl)
      · exact h
      · exact hx
  · rename_i hx
    rw [idx_snoc, List.length_append]
    have := idx_le s L
    simp only [List.length_cons, List.length_nil]
    by_cases h1 : idx s L < L.length
    · rw [if_pos h1]
      exact ⟨fun _ => .inl h1, fun _ => by omega⟩
    · rw [if_neg h1]
      by_cases h2 : st = s
      · rw [if_pos h2]
        exact ⟨fun _ => .inr h2.symm, fun _ => by omega⟩
      · rw [if_neg h2]
        exact ⟨fun h => absurd h (by omega), fun h => h.elim (fun h => absurd h h1) fun h => absurd h.symm h2⟩
theorem upd_len (st q : Int) (L : List (Int × Int)) : (upd st q L).length = if idx st L < L.length then L.length else L.length + 1 := by
  unfold upd
  split <;> simp
theorem fold_len (c : Nat) (ds : List Dt) : ∀ (F G : List (Int × Int)), (∀ st, idx st G < G.length → idx st F < F.length) → F.length ≤ c + G.length → (ds.foldl stp F).length ≤ c + (ds.foldl stp G).length := by
  induction ds with
  | nil => intro F G _ h; exact h
  | cons d ds ih =>
    intro F G hin hl
    rw [List.foldl_cons, List.foldl_cons]
    unfold stp
    by_cases hu : d.un = true
    · rw [if_pos hu, if_pos hu]
      exact ih F G hin hl
    · rw [if_neg hu, if_neg hu]
      refine ih _ _ (fun s hs => ?_) ?_
      · rw [in_upd] at hs ⊢
        exact hs.imp (hin s) id
      · rw [upd_len, upd_len]
        by_cases h1 : idx d.st G < G.length
        · rw [if_pos h1, if_pos (hin _ h1)]
          exact hl
        · rw [if_neg h1]
          split <;> omega
theorem skips_join (l : List Dt) (k : Nat) : (skips l).length ≤ (skips (l.take k)).length + (skips (l.drop k)).length := by
  have e : skips l = (l.drop k).foldl stp (skips (l.take k)) := by
    unfold skips
    rw [← List.foldl_append, List.take_append_drop]
  rw [e]
  exact fold_len _ _ _ _ (fun st h => absurd h (by simp)) (by simp)
end Go.Proofs.Ytkjohgokkfghiaa.Pl

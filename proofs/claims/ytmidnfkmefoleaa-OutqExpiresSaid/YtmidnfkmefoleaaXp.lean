/-
  Plain: messages of one byte each, each with a moment or none; which of them stay; how they come.
-/
import Derived.Test.YtmidnfkmefoleaaQk
set_option linter.unusedVariables false
set_option linter.unusedSimpArgs false
namespace Go.Proofs.Ytmidnfkmefoleaa.Xp
open Go.RowKit Wd Ra Qm Qs Qp Qn Qe Qd Qx Ql Qt

def itE (us : List Int) (i : Nat) : PI := ⟨0, true, [(i : Int)], i, us.getD i 0, 0, 0⟩
def qE (us : List Int) (k : Nat) : PQ := ⟨(List.range k).map (itE us), k, 1000, k, [0]⟩
def stay (us : List Int) (now : Int) (i : Nat) : Bool := us.getD i 0 == 0 || decide (now < us.getD i 0)
def want (us : List Int) (now : Int) (k : Nat) : List Nat := (List.range k).filter (stay us now)
def wantI (us : List Int) (now : Int) (k : Nat) : List Int := (want us now k).map fun (i : Nat) => (i : Int)
theorem qE_next (us : List Int) (k : Nat) : put (qE us k) 0 true [(k : Int)] (us.getD k 0) = qE us (k + 1) := by
  simp [put, qE, List.range_succ, itE]
theorem qE_why {us : List Int} {k : Nat} (h : 0 ≤ us.getD k 0) (hk : k < 100) : why (qE us k) 0 1 (us.getD k 0) = 0 := by
  unfold why qE
  rw [if_neg (by omega), if_neg (by simp), if_neg (by simp), if_neg (by simp <;> omega)]
theorem want_next (us : List Int) (now : Int) (k : Nat) : want us now (k + 1) = want us now k ++ (if stay us now k then [k] else []) := by
  unfold want
  rw [List.range_succ, List.filter_append]
  cases h : stay us now k <;> simp [h]
theorem dead_stay {us : List Int} {now : Int} {i : Nat} (h : 0 ≤ us.getD i 0) : dead now (itE us i) = !stay us now i := by
  show (decide (1 ≤ us.getD i 0) && decide (us.getD i 0 ≤ now)) = !(us.getD i 0 == 0 || decide (now < us.getD i 0))
  generalize us.getD i 0 = u at h ⊢
  by_cases h0 : u = 0
  · subst h0; simp
  · have h1 : 1 ≤ u := by omega
    have h2 : (u == 0) = false := by rw [beq_eq_false_iff_ne]; exact h0
    rw [h2, decide_eq_true h1]
    by_cases h3 : u ≤ now
    · rw [decide_eq_true h3, decide_eq_false (by omega)]; rfl
    · rw [decide_eq_false h3, decide_eq_true (by omega)]; rfl
theorem keep_want {us : List Int} {now : Int} (h : ∀ x ∈ us, 0 ≤ x) (k : Nat) : keepI now ((List.range k).map (itE us)) = (want us now k).map (itE us) := by
  unfold keepI want
  rw [List.filter_map]
  congr 1
  apply List.filter_congr
  intro i _
  have h0 : 0 ≤ us.getD i 0 := by
    rw [List.getD_eq_getElem?_getD]
    cases hx : us[i]? with
    | none => simp
    | some y => exact h y (List.mem_of_getElem? hx)
  show (!dead now (itE us i)) = stay us now i
  rw [dead_stay h0, Bool.not_not]
theorem ex_want {us : List Int} {now : Int} (h : ∀ x ∈ us, 0 ≤ x) (k : Nat) : exL now (0, none) ((List.range k).map (itE us)) = (k - (want us now k).length, none) ∧ (want us now k).length ≤ k := by
  induction k with
  | zero => exact ⟨rfl, Nat.le_refl _⟩
  | succ k ih =>
    obtain ⟨ih1, ih2⟩ := ih
    have h0 : 0 ≤ us.getD k 0 := by
      rw [List.getD_eq_getElem?_getD]
      cases hx : us[k]? with
      | none => simp
      | some y => exact h y (List.mem_of_getElem? hx)
    have hs := dead_stay (now := now) h0
    rw [List.range_succ, List.map_append]
    have e1 : exL now (0, none) ((List.range k).map (itE us) ++ [k].map (itE us)) = exS now (exL now (0, none) ((List.range k).map (itE us))) (itE us k) := by
      unfold exL
      rw [List.foldl_append]
      rfl
    rw [e1, ih1, want_next]
    cases hd : stay us now k with
    | true =>
      rw [hd] at hs
      rw [exS_stay (by simpa using hs)]
      refine ⟨?_, ?_⟩
      · simp
      · simp; exact ih2
    | false =>
      rw [hd] at hs
      simp only [Bool.not_false] at hs
      refine ⟨?_, ?_⟩
      · unfold exS
        rw [hs]
        simp [itE, PI.left]
        omega
      · simp; omega
theorem waits_want (us : List Int) (l : List Nat) : waits (l.map (itE us)) = l.length := by
  unfold waits
  rw [List.map_map]
  induction l with
  | nil => rfl
  | cons a l ih => simp only [List.map_cons, List.sum_cons, ih, List.length_cons]; show (itE us a).left + l.length = l.length + 1; simp [itE, PI.left]; omega
/-- Behind Expire, j of those that stay taken. -/
def qN (us : List Int) (now : Int) (n j : Nat) : PQ := ⟨((want us now n).drop j).map (itE us), n, 1000, (want us now n).length, [(j : Int)]⟩
theorem qN_zero {us : List Int} {now : Int} (h : ∀ x ∈ us, 0 ≤ x) (n : Nat) : exQ now (qE us n) = qN us now n 0 := by
  obtain ⟨e1, e2⟩ := ex_want (now := now) h n
  unfold exQ exX
  have e3 : (qE us n).its = (List.range n).map (itE us) := rfl
  rw [e3, keep_want h, e1]
  simp [qE, qN]
  omega
theorem qN_its {us : List Int} {now : Int} {n j i : Nat} (h : (want us now n)[j]? = some i) : (qN us now n j).its = itE us i :: ((want us now n).drop (j + 1)).map (itE us) := by
  have hlt := (List.getElem?_eq_some_iff.1 h).1
  unfold qN
  simp only
  rw [List.drop_eq_getElem_cons hlt, List.map_cons, (List.getElem?_eq_some_iff.1 h).2]
theorem qN_next {us : List Int} {now : Int} {n j i : Nat} (hj : j < 60000) : nxQ (qN us now n j) (itE us i) (((want us now n).drop (j + 1)).map (itE us)) 5 = qN us now n (j + 1) ∧ nxD (qN us now n j) (itE us i) 5 = ⟨0, j, false, true, true, [(i : Int)]⟩ ∧ nxLen (itE us i) 5 = 1 := by
  have h1 : nxLen (itE us i) 5 = 1 := by simp [nxLen, itE, PI.left]
  have h2 : nxLast (itE us i) 5 = true := by
    unfold nxLast nxEnd
    rw [h1]
    rfl
  have h3 : nums (itE us i) = true := rfl
  refine ⟨?_, ?_, h1⟩
  · unfold nxQ nxNum
    rw [h2, h3]
    simp only [if_true]
    unfold qN
    simp [itE]
    omega
  · unfold nxD nxSsn
    rw [h1, h2, h3]
    simp [itE, qN]
theorem want_mem {us : List Int} {now : Int} {n j i : Nat} (h : (want us now n)[j]? = some i) : i < n := by
  have := List.mem_of_getElem? h
  simp only [want, List.mem_filter, List.mem_range] at this
  exact this.1
theorem want_le (us : List Int) (now : Int) (n : Nat) : (want us now n).length ≤ n := by
  have := List.length_filter_le (stay us now) (List.range n)
  simpa [want] using this
end Go.Proofs.Ytmidnfkmefoleaa.Xp

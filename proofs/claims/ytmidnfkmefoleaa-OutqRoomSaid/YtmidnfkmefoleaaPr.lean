/-
  OutqRoom's plain law: what is counted is what waits and what was handed out.
-/
import Derived.Test.YtmidnfkmefoleaaDq
set_option linter.unusedVariables false
set_option linter.unusedSimpArgs false
namespace Go.Proofs.Ytmidnfkmefoleaa.Pr
open Go.RowKit Wd Ra Qm Qs Qp Qn Qe Qd Qx Ql Qt Oq Vs Dk Do Dn Dt Ow Dq

structure RInv (room : Nat) (q : PQ) (out : Nat) : Prop where
  room_ : q.room = room
  four : q.ssn.length = 4
  bal : q.used = waits q.its + out
  head : ∀ p ∈ q.its.tail, p.at_ = 0
theorem waits_cons (p : PI) (l : List PI) : waits (p :: l) = p.left + waits l := by simp [waits]
theorem waits_append (l m : List PI) : waits (l ++ m) = waits l + waits m := by simp [waits]
/-- What is dead among them. -/
def gone (now : Int) (l : List PI) : Nat := waits (l.filter fun p => dead now p)
theorem gone_cons (now : Int) (p : PI) (l : List PI) : gone now (p :: l) = (if dead now p then p.left else 0) + gone now l := by
  unfold gone
  rw [List.filter_cons]
  cases dead now p <;> simp [waits_cons]
theorem keep_gone (now : Int) (l : List PI) : waits (keepI now l) + gone now l = waits l := by
  induction l with
  | nil => rfl
  | cons p l ih =>
    rw [gone_cons, waits_cons]
    unfold keepI at ih ⊢
    rw [List.filter_cons]
    cases h : dead now p
    · simp [waits_cons]; omega
    · simp; omega
theorem exL_zero (now : Int) : ∀ (l : List PI) (a : Nat) (o : Option PI), (∀ p ∈ l, p.at_ = 0) → exL now (a, o) l = (a + gone now l, o)
  | [], a, o, _ => by simp [exL, gone, waits]
  | p :: l, a, o, h => by
    have hp := h p List.mem_cons_self
    have e : exL now (a, o) (p :: l) = exL now (exS now (a, o) p) l := rfl
    rw [e, gone_cons]
    unfold exS
    rw [hp]
    cases hd : dead now p
    · simp only [Bool.false_eq_true, if_false]
      rw [exL_zero now l a o fun x hx => h x (List.mem_cons_of_mem _ hx)]
      simp
    · simp only [if_true, Nat.lt_irrefl, if_false]
      rw [exL_zero now l _ o fun x hx => h x (List.mem_cons_of_mem _ hx)]
      simp only [Prod.mk.injEq, and_true]
      omega
/-- Of the messages of which the first alone may be begun: what goes, and what is told of it. -/
theorem ex_sum (now : Int) (l : List PI) (h : ∀ p ∈ l.tail, p.at_ = 0) (hl : ∀ p ∈ l, 1 ≤ p.left) :
    (exL now (0, none) l).1 + (lastD (exL now (0, none) l).2).xs.length = gone now l := by
  cases l with
  | nil => rfl
  | cons p r =>
    have hr : ∀ x ∈ r, x.at_ = 0 := h
    have e : exL now (0, none) (p :: r) = exL now (exS now (0, none) p) r := rfl
    have hp := hl p List.mem_cons_self
    rw [e, gone_cons]
    unfold exS
    cases hd : dead now p
    · simp only [Bool.false_eq_true, if_false]
      rw [exL_zero now r _ _ hr]
      rfl
    · simp only [if_true]
      by_cases ha : 0 < p.at_
      · rw [if_pos ha, exL_zero now r _ _ hr]
        show 0 + p.left - 1 + gone now r + 1 = _
        omega
      · rw [if_neg ha, exL_zero now r _ _ hr]
        show 0 + p.left + gone now r + 0 = _
        omega
theorem left_pos {q : PQ} (h : q.Ok) : ∀ p ∈ q.its, 1 ≤ p.left := fun p hp => by
  have := (ok_left h hp).1
  unfold PI.left
  omega
theorem keep_tail (now : Int) (l : List PI) (h : ∀ p ∈ l.tail, p.at_ = 0) : ∀ p ∈ (keepI now l).tail, p.at_ = 0 := by
  cases l with
  | nil => intro p hp; simp [keepI] at hp
  | cons a r =>
    intro p hp
    have hr : ∀ x ∈ r, x.at_ = 0 := h
    unfold keepI at hp
    rw [List.filter_cons] at hp
    split at hp
    · exact hr p (List.mem_filter.1 hp).1
    · exact hr p (List.mem_filter.1 (List.mem_of_mem_tail hp)).1
theorem play_inv {room out : Nat} {q : PQ} {x : OV} (h : RInv room q out) (ok : q.Ok) (hx : x.kind = 3 → x.k = out) :
    RInv room (play q x).q ((if x.kind = 3 then 0 else out) + (play q x).d.xs.length) ∧ (play q x).q.many ≤ q.many + 1 := by
  obtain ⟨h1, h2, h3, h4⟩ := h
  unfold play
  by_cases k0 : x.kind = 0
  · rw [if_pos k0, if_neg (by omega)]
    unfold pPut
    split
    · refine ⟨⟨h1, h2, ?_, ?_⟩, Nat.le_refl _⟩
      · show q.used + x.m.xs.length = waits (q.its ++ [(⟨x.m.st, x.m.o, x.m.xs, q.many, x.un, 0, 0⟩ : PI)]) + (out + 0)
        rw [waits_append, waits_cons, h3]
        show _ = _ + (x.m.xs.length - 0 + 0) + (out + 0)
        omega
      · intro p hp
        have hp : p ∈ (q.its ++ [(⟨x.m.st, x.m.o, x.m.xs, q.many, x.un, 0, 0⟩ : PI)]).tail := hp
        cases hi : q.its with
        | nil => rw [hi] at hp; simp at hp
        | cons a r =>
          rw [hi] at hp h4
          simp only [List.cons_append, List.tail_cons, List.mem_append, List.mem_singleton] at hp
          rcases hp with hp | rfl
          · exact h4 p hp
          · rfl
    · exact ⟨⟨h1, h2, h3, h4⟩, Nat.le_succ _⟩
  · rw [if_neg k0]
    by_cases k1 : x.kind = 1
    · rw [if_pos k1, if_neg (by omega)]
      unfold pNext
      split
      · exact ⟨⟨h1, h2, h3, h4⟩, Nat.le_succ _⟩
      · rename_i p r hi
        split
        · exact ⟨⟨h1, h2, h3, h4⟩, Nat.le_succ _⟩
        · generalize x.k.toNat = m
          have hp := ok_left ok (p := p) (by rw [hi]; exact List.mem_cons_self)
          rw [hi] at h3 h4
          rw [waits_cons] at h3
          refine ⟨⟨h1, ?_, ?_, ?_⟩, Nat.le_succ _⟩
          · show (nxNum q p).length = 4
            unfold nxNum
            split
            · simpa using h2
            · exact h2
          · show q.used = waits (if nxLast p m then r else nxI q p m :: r) + (out + (nxD q p m).xs.length)
            rw [nxD_len, h3]
            unfold nxLast nxI nxEnd nxLen PI.left at *
            split
            · rename_i hc
              simp only [beq_iff_eq] at hc
              omega
            · rename_i hc
              simp only [beq_iff_eq] at hc
              rw [waits_cons]
              unfold PI.left
              simp only
              omega
          · intro y hy
            have hy : y ∈ (if nxLast p m then r else nxI q p m :: r).tail := hy
            split at hy
            · exact h4 y (List.mem_of_mem_tail hy)
            · exact h4 y hy
    · rw [if_neg k1]
      by_cases k2 : x.kind = 2
      · rw [if_pos k2, if_neg (by omega)]
        refine ⟨⟨h1, h2, ?_, keep_tail _ _ h4⟩, Nat.le_succ _⟩
        show q.used - (exX x.un q).1 = waits (keepI x.un q.its) + (out + (lastD (exX x.un q).2).xs.length)
        have e1 := ex_sum x.un q.its h4 (left_pos ok)
        have e2 := keep_gone x.un q.its
        have e3 : exX x.un q = exL x.un (0, none) q.its := rfl
        rw [← e3] at e1
        omega
      · rw [if_neg k2]
        by_cases k3 : x.kind = 3
        · rw [if_pos k3, if_pos k3]
          refine ⟨⟨h1, h2, ?_, h4⟩, Nat.le_succ _⟩
          show q.used - x.k.toNat = waits q.its + (0 + 0)
          rw [hx k3]
          omega
        · rw [if_neg k3, if_neg k3]
          exact ⟨⟨h1, h2, h3, h4⟩, Nat.le_succ _⟩
/-- Where all is well with a message, it is refused where there is no room for it, and nowhere else. -/
theorem why_room {room out : Nat} {q : PQ} {st un : Int} {n : Nat} (h : RInv room q out) (hu : 0 ≤ un) (hs : st < 4) (h0 : 0 < n) (hr : n ≤ room) : why q st n un = if room < q.used + n then 6 else 0 := by
  unfold why
  rw [if_neg (by omega), if_neg (by have := h.four; omega), if_neg (by have := h.room_; omega), h.room_]
end Go.Proofs.Ytmidnfkmefoleaa.Pr

/-
  Contracts of IndexFunc and DeleteFunc over the row of messages, and of Expire.
-/
import Derived.Test.YtmidnfkmefoleaaQe
import Derived.Lib.SliceRun
set_option linter.unusedVariables false
set_option linter.unusedSimpArgs false
namespace Go.Proofs.Ytmidnfkmefoleaa.Qd
open Go.RowKit Wd Ra Qm Qs Zr Qn Qe

/-- The function value that Expire hands on. -/
def fnv (b0 : Nat) : Value := .func (.func 28) #[] #[.pointer (some ⟨b0, 0, none⟩), .pointer (some ⟨b0 + 4, 0, none⟩), .pointer (some ⟨b0 + 1, 0, none⟩), .pointer (some ⟨b0 + 2, 0, none⟩), .pointer (some ⟨b0 + 3, 0, none⟩)]
def exL (now : Int) (x : Nat × Option PI) (l : List PI) : Nat × Option PI := l.foldl (exS now) x
theorem exL_next {now : Int} {x : Nat × Option PI} {l : List PI} {k : Nat} {p : PI} (h : l[k]? = some p) : exL now x (l.take (k + 1)) = exS now (exL now x (l.take k)) p := by
  unfold exL
  rw [List.take_add_one, h, List.foldl_append]
  rfl
theorem exS_stay {now : Int} {x : Nat × Option PI} {p : PI} (h : dead now p = false) : exS now x p = x := by simp [exS, h]
theorem exL_le {now : Int} {l : List PI} (hl : ∀ p ∈ l, p.xs.length ≤ 1048576) : ∀ k, (exL now (0, none) (l.take k)).1 ≤ k * 1048576 := by
  intro k
  induction k with
  | zero => simp [exL]
  | succ k ih =>
    rcases Nat.lt_or_ge k l.length with h1 | h1
    · have hp : l[k]? = some (l[k]'h1) := List.getElem?_eq_getElem _
      have := hl _ (List.mem_of_getElem? hp)
      rw [exL_next hp]
      generalize l[k] = p at this ⊢
      have hlf : p.left ≤ 1048576 := by unfold PI.left; omega
      rw [Nat.add_mul, Nat.one_mul]
      generalize k * 1048576 = z at ih ⊢
      generalize exL now (0, none) (l.take k) = y at ih ⊢
      have h9 : (exS now y p).1 ≤ y.1 + p.left := by
        unfold exS
        split
        · split
          · simp only; omega
          · simp only; omega
        · omega
      omega
    · have e1 : l.take (k + 1) = l := List.take_of_length_le (by omega)
      have e2 : l.take k = l := List.take_of_length_le h1
      rw [e1]
      rw [e2] at ih
      exact Nat.le_trans ih (Nat.mul_le_mul_right _ (Nat.le_succ k))

/-- The messages lie below block b0. -/
def Its (w : World) (base b0 : Nat) (F : Nat → Prop) (ls : List Lc) (its : List PI) : Prop :=
  ls.length = its.length ∧ ∀ (i : Nat) (l : Lc) (p : PI), ls[i]? = some l → its[i]? = some p → ItAt w base F l p ∧ l.b < b0 ∧ ∀ k, (Value.slice l.A p.xs.length l.c).ownBlock = some k → k < b0
theorem Its.fx {w w' : World} {base b0 : Nat} {F : Nat → Prop} {ls : List Lc} {its : List PI} (h : Its w base b0 F ls its) (hf : Fx b0 w w') : Its w' base b0 F ls its :=
  ⟨h.1, fun i l p hl hp => let ⟨a, b, c⟩ := h.2 i l p hl hp; ⟨ItAt.fx a hf b c, b, c⟩⟩
def POk (p : PI) : Prop := p.at_ < p.xs.length ∧ p.xs.length ≤ 1048576
theorem c28 (base b0 : Nat) (F : Nat → Prop) (l : Lc) (p : PI) (now : Int) (x : Nat × Option PI) (w : World) (h : ItAt w base F l p) (hx : Bx w b0 now x) (hx1 : x.1 ≤ 4611686018427387904) (hp : POk p) (hl : l.b < b0) (hb : base ≤ b0) :
    Calls Try.prog 28 #[.pointer (some ⟨l.b, 0, none⟩), .pointer (some ⟨b0, 0, none⟩), .pointer (some ⟨b0 + 4, 0, none⟩), .pointer (some ⟨b0 + 1, 0, none⟩), .pointer (some ⟨b0 + 2, 0, none⟩), .pointer (some ⟨b0 + 3, 0, none⟩)] w fun e w' => e = .returned (.bool (dead now p)) ∧ Bx w' b0 now (exS now x p) ∧ Fx b0 w w' := by
  cases hd : dead now p with
  | false =>
    refine (c28n base b0 F l p now x w h hx hd).mono ?_
    rintro e w' ⟨rfl, k, rfl⟩
    rw [exS_stay hd]
    exact ⟨rfl, hx.below (below_drewN (Below.refl _ _) k), Fx.of_below (below_drewN (Below.refl _ _) k)⟩
  | true =>
    rcases Nat.eq_zero_or_pos p.at_ with ha | ha
    · exact c28d base b0 F l p now x w h hx hd hx1 ha hp.2 hl
    · exact c28b base b0 F l p now x w h hx hd hx1 ha hp.1 hb hp.2 hl

/-- What IndexFunc leaves. -/
def IxPost (now : Int) (b0 : Nat) (its : List PI) (w : World) (e : Ending) (w' : World) : Prop :=
  (e = .returned (.int .i64 (-1)) ∧ (∀ p ∈ its, dead now p = false) ∧ Bx w' b0 now (0, none) ∧ Fx b0 w w') ∨
  ∃ (k : Nat) (p : PI), e = .returned (.int .i64 k) ∧ its[k]? = some p ∧ dead now p = true ∧ (∀ q ∈ its.take k, dead now q = false) ∧ Bx w' b0 now (exL now (0, none) (its.take (k + 1))) ∧ Fx b0 w w'
theorem exL_stay {now : Int} {x : Nat × Option PI} : ∀ {l : List PI}, (∀ p ∈ l, dead now p = false) → exL now x l = x := by
  intro l
  induction l generalizing x with
  | nil => intro _; rfl
  | cons a l ih =>
    intro h
    show exL now (exS now x a) l = x
    rw [exS_stay (h a (by simp))]
    exact ih (fun p hp => h p (by simp [hp]))
set_option maxRecDepth 100000 in
set_option maxHeartbeats 1000000 in
/-- IndexFunc. -/
theorem c36 (base b0 n c : Nat) (F : Nat → Prop) (A : Option Addr) (ls : List Lc) (its : List PI) (now : Int) (w : World) (hr : At w base 67 1 (.slice A n c) n (ptrs ls)) (hrb : ∀ k, (Value.slice A n c).ownBlock = some k → k < b0) (hI : Its w base b0 F ls its) (hx : Bx w b0 now (0, none)) (hp : Hid (∀ p ∈ its, POk p)) (hn : its.length = n) (hn2 : n ≤ 1000000) (hb : base ≤ b0) :
    Calls Try.prog 36 #[.slice A n c, fnv b0] w (IxPost now b0 its w) := by
  have H := hide (And.intro hr (And.intro hI hx))
  have HR := hide hrb
  have HN := hide hn
  have HL : Hid (∀ p ∈ its, p.xs.length ≤ 1048576) := fun p hm => (unhide hp p hm).2
  clear hr hI hx hrb hn
  unfold fnv
  go_enter Try.func36, Try.ntmps36
  go_wp2
  go_loopw [8] (fun i wr => ∃ (k : Nat), k ≤ n ∧ i = .int .i64 k ∧ Hid (∀ q ∈ its.take k, dead now q = false) ∧ Hid (Fx b0 w wr ∧ Bx wr b0 now (0, none))) (fun i _ => n - (intOf i).toNat)
  case atStart => exact ⟨0, Nat.zero_le _, rfl, (fun q hq => by simp at hq), ⟨Fx.refl _ _, (unhide H).2.2⟩⟩
  case round =>
    obtain ⟨k, hk, rfl, hD, hW⟩ := hrel
    by_cases hlt : k < n
    · have hrow : At wr base 67 1 (.slice A n c) n (ptrs ls) := (unhide H).1.keep fun g hg => (unhide hW).1.block g ((unhide H).1.own hg).2.1 (.inl (by have := unhide HR g hg; omega))
      have hl : ls[k]? = some (ls[k]'(by have := (unhide H).2.1.1; have := unhide HN; omega)) := List.getElem?_eq_getElem _
      have hpp : its[k]? = some (its[k]'(by have := unhide HN; omega)) := List.getElem?_eq_getElem _
      generalize (ls[k]'(by have := (unhide H).2.1.1; have := unhide HN; omega)) = l at hl
      generalize (its[k]'(by have := unhide HN; omega)) = p at hpp
      obtain ⟨ad, u, rfl, hadb, hu, hcell⟩ := hrow.reads.at_ hlt
      have hu2 : u = .pointer (some ⟨l.b, 0, none⟩) := by
        rw [ptrs, List.getElem?_map, hl] at hu
        injection hu with hu
        exact hu.symm
      subst hu2
      obtain ⟨hi1, hi2, hi3⟩ := ((unhide H).2.1.fx (unhide hW).1).2 k l p hl hpp
      have HP := hide hpp
      have hxx := (unhide hW).2
      have hpk := unhide hp p (List.mem_of_getElem? hpp)
      clear hl hpp hu hrow
      cases hd : dead now p with
      | true =>
        go_wp2_with (go_at_call 28; refine (c28 base b0 F l p now (0, none) _ hi1 hxx (by simp) hpk hi2 hb).mono ?_; rintro e w2 ⟨rfl, hx2, hf2⟩)
        go_ret
        refine .inr ⟨k, p, rfl, unhide HP, hd, unhide hD, ?_, (unhide hW).1.trans hf2⟩
        rw [exL_next (unhide HP), exL_stay (unhide hD)]
        exact hx2
      | false =>
        go_wp2_with (go_at_call 28; refine (c28 base b0 F l p now (0, none) _ hi1 hxx (by simp) hpk hi2 hb).mono ?_; rintro e w2 ⟨rfl, hx2, hf2⟩)
        go_roundw
        case rel =>
          rw [exS_stay hd] at hx2
          refine ⟨k + 1, by omega, by go_num, ?_, ⟨(unhide hW).1.trans hf2, hx2⟩⟩
          intro q hq
          rw [List.take_add_one, unhide HP] at hq
          rcases List.mem_append.1 hq with hq | hq
          · exact unhide hD q hq
          · simp at hq
            rw [hq]
            exact hd
        case measure => simp [intOf]; omega
    · obtain rfl : k = n := by omega
      go_wp2
      go_ret
      refine .inl ⟨rfl, ?_, (unhide hW).2, (unhide hW).1⟩
      have e1 : its.take k = its := List.take_of_length_le (by have := unhide HN; omega)
      have := unhide hD
      rw [e1] at this
      exact this

/-- Those that stay. -/
def keepI (now : Int) (l : List PI) : List PI := l.filter fun p => !dead now p
/-- Their places. -/
def keepL (now : Int) : List Lc → List PI → List Lc
  | a :: ls, p :: its => if dead now p then keepL now ls its else a :: keepL now ls its
  | _, _ => []
theorem keepL_len {now : Int} : ∀ {ls : List Lc} {its : List PI}, ls.length = its.length → (keepL now ls its).length = (keepI now its).length := by
  intro ls
  induction ls with
  | nil => intro its h; cases its with | nil => rfl | cons a b => simp at h
  | cons a ls ih =>
    intro its h
    cases its with
    | nil => simp at h
    | cons p its =>
      have := ih (its := its) (by simpa using h)
      unfold keepI at this ⊢
      cases hd : dead now p <;> simp [keepL, hd, this]
theorem keepL_snoc {now : Int} : ∀ {ls : List Lc} {its : List PI} {a : Lc} {p : PI}, ls.length = its.length → keepL now (ls ++ [a]) (its ++ [p]) = keepL now ls its ++ (if dead now p then [] else [a]) := by
  intro ls
  induction ls with
  | nil => intro its a p h; cases its with | nil => cases hd : dead now p <;> simp [keepL, hd] | cons x y => simp at h
  | cons b ls ih =>
    intro its a p h
    cases its with
    | nil => simp at h
    | cons r its =>
      have := ih (its := its) (a := a) (p := p) (by simpa using h)
      cases hd : dead now r <;> simp [keepL, hd, this]
theorem keepL_sub {now : Int} : ∀ {ls : List Lc} {its : List PI}, (keepL now ls its).Sublist ls := by
  intro ls
  induction ls with
  | nil => intro its; cases its <;> simp [keepL]
  | cons a ls ih =>
    intro its
    cases its with
    | nil => simp [keepL]
    | cons p its =>
      cases hd : dead now p
      · simp only [keepL, hd, Bool.false_eq_true, if_false]
        exact (ih (its := its)).cons_cons a
      · simp only [keepL, hd, if_true]
        exact (ih (its := its)).cons a
theorem keepL_at {now : Int} : ∀ {ls : List Lc} {its : List PI} {i : Nat} {l : Lc} {p : PI}, (keepL now ls its)[i]? = some l → (keepI now its)[i]? = some p → ∃ j : Nat, ls[j]? = some l ∧ its[j]? = some p := by
  intro ls
  induction ls with
  | nil => intro its i l p h; cases its <;> simp [keepL] at h
  | cons a ls ih =>
    intro its i l p h h'
    cases its with
    | nil => simp [keepL] at h
    | cons r its =>
      cases hd : dead now r with
      | false =>
        simp only [keepL, hd, Bool.false_eq_true, if_false] at h
        simp only [keepI, List.filter_cons, hd, Bool.not_false, if_true] at h'
        cases i with
        | zero => simp at h h'; exact ⟨0, by simp [h], by simp [h']⟩
        | succ i =>
          obtain ⟨j, h1, h2⟩ := ih (its := its) (i := i) (by simpa using h) (by simpa [keepI] using h')
          exact ⟨j + 1, by simpa using h1, by simpa using h2⟩
      | true =>
        simp only [keepL, hd, if_true] at h
        simp only [keepI, List.filter_cons, hd, Bool.not_true, Bool.false_eq_true, if_false] at h'
        obtain ⟨j, h1, h2⟩ := ih (its := its) (i := i) h h'
        exact ⟨j + 1, by simpa using h1, by simpa using h2⟩

/-- All stands but those variables and the row. -/
structure Fy (b0 gr : Nat) (w w' : World) : Prop where
  os : w'.os = w.os
  tape : w'.tape = w.tape
  output : w'.output = w.output
  size : w.heap.size ≤ w'.heap.size
  block : ∀ b, b < w.heap.size → (b ≤ b0 ∨ b0 + 4 < b) → b ≠ gr → w'.heap[b]? = w.heap[b]?
section
variable {b0 gr : Nat} {w w' w'' : World}
theorem Fy.trans (h : Fy b0 gr w w') (k : Fy b0 gr w' w'') : Fy b0 gr w w'' :=
  ⟨k.os.trans h.os, k.tape.trans h.tape, k.output.trans h.output, Nat.le_trans h.size k.size, fun b hb hc hd => (k.block b (Nat.lt_of_lt_of_le hb h.size) hc hd).trans (h.block b hb hc hd)⟩
theorem Fy.of_fx (h : Fx b0 w w') : Fy b0 gr w w' := ⟨h.os, h.tape, h.output, h.size, fun b hb hc _ => h.block b hb hc⟩
theorem Fy.row (h : Fy b0 gr w w') (i : Nat) (u : Value) : Fy b0 gr w (w'.setCell ⟨gr, i, none⟩ u) :=
  ⟨h.os, h.tape, h.output, by simpa [World.setCell] using h.size, fun b hb hc hd => (Below.heap_setCell w' _ u b hd).trans (h.block b hb hc hd)⟩
theorem Fy.rows (h : Fy b0 gr w w') (o : Nat) (vs : List Value) : Fy b0 gr w (w'.setCells gr o vs) := by
  obtain ⟨a, b, c, d⟩ := setCells_same gr vs o w'
  exact ⟨a.trans h.os, b.trans h.tape, c.trans h.output, by rw [d]; exact h.size, fun k hb hc hd => (setCells_other gr hd vs o w').trans (h.block k hb hc hd)⟩
theorem Its.fy {base : Nat} {F : Nat → Prop} {ls : List Lc} {its : List PI} (h : Its w base b0 F ls its) (hf : Fy b0 gr w w') {cs : Array Value} {m : Nat × Nat} (hg : w.heap[gr]? = some (.cells cs 67 m)) : Its w' base b0 F ls its :=
  ⟨h.1, fun i l p hl hp => by
    obtain ⟨a, b, c⟩ := h.2 i l p hl hp
    refine ⟨a.keep (hf.block _ a.blk.lt (.inl (by omega)) ?_) fun k hk => hf.block k (own_lt a.row k hk) (.inl (by have := c k hk; omega)) ?_, b, c⟩
    · intro e
      have := a.blk
      unfold Blk at this
      rw [e, hg] at this
      injection this with this
      injection this with _ e2
      cases e2
    · intro e
      obtain ⟨cur, hc⟩ := own_cells a.row hk
      rw [e, hg] at hc
      injection hc with hc
      injection hc with _ e2
      cases e2⟩
end
/-- What DeleteFunc leaves. -/
def DlPost (base b0 : Nat) (F : Nat → Prop) (ls : List Lc) (its : List PI) (now : Int) (w : World) (e : Ending) (w' : World) : Prop :=
  ∃ A c, e = .returned (.slice A (keepI now its).length c) ∧ At w' base 67 1 (.slice A (keepI now its).length c) (keepI now its).length (ptrs (keepL now ls its)) ∧ Its w' base b0 F ls its ∧ Bx w' b0 now (exL now (0, none) its) ∧ (∃ rb, Fy b0 rb w w' ∧ base ≤ rb ∧ ((∃ cs m, w.heap[rb]? = some (.cells cs 67 m)) ∨ w.heap.size ≤ rb)) ∧ (∀ k, (Value.slice A (keepI now its).length c).ownBlock = some k → k < b0)
theorem keep_all {now : Int} : ∀ {ls : List Lc} {its : List PI}, ls.length = its.length → (∀ p ∈ its, dead now p = false) → keepI now its = its ∧ keepL now ls its = ls := by
  intro ls
  induction ls with
  | nil => intro its h _; cases its with | nil => exact ⟨rfl, rfl⟩ | cons a b => simp at h
  | cons a ls ih =>
    intro its h hd
    cases its with
    | nil => simp at h
    | cons p its =>
      obtain ⟨h1, h2⟩ := ih (its := its) (by simpa using h) (fun q hq => hd q (by simp [hq]))
      have h3 := hd p (by simp)
      unfold keepI at h1 ⊢
      simp [keepL, h3, h1, h2]
theorem keepL_next {now : Int} {ls : List Lc} {its : List PI} {j : Nat} {l : Lc} {p : PI} (hl : ls[j]? = some l) (hp : its[j]? = some p) : keepL now (ls.take (j + 1)) (its.take (j + 1)) = keepL now (ls.take j) (its.take j) ++ (if dead now p then [] else [l]) := by
  rw [List.take_add_one, List.take_add_one, hl, hp]
  refine keepL_snoc ?_
  have h1 := (List.getElem?_eq_some_iff.1 hl).1
  have h2 := (List.getElem?_eq_some_iff.1 hp).1
  rw [List.length_take, List.length_take]
  omega
set_option maxRecDepth 100000 in
set_option maxHeartbeats 2000000 in
/-- DeleteFunc. -/
theorem c27 (base b0 n c : Nat) (F : Nat → Prop) (A : Option Addr) (ls : List Lc) (its : List PI) (now : Int) (w : World) (hr : At w base 67 1 (.slice A n c) n (ptrs ls)) (hrb : ∀ k, (Value.slice A n c).ownBlock = some k → k < b0) (hI : Its w base b0 F ls its) (hx : Bx w b0 now (0, none)) (hp : Hid (∀ p ∈ its, POk p)) (hn : its.length = n) (hn2 : n ≤ 1000000) (hb : base ≤ b0) (hbw : b0 < w.heap.size) :
    Calls Try.prog 27 #[.slice A n c, fnv b0] w (DlPost base b0 F ls its now w) := by
  have HN := hide hn
  have H := hide (And.intro hr (And.intro hI hx))
  have HR := hide hrb
  have HL : Hid (∀ p ∈ its, p.xs.length ≤ 1048576) := fun p hm => (unhide hp p hm).2
  unfold fnv
  go_enter Try.func27, Try.ntmps27
  go_wp2_with fail
  refine (c36 base b0 n c F A ls its now w hr hrb hI hx hp hn hn2 hb).mono ?_
  clear hr hrb hI hx hn
  rintro e w1 (⟨rfl, hall, hx1, hf1⟩ | ⟨k0, p0, rfl, hk0, hd0, hall, hx1, hf1⟩)
  · obtain ⟨e1, e2⟩ := keep_all (unhide H).2.1.1 hall
    have HA := hide hall
    clear hall
    go_wp2
    go_ret
    refine ⟨A, c, by rw [e1, unhide HN]; rfl, ?_, (unhide H).2.1.fx hf1, ?_, ⟨max base w.heap.size, Fy.of_fx hf1, by omega, .inr (by omega)⟩, ?_⟩
    · rw [e1, e2, unhide HN]
      exact (unhide H).1.keep fun g hg => hf1.block g ((unhide H).1.own hg).2.1 (.inl (by have := unhide HR g hg; omega))
    · rw [exL_stay (unhide HA)]
      exact hx1
    · rw [e1, unhide HN]
      exact unhide HR
  · have hk0n : k0 < n := by have := (List.getElem?_eq_some_iff.1 hk0).1; have := unhide HN; omega
    obtain ⟨gr, off, c2, hv, hgb, hgl, hnc⟩ := (unhide H).1.at_ (by omega)
    obtain ⟨rfl, rfl⟩ : A = some ⟨gr, off, none⟩ ∧ c = c2 := by injection hv with h1 h2 h3; exact ⟨h1, h3⟩
    have hgr : gr < b0 := unhide HR gr rfl
    have hne1 : ((k0 : Int) == -1) = false := by rw [beq_eq_false_iff_ne]; omega
    obtain ⟨_, _, gcs, hgc⟩ := (unhide H).1.own (g := gr) rfl
    have HK := hide (And.intro hk0 (And.intro hd0 hall))
    have h1 : Hid (Fy b0 gr w w1 ∧ Bx w1 b0 now (exL now (0, none) (its.take (k0 + 1))) ∧ At w1 base 67 1 (.slice (some ⟨gr, off, none⟩) n c) n (ptrs ls)) :=
      ⟨Fy.of_fx hf1, hx1, (unhide H).1.keep fun g hg => hf1.block g ((unhide H).1.own hg).2.1 (.inl (by have := unhide HR g hg; omega))⟩
    have HG := hide hgc
    clear hx1 hf1 hk0 hd0 hall hv hgc
    go_wp2
    go_loopw [5, 6] (fun s5 s6 wr => ∃ (i j : Nat) (xs : List Lc), s5 = .int .i64 i ∧ s6 = .int .i64 j ∧ i < j ∧ j ≤ n ∧ xs.length = n ∧ Hid (xs.take i = keepL now (ls.take j) (its.take j) ∧ xs.drop j = ls.drop j ∧ (keepL now (ls.take j) (its.take j)).length = i) ∧ Hid (Fy b0 gr w wr ∧ Bx wr b0 now (exL now (0, none) (its.take j)) ∧ At wr base 67 1 (.slice (some ⟨gr, off, none⟩) n c) n (ptrs xs))) (fun _ s6 _ => n - (intOf s6).toNat)
    case atStart =>
      have hll : ls.length = n := by rw [(unhide H).2.1.1]; exact unhide HN
      obtain ⟨a1, a2, a3⟩ := unhide HK
      have hl0 : ls[k0]? = some (ls[k0]'(by omega)) := List.getElem?_eq_getElem _
      have e1 : keepL now (ls.take (k0 + 1)) (its.take (k0 + 1)) = ls.take k0 := by
        rw [keepL_next hl0 a1, a2]
        have e2 := (keep_all (ls := ls.take k0) (its := its.take k0) (by rw [List.length_take, List.length_take, (unhide H).2.1.1]) a3).2
        rw [e2]
        simp
      refine ⟨k0, k0 + 1, ls, rfl, by go_num, by omega, by omega, hll, ⟨e1.symm, rfl, by rw [e1, List.length_take]; omega⟩, unhide h1⟩
    case round =>
      obtain ⟨i, j, xs, rfl, rfl, hij, hj, hxl, hX, hW⟩ := hrel
      by_cases hlt : j < n
      · have hll : ls.length = n := by rw [(unhide H).2.1.1]; exact unhide HN
        have hl : ls[j]? = some (ls[j]'(by omega)) := List.getElem?_eq_getElem _
        have hpp : its[j]? = some (its[j]'(by have := unhide HN; omega)) := List.getElem?_eq_getElem _
        generalize (ls[j]'(by omega)) = l at hl
        generalize (its[j]'(by have := unhide HN; omega)) = p at hpp
        have hxj : xs[j]? = some l := by
          have e1 : (xs.drop j)[0]? = (ls.drop j)[0]? := by rw [(unhide hX).2.1]
          simp only [List.getElem?_drop, Nat.add_zero] at e1
          rw [e1, hl]
        have hcell : wr.cell? ⟨gr, off + j, none⟩ = some (.pointer (some ⟨l.b, 0, none⟩)) := by
          rw [(unhide hW).2.2.cell j (by omega), ptrs, List.getElem?_map, hxj]
          rfl
        obtain ⟨hi1, hi2, hi3⟩ := ((unhide H).2.1.fy (unhide hW).1 (unhide HG)).2 j l p hl hpp
        have hxx := (unhide hW).2.1
        have hxb : (exL now (0, none) (its.take j)).1 ≤ 4611686018427387904 := by have := exL_le (now := now) (unhide HL) j; omega
        have hpk := unhide hp p (List.mem_of_getElem? hpp)
        have HP := hide (And.intro hl (And.intro hpp hxj))
        obtain ⟨y, hy⟩ : ∃ y, y = exL now (0, none) (its.take j) := ⟨_, rfl⟩
        rw [← hy] at hxx hxb
        have HY := hide hy
        clear hl hpp hxj hy
        cases hd : dead now p with
        | true =>
          go_wp2_with (go_at_call 28; refine (c28 base b0 F l p now y _ hi1 hxx hxb hpk hi2 hb).mono ?_; rintro e w2 ⟨rfl, hx2, hf2⟩)
          go_roundw
          case rel =>
            obtain ⟨a1, a2, a3⟩ := unhide HP
            obtain ⟨b1, b2, b3⟩ := unhide hX
            obtain ⟨c1, c2, c3⟩ := unhide hW
            have e1 : keepL now (ls.take (j + 1)) (its.take (j + 1)) = keepL now (ls.take j) (its.take j) := by
              rw [keepL_next a1 a2, hd]
              simp
            refine ⟨i, j + 1, xs, rfl, by go_num, by omega, by omega, hxl, ⟨by rw [e1]; exact b1, ?_, by rw [e1]; exact b3⟩, ⟨c1.trans (Fy.of_fx hf2), ?_, ?_⟩⟩
            · rw [← List.drop_drop, ← List.drop_drop, b2]
            · rw [exL_next a2, ← unhide HY]
              exact hx2
            · exact c3.keep fun g hg => hf2.block g (c3.own hg).2.1 (.inl (by
                have : gr = g := by simpa [Value.ownBlock] using hg
                omega))
          case measure => simp [intOf]; omega
        | false =>
          have hck : ∀ w2, Fx b0 wr w2 → At w2 base 67 1 (.slice (some ⟨gr, off, none⟩) n c) n (ptrs xs) := fun w2 hf2 => (unhide hW).2.2.keep fun g hg => hf2.block g ((unhide hW).2.2.own hg).2.1 (.inl (by
                have : gr = g := by simpa [Value.ownBlock] using hg
                omega))
          have HCK := hide hck
          clear hck
          have hxi : xs[i]? = some (xs[i]'(by omega)) := List.getElem?_eq_getElem _
          generalize (xs[i]'(by omega)) = lo at hxi
          have HXI := hide hxi
          clear hxi
          go_wp2_with fail
          refine (c28 base b0 F l p now y _ hi1 hxx hxb hpk hi2 hb).mono ?_
          rintro e w2 ⟨rfl, hx2, hf2⟩
          have hAt := hide (unhide HCK w2 hf2)
          have hci : w2.cell? ⟨gr, off + i, none⟩ = some (.pointer (some ⟨lo.b, 0, none⟩)) := by
            rw [(unhide hAt).cell i (by omega), ptrs, List.getElem?_map, unhide HXI]
            rfl
          have hfi := (unhide hAt).frozen (off + i)
          go_wp2
          go_roundw
          case rel =>
            obtain ⟨a1, a2, a3⟩ := unhide HP
            obtain ⟨b1, b2, b3⟩ := unhide hX
            obtain ⟨c1, c2, c3⟩ := unhide hW
            have e1 : keepL now (ls.take (j + 1)) (its.take (j + 1)) = keepL now (ls.take j) (its.take j) ++ [l] := by
              rw [keepL_next a1 a2, hd]
              simp
            refine ⟨i + 1, j + 1, xs.set i l, by go_num, by go_num, by omega, by omega, by simpa using hxl, ⟨?_, ?_, by rw [e1, List.length_append, b3]; rfl⟩, ⟨(c1.trans (Fy.of_fx hf2)).row _ _, ?_, ?_⟩⟩
            · rw [e1, ← b1, List.take_add_one, List.getElem?_set_self (by omega), List.take_set_of_le (Nat.le_refl _)]
              rfl
            · rw [List.drop_set_of_lt (by omega), ← List.drop_drop, ← List.drop_drop, b2]
            · rw [exL_next a2, ← unhide HY]
              exact hx2.keep fun b hb1 hb2 => Below.heap_setCell w2 _ _ b (by show b ≠ gr; omega)
            · have := (unhide hAt).set_ i (.pointer (some ⟨l.b, 0, none⟩)) (by omega)
              have e2 : ptrs (xs.set i l) = (ptrs xs).set i (.pointer (some ⟨l.b, 0, none⟩)) := by simp [ptrs, List.map_set]
              rw [e2]
              exact this
          case measure => simp [intOf]; omega
      · obtain rfl : j = n := by omega
        have hin : i < j := hij
        have hci : ¬ c = i := by omega
        have hic : i ≤ c := by omega
        have hcl : ∀ ty, (Builtin.clear_ #[63] ty #[.slice (some ⟨gr, off + i, none⟩) (j - i) (c - i)]).run Try.prog wr = .ok (.tuple #[]) (wr.setCells gr (off + i) (List.replicate (j - i) (.pointer none))) := fun ty =>
          Lib.run_clear_slice wr 63 67 ty (.pointer none) Try.underlying63 (fun w => by kernel_rfl) rfl rfl gr (off + i) (j - i) (c - i) (by omega)
            (fun t ht => by rw [Nat.add_assoc, (unhide hW).2.2.cell (i + t) (by omega), List.getElem?_eq_getElem (by rw [ptrs, List.length_map]; omega)]; rfl) (fun t ht => (unhide hW).2.2.frozen _)
        go_wp2
        go_ret
        obtain ⟨b1, b2, b3⟩ := unhide hX
        obtain ⟨c1, c2, c3⟩ := unhide hW
        have hll : ls.length = j := by rw [(unhide H).2.1.1]; exact unhide HN
        have t1 : its.take j = its := List.take_of_length_le (by have := unhide HN; omega)
        have t2 : ls.take j = ls := List.take_of_length_le (by omega)
        rw [t1, t2] at b1 b3
        rw [t1] at c2
        have hki : (keepI now its).length = i := by rw [← keepL_len (unhide H).2.1.1, b3]
        have hat := At.overs (List.replicate (j - i) (.pointer none)) (off + i) wr (c3.pre (k := i) (by omega)) (by omega)
        have e2 : (ptrs xs).take (i * 1) = ptrs (keepL now ls its) := by rw [Nat.mul_one, ← b1]; simp [ptrs, List.map_take]
        rw [e2] at hat
        have f2 := c1.rows (off + i) (List.replicate (j - i) (.pointer none))
        refine ⟨some ⟨gr, off, none⟩, c, by rw [hki]; rfl, by rw [hki]; exact hat, (unhide H).2.1.fy f2 (unhide HG), c2.keep fun b hb1 hb2 => setCells_other gr (by omega) _ _ _, ⟨gr, f2, hgb, .inl ⟨_, _, unhide HG⟩⟩, fun k hk => ?_⟩
        have : gr = k := by simpa [Value.ownBlock] using hk
        omega
end Go.Proofs.Ytmidnfkmefoleaa.Qd

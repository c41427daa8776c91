/-
  Skips in memory: a slice of skips reads as a list of pairs; two of them are compared.
-/
import Derived.Test.YtkjohgokkfghiaaWd
import Derived.Laws.StructEq
set_option linter.unusedVariables false
set_option linter.unusedSimpArgs false
namespace Go.Proofs.Ytkjohgokkfghiaa.Sk
open Go.RowKit Wd

def cs (s : Int × Int) : List Value := [.int .u16 s.1, .int .u16 s.2]
def sks (l : List (Int × Int)) : List Value := l.flatMap cs
theorem sks_length (l : List (Int × Int)) : (sks l).length = l.length * 2 := by
  unfold sks
  induction l with
  | nil => rfl
  | cons a l ih => rw [List.flatMap_cons, List.length_append, ih]; simp [cs]; omega
theorem sks_append (l m : List (Int × Int)) : sks (l ++ m) = sks l ++ sks m := by simp [sks]
theorem sks_one (l : List (Int × Int)) : ∀ u ∈ sks l, u.oneCell' = true := by
  intro u hu
  simp only [sks, List.mem_flatMap, cs] at hu
  obtain ⟨s, _, hs⟩ := hu
  simp at hs
  rcases hs with rfl | rfl <;> rfl
theorem sks_get (l : List (Int × Int)) : ∀ (k : Nat) (s : Int × Int), l[k]? = some s → (sks l)[k * 2]? = some (.int .u16 s.1) ∧ (sks l)[k * 2 + 1]? = some (.int .u16 s.2) := by
  induction l with
  | nil => intro k s h; simp at h
  | cons a l ih =>
    intro k s h
    have e : sks (a :: l) = .int .u16 a.1 :: .int .u16 a.2 :: sks l := by simp [sks, cs]
    rw [e]
    cases k with
    | zero => simp at h; subst h; simp
    | succ k =>
      have := ih k s (by simpa using h)
      rw [show (k + 1) * 2 = k * 2 + 1 + 1 from by omega]
      simpa using this
theorem sks_set (l : List (Int × Int)) : ∀ (k : Nat) (st q q' : Int), l[k]? = some (st, q) → sks (l.set k (st, q')) = (sks l).set (k * 2 + 1) (.int .u16 q') := by
  induction l with
  | nil => intro k st q q' h; simp at h
  | cons a l ih =>
    intro k st q q' h
    have e : ∀ (b : Int × Int) (m : List (Int × Int)), sks (b :: m) = .int .u16 b.1 :: .int .u16 b.2 :: sks m := fun b m => by simp [sks, cs]
    cases k with
    | zero => simp at h; subst h; simp [e]
    | succ k =>
      rw [List.set_cons_succ, e, e, ih k st q q' (by simpa using h), show (k + 1) * 2 + 1 = k * 2 + 1 + 1 + 1 from by omega]
      rfl
theorem add_plus (ad : Addr) (m j : Nat) (hj : 0 < j) : ad.add (m + j) = ⟨(ad.add m).block, (ad.add m).off + j, none⟩ := by
  unfold Addr.add
  by_cases hm : m = 0
  · subst hm
    simp [Nat.ne_of_gt hj]
  · simp [hm, Nat.add_assoc]
theorem at_ {w : World} {B n : Nat} {A : Option Addr} {l : List (Int × Int)} (h : Reads w B 2 A n (sks l)) (k : Nat) (hk : k < n) :
   ∃ ad s, A = some ad ∧ ad.block < B ∧ l[k]? = some s ∧ w.cell? (ad.add (k * 2)) = some (.int .u16 s.1) ∧ w.cell? ⟨(ad.add (k * 2)).block, (ad.add (k * 2)).off + 1, none⟩ = some (.int .u16 s.2) := by
  obtain ⟨ad, rfl, hb, hc⟩ := h.2 (by omega)
  have hl := h.1
  rw [sks_length] at hl
  have hkl : k < l.length := by omega
  have hs : l[k]? = some l[k] := List.getElem?_eq_getElem hkl
  obtain ⟨h1, h2⟩ := sks_get l k _ hs
  refine ⟨ad, l[k], rfl, hb, hs, hc _ _ h1, ?_⟩
  rw [← add_plus ad (k * 2) 1 (by omega)]
  exact hc _ _ h2
theorem len_ {w : World} {B n : Nat} {A : Option Addr} {l : List (Int × Int)} (h : Reads w B 2 A n (sks l)) : l.length = n := by
  have hl := h.1
  rw [sks_length] at hl
  omega

/-- Are two skips the same? (A Bool that the walk does not open.) -/
def pEq (a b c d : Int) : Bool := decide ((a, b) = (c, d))
theorem pEq_t {a b c d : Int} (h : (a, b) = (c, d)) : pEq a b c d = true := by simp [pEq, h]
theorem pEq_f {a b c d : Int} (h : ¬ (a, b) = (c, d)) : pEq a b c d = false := by simp only [pEq, decide_eq_false_iff_not]; exact h
theorem pEq_and (a b c d : Int) : (a == c && b == d) = pEq a b c d := by
  by_cases h : (a, b) = (c, d)
  · rw [pEq_t h]; simp only [Prod.mk.injEq] at h; simp [h.1, h.2]
  · rw [pEq_f h]; simp only [Prod.mk.injEq, not_and] at h
    by_cases h1 : a = c
    · simp [h1, h h1]
    · simp [h1]
theorem eqA41 (d : Nat) (w : World) (x0 y0 : Int) (x1 y1 : Int) :
    (Op.equalIn (d + 2) 41 (.agg #[.int .u16 x0, .int .u16 x1]) (.agg #[.int .u16 y0, .int .u16 y1])).run Try.prog w = .ok (pEq x0 x1 y0 y1) w := by
  rw [run_equalIn_struct (P := Try.prog) w (d + 1) 41 _ _ (by simp [Program.fieldsOf, Try.underlying41]) (by kernel_rfl)]
  simp only [Program.fieldsOf, Try.underlying41]
  rw [← pEq_and]
  go_simp
  by_cases h0 : x0 = y0 <;> by_cases h1 : x1 = y1 <;> simp [h0, h1]
theorem run_eq (w : World) (a b c d : Int) : (binOp .eql 41 (.agg #[.int .u16 a, .int .u16 b]) (.agg #[.int .u16 c, .int .u16 d])).run Try.prog w = .ok (.bool (pEq a b c d)) w := by
  simp only [binOp]
  simp [Op.equal, Op.maxDepth, eqA41 9998]
theorem run_neq (w : World) (a b c d : Int) : (binOp .neq 41 (.agg #[.int .u16 a, .int .u16 b]) (.agg #[.int .u16 c, .int .u16 d])).run Try.prog w = .ok (.bool (!pEq a b c d)) w := by
  simp only [binOp]
  simp [Op.equal, Op.maxDepth, eqA41 9998]

theorem ret_bool {a b : Bool} (h : b = a) : Ending.returned (.bool a) = .returned (.bool b) := by rw [h]
theorem take_next {α : Type} {l l' : List α} {k : Nat} {s : α} (h : l.take k = l'.take k) (hs : l[k]? = some s) (hs' : l'[k]? = some s) : l.take (k + 1) = l'.take (k + 1) := by
  rw [List.take_add_one, List.take_add_one, h, hs, hs']
set_option maxHeartbeats 400000 in
/-- 'sameSkips'. -/
theorem same (A A' : Option Addr) (n m c d B B' : Nat) (l l' : List (Int × Int)) (w : World) (hn : n ≤ 9223372036854775807) (hm : m ≤ 9223372036854775807) (hB : B ≤ w.heap.size) (hB' : B' ≤ w.heap.size) (h : Reads w B 2 A n (sks l)) (h' : Reads w B' 2 A' m (sks l')) :
    Calls Try.prog 15 #[.slice A n c, .slice A' m d] w fun e w' => e = .returned (.bool (decide (l = l'))) ∧ Below w.heap.size w w' := by
  have L := hide (len_ h)
  have L' := hide (len_ h')
  by_cases hnm : n = m
  · subst hnm
    have Q := run_neq
    go_enter Try.func15, Try.ntmps15
    go_wp2
    go_loopw [5] (fun i wr => ∃ k : Nat, k ≤ n ∧ i = .int .i64 k ∧ Below w.heap.size w wr ∧ Hid (l.take k = l'.take k)) (fun i _ => n - (intOf i).toNat)
    case atStart => exact ⟨0, Nat.zero_le _, rfl, Below.refl _ _, rfl⟩
    case round =>
      obtain ⟨k, hk, rfl, hb, hT⟩ := hrel
      by_cases hlt : k < n
      · have g := h.keep (w' := wr) (fun p hp => hb.cell (by omega))
        have g' := h'.keep (w' := wr) (fun p hp => hb.cell (by omega))
        obtain ⟨ad, s, rfl, hab, hs, hs1, hs2⟩ := at_ g k hlt
        obtain ⟨ad', s', rfl, hab', hs', hs1', hs2'⟩ := at_ g' k hlt
        clear h h' g g'
        have HS := hide hs
        have HS' := hide hs'
        clear hs hs'
        by_cases he : s = s'
        · subst he
          have q1 := pEq_t (a := s.1) (b := s.2) rfl
          go_wp2
          go_quiet (fail)
          go_wp2
          go_roundw
          case rel => exact ⟨k + 1, by omega, by go_num, below_drewN hb _, take_next hT HS.out HS'.out⟩
          case measure => simp [intOf]; omega
        · have q1 := pEq_f (a := s.1) (b := s.2) (c := s'.1) (d := s'.2) he
          have hne : Hid (¬ l = l') := fun e => he (by
            have e1 : some s = some s' := HS.symm.trans ((by rw [e] : l[k]? = l'[k]?).trans HS')
            injection e1)
          clear he
          go_wp2
          go_quiet (fail)
          go_wp2
          go_ret
          exact ⟨ret_bool (by rw [decide_eq_false (unhide hne)]), below_drewN hb _⟩
      · have hkn : k = n := by omega
        subst hkn
        have hE : Hid (l = l') := by
          have e1 : l.take k = l'.take k := hT
          have e2 : l.length = k := L
          have e3 : l'.length = k := L'
          have e4 : l.take k = l := List.take_of_length_le (by omega)
          have e5 : l'.take k = l' := List.take_of_length_le (by omega)
          exact e4.symm.trans (e1.trans e5)
        go_wp2
        go_ret
        exact ⟨ret_bool (by rw [decide_eq_true (unhide hE)]), hb⟩
  · have hne : Hid (¬ l = l') := fun e => hnm (by rw [← show l.length = n from L, ← show l'.length = m from L', e])
    have k1 : ((n : Int) == m) = false := by rw [beq_eq_false_iff_ne]; omega
    have k2 : ((n : Int) != m) = true := by rw [bne_iff_ne]; omega
    clear hnm
    go_enter Try.func15, Try.ntmps15
    go_wp2
    go_ret
    exact ⟨ret_bool (by rw [decide_eq_false (unhide hne)]), Below.refl _ _⟩
end Go.Proofs.Ytkjohgokkfghiaa.Sk

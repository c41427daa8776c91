/-
  The plain side of 'what is told of TSNs that will not come': numbers and lists alone.
-/
import Derived.Laws.BitsAllLaws
set_option linter.unusedVariables false
set_option linter.unusedSimpArgs false
namespace Go.Proofs.Ytkjohgokkfghiaa.Pl

/-- The head of a piece: what is told of it but for its bytes; where these lie. -/
structure Dt where
  tsn : Int
  st : Int
  ssn : Int
  un : Bool
  fi : Bool
  la : Bool
  A : Option Addr
  n : Nat
  c : Nat
def Dt.cs (d : Dt) : List Value := [.int .u32 d.tsn, .int .u16 d.st, .int .u16 d.ssn, .bool d.un, .bool d.fi, .bool d.la, .slice d.A d.n d.c]
/-- Its numbers are numbers of their kinds. -/
def Dt.Ok (d : Dt) : Prop := 0 ≤ d.tsn ∧ d.tsn ≤ 4294967295 ∧ 0 ≤ d.st ∧ d.st ≤ 65535 ∧ 0 ≤ d.ssn ∧ d.ssn ≤ 65535
def dts (l : List Dt) : List Value := l.flatMap Dt.cs

def ah32 (a b : Int) : Int := (b - a) % 4294967296
def ah16 (a b : Int) : Int := (b - a) % 65536
def ls32 (a b : Int) : Bool := decide (0 < ah32 a b) && decide (ah32 a b ≤ 2147483647)
def ls16 (a b : Int) : Bool := decide (0 < ah16 a b) && decide (ah16 a b ≤ 32767)
def mx16 (a b : Int) : Int := if ls16 a b = true then b else a
theorem ls32_of {a b : Int} {r : Bool} (h : (0 < ah32 a b ∧ ah32 a b ≤ 2147483647) ↔ r = true) : ls32 a b = r := by
  unfold ls32
  cases r <;> simp_all
theorem ls16_of {a b : Int} {r : Bool} (h : (0 < ah16 a b ∧ ah16 a b ≤ 32767) ↔ r = true) : ls16 a b = r := by
  unfold ls16
  cases r <;> simp_all
theorem ls16_iff (a b : Int) : ls16 a b = true ↔ (0 < ah16 a b ∧ ah16 a b ≤ 32767) := by
  unfold ls16
  rw [Bool.and_eq_true, decide_eq_true_iff, decide_eq_true_iff]
theorem ls32_iff (a b : Int) : ls32 a b = true ↔ (0 < ah32 a b ∧ ah32 a b ≤ 2147483647) := by
  unfold ls32
  rw [Bool.and_eq_true, decide_eq_true_iff, decide_eq_true_iff]
theorem mx16_self (a : Int) : mx16 a a = a := by unfold mx16; split <;> rfl

/-- Pieces whose TSNs follow one another behind cum. -/
def RowOk (cum : Int) (ds : List Dt) : Prop := ∀ (j : Nat) (d : Dt), ds[j]? = some d → d.tsn = (cum + 1 + j) % 4294967296

/-- The place of a stream among skips; their number if it is not there. -/
def idx (st : Int) : List (Int × Int) → Nat
  | [] => 0
  | a :: l => if a.1 = st then 0 else idx st l + 1
theorem idx_le (st : Int) (l : List (Int × Int)) : idx st l ≤ l.length := by
  induction l with
  | nil => simp [idx]
  | cons a l ih => simp only [idx]; split <;> simp; omega
theorem idx_at (st : Int) (l : List (Int × Int)) (h : idx st l < l.length) : ∃ q, l[idx st l]? = some (st, q) := by
  induction l with
  | nil => simp at h
  | cons a l ih =>
    simp only [idx] at h ⊢
    split
    · rename_i e
      exact ⟨a.2, by rw [← e]; rfl⟩
    · rename_i e
      rw [if_neg e] at h
      obtain ⟨q, hq⟩ := ih (by simpa using h)
      exact ⟨q, by simpa using hq⟩
theorem idx_first (st : Int) (l : List (Int × Int)) (k : Nat) (a : Int × Int) (h : l[k]? = some a) (hk : k < idx st l) : a.1 ≠ st := by
  induction l generalizing k with
  | nil => simp at h
  | cons b l ih =>
    simp only [idx] at hk
    split at hk
    · omega
    · rename_i e
      cases k with
      | zero => simp at h; subst h; exact e
      | succ k => exact ih k (by simpa using h) (by omega)
theorem idx_is (st : Int) (l : List (Int × Int)) (k : Nat) (hk : k ≤ l.length) (hb : ∀ j a, j < k → l[j]? = some a → a.1 ≠ st) (ha : k < l.length → ∃ q, l[k]? = some (st, q)) : idx st l = k := by
  induction l generalizing k with
  | nil => simp at hk; subst hk; rfl
  | cons a l ih =>
    simp only [idx]
    cases k with
    | zero =>
      obtain ⟨q, hq⟩ := ha (by simp)
      simp at hq
      rw [if_pos (by rw [hq])]
    | succ k =>
      rw [if_neg (hb 0 a (by omega) rfl)]
      rw [ih k (by simpa using hk) (fun j b hj hb' => hb (j + 1) b (by omega) (by simpa using hb')) (fun hlt => by simpa using ha (by simpa using hlt))]
def upd (st ssn : Int) (l : List (Int × Int)) : List (Int × Int) :=
  if idx st l < l.length then l.set (idx st l) (st, mx16 (l.getD (idx st l) (0, 0)).2 ssn) else l ++ [(st, ssn)]
def stp (l : List (Int × Int)) (d : Dt) : List (Int × Int) := if d.un = true then l else upd d.st d.ssn l
def skips (ds : List Dt) : List (Int × Int) := ds.foldl stp []
theorem skips_take (ds : List Dt) (k : Nat) (d : Dt) (h : ds[k]? = some d) : skips (ds.take (k + 1)) = stp (skips (ds.take k)) d := by
  rw [List.take_add_one, h]
  simp [skips, List.foldl_append]
theorem upd_length (st ssn : Int) (l : List (Int × Int)) : (upd st ssn l).length ≤ l.length + 1 := by
  unfold upd
  split <;> simp
theorem skips_length (ds : List Dt) (k : Nat) (hk : k ≤ ds.length) : (skips (ds.take k)).length ≤ k := by
  induction k with
  | zero => simp [skips]
  | succ k ih =>
    have e : ds[k]? = some (ds[k]'(by omega)) := List.getElem?_eq_getElem _
    rw [skips_take ds k _ e]
    unfold stp
    split
    · have := ih (by omega); omega
    · have := upd_length (ds[k]'(by omega)).st (ds[k]'(by omega)).ssn (skips (ds.take k))
      have := ih (by omega)
      omega
theorem idx_congr (st : Int) : ∀ (l l' : List (Int × Int)), l.map (·.1) = l'.map (·.1) → idx st l = idx st l'
  | [], [], _ => rfl
  | a :: l, a' :: l', h => by
    simp only [List.map_cons, List.cons.injEq] at h
    simp only [idx, h.1, idx_congr st l l' h.2]
theorem idx_snoc (s st q : Int) (l : List (Int × Int)) : idx s (l ++ [(st, q)]) = if idx s l < l.length then idx s l else if st = s then l.length else l.length + 1 := by
  induction l with
  | nil => simp [idx]
  | cons a l ih =>
    simp only [List.cons_append, idx]
    by_cases h : a.1 = s
    · simp [h]
    · simp only [if_neg h, ih, List.length_cons]
      by_cases h1 : idx s l < l.length
      · rw [if_pos h1, if_pos (show idx s l + 1 < l.length + 1 by omega)]
      · rw [if_neg h1, if_neg (show ¬ idx s l + 1 < l.length + 1 by omega)]
        split <;> rfl
theorem map_set_fst (l : List (Int × Int)) (k : Nat) (st q q' : Int) (h : l[k]? = some (st, q)) : (l.set k (st, q')).map (·.1) = l.map (·.1) := by
  rw [List.map_set]
  apply List.ext_getElem?
  intro i
  rw [List.getElem?_set]
  split
  · rename_i e
    subst e
    obtain ⟨hk, e⟩ := List.getElem?_eq_some_iff.1 h
    simp [hk, e]
  · rfl
theorem idx_set (s st q : Int) (l : List (Int × Int)) (h : idx st l < l.length) : idx s (l.set (idx st l) (st, q)) = idx s l := by
  obtain ⟨p, hp⟩ := idx_at st l h
  exact idx_congr s _ _ (map_set_fst l _ st p q hp)
end Go.Proofs.Ytkjohgokkfghiaa.Pl

/-
  Pieces and bytes in memory: a slice of pieces reads as a list of heads; the bytes of each as a list of numbers.
-/
import Derived.Test.YtfgbegamdlafkaaWd
set_option linter.unusedVariables false
set_option linter.unusedSimpArgs false
namespace Go.Proofs.Ytfgbegamdlafkaa.Md
open Go.RowKit Wd


/-- The head of a piece: what is told of it but for its bytes; where these lie. -/
structure Dt where
  tsn : Int
  st : Int
  ssn : Int
  un : Bool
  fi : Bool
  la : Bool
  A : Option Addr
  n : Nat
  c : Nat
def Dt.cs (d : Dt) : List Value := [.int .u32 d.tsn, .int .u16 d.st, .int .u16 d.ssn, .bool d.un, .bool d.fi, .bool d.la, .slice d.A d.n d.c]
/-- Its numbers are numbers of their kinds. -/
def Dt.Ok (d : Dt) : Prop := 0 ≤ d.tsn ∧ d.tsn ≤ 4294967295 ∧ 0 ≤ d.st ∧ d.st ≤ 65535 ∧ 0 ≤ d.ssn ∧ d.ssn ≤ 65535
def dts (l : List Dt) : List Value := l.flatMap Dt.cs


theorem add_plus (ad : Addr) (m j : Nat) (hj : 0 < j) : ad.add (m + j) = ⟨(ad.add m).block, (ad.add m).off + j, none⟩ := by
  unfold Addr.add
  by_cases hm : m = 0
  · subst hm
    simp [Nat.ne_of_gt hj]
  · simp [hm, Nat.add_assoc]


theorem dts_length (l : List Dt) : (dts l).length = l.length * 7 := by
  unfold dts
  induction l with
  | nil => rfl
  | cons a l ih => rw [List.flatMap_cons, List.length_append, ih]; simp [Dt.cs]; omega
theorem dts_append (l m : List Dt) : dts (l ++ m) = dts l ++ dts m := by simp [dts]
theorem dts_one (l : List Dt) : ∀ u ∈ dts l, u.oneCell' = true := by
  intro u hu
  simp only [dts, List.mem_flatMap, Dt.cs] at hu
  obtain ⟨s, _, hs⟩ := hu
  simp at hs
  rcases hs with rfl | rfl | rfl | rfl | rfl | rfl | rfl <;> rfl
theorem dts_get (l : List Dt) : ∀ (k : Nat) (d : Dt), l[k]? = some d → ∀ (j : Nat) (u : Value), d.cs[j]? = some u → (dts l)[k * 7 + j]? = some u := by
  induction l with
  | nil => intro k d h; simp at h
  | cons a l ih =>
    intro k d h j u hu
    have e : dts (a :: l) = a.cs ++ dts l := by simp [dts]
    rw [e]
    have hj : j < 7 := by
      rcases Nat.lt_or_ge j 7 with h | h
      · exact h
      · rw [List.getElem?_eq_none (by simp [Dt.cs]; omega)] at hu; cases hu
    cases k with
    | zero =>
      simp at h; subst h
      rw [Nat.zero_mul, Nat.zero_add, List.getElem?_append_left (by simp [Dt.cs]; omega)]
      exact hu
    | succ k =>
      rw [List.getElem?_append_right (by simp [Dt.cs]; omega)]
      have := ih k d (by simpa using h) j u hu
      rw [show (k + 1) * 7 + j - a.cs.length = k * 7 + j from by simp [Dt.cs]; omega]
      exact this
theorem dlen_ {w : World} {B n : Nat} {A : Option Addr} {l : List Dt} (h : Reads w B 7 A n (dts l)) : l.length = n := by
  have hl := h.1
  rw [dts_length] at hl
  omega
/-- The seven cells of a piece at an address. -/
def DtAt (w : World) (a : Addr) (d : Dt) : Prop :=
  w.cell? a = some (.int .u32 d.tsn) ∧ w.cell? ⟨a.block, a.off + 1, none⟩ = some (.int .u16 d.st) ∧ w.cell? ⟨a.block, a.off + 2, none⟩ = some (.int .u16 d.ssn) ∧ w.cell? ⟨a.block, a.off + 3, none⟩ = some (.bool d.un) ∧
  w.cell? ⟨a.block, a.off + 4, none⟩ = some (.bool d.fi) ∧ w.cell? ⟨a.block, a.off + 5, none⟩ = some (.bool d.la) ∧ w.cell? ⟨a.block, a.off + 6, none⟩ = some (.slice d.A d.n d.c)
theorem dat_ {w : World} {B n : Nat} {A : Option Addr} {l : List Dt} (h : Reads w B 7 A n (dts l)) (k : Nat) (hk : k < n) :
   ∃ ad d, A = some ad ∧ ad.block < B ∧ l[k]? = some d ∧ DtAt w (ad.add (k * 7)) d := by
  obtain ⟨ad, rfl, hb, hc⟩ := h.2 (by omega)
  have hl := dlen_ h
  have hs : l[k]? = some (l[k]'(by omega)) := List.getElem?_eq_getElem (by omega)
  have g := dts_get l k _ hs
  have f : ∀ (j : Nat) (u : Value), 0 < j → (Dt.cs (l[k]'(by omega)))[j]? = some u → w.cell? ⟨(ad.add (k * 7)).block, (ad.add (k * 7)).off + j, none⟩ = some u := by
    intro j u hj hu
    rw [← add_plus ad (k * 7) j hj]
    exact hc _ _ (g j u hu)
  refine ⟨ad, l[k]'(by omega), rfl, hb, hs, ?_, f 1 _ (by omega) rfl, f 2 _ (by omega) rfl, f 3 _ (by omega) rfl, f 4 _ (by omega) rfl, f 5 _ (by omega) rfl, f 6 _ (by omega) rfl⟩
  exact hc _ _ (g 0 _ rfl)


theorem dts_set (l : List Dt) : ∀ (k j : Nat) (d d' : Dt) (u : Value), l[k]? = some d → d'.cs = d.cs.set j u → j < 7 → dts (l.set k d') = (dts l).set (k * 7 + j) u := by
  induction l with
  | nil => intro k j d d' u h; simp at h
  | cons a l ih =>
    intro k j d d' u h hc hj
    have e : ∀ (b : Dt) (m : List Dt), dts (b :: m) = b.cs ++ dts m := fun b m => by simp [dts]
    have h7 : ∀ b : Dt, b.cs.length = 7 := fun b => by simp [Dt.cs]
    cases k with
    | zero =>
      simp at h
      subst h
      rw [List.set_cons_zero, e, e, hc, Nat.zero_mul, Nat.zero_add, List.set_append_left _ _ (by rw [h7]; exact hj)]
    | succ k =>
      rw [List.set_cons_succ, e, e, ih k j d d' u (by simpa using h) hc hj, List.set_append_right _ _ (by rw [h7]; omega), h7]
      congr 2
      omega
theorem cs_tsn (d : Dt) (t : Int) : Dt.cs { d with tsn := t } = d.cs.set 0 (.int .u32 t) := rfl
theorem cs_ssn (d : Dt) (t : Int) : Dt.cs { d with ssn := t } = d.cs.set 2 (.int .u16 t) := rfl

/-- An own row of pieces: a cell of a piece; it may be written. -/
theorem own_dt {w : World} {base g n c : Nat} {l : List Dt} (h : w.ownsRow base 38 7 (.slice (some ⟨g, 0, none⟩) n c) n (dts l)) {k : Nat} {d : Dt} (hd : l[k]? = some d) (j : Nat) (u : Value) (hu : d.cs[j]? = some u) :
    w.cell? ⟨g, k * 7 + j, none⟩ = some u := by
  have h1 := dts_get l k d hd j u hu
  have hj : j < 7 := by
    rcases Nat.lt_or_ge j 7 with h | h
    · exact h
    · rw [List.getElem?_eq_none (by simp [Dt.cs]; omega)] at hu; cases hu
  have hk : k < l.length := (List.getElem?_eq_some_iff.1 hd).1
  have hl : (dts l).length = n * 7 := h.1
  rw [dts_length] at hl
  rw [h.cellAt (k * 7 + j) (by omega)]
  exact h1
theorem own_set_dt {w : World} {base g n c : Nat} {l : List Dt} (h : w.ownsRow base 38 7 (.slice (some ⟨g, 0, none⟩) n c) n (dts l)) {k j : Nat} {d d' : Dt} {u : Value} (hd : l[k]? = some d) (hc : d'.cs = d.cs.set j u) (hj : j < 7) :
    (w.setCell ⟨g, k * 7 + j, none⟩ u).ownsRow base 38 7 (.slice (some ⟨g, 0, none⟩) n c) n (dts (l.set k d')) := by
  rw [dts_set l k j d d' u hd hc hj]
  exact (h.stored (k * 7 + j) u).1

theorem cs_st (d : Dt) (t : Int) : Dt.cs { d with st := t } = d.cs.set 1 (.int .u16 t) := rfl
theorem cs_un (d : Dt) (t : Bool) : Dt.cs { d with un := t } = d.cs.set 3 (.bool t) := rfl
theorem cs_la (d : Dt) (t : Bool) : Dt.cs { d with la := t } = d.cs.set 5 (.bool t) := rfl
theorem cs_by (d : Dt) (A : Option Addr) (n c : Nat) : Dt.cs { d with A := A, n := n, c := c } = d.cs.set 6 (.slice A n c) := rfl

/-! ### Bytes -/
def bs (l : List Int) : List Value := l.map (Value.int .u8)
def BOk (l : List Int) : Prop := ∀ x ∈ l, 0 ≤ x ∧ x ≤ 255
theorem bs_length (l : List Int) : (bs l).length = l.length := by simp [bs]
theorem bs_append (l m : List Int) : bs (l ++ m) = bs l ++ bs m := by simp [bs]
theorem bs_one (l : List Int) : ∀ u ∈ bs l, u.oneCell' = true := by
  intro u hu
  simp only [bs, List.mem_map] at hu
  obtain ⟨x, _, rfl⟩ := hu
  rfl
theorem bs_get (l : List Int) (k : Nat) (x : Int) (h : l[k]? = some x) : (bs l)[k]? = some (.int .u8 x) := by simp [bs, h]
theorem bs_set (l : List Int) (k : Nat) (x : Int) : bs (l.set k x) = (bs l).set k (.int .u8 x) := by simp [bs, List.map_set]
theorem bs_take (l : List Int) (k : Nat) : bs (l.take k) = (bs l).take k := by simp [bs, List.map_take]
theorem bs_drop (l : List Int) (k : Nat) : bs (l.drop k) = (bs l).drop k := by simp [bs, List.map_drop]
theorem blen_ {w : World} {B n : Nat} {A : Option Addr} {l : List Int} (h : Reads w B 1 A n (bs l)) : l.length = n := by
  have hl := h.1
  rw [bs_length] at hl
  omega
theorem bat_ {w : World} {B n : Nat} {A : Option Addr} {l : List Int} (h : Reads w B 1 A n (bs l)) (k : Nat) (hk : k < n) :
    ∃ ad x, A = some ad ∧ ad.block < B ∧ l[k]? = some x ∧ w.cell? (ad.add k) = some (.int .u8 x) := by
  obtain ⟨ad, rfl, hb, hc⟩ := h.2 (by omega)
  have hl := blen_ h
  have hs : l[k]? = some (l[k]'(by omega)) := List.getElem?_eq_getElem (by omega)
  exact ⟨ad, _, rfl, hb, hs, hc k _ (bs_get l k _ hs)⟩
theorem bok_get {l : List Int} (h : BOk l) {k : Nat} {x : Int} (hx : l[k]? = some x) : 0 ≤ x ∧ x ≤ 255 := h x (List.mem_of_getElem? hx)
theorem reads_pre {w : World} {B size n k : Nat} {A : Option Addr} {xs : List Value} (h : Reads w B size A n xs) (hk : k ≤ n) : Reads w B size A k (xs.take (k * size)) := by
  have hl := h.1
  refine ⟨by rw [List.length_take, hl]; exact Nat.min_eq_left (Nat.mul_le_mul_right _ hk), fun hp => ?_⟩
  obtain ⟨ad, e, hb, hc⟩ := h.2 (by omega)
  refine ⟨ad, e, hb, fun j u hu => hc j u ?_⟩
  rw [List.getElem?_take] at hu
  split at hu
  · exact hu
  · cases hu
theorem dts_take (l : List Dt) (k : Nat) : dts (l.take k) = (dts l).take (k * 7) := by
  have e : dts l = dts (l.take k) ++ dts (l.drop k) := by rw [← dts_append, List.take_append_drop]
  by_cases h : k ≤ l.length
  · have e2 : k * 7 = (dts (l.take k)).length := by rw [dts_length, List.length_take]; omega
    rw [e, e2, List.take_left]
  · rw [List.take_of_length_le (Nat.le_of_lt (Nat.lt_of_not_le h)), List.take_of_length_le (by rw [dts_length]; omega)]
theorem dts_drop (l : List Dt) (k : Nat) (h : k ≤ l.length) : dts (l.drop k) = (dts l).drop (k * 7) := by
  have e : dts l = dts (l.take k) ++ dts (l.drop k) := by rw [← dts_append, List.take_append_drop]
  have e2 : k * 7 = (dts (l.take k)).length := by rw [dts_length, List.length_take]; omega
  rw [e, e2, List.drop_left]

/-! ### The bytes of pieces -/
/-- Each piece's bytes lie below block B and read as a list. -/
def RdB (w : World) (B : Nat) (ds : List Dt) (bb : List (List Int)) : Prop :=
  ds.length = bb.length ∧ ∀ (i : Nat) (d : Dt) (b : List Int), ds[i]? = some d → bb[i]? = some b → Reads w B 1 d.A d.n (bs b) ∧ d.n ≤ d.c ∧ BOk b
theorem RdB.keep {w w' : World} {B : Nat} {ds : List Dt} {bb : List (List Int)} (h : RdB w B ds bb) (hk : ∀ p : Addr, p.block < B → w'.cell? p = w.cell? p) : RdB w' B ds bb :=
  ⟨h.1, fun i d b hd hb => let ⟨r1, r2, r3⟩ := h.2 i d b hd hb; ⟨r1.keep hk, r2, r3⟩⟩
theorem RdB.at_ {w : World} {B : Nat} {ds : List Dt} {bb : List (List Int)} (h : RdB w B ds bb) {i : Nat} {d : Dt} (hd : ds[i]? = some d) : ∃ b, bb[i]? = some b ∧ Reads w B 1 d.A d.n (bs b) ∧ d.n ≤ d.c ∧ BOk b := by
  have hi := (List.getElem?_eq_some_iff.1 hd).1
  have hb : bb[i]? = some (bb[i]'(by have := h.1; omega)) := List.getElem?_eq_getElem _
  exact ⟨_, hb, h.2 i d _ hd hb⟩
/-- Each piece's bytes are a row of the call's own. -/
def OwB (w : World) (base : Nat) (ds : List Dt) (bb : List (List Int)) : Prop :=
  ds.length = bb.length ∧ ∀ (i : Nat) (d : Dt) (b : List Int), ds[i]? = some d → bb[i]? = some b → w.ownsRow base 5 1 (.slice d.A d.n d.c) d.n (bs b) ∧ BOk b
theorem OwB.nil (w : World) (base : Nat) : OwB w base [] [] := ⟨rfl, fun i d b h => by simp at h⟩
theorem OwB.kept {w w' : World} {base : Nat} {ds : List Dt} {bb : List (List Int)} {row : Option Nat} (h : OwB w base ds bb) (hg : w.grownBy w' row) (hr : ∀ (i : Nat) (d : Dt), ds[i]? = some d → (Value.slice d.A d.n d.c).ownBlock = none ∨ (Value.slice d.A d.n d.c).ownBlock ≠ row) : OwB w' base ds bb :=
  ⟨h.1, fun i d b hd hb => let ⟨r1, r2⟩ := h.2 i d b hd hb; ⟨r1.kept hg (hr i d hd), r2⟩⟩
theorem OwB.snoc {w : World} {base : Nat} {ds : List Dt} {bb : List (List Int)} {d : Dt} {b : List Int} (h : OwB w base ds bb) (hd : w.ownsRow base 5 1 (.slice d.A d.n d.c) d.n (bs b)) (hb : BOk b) : OwB w base (ds ++ [d]) (bb ++ [b]) := by
  refine ⟨by simp [h.1], fun i e c he hc => ?_⟩
  rw [List.getElem?_append] at he hc
  have hl := h.1
  split at he
  · rw [if_pos (by omega)] at hc
    exact h.2 i e c he hc
  · rw [if_neg (by omega)] at hc
    rw [← hl] at hc
    have e0 : i - ds.length = 0 := by
      rcases Nat.eq_zero_or_pos (i - ds.length) with h0 | h0
      · exact h0
      · rw [List.getElem?_eq_none (by simp only [List.length_cons, List.length_nil]; omega)] at he
        cases he
    rw [e0] at he hc
    simp at he hc
    subst he hc
    exact ⟨hd, hb⟩
theorem OwB.rd {w : World} {base : Nat} {ds : List Dt} {bb : List (List Int)} (h : OwB w base ds bb) : RdB w w.heap.size ds bb :=
  ⟨h.1, fun i d b hd hb => by
    obtain ⟨r1, r2⟩ := h.2 i d b hd hb
    obtain ⟨A, c, e, hle, _⟩ := own_slice r1
    injection e with e1 e2 e3
    exact ⟨Reads.of_own r1, by omega, r2⟩⟩
theorem OwB.weaken {w : World} {base base' : Nat} {ds : List Dt} {bb : List (List Int)} (h : OwB w base ds bb) (hb : base' ≤ base) : OwB w base' ds bb :=
  ⟨h.1, fun i d b hd hb' => let ⟨r1, r2⟩ := h.2 i d b hd hb'; ⟨own_weaken r1 hb, r2⟩⟩
/-- A block of another type than bytes' is no piece's. -/
theorem OwB.not_blk {w : World} {base g : Nat} {ds : List Dt} {bb : List (List Int)} {t : TypeId} {cs : Array Value} {m : Nat × Nat} (h : OwB w base ds bb) (hg : w.heap[g]? = some (.cells cs t m)) (ht : t ≠ 5) {i : Nat} {d : Dt} (hd : ds[i]? = some d) : (Value.slice d.A d.n d.c).ownBlock ≠ some g := by
  have hi := (List.getElem?_eq_some_iff.1 hd).1
  have hb : bb[i]? = some (bb[i]'(by have := h.1; omega)) := List.getElem?_eq_getElem _
  obtain ⟨r1, _⟩ := h.2 i d _ hd hb
  rcases r1.2 with ⟨e, _⟩ | ⟨g', cap, cur, e, _, hh, _⟩
  · rw [e]; simp [Value.ownBlock]
  · rw [e]
    intro he
    have : g' = g := by simpa [Value.ownBlock] using he
    subst this
    rw [hg] at hh
    injection hh with hh
    injection hh with _ h2
    exact ht h2
theorem own_block {w : World} {base n : Nat} {e : TypeId} {size : Nat} {v : Value} {xs : List Value} (h : w.ownsRow base e size v n xs) {g : Nat} (hg : v.ownBlock = some g) : ∃ cs m, w.heap[g]? = some (.cells cs e m) := by
  rcases h.2 with ⟨rfl, _⟩ | ⟨g', cap, cur, rfl, _, hh, _⟩
  · simp [Value.ownBlock] at hg
  · have : g' = g := by simpa [Value.ownBlock] using hg
    subst this
    exact ⟨_, _, hh⟩
theorem OwB.not_row {w : World} {base base' n : Nat} {ds : List Dt} {bb : List (List Int)} {e : TypeId} {size : Nat} {v : Value} {xs : List Value} (h : OwB w base ds bb) (hv : w.ownsRow base' e size v n xs) (ht : e ≠ 5) {i : Nat} {d : Dt} (hd : ds[i]? = some d) : (Value.slice d.A d.n d.c).ownBlock = none ∨ (Value.slice d.A d.n d.c).ownBlock ≠ v.ownBlock := by
  cases hb : v.ownBlock with
  | none =>
    cases h2 : (Value.slice d.A d.n d.c).ownBlock with
    | none => exact .inl rfl
    | some x => exact .inr (by simp)
  | some g =>
    obtain ⟨cs, m, hh⟩ := own_block hv hb
    exact .inr (h.not_blk hh ht hd)
end Go.Proofs.Ytfgbegamdlafkaa.Md

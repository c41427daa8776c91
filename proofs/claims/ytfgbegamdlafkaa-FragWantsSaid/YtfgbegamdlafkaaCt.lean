/-
  Contract of frag.Cut: the pieces of a message, in new memory; or why there are none.
-/
import Derived.Test.YtfgbegamdlafkaaCh
import Derived.Test.YtfgbegamdlafkaaZr
import Derived.Test.YtfgbegamdlafkaaJo
set_option linter.unusedVariables false
set_option linter.unusedSimpArgs false
namespace Go.Proofs.Ytfgbegamdlafkaa.Ct
open Go.RowKit Go.Shelf Wd Md Cm Cb Ch Zr
attribute [local go_sem] Oper.semAt_some

/-- What stands in the heads of pieces that are being made: none is the last one yet. -/
def Made (st ssn : Int) (un : Bool) (ds : List Dt) : Prop := ∀ (i : Nat) (d : Dt), ds[i]? = some d → d.tsn = 0 ∧ d.st = st ∧ d.ssn = ssn ∧ d.un = un ∧ d.fi = decide (i = 0) ∧ d.la = false
theorem made_snoc {st ssn : Int} {un : Bool} {ds : List Dt} {d : Dt} (h : Made st ssn un ds) (hd : d.tsn = 0 ∧ d.st = st ∧ d.ssn = ssn ∧ d.un = un ∧ d.fi = decide (ds.length = 0) ∧ d.la = false) : Made st ssn un (ds ++ [d]) := fun i e he => by
  rw [List.getElem?_append] at he
  split at he
  · exact h i e he
  · have hi : i = ds.length := by
      have := (List.getElem?_eq_some_iff.1 he).1
      simp at this
      omega
    subst hi
    simp at he
    subst he
    exact hd
/-- Two boxes and more lie as they lay: what the round of the loop keeps. -/
def At (b0 : Nat) (w5 W : World) : Prop := KB (b0 + 5) (b0 + 2) w5 W ∧ Below b0 w5 W
def Inv (b0 mm : Nat) (xs : List Int) (st ssn : Int) (un : Bool) (w5 : World) (pre : List Nat) (W : World) : Prop :=
  (∃ v ds, Boxed W (b0 + 2) 29 v ∧ W.ownsRow (b0 + 5) 38 7 v pre.length (dts ds) ∧ OwB W (b0 + 5) ds (pre.map (chk mm xs)) ∧ Made st ssn un ds) ∧ At b0 w5 W
theorem own_not {W : World} {base n : Nat} {e : TypeId} {size : Nat} {v : Value} {xs : List Value} {row : Option Nat} (h : W.ownsRow base e size v n xs) (hr : ∀ r, row = some r → ∃ o : Obj, W.heap[r]? = some o ∧ o.isCells = false) : v.ownBlock = none ∨ v.ownBlock ≠ row := by
  cases hb : v.ownBlock with
  | none => exact .inl rfl
  | some g =>
    refine .inr fun e1 => ?_
    obtain ⟨cs, m, hh⟩ := own_block h hb
    obtain ⟨o, ho, hc⟩ := hr g e1.symm
    rw [hh] at ho
    injection ho with ho
    subst ho
    cases hc
theorem inv_own (b0 mm : Nat) (xs : List Int) (st ssn : Int) (un : Bool) (w5 : World) (h5 : w5.heap.size = b0 + 5) : OwnFrom w5.heap.size (Inv b0 mm xs st ssn un w5) := by
  rintro pre W W' row ⟨⟨v, ds, h1, h2, h3, h4⟩, h6, h7⟩ hg hr
  have hne : ∀ b, b < b0 + 5 → some b ≠ row := fun b hb e => by have := (hr b e.symm).1; omega
  have hcells : ∀ r, row = some r → ∃ o : Obj, W.heap[r]? = some o ∧ o.isCells = false := fun r e => (hr r e).2
  refine ⟨⟨v, ds, h1.kept hg (hne _ (by omega)), h2.kept hg (own_not h2 hcells), h3.kept hg (fun i d hd => ?_), h4⟩, ⟨Nat.le_trans h6.1 hg.size, fun b hb hbl => (hg.block b (by have := h6.1; omega) (hne b hb)).trans (h6.2 b hb hbl)⟩, h7.grown hg (by have := h6.1; omega) (fun k e => by have := (hr k e).1; omega)⟩
  have hi := (List.getElem?_eq_some_iff.1 hd).1
  have hb : (pre.map (chk mm xs))[i]? = some ((pre.map (chk mm xs))[i]'(by have := h3.1; omega)) := List.getElem?_eq_getElem _
  exact own_not (h3.2 i d _ hd hb).1 hcells
theorem kb_t {B bl : Nat} {X Y Z : World} (h : KB B bl X Y) (k : KB B bl Y Z) : KB B bl X Z := h.trans k
theorem kb_b {B bl : Nat} {w : World} (hB : B ≤ w.heap.size) (W : World) (l : Nat) (o o' : Obj) (hl : w.heap.size ≤ l) (h : W.heap[l]? = some o) (_ : o.isCells = false) (_ : o.isWalk = false) : KB B bl W (W.putObj l o') := by
  have hg := grownBy_putObj' W l o'
  exact ⟨hg.size, fun b hb _ => hg.block b (by have := (Array.getElem?_eq_some_iff.1 h).1; omega) (fun e => by injection e with e; omega)⟩

/-- slices.Chunk's function, as the law for a range over a function wants it. -/
theorem stops (n : Nat) (hn : 1 ≤ n) (b0 : Nat) (ad : Addr) (N c mm : Nat) (hm : 0 < mm) (hm2 : mm ≤ 9223372036854775807) (hN : N ≤ 1048576) (hc : N ≤ c) (xs : List Int) (hxs : xs.length = N) (w5 : World) (h5 : w5.heap.size = b0 + 5) (hs : Boxed w5 (b0 + 3) 23 (.slice (some ad) N c)) (hmc : Boxed w5 (b0 + 4) 3 (.int .i64 mm)) :
    SeqStopsK Fence.wide n Try.prog 28 #[.pointer (some ⟨b0 + 3, 0, none⟩), .pointer (some ⟨b0 + 4, 0, none⟩)] (fun x : Nat => #[Value.slice (some (ad.add (x * mm))) (chk mm xs x).length (chk mm xs x).length]) (KB (b0 + 5) (b0 + 2)) (fun ys => ys = List.range (nch mm N)) (fun pre => ∃ k, pre = List.range k) (nch mm N) w5 := fun l J Jx W hW hJ hJx hY h0 =>
  c28 n hn l (b0 + 3) (b0 + 4) (b0 + 5) (b0 + 2) ad N c mm hm hm2 hN hc ⟨by omega, by omega⟩ ⟨by omega, by omega⟩ J Jx xs hxs
    (fun pre W q h => hJ pre W (W.drewN q) none h (only_drewN (World.grownBy.refl W none) q) (fun r e => by cases e)) hY W ((hW.cell (p := ⟨b0 + 3, 0, none⟩) (by simp; omega)).trans hs.cell) ((hW.cell (p := ⟨b0 + 4, 0, none⟩) (by simp; omega)).trans hmc.cell) h0

def CutPost (st ssn : Int) (o : Bool) (xs : List Int) (mm : Nat) (w : World) (e : Ending) (w' : World) : Prop :=
  ∃ A c ds, e = .returned (.tuple #[.slice A (nch mm xs.length) c, .int .i64 0]) ∧ ds.length = nch mm xs.length ∧ w'.ownsRow w.heap.size 38 7 (.slice A (nch mm xs.length) c) (nch mm xs.length) (dts ds) ∧ OwB w' w.heap.size ds ((List.range (nch mm xs.length)).map (chk mm xs)) ∧
    (∀ (i : Nat) (d : Dt), ds[i]? = some d → d.tsn = 0 ∧ d.st = st ∧ d.ssn = (if o = true then ssn else 0) ∧ d.un = !o ∧ d.fi = decide (i = 0) ∧ d.la = decide (i + 1 = nch mm xs.length)) ∧ Below w.heap.size w w'

/-- What is left when the last piece is told to be the last one. -/
theorem cut_done {st ssn : Int} {un : Bool} {xs : List Int} {mm K g cap D b0 : Nat} {d : Dt} {ds : List Dt} {w W : World} {ob : Obj} (hb : b0 = w.heap.size) (hv : Boxed W (b0 + 2) 29 (.slice (some ⟨g, 0, none⟩) (K + 1) cap)) (hrow : W.ownsRow (b0 + 5) 38 7 (.slice (some ⟨g, 0, none⟩) (K + 1) cap) (K + 1) (dts ds)) (hOw : OwB W (b0 + 5) ds ((List.range (K + 1)).map (chk mm xs))) (hMd : Made st ssn un ds) (hd : ds[K]? = some d) (hB : Below b0 w W) (hK : W.heap[D]? = some (.deferred (some []))) (hD : b0 + 5 ≤ D) (hsz : b0 + 5 ≤ W.heap.size) :
    (((W.setCell ⟨g, K * 7 + 5, none⟩ (.bool true)).setCell ⟨b0 + 2, 0, none⟩ (.slice (some ⟨g, 0, none⟩) (K + 1) cap)).heap[D]? = some (.deferred (some []))) ∧
    ((((W.setCell ⟨g, K * 7 + 5, none⟩ (.bool true)).setCell ⟨b0 + 2, 0, none⟩ (.slice (some ⟨g, 0, none⟩) (K + 1) cap)).putObj D ob).cell? ⟨b0 + 2, 0, none⟩ = some (.slice (some ⟨g, 0, none⟩) (K + 1) cap)) ∧
    (((W.setCell ⟨g, K * 7 + 5, none⟩ (.bool true)).setCell ⟨b0 + 2, 0, none⟩ (.slice (some ⟨g, 0, none⟩) (K + 1) cap)).putObj D ob).ownsRow b0 38 7 (.slice (some ⟨g, 0, none⟩) (K + 1) cap) (K + 1) (dts (ds.set K { d with la := true })) ∧
    OwB (((W.setCell ⟨g, K * 7 + 5, none⟩ (.bool true)).setCell ⟨b0 + 2, 0, none⟩ (.slice (some ⟨g, 0, none⟩) (K + 1) cap)).putObj D ob) b0 (ds.set K { d with la := true }) ((List.range (K + 1)).map (chk mm xs)) ∧
    Below b0 w (((W.setCell ⟨g, K * 7 + 5, none⟩ (.bool true)).setCell ⟨b0 + 2, 0, none⟩ (.slice (some ⟨g, 0, none⟩) (K + 1) cap)).putObj D ob) := by
  have hgb : b0 + 5 ≤ g := own_base hrow g (by simp [Value.ownBlock])
  have hlen : ds.length = K + 1 := by have := hrow.1; rw [dts_length] at this; omega
  have hg1 : W.grownBy (W.setCell ⟨g, K * 7 + 5, none⟩ (.bool true)) (some g) := grown_set W g _ _
  have hr1 := own_set_dt (j := 5) (u := .bool true) hrow hd (cs_la d true) (by omega)
  have hv1 := hv.kept hg1 (by simp; omega)
  have ho1 := hOw.kept hg1 (fun i e he => .inr (fun e1 => by
    obtain ⟨cs, m, hh⟩ := own_block hrow (g := g) (by simp [Value.ownBlock])
    exact hOw.not_blk hh (by decide) he e1))
  have hK1 := (KeepsOthers.setCell W ⟨g, K * 7 + 5, none⟩ (.bool true)).same D _ hK rfl
  have hB1 := hB.setCell (p := ⟨g, K * 7 + 5, none⟩) (by simp; omega) (.bool true)
  have hs1 : b0 + 5 ≤ (W.setCell ⟨g, K * 7 + 5, none⟩ (.bool true)).heap.size := by simpa [World.setCell] using hsz
  generalize W.setCell ⟨g, K * 7 + 5, none⟩ (.bool true) = W1 at *
  have hg2 : W1.grownBy (W1.setCell ⟨b0 + 2, 0, none⟩ (.slice (some ⟨g, 0, none⟩) (K + 1) cap)) (some (b0 + 2)) := grown_set W1 _ _ _
  have hr2 := own_set (i := 0) (u := .slice (some ⟨g, 0, none⟩) (K + 1) cap) hr1 (g := b0 + 2) (by omega)
  have hv2 := hv1.set (.slice (some ⟨g, 0, none⟩) (K + 1) cap)
  have ho2 := ho1.kept hg2 (fun i e he => .inr (ho1.not_blk hv1 (by decide) he))
  have hK2 := (KeepsOthers.setCell W1 ⟨b0 + 2, 0, none⟩ (.slice (some ⟨g, 0, none⟩) (K + 1) cap)).same D _ hK1 rfl
  have hB2 := hB1.setCell (p := ⟨b0 + 2, 0, none⟩) (by simp) (.slice (some ⟨g, 0, none⟩) (K + 1) cap)
  have hs2 : b0 + 5 ≤ (W1.setCell ⟨b0 + 2, 0, none⟩ (.slice (some ⟨g, 0, none⟩) (K + 1) cap)).heap.size := by simpa [World.setCell] using hs1
  generalize W1.setCell ⟨b0 + 2, 0, none⟩ (.slice (some ⟨g, 0, none⟩) (K + 1) cap) = W2 at *
  have hg3 := grownBy_putObj' W2 D ob
  have hr : ∀ r, some D = some r → ∃ o : Obj, W2.heap[r]? = some o ∧ o.isCells = false := fun r e => by injection e with e; subst e; exact ⟨_, hK2, rfl⟩
  have ho3 : OwB W2 (b0 + 5) (ds.set K { d with la := true }) ((List.range (K + 1)).map (chk mm xs)) := by
    refine ⟨by rw [List.length_set]; exact ho2.1, fun i e b he hb' => ?_⟩
    rw [List.getElem?_set] at he
    split at he
    · rename_i e1
      subst e1
      rw [if_pos (by omega)] at he
      injection he with he
      subst he
      exact ho2.2 K d b hd hb'
    · exact ho2.2 i e b he hb'
  refine ⟨hK2, cell_kept hv2.cell hg3 hr, (own_weaken hr2 (by omega)).kept hg3 (own_not hr2 hr), (ho3.kept hg3 (fun i e he => ?_)).weaken (by omega), hB2.grown hg3 (by omega) (fun k e => by injection e with e; omega)⟩
  have hi := (List.getElem?_eq_some_iff.1 he).1
  have hb' : ((List.range (K + 1)).map (chk mm xs))[i]? = some (((List.range (K + 1)).map (chk mm xs))[i]'(by have := ho3.1; omega)) := List.getElem?_eq_getElem _
  exact own_not (ho3.2 i e _ he hb').1 hr
theorem made_last {st ssn : Int} {un : Bool} {ds : List Dt} {d : Dt} {K : Nat} (h : Made st ssn un ds) (hd : ds[K]? = some d) : ∀ (i : Nat) (e : Dt), (ds.set K { d with la := true })[i]? = some e → i < K + 1 → e.tsn = 0 ∧ e.st = st ∧ e.ssn = ssn ∧ e.un = un ∧ e.fi = decide (i = 0) ∧ e.la = decide (i + 1 = K + 1) := fun i e he hi => by
  rw [List.getElem?_set] at he
  split at he
  · rename_i e1
    subst e1
    rw [if_pos (List.getElem?_eq_some_iff.1 hd).1] at he
    injection he with he
    subst he
    obtain ⟨a, b, c, f, g, _⟩ := h K d hd
    exact ⟨a, b, c, f, g, by simp⟩
  · rename_i e1
    obtain ⟨a, b, c, f, g, k⟩ := h i e he
    exact ⟨a, b, c, f, g, by rw [k]; symm; exact decide_eq_false (by omega)⟩
theorem nch_pos {mm n : Nat} (hn : 0 < n) : 0 < nch mm n ∧ nch mm n ≤ n := by
  unfold nch
  rw [if_neg (by omega)]
  have : (n - 1) / mm ≤ n - 1 := Nat.div_le_self _ _
  generalize (n - 1) / mm = q at *
  omega
theorem OwB_below {w w' : World} {base : Nat} {ds : List Dt} {bb : List (List Int)} (h : OwB w base ds bb) (hb : Below w.heap.size w w') : OwB w' base ds bb :=
  ⟨h.1, fun i d b hd hb' => let ⟨r1, r2⟩ := h.2 i d b hd hb'; ⟨own_below r1 hb, r2⟩⟩
/-- What a round leaves. -/
theorem body_done {b0 mm : Nat} {xs : List Int} {st ssn : Int} {un : Bool} {w5 W W1 W3 : World} {ob : Obj} {pre : List Nat} {x : Nat} {v v3 : Value} {ds : List Dt} {A2 : Option Addr} {q c2 : Nat} (h5 : w5.heap.size = b0 + 5)
    (hv : Boxed W (b0 + 2) 29 v) (hrow : W.ownsRow (b0 + 5) 38 7 v pre.length (dts ds)) (hOw : OwB W (b0 + 5) ds (pre.map (chk mm xs))) (hMd : Made st ssn un ds) (hAt : At b0 w5 W) (hb1 : Below W.heap.size W W1)
    (hown1 : W1.ownsRow W.heap.size 5 1 (.slice A2 q c2) q (bs (chk mm xs x))) (hbo : BOk (chk mm xs x))
    (hown3 : W3.ownsRow (b0 + 5) 38 7 v3 (pre.length + 1) (dts ds ++ [.int .u32 0, .int .u16 st, .int .u16 ssn, .bool un, .bool ((pre.length : Int) == 0), .bool false, .slice A2 q c2])) (hg3 : (W1.alloc ob).grownBy W3 v.ownBlock) :
    KeepsFrom w5.heap.size W (W3.setCell ⟨b0 + 2, 0, none⟩ v3) ∧ KB (b0 + 5) (b0 + 2) W (W3.setCell ⟨b0 + 2, 0, none⟩ v3) ∧ Inv b0 mm xs st ssn un w5 (pre ++ [x]) (W3.setCell ⟨b0 + 2, 0, none⟩ v3) := by
  have hWs : b0 + 5 ≤ W.heap.size := by have := hAt.1.1; omega
  have hlen : ds.length = pre.length := by have := hOw.1; simpa using this
  -- the blocks that stand
  have hk1 : KeepsOthers W W1 := ⟨hb1.size, fun k o hk _ => (hb1.block k (Array.getElem?_eq_some_iff.1 hk).1).trans hk⟩
  have hrow1 := own_below hrow hb1
  have hk2 : KeepsOthers W (W1.alloc ob) := hk1.trans (KeepsOthers.alloc W1 ob)
  have hrow2 := hrow1.alloc ob
  have hk3 : KeepsOthers W W3 := hk2.trans (KeepsOthers.of_grownBy hg3 fun j o ej hj => by
    obtain ⟨cs, m, hh⟩ := own_block hrow2 ej
    rw [hh] at hj
    injection hj with hj
    rw [← hj]
    rfl)
  have hk4 : KeepsOthers W (W3.setCell ⟨b0 + 2, 0, none⟩ v3) := hk3.trans (KeepsOthers.setCell W3 _ _)
  have hne : ∀ b, b < b0 + 5 → some b ≠ v.ownBlock := fun b hb e => by have := own_base hrow b e.symm; omega
  have hb13 : ∀ b, b < b0 + 5 → W3.heap[b]? = W.heap[b]? := fun b hb =>
    (hg3.block b (by have := hb1.size; simp; omega) (hne b hb)).trans ((Below.heap_alloc W1 ob b (by have := hb1.size; omega)).trans (hb1.block b (by omega)))
  have hkb : KB (b0 + 5) (b0 + 2) W (W3.setCell ⟨b0 + 2, 0, none⟩ v3) := ⟨hk4.size, fun b hb hbl => (Below.heap_setCell W3 _ _ b hbl).trans (hb13 b hb)⟩
  have hv3 : Boxed W3 (b0 + 2) 29 v := (hb13 _ (by omega)).trans hv
  have hgs := grown_set W3 (b0 + 2) 0 v3
  -- the pieces
  let d : Dt := ⟨0, st, ssn, un, ((pre.length : Int) == 0), false, A2, q, c2⟩
  have ho1 : OwB W1 (b0 + 5) (ds ++ [d]) (pre.map (chk mm xs) ++ [chk mm xs x]) := (OwB_below hOw hb1).snoc (d := d) (own_weaken hown1 hWs) hbo
  have ho2 : OwB (W1.alloc ob) (b0 + 5) (ds ++ [d]) (pre.map (chk mm xs) ++ [chk mm xs x]) := ⟨ho1.1, fun i e b he hb => let ⟨r1, r2⟩ := ho1.2 i e b he hb; ⟨r1.alloc ob, r2⟩⟩
  have ho3 := ho2.kept hg3 (fun i e he => ho2.not_row hrow2 (by decide) he)
  have ho4 := ho3.kept hgs (fun i e he => .inr (ho3.not_blk hv3 (by decide) he))
  refine ⟨hk4.from _, hkb, ⟨v3, ds ++ [d], hv3.set v3, ?_, ?_, made_snoc hMd ⟨rfl, rfl, rfl, rfl, ?_, rfl⟩⟩, hAt.1.trans hkb, ?_⟩
  · have := own_set (i := 0) (u := v3) hown3 (g := b0 + 2) (by omega)
    rw [dts_append, List.length_append]
    exact this
  · rw [List.map_append]
    exact ho4
  · rw [hlen]
    show ((pre.length : Int) == 0) = decide (pre.length = 0)
    rw [Bool.eq_iff_iff]
    simp <;> omega
  · have e1 : Below b0 w5 W3 := ⟨hg3.os.trans (hb1.os.trans hAt.2.os), hg3.tape.trans (hb1.tape.trans hAt.2.tape), hg3.output.trans (hb1.output.trans hAt.2.output), Nat.le_trans hAt.2.size hk3.size, fun i hi => (hb13 i (by omega)).trans (hAt.2.block i hi)⟩
    exact e1.setCell (p := ⟨b0 + 2, 0, none⟩) (by simp) v3

set_option maxRecDepth 100000 in
set_option maxHeartbeats 4000000 in
theorem cut_in (st ssn : Int) (o : Bool) (ad : Addr) (N c B mm : Nat) (xs : List Int) (w : World) (hm : 0 < mm) (hm2 : mm ≤ 9223372036854775807) (hN0 : 0 < N) (hN : N ≤ 1048576) (hc : N ≤ c) (hB : B ≤ w.heap.size) (h : Reads w B 1 (some ad) N (bs xs)) (hok : Hid (BOk xs)) :
    CallsIn Fence.wide 3 Try.prog 13 #[.agg #[.int .u16 st, .bool o, .slice (some ad) N c], .int .u16 ssn, .int .i64 mm] w (CutPost st ssn o xs mm w) := by
  obtain ⟨i0, hi0, hz0, hz1, hz2⟩ := info_parts info38
  have hxs := hide (blen_ h)
  have hnz : ((N : Int) == 0) = false := by rw [beq_eq_false_iff_ne]; omega
  have hm1 : (1 : Int) ≤ mm := by omega
  have hlt1 : decide ((mm : Int) < 1) = false := decide_eq_false (by omega)
  refine callsIn_of_wp_marks Try.func13 rfl trivial ?_ rfl
  simp only [Try.ntmps13, List.size_toArray, List.length_cons, List.length_nil, Nat.reduceAdd, Nat.reduceSub, Array.replicate_succ, Array.replicate_zero, List.push_toArray, List.append_toArray, List.nil_append, List.cons_append]
  cases o with
  | true =>
    gi_wp2_with ((refine ⟨trivial, ?_⟩; gi_at_call 24; refine (callsIn_wide.2 (c24 (some ad) N c mm _ hm)).mono ?_; rintro e w' ⟨rfl, rfl⟩))
    have bM := ((((Blk.new w 25 #[.int .u16 st, .bool true, .slice (some ad) N c]).alloc (.cells #[.int .u16 ssn] 22)).alloc (.cells #[.slice none 0 0] 29)).alloc (.cells #[.slice (some ad) N c] 23)).alloc (.cells #[.int .i64 mm] 3)
    have bS := (((Boxed.new (w.alloc (.cells #[.int .u16 st, .bool true, .slice (some ad) N c] 25)) 22 (.int .u16 ssn)).alloc (.cells #[.slice none 0 0] 29)).alloc (.cells #[.slice (some ad) N c] 23)).alloc (.cells #[.int .i64 mm] 3)
    have bL := ((Boxed.new ((w.alloc (.cells #[.int .u16 st, .bool true, .slice (some ad) N c] 25)).alloc (.cells #[.int .u16 ssn] 22)) 29 (.slice none 0 0)).alloc (.cells #[.slice (some ad) N c] 23)).alloc (.cells #[.int .i64 mm] 3)
    have bA := (Boxed.new (((w.alloc (.cells #[.int .u16 st, .bool true, .slice (some ad) N c] 25)).alloc (.cells #[.int .u16 ssn] 22)).alloc (.cells #[.slice none 0 0] 29)) 23 (.slice (some ad) N c)).alloc (.cells #[.int .i64 mm] 3)
    have bN := Boxed.new ((((w.alloc (.cells #[.int .u16 st, .bool true, .slice (some ad) N c] 25)).alloc (.cells #[.int .u16 ssn] 22)).alloc (.cells #[.slice none 0 0] 29)).alloc (.cells #[.slice (some ad) N c] 23)) 3 (.int .i64 mm)
    simp only [World.size_alloc] at bS bL bA bN
    have hB5 : Below w.heap.size w (((((w.alloc (.cells #[.int .u16 st, .bool true, .slice (some ad) N c] 25)).alloc (.cells #[.int .u16 ssn] 22)).alloc (.cells #[.slice none 0 0] 29)).alloc (.cells #[.slice (some ad) N c] 23)).alloc (.cells #[.int .i64 mm] 3)) := (((((Below.refl _ _).alloc (Nat.le_refl _) _).alloc (by simp) _).alloc (by simp; omega) _).alloc (by simp; omega) _).alloc (by simp; omega) _
    have h5 : (((((w.alloc (.cells #[.int .u16 st, .bool true, .slice (some ad) N c] 25)).alloc (.cells #[.int .u16 ssn] 22)).alloc (.cells #[.slice none 0 0] 29)).alloc (.cells #[.slice (some ad) N c] 23)).alloc (.cells #[.int .i64 mm] 3)).heap.size = w.heap.size + 5 := by simp
    generalize (((((w.alloc (.cells #[.int .u16 st, .bool true, .slice (some ad) N c] 25)).alloc (.cells #[.int .u16 ssn] 22)).alloc (.cells #[.slice none 0 0] 29)).alloc (.cells #[.slice (some ad) N c] 23)).alloc (.cells #[.int .i64 mm] 3)) = w5 at *
    refine' wpIn_rangeFunc_ownG (F := Fence.wide) (n := 3) rfl (by omega) (gf := 28) (lb := #[.pointer (some ⟨w.heap.size + 3, 0, none⟩), .pointer (some ⟨w.heap.size + 4, 0, none⟩)]) rfl trivial (enters_of Try.func28 (by kernel_rfl) rfl)
      (stops 2 (by omega) w.heap.size ad N c mm hm hm2 hN hc xs (unhide hxs) w5 h5 bA bN) kb_t (kb_b (by omega)) (Below.refl _ _) (fun _ => rfl)
      (Inv w.heap.size mm xs st ssn false w5) (fun _ _ _ => False) (inv_own _ _ _ _ _ _ _ h5) (fun _ _ _ _ _ hs _ _ => hs)
      ⟨⟨_, [], bL, by simpa [dts] using own_none w5 (w.heap.size + 5) 38 7, OwB.nil _ _, fun i d hi => by simp at hi⟩, KB.refl _ _ _, Below.refl _ _⟩ _ ?assign ?body ?done ?stop
    case assign =>
      intro l x W K hK
      gi_wp2
      exact hK
    case body =>
      rintro l pre x W ⟨⟨v, ds, hv, hrow, hOw, hMd⟩, hKB, hBW⟩ hlt
      obtain ⟨A1, c1, rfl, hle1, hnil1⟩ := own_slice hrow
      have hM : Blk W w.heap.size 25 #[.int .u16 st, .bool true, .slice (some ad) N c] := (hKB.2 _ (by omega) (by omega)).trans bM
      have hS : Boxed W (w.heap.size + 1) 22 (.int .u16 ssn) := (hKB.2 _ (by omega) (by omega)).trans bS
      have hk1 : W.cell? ⟨w.heap.size + 1 + 1, 0, none⟩ = some (.slice A1 pre.length c1) := hv.cell
      have hk2 := hM.cell 0
      have hk3 := hM.cell 1
      have hk4 := hS.cell
      have hp : pre.length < nch mm N := hlt
      have hpN := (nch_pos (mm := mm) hN0).2
      have hWs : w.heap.size + 5 ≤ W.heap.size := by have := hKB.1; omega
      have hrd := chk_reads (h.keep (w' := W) (fun p hp => (hB5.trans hBW).cell (by omega))) (mm := mm) x
      have hlq : (chk mm xs x).length ≤ 1048576 := by have hlx := chk_length mm xs x; have hxl := unhide hxs; omega
      gi_wp2
      refine wpIn_regionZ l _ (fun w' => w'.cell? ⟨w.heap.size + 1 + 1, 0, none⟩ = some (.slice A1 pre.length c1) ∧ w'.cell? ⟨w.heap.size, 0, none⟩ = some (.int .u16 st) ∧ w'.cell? ⟨w.heap.size, 1, none⟩ = some (.bool true) ∧ w'.cell? ⟨w.heap.size + 1, 0, none⟩ = some (.int .u16 ssn)) 15 (by kernel_rfl) (by kernel_rfl) (by rintro ⟨_, _, h⟩; exact h) ⟨hk1, hk2, hk3, hk4⟩ (fun hHeld => ?_)
      refine anyZ_take (i := 0) (oi := _) (v := ?_) [14, 15] rfl (by kernel_rfl) (fun _ _ _ h => h) (Or.inl ⟨by rfl, ?_⟩) (by assumption) ?_
      rotate_left
      · intro w' hSw
        (try dsimp only at hSw)
        go_simp
        with_reducible rfl
      (try simp only [Act.put, List.setIfInBounds_toArray, List.set_cons_zero, List.set_cons_succ])
      refine anyZ_take (i := 1) (oi := _) (v := ?_) [2, 12, 13, 14, 15] rfl (by kernel_rfl) (fun _ _ _ h => h) (Or.inl ⟨by rfl, ?_⟩) (by assumption) ?_
      rotate_left
      · intro w' hSw
        (try dsimp only at hSw)
        go_simp
        with_reducible rfl
      (try simp only [Act.put, List.setIfInBounds_toArray, List.set_cons_zero, List.set_cons_succ])
      refine anyZ_take (i := 2) (oi := _) (v := ?_) [12, 13, 14, 15] rfl (by kernel_rfl) (fun _ _ _ h => h) (Or.inl ⟨by rfl, ?_⟩) (by assumption) ?_
      rotate_left
      · intro w' hSw
        (try dsimp only at hSw)
        go_simp
        with_reducible rfl
      (try simp only [Act.put, List.setIfInBounds_toArray, List.set_cons_zero, List.set_cons_succ])
      refine anyZ_take (i := 3) (oi := _) (v := ?_) [12, 13, 14, 15] rfl (by kernel_rfl) (fun _ _ _ h => h) (Or.inl ⟨by rfl, ?_⟩) (by assumption) ?_
      rotate_left
      · intro w' hSw
        (try dsimp only at hSw)
        go_simp
        with_reducible rfl
      (try simp only [Act.put, List.setIfInBounds_toArray, List.set_cons_zero, List.set_cons_succ])
      refine anyZ_take (i := 4) (oi := _) (v := ?_) [5, 6, 12, 13, 14, 15] rfl (by kernel_rfl) (fun _ _ _ h => h) (Or.inl ⟨by rfl, ?_⟩) (by assumption) ?_
      rotate_left
      · intro w' hSw
        (try dsimp only at hSw)
        go_simp
        with_reducible rfl
      (try simp only [Act.put, List.setIfInBounds_toArray, List.set_cons_zero, List.set_cons_succ])
      refine anyZ_take (i := 5) (oi := _) (v := ?_) [6, 12, 13, 14, 15] rfl (by kernel_rfl) (fun _ _ _ h => h) (Or.inl ⟨by rfl, ?_⟩) (by assumption) ?_
      rotate_left
      · intro w' hSw
        (try dsimp only at hSw)
        go_simp
        with_reducible rfl
      (try simp only [Act.put, List.setIfInBounds_toArray, List.set_cons_zero, List.set_cons_succ])
      refine anyZ_take (i := 6) (oi := _) (v := ?_) [12, 13, 14, 15] rfl (by kernel_rfl) (fun _ _ _ h => h) (Or.inl ⟨by rfl, ?_⟩) (by assumption) ?_
      rotate_left
      · intro w' hSw
        (try dsimp only at hSw)
        go_simp
        with_reducible rfl
      (try simp only [Act.put, List.setIfInBounds_toArray, List.set_cons_zero, List.set_cons_succ])
      refine anyZ_take (i := 7) (oi := _) (v := ?_) [8, 9, 12, 13, 14, 15] rfl (by kernel_rfl) (fun _ _ _ h => h) (Or.inl ⟨by rfl, ?_⟩) (by assumption) ?_
      rotate_left
      · intro w' hSw
        (try dsimp only at hSw)
        go_simp
        with_reducible rfl
      (try simp only [Act.put, List.setIfInBounds_toArray, List.set_cons_zero, List.set_cons_succ])
      refine anyZ_take (i := 8) (oi := _) (v := ?_) [9, 12, 13, 14, 15] rfl (by kernel_rfl) (fun _ _ _ h => h) (Or.inl ⟨by rfl, ?_⟩) (by assumption) ?_
      rotate_left
      · intro w' hSw
        (try dsimp only at hSw)
        go_simp
        with_reducible rfl
      (try simp only [Act.put, List.setIfInBounds_toArray, List.set_cons_zero, List.set_cons_succ])
      refine anyZ_take (i := 9) (oi := _) (v := ?_) [12, 13, 14, 15] rfl (by kernel_rfl) (fun _ _ _ h => h) (Or.inl ⟨by rfl, ?_⟩) (by assumption) ?_
      rotate_left
      · intro w' hSw
        (try dsimp only at hSw)
        go_simp
        with_reducible rfl
      (try simp only [Act.put, List.setIfInBounds_toArray, List.set_cons_zero, List.set_cons_succ])
      refine anyZ_take (i := 10) (oi := _) (v := ?_) [11, 12, 13, 14, 15] rfl (by kernel_rfl) (fun _ _ _ h => h) (Or.inl ⟨by rfl, ?_⟩) (by assumption) ?_
      rotate_left
      · intro w' hSw
        (try dsimp only at hSw)
        go_simp
        with_reducible rfl
      (try simp only [Act.put, List.setIfInBounds_toArray, List.set_cons_zero, List.set_cons_succ])
      refine anyZ_one (i := 11) (o := _) rfl (by kernel_rfl) (fun K hK => ?_)
      go_simp
      go_at_call 25
      refine (c25 (some (ad.add (x * mm))) (chk mm xs x).length (chk mm xs x).length B (chk mm xs x) _ (by omega) (by show B ≤ W.heap.size; omega) hrd.drew (fun e => by cases e)).mono ?_
      rintro e W1 ⟨v1, rfl, hown1, hb1⟩
      have hb1 : Below W.heap.size W W1 := ⟨hb1.os, hb1.tape, hb1.output, hb1.size, hb1.block⟩
      obtain ⟨A2, c2, rfl, hle2, hnil2⟩ := own_slice hown1
      have hs1 := hb1.size
      refine hK.out _ _ (fun _ => ⟨(hb1.cell (p := ⟨w.heap.size + 1 + 1, 0, none⟩) (by simp; omega)).trans hk1, (hb1.cell (p := ⟨w.heap.size, 0, none⟩) (by simp; omega)).trans hk2, (hb1.cell (p := ⟨w.heap.size, 1, none⟩) (by simp; omega)).trans hk3, (hb1.cell (p := ⟨w.heap.size + 1, 0, none⟩) (by simp; omega)).trans hk4⟩) (fun hS1 => ?_)
      have hSx := hS1 (by decide)
      clear hS1 hK K hHeld
      (try simp only [Act.put, List.setIfInBounds_toArray, List.set_cons_zero, List.set_cons_succ])
      refine anyZ_take (i := 12) (oi := _) (v := ?_) [13, 14, 15] rfl (by kernel_rfl) (fun _ _ _ h => h) (Or.inl ⟨by rfl, ?_⟩) (by assumption) ?_
      rotate_left
      · intro w' hSw
        (try dsimp only at hSw)
        go_simp
        with_reducible rfl
      (try simp only [Act.put, List.setIfInBounds_toArray, List.set_cons_zero, List.set_cons_succ])
      refine anyZ_one (i := 13) (o := _) rfl (by kernel_rfl) (fun K hK => ?_)
      go_simp
      refine hK.out _ _ (fun _ => ⟨(World.cell?_alloc_lt W1 _ _ (by simp; omega)).trans hSx.1, (World.cell?_alloc_lt W1 _ _ (by simp; omega)).trans hSx.2.1, (World.cell?_alloc_lt W1 _ _ (by simp; omega)).trans hSx.2.2.1, (World.cell?_alloc_lt W1 _ _ (by simp; omega)).trans hSx.2.2.2⟩) (fun hS1 => ?_)
      have hSy := hS1 (by decide)
      clear hS1 hK K
      (try simp only [Act.put, List.setIfInBounds_toArray, List.set_cons_zero, List.set_cons_succ])
      refine anyZ_one (i := 14) (o := _) rfl (by kernel_rfl) (fun K hK => ?_)
      refine step_append_any _ rfl (.tmp 32) (.tmp 45) _ rfl (w.heap.size + 5) 38 i0 _ 7 40 Try.underlying29 hi0 hz0 hz1 hz2 rfl (by omega) (.slice A1 pre.length c1) pre.length (dts ds) rfl ((own_below hrow hb1).alloc _) (W1.heap.size + 1) (some ⟨W1.heap.size, 0, none⟩) 1 1 [.int .u32 0, .int .u16 st, .int .u16 ssn, .bool false, .bool ((pre.length : Int) == 0), .bool false, .slice A2 (chk mm xs x).length c2] rfl (reads_new W1 #[.int .u32 0, .int .u16 st, .int .u16 ssn, .bool false, .bool ((pre.length : Int) == 0), .bool false, .slice A2 (chk mm xs x).length c2] 38 7 1 rfl) (by intro u hu; simp at hu; rcases hu with rfl | rfl | rfl | rfl | rfl | rfl | rfl <;> rfl) (by simp only [maxLen]; omega) (by omega) (by simp; omega) ?_
      intro v3 W3 hown3 hg3 hat3
      obtain ⟨A3, c3, rfl, hle3, hnil3⟩ := own_slice hown3
      have hb3 : ∀ b i, b < w.heap.size + 5 → W3.cell? ⟨b, i, none⟩ = W1.cell? ⟨b, i, none⟩ := fun b i hb => (World.cell?_of_block (hg3.block b (by simp; omega) (own_ne hrow hb))).trans (World.cell?_alloc_lt W1 _ _ (by simp; omega))
      have hf3 : W3.frozen? ⟨w.heap.size + 1 + 1, 0, none⟩ = false := (((hv.kept (row := none) ⟨hb1.os, hb1.tape, hb1.output, hb1.size, fun i hi _ => hb1.block i hi⟩ (by simp)).alloc _).kept hg3 (own_ne hrow (by omega))).frozen
      refine hK.out _ _ (fun _ => ⟨(hb3 _ _ (by omega)).trans hSx.1, (hb3 _ _ (by omega)).trans hSx.2.1, (hb3 _ _ (by omega)).trans hSx.2.2.1, (hb3 _ _ (by omega)).trans hSx.2.2.2⟩) (fun hS1 => ?_)
      have hSz := hS1 (by decide)
      have hsz1 := hSz.1
      clear hS1 hK K
      (try simp only [Act.put, List.setIfInBounds_toArray, List.set_cons_zero, List.set_cons_succ])
      refine anyZ_one (i := 15) (o := _) rfl (by kernel_rfl) (fun K hK => ?_)
      have BD := hide (body_done h5 hv hrow hOw hMd ⟨hKB, hBW⟩ hb1 hown1 (fun y hy => unhide hok y (List.mem_of_mem_drop (List.mem_of_mem_take hy))) hown3 hg3)
      clear hg3 hown3 hb3 hSx hSy hSz
      go_simp
      refine hK.out _ _ (fun h => absurd rfl h) (fun _ => ?_)
      exact anyZ_done (by kernel_rfl) (unhide BD)
    case done =>
      rintro D ys W hD rfl ⟨⟨v, ds, hv, hrow, hOw, hMd⟩, hKB, hBW⟩ hK
      have hxl := unhide hxs
      obtain ⟨hk0, hkN⟩ := nch_pos (mm := mm) hN0
      rw [List.length_range] at hrow
      obtain ⟨K, hKK⟩ : ∃ K, nch mm N = K + 1 := ⟨nch mm N - 1, by omega⟩
      rw [hKK] at hrow hOw
      obtain ⟨g, cap, rfl, hgb, hgl⟩ := hrow.form (by omega)
      have hlen : ds.length = K + 1 := by have := hrow.1; rw [dts_length] at this; omega
      have hd : ds[K]? = some (ds[K]'(by omega)) := List.getElem?_eq_getElem _
      generalize (ds[K]'(by omega)) = d at hd
      have hc1 : W.cell? ⟨w.heap.size + 1 + 1, 0, none⟩ = some (.slice (some ⟨g, 0, none⟩) (K + 1) cap) := hv.cell
      have hf1 : W.frozen? ⟨w.heap.size + 1 + 1, 0, none⟩ = false := hv.frozen
      have hc2 := own_dt hrow hd 5 _ rfl
      have hf2 : W.frozen? ⟨g, K * 7 + 5, none⟩ = false := hrow.frozenAt _
      have hla := (hMd K d hd).2.2.2.2.2
      rw [hla] at hc2
      have hgne : g ≠ w.heap.size + 1 + 1 := by omega
      have DN := hide (cut_done (ob := .deferred none) rfl hv hrow hOw hMd hd (hB5.trans hBW) hK (by omega) (by have := hKB.1; omega))
      have HM := hide (made_last hMd hd)
      have hKle : K + 1 ≤ 1048576 := by omega
      have HL := hide (And.intro hxl hKK)
      have HD := hide (And.intro hlen hd)
      clear hOw hMd hrow hd hBW hKB hlen hla hxl hKK
      gi_wp2
      obtain ⟨d1, d2, d3, d4, d5⟩ := unhide DN
      refine ⟨by simp, .inl ⟨_, _, rfl, run_takeDeferred d1, ?_⟩⟩
      refine ⟨.tuple #[.slice (some ⟨g, 0, none⟩) (K + 1) cap, .int .i64 0], ?_, ?_⟩
      · simp [results, Try.results13, go_sem, show World.cell? _ ⟨w.heap.size + 1 + 1, 0, none⟩ = _ from d2]
      · obtain ⟨hxl, hKK⟩ := unhide HL
        obtain ⟨hlen, hd⟩ := unhide HD
        unfold CutPost
        rw [hxl, hKK]
        refine ⟨some ⟨g, 0, none⟩, cap, _, rfl, by rw [List.length_set]; exact hlen, d3, d4, fun i e he => ?_, d5⟩
        have h6 := unhide HM i e he (by have := (List.getElem?_eq_some_iff.1 he).1; rw [List.length_set] at this; omega)
        simpa using h6
    case stop =>
      rintro D c pre W _ _ h _
      exact h.elim
  | false =>
    gi_wp2_with ((refine ⟨trivial, ?_⟩; gi_at_call 24; refine (callsIn_wide.2 (c24 (some ad) N c mm _ hm)).mono ?_; rintro e w' ⟨rfl, rfl⟩))
    have bM := ((((Blk.new w 25 #[.int .u16 st, .bool false, .slice (some ad) N c]).alloc (.cells #[.int .u16 0] 22)).alloc (.cells #[.slice none 0 0] 29)).alloc (.cells #[.slice (some ad) N c] 23)).alloc (.cells #[.int .i64 mm] 3)
    have bS := (((Boxed.new (w.alloc (.cells #[.int .u16 st, .bool false, .slice (some ad) N c] 25)) 22 (.int .u16 0)).alloc (.cells #[.slice none 0 0] 29)).alloc (.cells #[.slice (some ad) N c] 23)).alloc (.cells #[.int .i64 mm] 3)
    have bL := ((Boxed.new ((w.alloc (.cells #[.int .u16 st, .bool false, .slice (some ad) N c] 25)).alloc (.cells #[.int .u16 0] 22)) 29 (.slice none 0 0)).alloc (.cells #[.slice (some ad) N c] 23)).alloc (.cells #[.int .i64 mm] 3)
    have bA := (Boxed.new (((w.alloc (.cells #[.int .u16 st, .bool false, .slice (some ad) N c] 25)).alloc (.cells #[.int .u16 0] 22)).alloc (.cells #[.slice none 0 0] 29)) 23 (.slice (some ad) N c)).alloc (.cells #[.int .i64 mm] 3)
    have bN := Boxed.new ((((w.alloc (.cells #[.int .u16 st, .bool false, .slice (some ad) N c] 25)).alloc (.cells #[.int .u16 0] 22)).alloc (.cells #[.slice none 0 0] 29)).alloc (.cells #[.slice (some ad) N c] 23)) 3 (.int .i64 mm)
    simp only [World.size_alloc] at bS bL bA bN
    have hB5 : Below w.heap.size w (((((w.alloc (.cells #[.int .u16 st, .bool false, .slice (some ad) N c] 25)).alloc (.cells #[.int .u16 0] 22)).alloc (.cells #[.slice none 0 0] 29)).alloc (.cells #[.slice (some ad) N c] 23)).alloc (.cells #[.int .i64 mm] 3)) := (((((Below.refl _ _).alloc (Nat.le_refl _) _).alloc (by simp) _).alloc (by simp; omega) _).alloc (by simp; omega) _).alloc (by simp; omega) _
    have h5 : (((((w.alloc (.cells #[.int .u16 st, .bool false, .slice (some ad) N c] 25)).alloc (.cells #[.int .u16 0] 22)).alloc (.cells #[.slice none 0 0] 29)).alloc (.cells #[.slice (some ad) N c] 23)).alloc (.cells #[.int .i64 mm] 3)).heap.size = w.heap.size + 5 := by simp
    generalize (((((w.alloc (.cells #[.int .u16 st, .bool false, .slice (some ad) N c] 25)).alloc (.cells #[.int .u16 0] 22)).alloc (.cells #[.slice none 0 0] 29)).alloc (.cells #[.slice (some ad) N c] 23)).alloc (.cells #[.int .i64 mm] 3)) = w5 at *
    refine' wpIn_rangeFunc_ownG (F := Fence.wide) (n := 3) rfl (by omega) (gf := 28) (lb := #[.pointer (some ⟨w.heap.size + 3, 0, none⟩), .pointer (some ⟨w.heap.size + 4, 0, none⟩)]) rfl trivial (enters_of Try.func28 (by kernel_rfl) rfl)
      (stops 2 (by omega) w.heap.size ad N c mm hm hm2 hN hc xs (unhide hxs) w5 h5 bA bN) kb_t (kb_b (by omega)) (Below.refl _ _) (fun _ => rfl)
      (Inv w.heap.size mm xs st 0 true w5) (fun _ _ _ => False) (inv_own _ _ _ _ _ _ _ h5) (fun _ _ _ _ _ hs _ _ => hs)
      ⟨⟨_, [], bL, by simpa [dts] using own_none w5 (w.heap.size + 5) 38 7, OwB.nil _ _, fun i d hi => by simp at hi⟩, KB.refl _ _ _, Below.refl _ _⟩ _ ?assign ?body ?done ?stop
    case assign =>
      intro l x W K hK
      gi_wp2
      exact hK
    case body =>
      rintro l pre x W ⟨⟨v, ds, hv, hrow, hOw, hMd⟩, hKB, hBW⟩ hlt
      obtain ⟨A1, c1, rfl, hle1, hnil1⟩ := own_slice hrow
      have hM : Blk W w.heap.size 25 #[.int .u16 st, .bool false, .slice (some ad) N c] := (hKB.2 _ (by omega) (by omega)).trans bM
      have hS : Boxed W (w.heap.size + 1) 22 (.int .u16 0) := (hKB.2 _ (by omega) (by omega)).trans bS
      have hk1 : W.cell? ⟨w.heap.size + 1 + 1, 0, none⟩ = some (.slice A1 pre.length c1) := hv.cell
      have hk2 := hM.cell 0
      have hk3 := hM.cell 1
      have hk4 := hS.cell
      have hp : pre.length < nch mm N := hlt
      have hpN := (nch_pos (mm := mm) hN0).2
      have hWs : w.heap.size + 5 ≤ W.heap.size := by have := hKB.1; omega
      have hrd := chk_reads (h.keep (w' := W) (fun p hp => (hB5.trans hBW).cell (by omega))) (mm := mm) x
      have hlq : (chk mm xs x).length ≤ 1048576 := by have hlx := chk_length mm xs x; have hxl := unhide hxs; omega
      gi_wp2
      refine wpIn_regionZ l _ (fun w' => w'.cell? ⟨w.heap.size + 1 + 1, 0, none⟩ = some (.slice A1 pre.length c1) ∧ w'.cell? ⟨w.heap.size, 0, none⟩ = some (.int .u16 st) ∧ w'.cell? ⟨w.heap.size, 1, none⟩ = some (.bool false) ∧ w'.cell? ⟨w.heap.size + 1, 0, none⟩ = some (.int .u16 0)) 15 (by kernel_rfl) (by kernel_rfl) (by rintro ⟨_, _, h⟩; exact h) ⟨hk1, hk2, hk3, hk4⟩ (fun hHeld => ?_)
      refine anyZ_take (i := 0) (oi := _) (v := ?_) [14, 15] rfl (by kernel_rfl) (fun _ _ _ h => h) (Or.inl ⟨by rfl, ?_⟩) (by assumption) ?_
      rotate_left
      · intro w' hSw
        (try dsimp only at hSw)
        go_simp
        with_reducible rfl
      (try simp only [Act.put, List.setIfInBounds_toArray, List.set_cons_zero, List.set_cons_succ])
      refine anyZ_take (i := 1) (oi := _) (v := ?_) [2, 12, 13, 14, 15] rfl (by kernel_rfl) (fun _ _ _ h => h) (Or.inl ⟨by rfl, ?_⟩) (by assumption) ?_
      rotate_left
      · intro w' hSw
        (try dsimp only at hSw)
        go_simp
        with_reducible rfl
      (try simp only [Act.put, List.setIfInBounds_toArray, List.set_cons_zero, List.set_cons_succ])
      refine anyZ_take (i := 2) (oi := _) (v := ?_) [12, 13, 14, 15] rfl (by kernel_rfl) (fun _ _ _ h => h) (Or.inl ⟨by rfl, ?_⟩) (by assumption) ?_
      rotate_left
      · intro w' hSw
        (try dsimp only at hSw)
        go_simp
        with_reducible rfl
      (try simp only [Act.put, List.setIfInBounds_toArray, List.set_cons_zero, List.set_cons_succ])
      refine anyZ_take (i := 3) (oi := _) (v := ?_) [12, 13, 14, 15] rfl (by kernel_rfl) (fun _ _ _ h => h) (Or.inl ⟨by rfl, ?_⟩) (by assumption) ?_
      rotate_left
      · intro w' hSw
        (try dsimp only at hSw)
        go_simp
        with_reducible rfl
      (try simp only [Act.put, List.setIfInBounds_toArray, List.set_cons_zero, List.set_cons_succ])
      refine anyZ_take (i := 4) (oi := _) (v := ?_) [5, 6, 12, 13, 14, 15] rfl (by kernel_rfl) (fun _ _ _ h => h) (Or.inl ⟨by rfl, ?_⟩) (by assumption) ?_
      rotate_left
      · intro w' hSw
        (try dsimp only at hSw)
        go_simp
        with_reducible rfl
      (try simp only [Act.put, List.setIfInBounds_toArray, List.set_cons_zero, List.set_cons_succ])
      refine anyZ_take (i := 5) (oi := _) (v := ?_) [6, 12, 13, 14, 15] rfl (by kernel_rfl) (fun _ _ _ h => h) (Or.inl ⟨by rfl, ?_⟩) (by assumption) ?_
      rotate_left
      · intro w' hSw
        (try dsimp only at hSw)
        go_simp
        with_reducible rfl
      (try simp only [Act.put, List.setIfInBounds_toArray, List.set_cons_zero, List.set_cons_succ])
      refine anyZ_take (i := 6) (oi := _) (v := ?_) [12, 13, 14, 15] rfl (by kernel_rfl) (fun _ _ _ h => h) (Or.inl ⟨by rfl, ?_⟩) (by assumption) ?_
      rotate_left
      · intro w' hSw
        (try dsimp only at hSw)
        go_simp
        with_reducible rfl
      (try simp only [Act.put, List.setIfInBounds_toArray, List.set_cons_zero, List.set_cons_succ])
      refine anyZ_take (i := 7) (oi := _) (v := ?_) [8, 9, 12, 13, 14, 15] rfl (by kernel_rfl) (fun _ _ _ h => h) (Or.inl ⟨by rfl, ?_⟩) (by assumption) ?_
      rotate_left
      · intro w' hSw
        (try dsimp only at hSw)
        go_simp
        with_reducible rfl
      (try simp only [Act.put, List.setIfInBounds_toArray, List.set_cons_zero, List.set_cons_succ])
      refine anyZ_take (i := 8) (oi := _) (v := ?_) [9, 12, 13, 14, 15] rfl (by kernel_rfl) (fun _ _ _ h => h) (Or.inl ⟨by rfl, ?_⟩) (by assumption) ?_
      rotate_left
      · intro w' hSw
        (try dsimp only at hSw)
        go_simp
        with_reducible rfl
      (try simp only [Act.put, List.setIfInBounds_toArray, List.set_cons_zero, List.set_cons_succ])
      refine anyZ_take (i := 9) (oi := _) (v := ?_) [12, 13, 14, 15] rfl (by kernel_rfl) (fun _ _ _ h => h) (Or.inl ⟨by rfl, ?_⟩) (by assumption) ?_
      rotate_left
      · intro w' hSw
        (try dsimp only at hSw)
        go_simp
        with_reducible rfl
      (try simp only [Act.put, List.setIfInBounds_toArray, List.set_cons_zero, List.set_cons_succ])
      refine anyZ_take (i := 10) (oi := _) (v := ?_) [11, 12, 13, 14, 15] rfl (by kernel_rfl) (fun _ _ _ h => h) (Or.inl ⟨by rfl, ?_⟩) (by assumption) ?_
      rotate_left
      · intro w' hSw
        (try dsimp only at hSw)
        go_simp
        with_reducible rfl
      (try simp only [Act.put, List.setIfInBounds_toArray, List.set_cons_zero, List.set_cons_succ])
      refine anyZ_one (i := 11) (o := _) rfl (by kernel_rfl) (fun K hK => ?_)
      go_simp
      go_at_call 25
      refine (c25 (some (ad.add (x * mm))) (chk mm xs x).length (chk mm xs x).length B (chk mm xs x) _ (by omega) (by show B ≤ W.heap.size; omega) hrd.drew (fun e => by cases e)).mono ?_
      rintro e W1 ⟨v1, rfl, hown1, hb1⟩
      have hb1 : Below W.heap.size W W1 := ⟨hb1.os, hb1.tape, hb1.output, hb1.size, hb1.block⟩
      obtain ⟨A2, c2, rfl, hle2, hnil2⟩ := own_slice hown1
      have hs1 := hb1.size
      refine hK.out _ _ (fun _ => ⟨(hb1.cell (p := ⟨w.heap.size + 1 + 1, 0, none⟩) (by simp; omega)).trans hk1, (hb1.cell (p := ⟨w.heap.size, 0, none⟩) (by simp; omega)).trans hk2, (hb1.cell (p := ⟨w.heap.size, 1, none⟩) (by simp; omega)).trans hk3, (hb1.cell (p := ⟨w.heap.size + 1, 0, none⟩) (by simp; omega)).trans hk4⟩) (fun hS1 => ?_)
      have hSx := hS1 (by decide)
      clear hS1 hK K hHeld
      (try simp only [Act.put, List.setIfInBounds_toArray, List.set_cons_zero, List.set_cons_succ])
      refine anyZ_take (i := 12) (oi := _) (v := ?_) [13, 14, 15] rfl (by kernel_rfl) (fun _ _ _ h => h) (Or.inl ⟨by rfl, ?_⟩) (by assumption) ?_
      rotate_left
      · intro w' hSw
        (try dsimp only at hSw)
        go_simp
        with_reducible rfl
      (try simp only [Act.put, List.setIfInBounds_toArray, List.set_cons_zero, List.set_cons_succ])
      refine anyZ_one (i := 13) (o := _) rfl (by kernel_rfl) (fun K hK => ?_)
      go_simp
      refine hK.out _ _ (fun _ => ⟨(World.cell?_alloc_lt W1 _ _ (by simp; omega)).trans hSx.1, (World.cell?_alloc_lt W1 _ _ (by simp; omega)).trans hSx.2.1, (World.cell?_alloc_lt W1 _ _ (by simp; omega)).trans hSx.2.2.1, (World.cell?_alloc_lt W1 _ _ (by simp; omega)).trans hSx.2.2.2⟩) (fun hS1 => ?_)
      have hSy := hS1 (by decide)
      clear hS1 hK K
      (try simp only [Act.put, List.setIfInBounds_toArray, List.set_cons_zero, List.set_cons_succ])
      refine anyZ_one (i := 14) (o := _) rfl (by kernel_rfl) (fun K hK => ?_)
      refine step_append_any _ rfl (.tmp 32) (.tmp 45) _ rfl (w.heap.size + 5) 38 i0 _ 7 40 Try.underlying29 hi0 hz0 hz1 hz2 rfl (by omega) (.slice A1 pre.length c1) pre.length (dts ds) rfl ((own_below hrow hb1).alloc _) (W1.heap.size + 1) (some ⟨W1.heap.size, 0, none⟩) 1 1 [.int .u32 0, .int .u16 st, .int .u16 0, .bool true, .bool ((pre.length : Int) == 0), .bool false, .slice A2 (chk mm xs x).length c2] rfl (reads_new W1 #[.int .u32 0, .int .u16 st, .int .u16 0, .bool true, .bool ((pre.length : Int) == 0), .bool false, .slice A2 (chk mm xs x).length c2] 38 7 1 rfl) (by intro u hu; simp at hu; rcases hu with rfl | rfl | rfl | rfl | rfl | rfl | rfl <;> rfl) (by simp only [maxLen]; omega) (by omega) (by simp; omega) ?_
      intro v3 W3 hown3 hg3 hat3
      obtain ⟨A3, c3, rfl, hle3, hnil3⟩ := own_slice hown3
      have hb3 : ∀ b i, b < w.heap.size + 5 → W3.cell? ⟨b, i, none⟩ = W1.cell? ⟨b, i, none⟩ := fun b i hb => (World.cell?_of_block (hg3.block b (by simp; omega) (own_ne hrow hb))).trans (World.cell?_alloc_lt W1 _ _ (by simp; omega))
      have hf3 : W3.frozen? ⟨w.heap.size + 1 + 1, 0, none⟩ = false := (((hv.kept (row := none) ⟨hb1.os, hb1.tape, hb1.output, hb1.size, fun i hi _ => hb1.block i hi⟩ (by simp)).alloc _).kept hg3 (own_ne hrow (by omega))).frozen
      refine hK.out _ _ (fun _ => ⟨(hb3 _ _ (by omega)).trans hSx.1, (hb3 _ _ (by omega)).trans hSx.2.1, (hb3 _ _ (by omega)).trans hSx.2.2.1, (hb3 _ _ (by omega)).trans hSx.2.2.2⟩) (fun hS1 => ?_)
      have hSz := hS1 (by decide)
      have hsz1 := hSz.1
      clear hS1 hK K
      (try simp only [Act.put, List.setIfInBounds_toArray, List.set_cons_zero, List.set_cons_succ])
      refine anyZ_one (i := 15) (o := _) rfl (by kernel_rfl) (fun K hK => ?_)
      have BD := hide (body_done h5 hv hrow hOw hMd ⟨hKB, hBW⟩ hb1 hown1 (fun y hy => unhide hok y (List.mem_of_mem_drop (List.mem_of_mem_take hy))) hown3 hg3)
      clear hg3 hown3 hb3 hSx hSy hSz
      go_simp
      refine hK.out _ _ (fun h => absurd rfl h) (fun _ => ?_)
      exact anyZ_done (by kernel_rfl) (unhide BD)
    case done =>
      rintro D ys W hD rfl ⟨⟨v, ds, hv, hrow, hOw, hMd⟩, hKB, hBW⟩ hK
      have hxl := unhide hxs
      obtain ⟨hk0, hkN⟩ := nch_pos (mm := mm) hN0
      rw [List.length_range] at hrow
      obtain ⟨K, hKK⟩ : ∃ K, nch mm N = K + 1 := ⟨nch mm N - 1, by omega⟩
      rw [hKK] at hrow hOw
      obtain ⟨g, cap, rfl, hgb, hgl⟩ := hrow.form (by omega)
      have hlen : ds.length = K + 1 := by have := hrow.1; rw [dts_length] at this; omega
      have hd : ds[K]? = some (ds[K]'(by omega)) := List.getElem?_eq_getElem _
      generalize (ds[K]'(by omega)) = d at hd
      have hc1 : W.cell? ⟨w.heap.size + 1 + 1, 0, none⟩ = some (.slice (some ⟨g, 0, none⟩) (K + 1) cap) := hv.cell
      have hf1 : W.frozen? ⟨w.heap.size + 1 + 1, 0, none⟩ = false := hv.frozen
      have hc2 := own_dt hrow hd 5 _ rfl
      have hf2 : W.frozen? ⟨g, K * 7 + 5, none⟩ = false := hrow.frozenAt _
      have hla := (hMd K d hd).2.2.2.2.2
      rw [hla] at hc2
      have hgne : g ≠ w.heap.size + 1 + 1 := by omega
      have DN := hide (cut_done (ob := .deferred none) rfl hv hrow hOw hMd hd (hB5.trans hBW) hK (by omega) (by have := hKB.1; omega))
      have HM := hide (made_last hMd hd)
      have hKle : K + 1 ≤ 1048576 := by omega
      have HL := hide (And.intro hxl hKK)
      have HD := hide (And.intro hlen hd)
      clear hOw hMd hrow hd hBW hKB hlen hla hxl hKK
      gi_wp2
      obtain ⟨d1, d2, d3, d4, d5⟩ := unhide DN
      refine ⟨by simp, .inl ⟨_, _, rfl, run_takeDeferred d1, ?_⟩⟩
      refine ⟨.tuple #[.slice (some ⟨g, 0, none⟩) (K + 1) cap, .int .i64 0], ?_, ?_⟩
      · simp [results, Try.results13, go_sem, show World.cell? _ ⟨w.heap.size + 1 + 1, 0, none⟩ = _ from d2]
      · obtain ⟨hxl, hKK⟩ := unhide HL
        obtain ⟨hlen, hd⟩ := unhide HD
        unfold CutPost
        rw [hxl, hKK]
        refine ⟨some ⟨g, 0, none⟩, cap, _, rfl, by rw [List.length_set]; exact hlen, d3, d4, fun i e he => ?_, d5⟩
        have h6 := unhide HM i e he (by have := (List.getElem?_eq_some_iff.1 he).1; rw [List.length_set] at this; omega)
        simpa using h6
    case stop =>
      rintro D c pre W _ _ h _
      exact h.elim
end Go.Proofs.Ytfgbegamdlafkaa.Ct

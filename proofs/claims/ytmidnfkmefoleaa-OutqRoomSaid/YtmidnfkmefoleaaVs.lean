/-
  vast; and the end of does: what was told is laid where the answer lies.
-/
import Derived.Test.YtmidnfkmefoleaaSm
import Derived.Test.YtmidnfkmefoleaaOq
set_option linter.unusedVariables false
set_option linter.unusedSimpArgs false
namespace Go.Proofs.Ytmidnfkmefoleaa.Vs
open Go.RowKit Wd Ra Qm Qs Qp Qn Qe Qd Qx Ql Qt Oq

theorem opl (l : List OV) : (l.flatMap OV.cs).length = l.length * 6 := flat_length OV.cs 6 (fun _ => rfl) l
theorem add_plus (ad : Addr) (m j : Nat) (hj : 0 < j) : ad.add (m + j) = ⟨(ad.add m).block, (ad.add m).off + j, none⟩ := by
  unfold Addr.add
  by_cases hm : m = 0
  · subst hm
    simp [Nat.ne_of_gt hj]
  · simp [hm, Nat.add_assoc]
/-- The six cells of what is done, at an address. -/
def OvAt (w : World) (a : Addr) (x : OV) : Prop :=
  w.cell? a = some (.int .i64 x.kind) ∧ w.cell? ⟨a.block, a.off + 1, none⟩ = some (.int .u16 x.m.st) ∧ w.cell? ⟨a.block, a.off + 2, none⟩ = some (.bool x.m.o) ∧ w.cell? ⟨a.block, a.off + 3, none⟩ = some (.slice x.m.A x.m.n x.m.c) ∧
  w.cell? ⟨a.block, a.off + 4, none⟩ = some (.int .i64 x.un) ∧ w.cell? ⟨a.block, a.off + 5, none⟩ = some (.int .i64 x.k)
theorem ov_at {w : World} {B n : Nat} {A : Option Addr} {l : List OV} (h : Reads w B 6 A n (l.flatMap OV.cs)) (hl : l.length = n) (k : Nat) (hk : k < n) :
    ∃ ad x, A = some ad ∧ ad.block < B ∧ l[k]? = some x ∧ OvAt w (ad.add (k * 6)) x := by
  obtain ⟨ad, rfl, hb, hc⟩ := h.2 (by omega)
  have hs : l[k]? = some (l[k]'(by omega)) := List.getElem?_eq_getElem _
  generalize (l[k]'(by omega)) = x at hs
  have g := flat_get OV.cs 6 (fun _ => rfl) l k x hs
  have f : ∀ (j : Nat) (u : Value), 0 < j → (OV.cs x)[j]? = some u → w.cell? ⟨(ad.add (k * 6)).block, (ad.add (k * 6)).off + j, none⟩ = some u := by
    intro j u hj hu
    rw [← add_plus ad (k * 6) j hj]
    exact hc _ _ (g j u hu)
  exact ⟨ad, x, rfl, hb, hs, hc _ _ (g 0 _ rfl), f 1 _ (by omega) rfl, f 2 _ (by omega) rfl, f 3 _ (by omega) rfl, f 4 _ (by omega) rfl, f 5 _ (by omega) rfl⟩
def VastPost (n : Nat) (w : World) (e : Ending) (w' : World) : Prop := ∃ r, e = .returned (.bool r) ∧ (r = false → n ≤ 100) ∧ w' = w
set_option maxHeartbeats 400000 in
/-- vast: where it says no, there are few. -/
theorem c16 (A : Option Addr) (n c B : Nat) (l : List OV) (w : World) (hn : n ≤ 9223372036854775807) (hl : Hid (l.length = n)) (h : Reads w B 6 A n (l.flatMap OV.cs)) (hbl : Hid (∀ x ∈ l, x.m.n ≤ 9223372036854775807)) :
    Calls Try.prog 16 #[.slice A n c] w (VastPost n w) := by
  by_cases hb : 100 < n
  · go_enter Try.func16, Try.ntmps16
    go_wp2
    go_ret
    exact ⟨true, by simp <;> omega, fun h => (by cases h), rfl⟩
  · have hb2 : n ≤ 100 := by omega
    go_enter Try.func16, Try.ntmps16
    go_wp2
    go_loop [3, 4] (fun s3 i => ∃ (k v : Nat), k ≤ n ∧ i = .int .i64 k ∧ s3 = .int .i64 v ∧ v ≤ 2097152) (fun _ i => n - (intOf i).toNat)
    case atStart => exact ⟨0, 0, Nat.zero_le _, rfl, rfl, by omega⟩
    case round =>
      obtain ⟨k, v, hk, rfl, rfl, hv⟩ := hrel
      by_cases hlt : k < n
      · obtain ⟨ad, x, rfl, hab, hx, q0, q1, q2, q3, q4, q5⟩ := ov_at h (unhide hl) k hlt
        have hxn := unhide hbl x (List.mem_of_getElem? hx)
        by_cases hm : x.m.n < 2097152
        · by_cases hs : v + x.m.n ≤ 2097152
          · go_wp2
            go_round
            case rel => exact ⟨k + 1, v + x.m.n, by omega, by go_num, by go_num, by omega⟩
            case measure => simp [intOf]; omega
          · have hs2 : 2097152 < v + x.m.n := by omega
            go_wp2
            go_ret
            exact ⟨true, by simp <;> omega, fun h => (by cases h), rfl⟩
        · by_cases hv0 : v = 0
          · subst hv0
            go_wp2
            go_round
            case rel => exact ⟨k + 1, 2097152, by omega, by go_num, by go_num, by omega⟩
            case measure => simp [intOf]; omega
          · have hv1 : 0 < v := by omega
            go_wp2
            all_goals (go_ret; exact ⟨true, by simp <;> omega, fun h => (by cases h), rfl⟩)
      · obtain rfl : k = n := by omega
        go_wp2
        go_ret
        exact ⟨false, by simp <;> omega, fun _ => hb2, rfl⟩

/-- What is kept while the answer is laid at block k. -/
structure Td (b : Nat) (F : Nat → Prop) (w0 : World) (q : PQ) (w : World) (k : Nat) (v : Value) (n : Nat) (xs : List Value) (W : World) : Prop where
  st : St b F w0 q W
  fr : Fr b b w W
  row : W.ownsRow w.heap.size 5 1 v n xs
theorem Td.put {b : Nat} {F : Nat → Prop} {w0 : World} {q : PQ} {w : World} {k n : Nat} {v : Value} {xs : List Value} {W : World} {cs : Array Value} (h : Td b F w0 q w k v n xs W) (hk : Blk W k 46 cs) (hb : b < k) (hw : w.heap.size ≤ k) (i : Nat) (u : Value) : Td b F w0 q w k v n xs (W.setCell ⟨k, i, none⟩ u) :=
  ⟨h.st.far hk hb (by decide) (fun h => absurd h (by decide)) i u, h.fr.new (p := ⟨k, i, none⟩) hw u, own_keep h.row fun j hj => Below.heap_setCell W _ u j (fun e1 => own_ne_blk h.row hk (by decide) (by rw [hj]; exact congrArg some e1))⟩
theorem Td.put10 {b : Nat} {F : Nat → Prop} {w0 : World} {q : PQ} {w : World} {k n : Nat} {v : Value} {xs : List Value} {W : World} {c0 c1 c2 c3 c4 c5 c6 c7 c8 c9 : Value} (h : Td b F w0 q w k v n xs W) (hk : Blk W k 46 #[c0, c1, c2, c3, c4, c5, c6, c7, c8, c9]) (hb : b < k) (hw : w.heap.size ≤ k) (u0 u1 u2 u3 u4 u5 u6 u7 u8 u9 : Value) :
    Td b F w0 q w k v n xs ((((((((((W.setCell ⟨k, 0, none⟩ u0).setCell ⟨k, 1, none⟩ u1).setCell ⟨k, 2, none⟩ u2).setCell ⟨k, 3, none⟩ u3).setCell ⟨k, 4, none⟩ u4).setCell ⟨k, 5, none⟩ u5).setCell ⟨k, 6, none⟩ u6).setCell ⟨k, 7, none⟩ u7).setCell ⟨k, 8, none⟩ u8).setCell ⟨k, 9, none⟩ u9) ∧
    Blk ((((((((((W.setCell ⟨k, 0, none⟩ u0).setCell ⟨k, 1, none⟩ u1).setCell ⟨k, 2, none⟩ u2).setCell ⟨k, 3, none⟩ u3).setCell ⟨k, 4, none⟩ u4).setCell ⟨k, 5, none⟩ u5).setCell ⟨k, 6, none⟩ u6).setCell ⟨k, 7, none⟩ u7).setCell ⟨k, 8, none⟩ u8).setCell ⟨k, 9, none⟩ u9) k 46 #[u0, u1, u2, u3, u4, u5, u6, u7, u8, u9] := by
  have k0 := hk.set_ 0 u0
  have k1 := k0.set_ 1 u1
  have k2 := k1.set_ 2 u2
  have k3 := k2.set_ 3 u3
  have k4 := k3.set_ 4 u4
  have k5 := k4.set_ 5 u5
  have k6 := k5.set_ 6 u6
  have k7 := k6.set_ 7 u7
  have k8 := k7.set_ 8 u8
  have k9 := k8.set_ 9 u9
  refine ⟨(((((((((((h.put hk hb hw 0 u0).put k0 hb hw 1 u1).put k1 hb hw 2 u2).put k2 hb hw 3 u3).put k3 hb hw 4 u4).put k4 hb hw 5 u5).put k5 hb hw 6 u6).put k6 hb hw 7 u7).put k7 hb hw 8 u8).put k8 hb hw 9 u9)), ?_⟩
  simp only [List.setIfInBounds_toArray, List.set_cons_zero, List.set_cons_succ] at k9
  exact k9
end Go.Proofs.Ytmidnfkmefoleaa.Vs

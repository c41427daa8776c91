/-
  A row of the call's own that begins anywhere in its block: appended to, cut from the front, written into.
-/
import Derived.Test.YtmidnfkmefoleaaWd
import Derived.Laws.CopyRow
import Derived.ArgAppend
set_option linter.unusedVariables false
set_option linter.unusedSimpArgs false
namespace Go.Proofs.Ytmidnfkmefoleaa.Ra
open Go.RowKit Wd

def At (w : World) (base : Nat) (e : TypeId) (size : Nat) (v : Value) (n : Nat) (xs : List Value) : Prop :=
  xs.length = n * size ∧
  ((v = .slice none 0 0 ∧ n = 0) ∨
   ∃ g off cap cur, v = .slice (some ⟨g, off, none⟩) n cap ∧ base ≤ g ∧ w.heap[g]? = some (.cells cur e (0, 0)) ∧ n ≤ cap ∧ cap ≤ maxLen ∧ off + cap * size ≤ cur.size ∧ (cur.toList.drop off).take (n * size) = xs)

section
variable {w w' : World} {base : Nat} {e : TypeId} {size n : Nat} {v : Value} {xs : List Value}
theorem At.of_own (h : w.ownsRow base e size v n xs) : At w base e size v n xs := by
  refine ⟨h.1, ?_⟩
  rcases h.2 with h | ⟨g, cap, cur, h1, h2, h3, h4, h5, h6, h7⟩
  · exact .inl h
  · exact .inr ⟨g, 0, cap, cur, h1, h2, h3, h4, h5, by omega, by simpa using h7⟩
theorem At.nil (w : World) (base : Nat) (e : TypeId) (size : Nat) : At w base e size (.slice none 0 0) 0 [] := ⟨by simp, .inl ⟨rfl, rfl⟩⟩
theorem At.keep (h : At w base e size v n xs) (hk : ∀ g, v.ownBlock = some g → w'.heap[g]? = w.heap[g]?) : At w' base e size v n xs := by
  refine ⟨h.1, ?_⟩
  rcases h.2 with h | ⟨g, off, cap, cur, rfl, h2, h3, h4⟩
  · exact .inl h
  · exact .inr ⟨g, off, cap, cur, rfl, h2, (hk g rfl).trans h3, h4⟩
theorem At.own (h : At w base e size v n xs) {g : Nat} (hg : v.ownBlock = some g) : base ≤ g ∧ g < w.heap.size ∧ ∃ cur, w.heap[g]? = some (.cells cur e (0, 0)) := by
  rcases h.2 with ⟨rfl, _⟩ | ⟨g', off, cap, cur, rfl, h2, h3, h4⟩
  · simp [Value.ownBlock] at hg
  · have : g' = g := by simpa [Value.ownBlock] using hg
    subst this
    exact ⟨h2, (Array.getElem?_eq_some_iff.1 h3).1, cur, h3⟩
theorem At.kept {row : Option Nat} (h : At w base e size v n xs) (hg : w.grownBy w' row) (hne : v.ownBlock = none ∨ v.ownBlock ≠ row) : At w' base e size v n xs :=
  h.keep fun g hv => hg.block g (h.own hv).2.1 (fun he => by
    rcases hne with hn | hn
    · rw [hn] at hv; cases hv
    · exact hn (hv.trans he))
theorem At.below {B : Nat} (h : At w base e size v n xs) (hb : Below B w w') (hB : w.heap.size ≤ B) : At w' base e size v n xs :=
  h.keep fun g hv => hb.block g (Nat.lt_of_lt_of_le (h.own hv).2.1 hB)
theorem At.alloc (h : At w base e size v n xs) (o : Obj) : At (w.alloc o) base e size v n xs :=
  h.keep fun g hv => Below.heap_alloc w o g (h.own hv).2.1
theorem At.drew (h : At w base e size v n xs) : At w.drew base e size v n xs := h
theorem At.drewN (h : At w base e size v n xs) (k : Nat) : At (w.drewN k) base e size v n xs := h
theorem At.far (h : At w base e size v n xs) {p : Addr} (hp : v.ownBlock ≠ some p.block) (u : Value) : At (w.setCell p u) base e size v n xs :=
  h.keep fun g hv => Below.heap_setCell w p u g (fun he => hp (by rw [hv, he]))
theorem At.weaken {base' : Nat} (h : At w base e size v n xs) (hb : base' ≤ base) : At w base' e size v n xs := by
  refine ⟨h.1, ?_⟩
  rcases h.2 with h | ⟨g, off, cap, cur, rfl, h2, h3, h4⟩
  · exact .inl h
  · exact .inr ⟨g, off, cap, cur, rfl, Nat.le_trans hb h2, h3, h4⟩
theorem At.ne_blk (h : At w base e size v n xs) {g : Nat} {t : TypeId} {cs : Array Value} (hg : Blk w g t cs) (hne : e ≠ t) : v.ownBlock ≠ some g := fun hv => by
  obtain ⟨_, _, cur, hc⟩ := h.own hv
  unfold Blk at hg
  rw [hg] at hc
  injection hc with hc
  injection hc with _ ht
  exact hne ht.symm
theorem At.form (h : At w base e size v n xs) : ∃ A c, v = .slice A n c ∧ n ≤ c ∧ c ≤ maxLen ∧ (A = none → n = 0 ∧ c = 0) := by
  rcases h.2 with ⟨rfl, rfl⟩ | ⟨g, off, cap, cur, rfl, h2, h3, h4, h5, _⟩
  · exact ⟨none, 0, rfl, Nat.le_refl _, by simp [maxLen], fun _ => ⟨rfl, rfl⟩⟩
  · exact ⟨_, cap, rfl, h4, h5, fun h => by cases h⟩
theorem At.at_ (h : At w base e size v n xs) (hn : 0 < n) : ∃ g off cap, v = .slice (some ⟨g, off, none⟩) n cap ∧ base ≤ g ∧ g < w.heap.size ∧ n ≤ cap := by
  rcases h.2 with ⟨rfl, rfl⟩ | ⟨g, off, cap, cur, rfl, h2, h3, h4, h5, _⟩
  · omega
  · exact ⟨g, off, cap, rfl, h2, (Array.getElem?_eq_some_iff.1 h3).1, h4⟩
theorem At.cell {g off cap : Nat} (h : At w base e size (.slice (some ⟨g, off, none⟩) n cap) n xs) (j : Nat) (hj : j < n * size) : w.cell? ⟨g, off + j, none⟩ = xs[j]? := by
  rcases h.2 with ⟨h0, _⟩ | ⟨g', off', cap', cur, he, h2, h3, h4, h5, h6, h7⟩
  · cases h0
  · injection he with a b c
    injection a with a
    injection a with a1 a2 a3
    subst a1 a2
    rw [show w.cell? ⟨g, off + j, none⟩ = cur[off + j]? from cell_of_row w g (off + j) cur e (0, 0) h3, ← h7, List.getElem?_take_of_lt hj, List.getElem?_drop]
    simp
theorem At.frozen {g off cap : Nat} (h : At w base e size (.slice (some ⟨g, off, none⟩) n cap) n xs) (o : Nat) : w.frozen? ⟨g, o, none⟩ = false := by
  rcases h.2 with ⟨h0, _⟩ | ⟨g', off', cap', cur, he, h2, h3, h4, h5, h6, h7⟩
  · cases h0
  · injection he with a b c
    injection a with a
    injection a with a1 a2 a3
    subst a1 a2
    simp [World.frozen?, h3]
theorem At.reads {A : Option Addr} {c : Nat} (h : At w base e size (.slice A n c) n xs) : Reads w w.heap.size size A n xs := by
  refine ⟨h.1, fun hn => ?_⟩
  obtain ⟨g, off, cap, hv, _, hlt, _⟩ := h.at_ hn
  injection hv with ha hb hc
  subst ha hc
  refine ⟨_, rfl, hlt, fun j u hu => ?_⟩
  have e1 : (⟨g, off, none⟩ : Addr).add j = ⟨g, off + j, none⟩ := by unfold Addr.add; split <;> simp_all
  rw [e1, h.cell j ?_]
  · exact hu
  · have := (List.getElem?_eq_some_iff.1 hu).1
    rw [← h.1]; exact this
/-- A cut at the front. -/
theorem At.cut {A : Option Addr} {c k : Nat} (h : At w base e size (.slice A n c) n xs) (hk : k ≤ n) :
    At w base e size (.slice (if c = k then A else A.map (·.add (k * size))) (n - k) (c - k)) (n - k) (xs.drop (k * size)) := by
  refine ⟨by rw [List.length_drop, h.1, Nat.sub_mul], ?_⟩
  rcases h.2 with ⟨h0, h1⟩ | ⟨g, off, cap, cur, he, h2, h3, h4, h5, h6, h7⟩
  · injection h0 with a b c
    subst a b c
    left
    exact ⟨by simp, by omega⟩
  · injection he with a b hc
    subst a hc
    right
    by_cases hck : c = k
    · subst hck
      have : c = n := by omega
      subst this
      refine ⟨g, off, 0, cur, by simp, h2, h3, by omega, by simp [maxLen], by omega, ?_⟩
      rw [Nat.sub_self, Nat.zero_mul, List.take_zero, List.drop_eq_nil_of_le (by rw [h.1]; exact Nat.le_refl _)]
    · refine ⟨g, off + k * size, c - k, cur, ?_, h2, h3, by omega, by omega, ?_, ?_⟩
      · rw [if_neg hck]
        have e1 : (⟨g, off, none⟩ : Addr).add (k * size) = ⟨g, off + k * size, none⟩ := by unfold Addr.add; split <;> simp_all
        simp [e1]
      · have : c * size = k * size + (c - k) * size := by rw [← Nat.add_mul]; congr 1; omega
        omega
      · rw [← h7, List.drop_take, List.drop_drop, Nat.sub_mul]
/-- A cell written. -/
theorem At.set_ {g off cap : Nat} (h : At w base e size (.slice (some ⟨g, off, none⟩) n cap) n xs) (j : Nat) (u : Value) (hj : j < n * size) :
    At (w.setCell ⟨g, off + j, none⟩ u) base e size (.slice (some ⟨g, off, none⟩) n cap) n (xs.set j u) := by
  rcases h.2 with ⟨h0, _⟩ | ⟨g', off', cap', cur, he, h2, h3, h4, h5, h6, h7⟩
  · cases h0
  · injection he with a b c
    injection a with a
    injection a with a1 a2 a3
    subst a1 a2 c
    refine ⟨by rw [List.length_set]; exact h.1, .inr ⟨g, off, cap, cur.setIfInBounds (off + j) u, rfl, h2, Blk.set_ h3 _ u, h4, h5, by simpa using h6, ?_⟩⟩
    rw [← h7, Array.toList_setIfInBounds, List.drop_set, if_neg (by omega), Nat.add_sub_cancel_left]
    apply List.ext_getElem?
    intro i
    simp only [List.getElem?_take, List.getElem?_set, List.length_take, List.length_drop, Array.length_toList]
    by_cases hi : i < n * size
    · by_cases hij : j = i
      · subst hij
        have hsz : n * size ≤ cap * size := Nat.mul_le_mul_right _ h4
        simp [hi]
        have : j < cur.size - off := by omega
        rw [if_pos (by omega), if_pos (by omega)]
      · simp [hi, hij]
    · have hij : j ≠ i := by omega
      simp [hi, hij]
/-- The front of it. -/
theorem At.pre {A : Option Addr} {c k : Nat} (h : At w base e size (.slice A n c) n xs) (hk : k ≤ n) : At w base e size (.slice A k c) k (xs.take (k * size)) := by
  refine ⟨by rw [List.length_take, h.1]; exact Nat.min_eq_left (Nat.mul_le_mul_right _ hk), ?_⟩
  rcases h.2 with ⟨h0, h1⟩ | ⟨g, off, cap, cur, he, h2, h3, h4, h5, h6, h7⟩
  · injection h0 with a b c
    subst a c
    left
    have : k = 0 := by omega
    subst this
    exact ⟨rfl, rfl⟩
  · injection he with a b hc
    subst a hc
    refine .inr ⟨g, off, c, cur, rfl, h2, h3, by omega, h5, h6, ?_⟩
    rw [← h7, List.take_take, Nat.min_eq_left (Nat.mul_le_mul_right _ hk)]
/-- A store behind it. -/
theorem At.over {g off c o : Nat} (h : At w base e size (.slice (some ⟨g, off, none⟩) n c) n xs) (ho : off + n * size ≤ o) (u : Value) : At (w.setCell ⟨g, o, none⟩ u) base e size (.slice (some ⟨g, off, none⟩) n c) n xs := by
  refine ⟨h.1, ?_⟩
  rcases h.2 with ⟨h0, _⟩ | ⟨g', off', cap', cur, he, h2, h3, h4, h5, h6, h7⟩
  · cases h0
  · injection he with a b c
    injection a with a
    injection a with a1 a2 a3
    subst a1 a2 c
    refine .inr ⟨g, off, _, cur.setIfInBounds o u, rfl, h2, Blk.set_ h3 _ u, h4, h5, by simpa using h6, ?_⟩
    rw [← h7, Array.toList_setIfInBounds]
    apply List.ext_getElem?
    intro i
    simp only [List.getElem?_take, List.getElem?_drop]
    by_cases hi : i < n * size
    · rw [if_pos hi, if_pos hi, List.getElem?_set_ne (by omega)]
    · rw [if_neg hi, if_neg hi]
theorem At.overs {g off c : Nat} : ∀ (vs : List Value) (o : Nat) (w : World), At w base e size (.slice (some ⟨g, off, none⟩) n c) n xs → off + n * size ≤ o → At (w.setCells g o vs) base e size (.slice (some ⟨g, off, none⟩) n c) n xs
  | [], _, _, h, _ => h
  | v :: vs, o, w, h, ho => At.overs vs (o + 1) _ (h.over ho v) (by omega)
theorem setCells_other (g : Nat) {b : Nat} (hb : b ≠ g) : ∀ (vs : List Value) (o : Nat) (w : World), (w.setCells g o vs).heap[b]? = w.heap[b]?
  | [], _, _ => rfl
  | v :: vs, o, w => (setCells_other g hb vs (o + 1) _).trans (Below.heap_setCell w _ v b hb)
theorem setCells_same (g : Nat) : ∀ (vs : List Value) (o : Nat) (w : World), (w.setCells g o vs).os = w.os ∧ (w.setCells g o vs).tape = w.tape ∧ (w.setCells g o vs).output = w.output ∧ (w.setCells g o vs).heap.size = w.heap.size
  | [], _, _ => ⟨rfl, rfl, rfl, rfl⟩
  | v :: vs, o, w => by
    have := setCells_same g vs (o + 1) (w.setCell ⟨g, o, none⟩ v)
    simpa [World.setCells, World.setCell] using this
end

section
variable {P : Program} (w : World)
theorem run_append_at (base : Nat) (t ty e : TypeId) (i : TypeInfo) (z : Value) (size bytes : Nat) (ht : P.underlying t = some (.slice e)) (hi : P.info? e = some i) (hz : i.zero = some z)
    (hsize : i.size = size) (hby : i.bytes = bytes) (hzs : z.cells.size = size) (hsz : 0 < size)
    (v : Value) (n : Nat) (xs : List Value) (hown : At w base e size v n xs)
    (a : Addr) (m c : Nat) (news : List Value) (hl : news.length = m * size) (hnews : ∀ j u, news[j]? = some u → w.cell? (a.add j) = some u) (h1 : ∀ u ∈ news, u.oneCell' = true)
    (h63 : n + m ≤ maxLen) (hbytes : (n + m) * bytes ≤ 140737488355328) (hbase : base ≤ w.heap.size) :
    ∃ v' w', (Builtin.append_ #[t, t] ty #[v, .slice (some a) m c]).run P w = .ok v' w' ∧ At w' base e size v' (n + m) (xs ++ news) ∧ w.grownBy w' v.ownBlock ∧ (∀ g, v'.ownBlock = some g → v.ownBlock = some g ∨ w.heap.size ≤ g) := by
  have hlen : (xs ++ news).length = (n + m) * size := by rw [List.length_append, hown.1, hl, Nat.add_mul]
  rcases hown.2 with ⟨rfl, rfl⟩ | ⟨g, off, cap, cur, rfl, hbg, hg, hnc, hcm, hcs, htake⟩
  · have hx : xs = [] := List.eq_nil_of_length_eq_zero (by simpa using hown.1)
    subst hx
    obtain ⟨v', w', h2, h3, h4, _, h5⟩ := run_append_own_at (P := P) w base t ty e i z size bytes ht hi hz hsize hby hzs hsz (.slice none 0 0) 0 [] (World.ownsRow_nil w base e size) a m c news hl hnews h1 h63 hbytes hbase
    exact ⟨v', w', h2, At.of_own h3, h4, fun g hg => by
      rcases h5 with h5 | h5
      · exact .inl (by rw [← h5]; exact hg)
      · right
        rw [hg] at h5
        injection h5 with h5
        omega⟩
  · by_cases hroom : n + m ≤ cap
    · subst hsize
      have hf := run_firstCells_some (P := P) w i.size m a m c news hl hnews
      have hfit : off + n * i.size + news.length ≤ cur.size := by
        have := Nat.mul_le_mul_right i.size hroom
        rw [hl]
        rw [Nat.add_mul] at this
        omega
      have hst := run_storeCells_at P g (off + n * i.size) e news 0 cur w hg (by simpa using hfit) h1
      simp only [Nat.add_zero] at hst
      have hr : (Builtin.append_ #[t, t] ty #[.slice (some ⟨g, off, none⟩) n cap, .slice (some a) m c]).run P w = .ok (.slice (some ⟨g, off, none⟩) (n + m) cap) (w.setRow g (cur.toList.take (off + n * i.size) ++ news ++ cur.toList.drop (off + n * i.size + news.length)).toArray) := by
        simp [Builtin.append_, run_underlying ht, sizeOf, typeInfo, hi, Builtin.lenOf, hroom, hf, Addr.add_lit, hst]
      refine ⟨_, _, hr, ⟨hlen, .inr ⟨g, off, cap, _, rfl, hbg, setRow_heap w g cur _ e _ hg, hroom, hcm, ?_, ?_⟩⟩, ⟨rfl, rfl, rfl, by simp [World.setRow], fun k _ hk => setRow_other w g k _ (fun e => hk (by simp [Value.ownBlock, e]))⟩, fun g hg => Or.inl hg⟩
      · simp only [List.size_toArray, List.length_append, List.length_take, List.length_drop, Array.length_toList]
        omega
      · rw [← htake, ← hlen, List.length_append]
        have hx1 : xs.length = n * i.size := hown.1
        have e1 : (cur.toList.take (off + n * i.size)).drop off = xs := by
          rw [← htake, List.drop_take, Nat.add_sub_cancel_left]
        have hl1 : off ≤ (cur.toList.take (off + n * i.size)).length := by
          rw [List.length_take, Array.length_toList]; omega
        rw [List.append_assoc, List.drop_append_of_le_length (by simpa using hl1)]
        simp only [e1]
        rw [← List.append_assoc, htake, ← List.length_append]
        exact List.take_left
    · have holds : ∀ j u, xs[j]? = some u → w.cell? ((⟨g, off, none⟩ : Addr).add j) = some u := fun j u hu => by
        have e1 : (⟨g, off, none⟩ : Addr).add j = ⟨g, off + j, none⟩ := by unfold Addr.add; split <;> simp_all
        rw [e1, hown.cell j (by rw [← hown.1]; exact (List.getElem?_eq_some_iff.1 hu).1)]
        exact hu
      obtain ⟨v', w', hrun, h2, h3⟩ := run_append_arg_grows (P := P) w t ty e i z size bytes ht hi hz hsize hby hzs hsz ⟨g, off, none⟩ n cap xs hown.1 holds a m c news hl hnews (by omega) h63 hbytes
      refine ⟨v', w', hrun, At.of_own (own_weaken h2 hbase), ⟨h3.os, h3.tape, h3.output, h3.size, fun k hk _ => h3.block k hk (by simp)⟩, fun g hg => .inr (own_base h2 g hg)⟩
theorem wpList_append_at {ops : Array Oper} {rest : List Oper} {o : Oper} {a : Act} {Q : Exit → Act → World → Prop} (hgd : o.guard = none) (s x : Operand) (t : TypeId)
    (ho : o.op = .call { callee := .builtin .append, args := #[s, x], argTypes := #[t, t] })
    (base : Nat) (e : TypeId) (i : TypeInfo) (z : Value) (size bytes : Nat) (ht : P.underlying t = some (.slice e)) (hi : P.info? e = some i) (hz : i.zero = some z)
    (hsize : i.size = size) (hby : i.bytes = bytes) (hzs : z.cells.size = size) (hsz : 0 < size)
    (v : Value) (n : Nat) (xs : List Value) (hs : a.eval s = v) (hown : At w base e size v n xs)
    (ad : Addr) (m c : Nat) (news : List Value) (hx : a.eval x = .slice (some ad) m c) (hl : news.length = m * size) (hnews : ∀ j u, news[j]? = some u → w.cell? (ad.add j) = some u) (h1 : ∀ u ∈ news, u.oneCell' = true)
    (h63 : n + m ≤ maxLen) (hbytes : (n + m) * bytes ≤ 140737488355328) (hbase : base ≤ w.heap.size)
    (h : ∀ v' w', At w' base e size v' (n + m) (xs ++ news) → w.grownBy w' v.ownBlock → (∀ g, v'.ownBlock = some g → v.ownBlock = some g ∨ w.heap.size ≤ g) → wpList P ops Q rest (a.put o.dst v') w') : wpList P ops Q (o :: rest) a w := by
  refine wpList_plain hgd fun K hK => ?_
  obtain ⟨v', w', hrun, h2, h3, h4⟩ := run_append_at (P := P) w base t o.type e i z size bytes ht hi hz hsize hby hzs hsz v n xs hown ad m c news hl hnews h1 h63 hbytes hbase
  unfold Oper.wp execOp
  simp only [ho, resolve, invoke, builtin, Sem.run_bind, Sem.run_pure, Result.andThen_ok, List.map_toArray, List.map_cons, List.map_nil, hs, hx, hrun]
  exact hK _ _ (h v' w' h2 h3 h4)
theorem step_append_at {ops : Array Oper} {o : Oper} {a : Act} {K : Act → World → Prop} {Q : Exit → Act → World → Prop} {E : Prop} (hgd : o.guard = none) (s x : Operand) (t : TypeId)
    (ho : o.op = .call { callee := .builtin .append, args := #[s, x], argTypes := #[t, t] })
    (base : Nat) (e : TypeId) (i : TypeInfo) (z : Value) (size bytes : Nat) (ht : P.underlying t = some (.slice e)) (hi : P.info? e = some i) (hz : i.zero = some z)
    (hsize : i.size = size) (hby : i.bytes = bytes) (hzs : z.cells.size = size) (hsz : 0 < size)
    (v : Value) (n : Nat) (xs : List Value) (hs : a.eval s = v) (hown : At w base e size v n xs)
    (ad : Addr) (m c : Nat) (news : List Value) (hx : a.eval x = .slice (some ad) m c) (hl : news.length = m * size) (hnews : ∀ j u, news[j]? = some u → w.cell? (ad.add j) = some u) (h1 : ∀ u ∈ news, u.oneCell' = true)
    (h63 : n + m ≤ maxLen) (hbytes : (n + m) * bytes ≤ 140737488355328) (hbase : base ≤ w.heap.size)
    (h : ∀ v' w', At w' base e size v' (n + m) (xs ++ news) → w.grownBy w' v.ownBlock → (∀ g, v'.ownBlock = some g → v.ownBlock = some g ∨ w.heap.size ≤ g) → K (a.put o.dst v') w') :
    if Region.wanted o (yielded ops a.tmps) = true then Oper.wp P o a w K Q else E := by
  have hw : Region.wanted o (yielded ops a.tmps) = true := by simp [Region.wanted, hgd]
  rw [if_pos hw]
  obtain ⟨v', w', hrun, h2, h3, h4⟩ := run_append_at (P := P) w base t o.type e i z size bytes ht hi hz hsize hby hzs hsz v n xs hown ad m c news hl hnews h1 h63 hbytes hbase
  unfold Oper.wp execOp
  simp only [ho, resolve, invoke, builtin, Sem.run_bind, Sem.run_pure, Result.andThen_ok, List.map_toArray, List.map_cons, List.map_nil, hs, hx, hrun]
  exact h v' w' h2 h3 h4
end
end Go.Proofs.Ytmidnfkmefoleaa.Ra

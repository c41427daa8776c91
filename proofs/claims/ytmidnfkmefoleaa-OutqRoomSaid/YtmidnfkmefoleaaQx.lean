/-
  Contract of Expire.
-/
import Derived.Test.YtmidnfkmefoleaaQd
set_option linter.unusedVariables false
set_option linter.unusedSimpArgs false
namespace Go.Proofs.Ytmidnfkmefoleaa.Qx
open Go.RowKit Wd Ra Qm Qs Zr Qn Qe Qd

/-- A store of what stands there already. -/
theorem set_same {w : World} {g i : Nat} {t : TypeId} {cs : Array Value} {v : Value} (h : Blk w g t cs) (hv : cs[i]? = some v) : w.setCell ⟨g, i, none⟩ v = w := by
  rw [setCell_eq_setRow w g i cs t (0, 0) v h]
  have e : cs.setIfInBounds i v = cs := by
    apply Array.toList_inj.1
    rw [Array.toList_setIfInBounds]
    apply List.ext_getElem?
    intro j
    by_cases hij : i = j
    · subst hij
      have hlt : i < cs.size := (Array.getElem?_eq_some_iff.1 hv).1
      rw [List.getElem?_set_self (by simpa using hlt)]
      rw [← hv]
      simp
    · rw [List.getElem?_set_ne hij]
  rw [e]
  exact setRow_self w g cs t (0, 0) h
def exX (now : Int) (q : PQ) : Nat × Option PI := exL now (0, none) q.its
def exQ (now : Int) (q : PQ) : PQ := { q with its := keepI now q.its, used := q.used - (exX now q).1 }
theorem ok_keep {q : PQ} (h : q.Ok) (now : Int) : PQ.Ok { q with its := keepI now q.its } :=
  ⟨h.room1, h.room2, h.used, h.ssn1, h.ssn2, h.ssn, fun p hp => h.its p (List.mem_filter.1 hp).1, Nat.le_trans (List.length_filter_le _ _) h.len, h.many⟩
theorem size_its {q : PQ} (h : q.Ok) : q.its.length ≤ 1000000 := Nat.le_trans h.len h.many

set_option maxRecDepth 100000 in
set_option maxHeartbeats 2000000 in
/-- Expire. -/
theorem c12 (base g s : Nat) (F : Nat → Prop) (q : PQ) (now : Int) (w : World) (h : Qin w base g s F q) (hq : Hid q.Ok) :
    Calls Try.prog 12 #[.pointer (some ⟨g, 0, none⟩), .int .i64 now] w fun e w' => ∃ A n c, e = .returned (.tuple #[.agg ((lastD (exX now q).2).cs A n c), .int .i64 (lastI (exX now q).2), .bool (exX now q).2.isSome]) ∧ w'.ownsRow w.heap.size 5 1 (.slice A n c) n (bs (lastD (exX now q).2).xs) ∧
      Qin w' base g s (fun k => F k ∨ w.heap.size ≤ k) (exQ now q) ∧ Fr base s w w' := by
  obtain ⟨A', c', ls, h⟩ := h.free
  have hg := h.hd.lt
  have hbw : base ≤ w.heap.size := by have := h.bg; omega
  have x0 := h.c0
  have hlen := size_its (unhide hq)
  have HH := hide h
  clear h
  obtain ⟨W, hW⟩ : ∃ W : World, W = ((((w.alloc (.cells #[.int .i64 now] 2)).alloc (.cells #[.int .u32 0, .int .u16 0, .int .u16 0, .bool false, .bool false, .bool false, .slice none 0 0] 35)).alloc (.cells #[.int .i64 0] 3)).alloc (.cells #[.bool false] 4)).alloc (.cells #[.int .i64 0] 3) := ⟨_, rfl⟩
  have hb : Below w.heap.size w W := by
    rw [hW]
    exact (((((Below.refl _ _).alloc (Nat.le_refl _) _).alloc (by simp) _).alloc (by simp <;> omega) _).alloc (by simp <;> omega) _).alloc (by simp <;> omega) _
  have hx : Bx W w.heap.size now (0, none) := by
    have n1 := Blk.new w 2 #[.int .i64 now]
    have n2 := Blk.new (w.alloc (.cells #[.int .i64 now] 2)) 35 #[.int .u32 0, .int .u16 0, .int .u16 0, .bool false, .bool false, .bool false, .slice none 0 0]
    have n3 := Blk.new ((w.alloc (.cells #[.int .i64 now] 2)).alloc (.cells #[.int .u32 0, .int .u16 0, .int .u16 0, .bool false, .bool false, .bool false, .slice none 0 0] 35)) 3 #[.int .i64 0]
    have n4 := Blk.new (((w.alloc (.cells #[.int .i64 now] 2)).alloc (.cells #[.int .u32 0, .int .u16 0, .int .u16 0, .bool false, .bool false, .bool false, .slice none 0 0] 35)).alloc (.cells #[.int .i64 0] 3)) 4 #[.bool false]
    have n5 := Blk.new ((((w.alloc (.cells #[.int .i64 now] 2)).alloc (.cells #[.int .u32 0, .int .u16 0, .int .u16 0, .bool false, .bool false, .bool false, .slice none 0 0] 35)).alloc (.cells #[.int .i64 0] 3)).alloc (.cells #[.bool false] 4)) 3 #[.int .i64 0]
    simp only [World.size_alloc] at n2 n3 n4 n5
    rw [hW]
    exact ⟨(((n1.alloc _).alloc _).alloc _).alloc _, ⟨none, 0, 0, ((n2.alloc _).alloc _).alloc _, own_none _ _ _ _⟩, (n3.alloc _).alloc _, n4.alloc _, n5⟩
  have hr : At W base 67 1 (.slice A' q.its.length c') q.its.length (ptrs ls) := (unhide HH).row.keep fun k hk => hb.block k ((unhide HH).row.own hk).2.1
  have hrb : ∀ k, (Value.slice A' q.its.length c').ownBlock = some k → k < w.heap.size := fun k hk => ((unhide HH).row.own hk).2.1
  have hI : Its W base w.heap.size (fun k => F k ∨ w.heap.size ≤ k) ls q.its := ⟨(unhide HH).len, fun i l p hl hp => by
    have := (unhide HH).it i l p hl hp
    exact ⟨this.below hb, this.blk.lt, fun k hk => own_lt this.row k hk⟩⟩
  have hp : Hid (∀ p ∈ q.its, POk p) := fun p hm => ok_left (unhide hq) hm
  have hsz : W.heap.size = w.heap.size + 5 := by rw [hW]; simp
  have y0 : W.cell? ⟨g, 0, none⟩ = some (.slice A' q.its.length c') := (hb.cell (p := ⟨g, 0, none⟩) hg).trans x0
  have HX := hide (And.intro hb (And.intro hx (And.intro hr (And.intro hrb hI))))
  have HW := hide hW
  clear hb hx hr hrb hI hW
  generalize hL : q.its.length = L at *
  have HL := hide hL
  clear hL
  go_enter Try.func12, Try.ntmps12
  go_upto_region 4 with fail
  have hW := unhide HW
  rw [← hW]
  clear hW HW x0
  go_wp2_with fail
  refine (c27 base w.heap.size L c' (fun k => F k ∨ w.heap.size ≤ k) A' ls q.its now W (unhide HX).2.2.1 (unhide HX).2.2.2.1 (unhide HX).2.2.2.2 (unhide HX).2.1 hp (unhide HL) hlen hbw (by omega)).mono ?_
  rintro e w6 ⟨A6, c6, rfl, hr6, hI6, hx6, ⟨rb, hf6, hrb, hrt⟩, hrb6⟩
  generalize hm : (keepI now q.its).length = m at *
  have hs6 := hf6.size
  have hgs : g < W.heap.size := by omega
  have hgrb : g ≠ rb := by
    intro e
    rcases hrt with ⟨cs, mk, hc⟩ | hc
    · have := (unhide HX).1.block g hg
      rw [← e, this] at hc
      have h2 := (unhide HH).hd
      unfold Blk at h2
      rw [hc] at h2
      injection h2 with h2
      injection h2 with _ h3
      cases h3
    · omega
  have hsl : s < w.heap.size := (unhide HH).sn.lt
  have hsrb : s ≠ rb := by
    intro e
    rcases hrt with ⟨cs, mk, hc⟩ | hc
    · have := (unhide HX).1.block s hsl
      rw [← e, this] at hc
      have h2 := (unhide HH).sn
      unfold Blk at h2
      rw [hc] at h2
      injection h2 with h2
      injection h2 with _ h3
      cases h3
    · omega
  have hd6 : Blk w6 g 65 (q.cs s A' c') := ((hf6.block g (by omega) (.inl (by omega)) hgrb).trans ((unhide HX).1.block g hg)).trans (unhide HH).hd
  have hn6 : Blk w6 s 30 (us q.ssn).toArray := ((hf6.block s (by omega) (.inl (by omega)) hsrb).trans ((unhide HX).1.block s hsl)).trans (unhide HH).sn
  have y6 : w6.cell? ⟨g, 0, none⟩ = some (.slice A' L c') := by
    have := hd6.cell 0
    rw [this]
    show some (Value.slice A' q.its.length c') = _
    rw [unhide HL]
  have yf := hd6.frozen 0
  have hF6 : Fr base s w w6 := by
    refine ⟨hf6.os.trans (unhide HX).1.os, hf6.tape.trans (unhide HX).1.tape, hf6.output.trans (unhide HX).1.output, by omega, fun b hb hc => ?_⟩
    have e1 := (unhide HX).1.block b hb
    refine (hf6.block b (by omega) (.inl (by omega)) ?_).trans e1
    intro e
    rcases hrt with ⟨cs, mk, hc2⟩ | hc2
    · rw [← e, e1] at hc2
      rcases hc with hc | ⟨_, hc⟩
      · omega
      · exact hc _ _ _ hc2 mine67
    · omega
  have H7 : Hid (QAt (w6.setCell ⟨g, 0, none⟩ (.slice A6 m c6)) base g s (fun k => F k ∨ w.heap.size ≤ k) { q with its := keepI now q.its } A6 c6 (keepL now ls q.its) ∧ Fr base s w (w6.setCell ⟨g, 0, none⟩ (.slice A6 m c6)) ∧ Bx (w6.setCell ⟨g, 0, none⟩ (.slice A6 m c6)) w.heap.size now (exX now q)) := by
    refine ⟨hset_ (unhide HH).bg (unhide HH).bs hd6 hn6 { q with its := keepI now q.its } A6 c6 (keepL now ls q.its) 0 _ (by simp [PQ.cs, hm]) rfl ?_ ?_ ?_ ?_, hF6.set_ hd6 (unhide HH).bg (.inr mine65) 0 _, hx6.keep fun b hb1 hb2 => Below.heap_setCell w6 _ _ b (by show b ≠ g; omega)⟩
    · simp only [hm]
      exact hr6
    · exact keepL_len (unhide HH).len
    · exact (unhide HH).nod.sublist (keepL_sub.map Lc.b)
    · intro i l p hl hp2
      obtain ⟨j, h1, h2⟩ := keepL_at hl hp2
      exact (hI6.2 j l p h1 h2).1
  have HM := hide hm
  clear hr6 hI6 hx6 hf6 hrb hrt hrb6 hgrb hsrb hd6 hn6 hF6 hm
  go_upto_region 5 with fail
  generalize hw7 : w6.setCell ⟨g, 0, none⟩ (.slice A6 m c6) = w7 at *
  have hs7 : w7.heap.size = w6.heap.size := by rw [← hw7]; simp
  clear hw7 y6 yf
  have g7 : w7.cell? ⟨w.heap.size + 4, 0, none⟩ = some (.int .i64 (exX now q).1) := (unhide H7).2.2.g.cell 0
  have hok7 : Hid (PQ.Ok { q with its := keepI now q.its }) := ok_keep (unhide hq) now
  have hgo : (exX now q).1 ≤ 9223372036854775807 := by
    have := exL_le (now := now) (l := q.its) (fun p hp2 => (unhide hp p hp2).2) q.its.length
    rw [List.take_length] at this
    have e1 := unhide HL
    show (exL now (0, none) q.its).1 ≤ _
    omega
  go_wp2_with fail
  refine (c25 base g s (fun k => F k ∨ w.heap.size ≤ k) { q with its := keepI now q.its } (exX now q).1 w7 ⟨_, _, _, (unhide H7).1⟩ hok7 (by omega) (by omega)).mono ?_
  rintro e w8 ⟨rfl, hq8, hf8⟩
  have hs8 := hf8.size
  have hx8 : Bx w8 w.heap.size now (exX now q) := by
    obtain ⟨a1, ⟨A, n, c, a2, a3⟩, a4, a5, a6⟩ := (unhide H7).2.2
    refine ⟨blk_fr a1 hf8 (by omega) (not_mine (by decide)), ⟨A, n, c, blk_fr a2 hf8 (by omega) (not_mine (by decide)), own_fr a3 hf8 (fun e => ?_) (not_mine (by decide))⟩, blk_fr a4 hf8 (by omega) (not_mine (by decide)), blk_fr a5 hf8 (by omega) (not_mine (by decide)), blk_fr a6 hf8 (by omega) (not_mine (by decide))⟩
    have := own_base a3 s e
    omega
  obtain ⟨a1, ⟨A, n, c, a2, a3⟩, a4, a5, a6⟩ := hx8
  have z0 : w8.cell? ⟨w.heap.size + 1, 0, none⟩ = some (.int .u32 0) := a2.cell 0
  have z1 : w8.cell? ⟨w.heap.size + 1, 1, none⟩ = some (.int .u16 (lastD (exX now q).2).st) := a2.cell 1
  have z2 : w8.cell? ⟨w.heap.size + 1, 2, none⟩ = some (.int .u16 (lastD (exX now q).2).ssn) := a2.cell 2
  have z3 : w8.cell? ⟨w.heap.size + 1, 3, none⟩ = some (.bool (lastD (exX now q).2).un) := a2.cell 3
  have z4 : w8.cell? ⟨w.heap.size + 1, 4, none⟩ = some (.bool (lastD (exX now q).2).fi) := a2.cell 4
  have z5 : w8.cell? ⟨w.heap.size + 1, 5, none⟩ = some (.bool (lastD (exX now q).2).la) := a2.cell 5
  have z6 : w8.cell? ⟨w.heap.size + 1, 6, none⟩ = some (.slice A n c) := a2.cell 6
  have z7 : w8.cell? ⟨w.heap.size + 2, 0, none⟩ = some (.int .i64 (lastI (exX now q).2)) := a4.cell 0
  have z8 : w8.cell? ⟨w.heap.size + 3, 0, none⟩ = some (.bool (exX now q).2.isSome) := a5.cell 0
  have f1 := fun i => a2.frozen i
  have f2 := a4.frozen 0
  have f3 := a5.frozen 0
  have k0 : w8.setCell ⟨w.heap.size + 1, 0, none⟩ (.int .u32 0) = w8 := set_same a2 rfl
  have k1 : w8.setCell ⟨w.heap.size + 1, 1, none⟩ (.int .u16 (lastD (exX now q).2).st) = w8 := set_same a2 rfl
  have k2 : w8.setCell ⟨w.heap.size + 1, 2, none⟩ (.int .u16 (lastD (exX now q).2).ssn) = w8 := set_same a2 rfl
  have k3 : w8.setCell ⟨w.heap.size + 1, 3, none⟩ (.bool (lastD (exX now q).2).un) = w8 := set_same a2 rfl
  have k4 : w8.setCell ⟨w.heap.size + 1, 4, none⟩ (.bool (lastD (exX now q).2).fi) = w8 := set_same a2 rfl
  have k5 : w8.setCell ⟨w.heap.size + 1, 5, none⟩ (.bool (lastD (exX now q).2).la) = w8 := set_same a2 rfl
  have k6 : w8.setCell ⟨w.heap.size + 1, 6, none⟩ (.slice A n c) = w8 := set_same a2 rfl
  have k7 : w8.setCell ⟨w.heap.size + 2, 0, none⟩ (.int .i64 (lastI (exX now q).2)) = w8 := set_same a4 rfl
  have k8 : w8.setCell ⟨w.heap.size + 3, 0, none⟩ (.bool (exX now q).2.isSome) = w8 := set_same a5 rfl
  have H8 := hide (And.intro hq8 (And.intro ((unhide H7).2.1.trans hf8) (And.intro a2 (And.intro a3 (And.intro a4 a5)))))
  clear hq8 hf8 a1 a2 a3 a4 a5 a6 H7 g7
  go_upto_region 6 with fail
  refine wp_regionZ (fun w' => w' = w8.drew) 5 (by kernel_rfl) rfl (fun hHeld => ?_)
  refine anyZ_take (i := 0) (oi := _) (v := ?_) [5] rfl (by kernel_rfl) (fun _ _ _ h => h) (Or.inl ⟨by rfl, ?_⟩) (by assumption) ?_
  rotate_left
  · intro w' hSw
    (try dsimp only at hSw)
    go_simp
    with_reducible rfl
  (try simp only [Act.put, List.setIfInBounds_toArray, List.set_cons_zero, List.set_cons_succ])
  refine anyZ_take (i := 1) (oi := _) (v := ?_) [5] rfl (by kernel_rfl) (fun _ _ _ h => h) (Or.inl ⟨by rfl, ?_⟩) (by assumption) ?_
  rotate_left
  · intro w' hSw
    (try dsimp only at hSw)
    go_simp
    with_reducible rfl
  (try simp only [Act.put, List.setIfInBounds_toArray, List.set_cons_zero, List.set_cons_succ])
  refine anyZ_take (i := 2) (oi := _) (v := ?_) [5] rfl (by kernel_rfl) (fun _ _ _ h => h) (Or.inl ⟨by rfl, ?_⟩) (by assumption) ?_
  rotate_left
  · intro w' hSw
    (try dsimp only at hSw)
    go_simp
    with_reducible rfl
  (try simp only [Act.put, List.setIfInBounds_toArray, List.set_cons_zero, List.set_cons_succ])
  refine anyZ_one (i := 3) (o := _) rfl (by kernel_rfl) (fun K hK => ?_)
  go_simp
  refine hK.out _ _ (fun _ => rfl) (fun hS1 => ?_)
  clear hS1 hK K
  (try simp only [Act.put, List.setIfInBounds_toArray, List.set_cons_zero, List.set_cons_succ])
  refine anyZ_one (i := 4) (o := _) rfl (by kernel_rfl) (fun K hK => ?_)
  go_simp
  refine hK.out _ _ (fun _ => rfl) (fun hS1 => ?_)
  clear hS1 hK K
  (try simp only [Act.put, List.setIfInBounds_toArray, List.set_cons_zero, List.set_cons_succ])
  refine anyZ_one (i := 5) (o := _) rfl (by kernel_rfl) (fun K hK => ?_)
  go_simp
  refine hK.out _ _ (fun h => absurd rfl h) (fun _ => ?_)
  clear hK K
  refine anyZ_done (by kernel_rfl) ?_
  clear hHeld
  go_wp2
  refine bodyPost_ret (v := .tuple #[.agg ((lastD (exX now q).2).cs A n c), .int .i64 (lastI (exX now q).2), .bool (exX now q).2.isSome]) (by simp [results, Try.results12, go_sem, z0, z1, z2, z3, z4, z5, z6, z7, z8, PD.cs]) rfl ⟨A, n, c, rfl, ?_, ?_, ?_⟩
  · exact own_weaken (unhide H8).2.2.2.1 (by omega)
  · obtain ⟨A9, c9, ls9, h9⟩ := (unhide H8).1
    have e1 : exQ now q = { its := keepI now q.its, many := q.many, room := q.room, used := q.used - (((exX now q).1 : Nat) : Int).toNat, ssn := q.ssn } := by
      unfold exQ
      rw [Int.toNat_natCast]
    rw [e1]
    exact ⟨A9, c9, ls9, h9.keep (fun _ _ _ => rfl)⟩
  · first | exact (unhide H8).2.1 | exact (unhide H8).2.1.drew
end Go.Proofs.Ytmidnfkmefoleaa.Qx

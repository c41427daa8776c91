/-
  The anchor of chapter 17 answers true.
-/
import Derived.Test.YtfgbegamdlafkaaBk
set_option linter.unusedVariables false
set_option linter.unusedSimpArgs false
namespace Go.Proofs.Ytfgbegamdlafkaa.Wk
open Go.RowKit Wd Md Cm Cb Ch Ct Cu Jo Bk

def five : List Int := [1, 2, 3, 4, 5]
theorem five_ok : BOk five := by
  intro x hx
  simp [five] at hx
  rcases hx with rfl | rfl | rfl | rfl | rfl <;> omega
/-- What a cut into pieces leaves, told for use. -/
theorem cut_made {st ssn : Int} {o : Bool} {xs : List Int} {mm : Nat} {w w' : World} {e : Ending} (h : CutOut st ssn o xs mm w e w') (hm : 0 < mm) (hx : 0 < xs.length ∧ xs.length ≤ 1048576) :
    ∃ g c ds, e = .returned (.tuple #[.slice (some ⟨g, 0, none⟩) (nch mm xs.length) c, .int .i64 0]) ∧ ds.length = nch mm xs.length ∧ w'.ownsRow w.heap.size 38 7 (.slice (some ⟨g, 0, none⟩) (nch mm xs.length) c) (nch mm xs.length) (dts ds) ∧
      OwB w' w.heap.size ds ((List.range (nch mm xs.length)).map (chk mm xs)) ∧ (∀ (i : Nat) (d : Dt), ds[i]? = some d → PieceAt st ssn o (nch mm xs.length) i d) ∧ Below w.heap.size w w' := by
  rcases h with ⟨h1, _⟩ | ⟨_, h1, _⟩ | ⟨m2, hmm, _, _, _, A, c, ds, he, hl, hr, ho, hh, hb⟩
  · omega
  · omega
  · obtain rfl : mm = m2 := by omega
    obtain ⟨g, cap, hv, _, _⟩ := hr.form (nch_pos hx.1).1
    obtain ⟨rfl, rfl⟩ : A = some ⟨g, 0, none⟩ ∧ c = cap := by injection hv with a b c; exact ⟨a, c⟩
    exact ⟨g, c, ds, he, hl, hr, ho, hh, hb⟩
/-- What a join of a cut leaves. -/
theorem join_made {st ssn : Int} {o : Bool} {xs : List Int} {mm base : Nat} {ds : List Dt} {w0 w w' : World} {e : Ending} (h : JoinOut ds ((List.range (nch mm xs.length)).map (chk mm xs)) w e w') (hm : 0 < mm) (hx : 0 < xs.length ∧ xs.length ≤ 1048576)
    (hl : ds.length = nch mm xs.length) (hO : OwB w0 base ds ((List.range (nch mm xs.length)).map (chk mm xs))) (hH : ∀ (i : Nat) (d : Dt), ds[i]? = some d → PieceAt st ssn o (nch mm xs.length) i d) :
    ∃ A c, e = .returned (.tuple #[.agg #[.int .u16 st, .bool o, .slice A xs.length c], .bool true]) ∧ w'.ownsRow w.heap.size 5 1 (.slice A xs.length c) xs.length (bs xs) ∧ Below w.heap.size w w' := by
  have hp := (nch_pos (mm := mm) hx.1).1
  rcases h with ⟨d0, A, c, h0, hR, ht, he, ho, hb⟩ | ⟨hn, _⟩
  · obtain ⟨_, a2, _, a4, _⟩ := hH 0 d0 h0
    rw [cut_tot hm] at he ho
    rw [chk_all hm] at ho
    exact ⟨A, c, by rw [he, a2, a4, Bool.not_not], ho, hb⟩
  · have h0 : ds[0]? = some (ds[0]'(by omega)) := List.getElem?_eq_getElem _
    exact absurd ⟨_, h0, cut_rights hm hl hO hH h0, by rw [cut_tot hm]; exact hx.2⟩ hn
theorem chk_rd {w : World} {base : Nat} {ds : List Dt} {xs : List Int} {mm : Nat} (hO : OwB w base ds ((List.range (nch mm xs.length)).map (chk mm xs))) : RdB w w.heap.size ds ((List.range (nch mm xs.length)).map (chk mm xs)) := hO.rd

set_option maxRecDepth 100000 in
set_option maxHeartbeats 1000000 in
theorem works (w : World) : Calls Try.prog 11 #[] w fun e w' => e = .returned (.bool true) ∧ Below w.heap.size w w' := by
  have hn3 : nch 2 five.length = 3 := by decide
  go_enter Try.func11, Try.ntmps11
  go_upto_region 2 with fail
  have hb2 : Below w.heap.size w ((w.alloc (.cells #[.int .u8 1, .int .u8 2, .int .u8 3, .int .u8 4, .int .u8 5] 5)).alloc (.cells #[.int .u16 7, .bool true, .slice (some ⟨w.heap.size, 0, none⟩) 5 5] 25)) := ((Below.refl _ _).alloc (Nat.le_refl _) _).alloc (by simp) _
  have hr2 : Reads ((w.alloc (.cells #[.int .u8 1, .int .u8 2, .int .u8 3, .int .u8 4, .int .u8 5] 5)).alloc (.cells #[.int .u16 7, .bool true, .slice (some ⟨w.heap.size, 0, none⟩) 5 5] 25)) (w.heap.size + 1) 1 (some ⟨w.heap.size, 0, none⟩) 5 (bs five) := (reads_new w #[.int .u8 1, .int .u8 2, .int .u8 3, .int .u8 4, .int .u8 5] 5 1 5 rfl).alloc (by simp) _
  have hm2 := Blk.new (w.alloc (.cells #[.int .u8 1, .int .u8 2, .int .u8 3, .int .u8 4, .int .u8 5] 5)) 25 #[.int .u16 7, .bool true, .slice (some ⟨w.heap.size, 0, none⟩) 5 5]
  rw [World.size_alloc] at hm2
  have hs2 : ((w.alloc (.cells #[.int .u8 1, .int .u8 2, .int .u8 3, .int .u8 4, .int .u8 5] 5)).alloc (.cells #[.int .u16 7, .bool true, .slice (some ⟨w.heap.size, 0, none⟩) 5 5] 25)).heap.size = w.heap.size + 2 := by simp
  generalize ((w.alloc (.cells #[.int .u8 1, .int .u8 2, .int .u8 3, .int .u8 4, .int .u8 5] 5)).alloc (.cells #[.int .u16 7, .bool true, .slice (some ⟨w.heap.size, 0, none⟩) 5 5] 25)) = w2 at *
  have x0 := hm2.cell 0
  have x1 := hm2.cell 1
  have x2 := hm2.cell 2
  go_wp2_with fail
  refine (cut 7 9 true (some ⟨w.heap.size, 0, none⟩) 5 5 (w.heap.size + 1) ((2 : Nat) : Int) five w2 (by omega) (by omega) (by omega) (by omega) (by omega) hr2 five_ok).mono ?_
  intro e w3 hcut
  obtain ⟨g, c, ds, rfl, hl, hr, ho, hh, hb⟩ := cut_made hcut (by omega) (by decide)
  rw [hn3] at hr
  clear hcut x0 x1 x2
  have hb3 := below_then hb2 hb2.size hb
  have hm3 := hm2.below hb (by omega)
  have hr3 := hr2.keep (w' := w3) (fun p hp => hb.cell (by omega))
  have hs3 := hb.size
  have hl3 : ds.length = 3 := by rw [hl]; exact hn3
  go_wp2_with fail
  refine (Jr.join (some ⟨g, 0, none⟩) 3 c w3.heap.size ds _ w3 (by omega) (Nat.le_refl _) (Reads.of_own hr) ho.rd (by rw [cut_tot (by omega)]; decide)).mono ?_
  intro e w4 hj
  obtain ⟨A, c2, rfl, hw4, hb4⟩ := join_made hj (by omega) (by decide) hl ho hh
  have hfl : five.length = 5 := rfl
  rw [hfl] at hw4 ⊢
  have hb5 := (below_then hb3 hb3.size hb4).alloc (by have := hb3.size; have := hb4.size; omega) (.cells #[.int .u16 7, .bool true, .slice A 5 c2] 25)
  have hn5 := Blk.new w4 25 #[.int .u16 7, .bool true, .slice A 5 c2]
  have hm5 := (hm3.below hb4 (by omega)).alloc (.cells #[.int .u16 7, .bool true, .slice A 5 c2] 25)
  have hr5 := (own_below hr hb4).alloc (.cells #[.int .u16 7, .bool true, .slice A 5 c2] 25)
  have hx5 := (hr3.keep (w' := w4) (fun p hp => hb4.cell (by omega))).alloc (by have := hb4.size; omega) (.cells #[.int .u16 7, .bool true, .slice A 5 c2] 25)
  have hy5 := (Reads.of_own hw4).alloc (Nat.le_refl _) (.cells #[.int .u16 7, .bool true, .slice A 5 c2] 25)
  have hs5 : w4.heap.size < (w4.alloc (.cells #[.int .u16 7, .bool true, .slice A 5 c2] 25)).heap.size := by simp
  have hs6 := hb4.size
  go_upto_region 4 with fail
  generalize (w4.alloc (.cells #[.int .u16 7, .bool true, .slice A 5 c2] 25)) = w5 at *
  generalize w4.heap.size = b4 at *
  obtain ⟨d0, hd0⟩ : ∃ d, ds[0]? = some d := ⟨_, List.getElem?_eq_getElem (by omega)⟩
  obtain ⟨d1, hd1⟩ : ∃ d, ds[1]? = some d := ⟨_, List.getElem?_eq_getElem (by omega)⟩
  obtain ⟨d2, hd2⟩ : ∃ d, ds[2]? = some d := ⟨_, List.getElem?_eq_getElem (by omega)⟩
  obtain ⟨_, _, _, _, f0, _⟩ := hh 0 d0 hd0
  obtain ⟨_, _, f1, _, _, _⟩ := hh 1 d1 hd1
  obtain ⟨_, _, _, _, _, f2⟩ := hh 2 d2 hd2
  have fn := cut_len (st := 7) (ssn := 9) (o := true) ho hd2
  have fn2 : d2.n = 1 := by rw [fn]; decide
  have y0 := own_dt hr5 hd0 4 _ rfl
  have y1 := own_dt hr5 hd1 2 _ rfl
  have y2 := own_dt hr5 hd2 5 _ rfl
  have y3 := own_dt hr5 hd2 6 _ rfl
  rw [f0] at y0
  rw [f1] at y1
  rw [f2, hn3] at y2
  rw [fn2] at y3
  simp only [Nat.zero_mul, Nat.zero_add, Nat.reduceMul, Nat.reduceAdd, decide_true, if_true] at y0 y1 y2 y3
  have x0 := hm5.cell 0
  have x1 := hm5.cell 1
  have x2 := hm5.cell 2
  have z0 := hn5.cell 0
  have z1 := hn5.cell 1
  have z2 := hn5.cell 2
  have HX := hide (And.intro hx5 hy5)
  have HB := hide hb5
  clear hm5 hn5 hr5 hd0 hd1 hd2 f0 f1 f2 fn fn2 hx5 hy5 hw4 hr hr3 hm3 hb3 hb4 hb ho hh hl hj hb2 hr2 hm2
  go_wp2_with fail
  refine (c22 7 7 true true (some ⟨w.heap.size, 0, none⟩) A 5 5 5 c2 (w.heap.size + 1) b4 five five w5 (by omega) (by omega) (by omega) (by omega) (unhide HX).1 (unhide HX).2 five_ok five_ok).mono ?_
  rintro e w6 ⟨rfl, hb6⟩
  have t1 : decide ((7 : Int) = 7 ∧ true = true ∧ five = five) = true := by simp
  rw [t1]
  go_wp2
  go_ret
  exact ⟨rfl, below_then (unhide HB) (unhide HB).size hb6⟩
end Go.Proofs.Ytfgbegamdlafkaa.Wk

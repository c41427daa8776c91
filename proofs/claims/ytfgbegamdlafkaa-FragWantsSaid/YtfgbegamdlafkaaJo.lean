/-
  Contract of frag.Join: the message of pieces, its bytes in a row of its own; or that there is none.
-/
import Derived.Test.YtfgbegamdlafkaaCb
import Derived.Deep.RegionLaw
import Derived.Deep.DeepCutAuto
set_option linter.unusedVariables false
set_option linter.unusedSimpArgs false
namespace Go.Proofs.Ytfgbegamdlafkaa.Jo
open Go.RowKit Wd Md Cm Cb

/-- A piece at its place among n, the first one being d0. -/
def Right (n : Nat) (d0 : Dt) (k : Nat) (d : Dt) : Prop := d.fi = decide (k = 0) ∧ d.la = decide (k + 1 = n) ∧ 0 < d.n ∧ d.st = d0.st ∧ d.ssn = d0.ssn ∧ d.un = d0.un
/-- The first k are right. -/
def Rights (ds : List Dt) (d0 : Dt) (k : Nat) : Prop := ∀ (i : Nat) (d : Dt), i < k → ds[i]? = some d → Right ds.length d0 i d
theorem rights_next {ds : List Dt} {d0 d : Dt} {k : Nat} (h : Rights ds d0 k) (hd : ds[k]? = some d) (hr : Right ds.length d0 k d) : Rights ds d0 (k + 1) := fun i e hi he => by
  rcases Nat.lt_or_ge i k with h1 | h1
  · exact h i e h1 he
  · have : i = k := by omega
    subst this
    rw [hd] at he
    injection he with he
    rw [← he]
    exact hr
/-- The pieces of a message. -/
def Fits (ds : List Dt) (bb : List (List Int)) : Prop := ∃ d0, ds[0]? = some d0 ∧ Rights ds d0 ds.length ∧ tot bb ≤ 1048576
/-- What Join tells: the stream, the kind, the bytes; or that there is no message. -/
def JoinOut (ds : List Dt) (bb : List (List Int)) (w : World) (e : Ending) (w' : World) : Prop :=
  (∃ d0 A c, ds[0]? = some d0 ∧ Rights ds d0 ds.length ∧ tot bb ≤ 1048576 ∧ e = .returned (.tuple #[.agg #[.int .u16 d0.st, .bool (!d0.un), .slice A (tot bb) c], .bool true]) ∧ w'.ownsRow w.heap.size 5 1 (.slice A (tot bb) c) (tot bb) (bs bb.flatten) ∧ Below w.heap.size w w') ∨
  (¬ Fits ds bb ∧ e = .returned (.tuple #[.agg #[.int .u16 0, .bool false, .slice none 0 0], .bool false]) ∧ Below w.heap.size w w')
theorem fits_not {ds : List Dt} {bb : List (List Int)} {d0 d : Dt} {k : Nat} (h0 : ds[0]? = some d0) (hd : ds[k]? = some d) (hr : ¬ Right ds.length d0 k d) : ¬ Fits ds bb := by
  rintro ⟨e0, h1, h2, _⟩
  rw [h0] at h1
  injection h1 with h1
  subst h1
  exact hr (h2 k d (List.getElem?_eq_some_iff.1 hd).1 hd)
theorem size25 : (Try.prog.info? 25).map (·.size) = some 3 := by kernel_rfl
theorem tot_take_le (bb : List (List Int)) (k : Nat) : tot (bb.take k) ≤ tot bb := by
  unfold tot
  have : bb.flatten = (bb.take k).flatten ++ (bb.drop k).flatten := by rw [← List.flatten_append, List.take_append_drop]
  rw [this, List.length_append]
  omega
theorem flat_next {bb : List (List Int)} {k : Nat} {b : List Int} (h : bb[k]? = some b) : (bb.take (k + 1)).flatten = (bb.take k).flatten ++ b := by
  rw [List.take_add_one, h]
  simp

theorem own_drewN {w : World} {base n : Nat} {e : TypeId} {size : Nat} {v : Value} {xs : List Value} (h : w.ownsRow base e size v n xs) (q : Nat) : (w.drewN q).ownsRow base e size v n xs := h
theorem zero_back {w : World} {g : Nat} (h : Blk w g 25 #[.int .u16 0, .bool false, .slice none 0 0]) (o : Obj) (q : Nat) : Blk (((((w.alloc o).drewN q).setCell ⟨g, 0, none⟩ (.int .u16 0)).setCell ⟨g, 1, none⟩ (.bool false)).setCell ⟨g, 2, none⟩ (.slice none 0 0)) g 25 #[.int .u16 0, .bool false, .slice none 0 0] := by
  simpa using (((((h.alloc o).drewN q).set_ 0 (.int .u16 0)).set_ 1 (.bool false)).set_ 2 (.slice none 0 0))
theorem below_back {w w' : World} {B g : Nat} (h : Below B w w') (hB : B ≤ w'.heap.size) (hg : B ≤ g) (o : Obj) (q : Nat) (u0 u1 u2 : Value) : Below B w (((((w'.alloc o).drewN q).setCell ⟨g, 0, none⟩ u0).setCell ⟨g, 1, none⟩ u1).setCell ⟨g, 2, none⟩ u2) :=
  (((below_drewN (h.alloc hB o) q).setCell hg _).setCell hg _).setCell hg _
set_option maxRecDepth 100000 in
set_option maxHeartbeats 2000000 in
theorem c20 (A : Option Addr) (m c B : Nat) (ds : List Dt) (bb : List (List Int)) (w : World) (hn : m + 1 ≤ 1000000) (hB : B ≤ w.heap.size) (h : Reads w B 7 A (m + 1) (dts ds)) (hb : RdB w B ds bb) (ht : tot bb ≤ 1000000000) :
    Calls Try.prog 20 #[.slice A (m + 1) c] w (JoinOut ds bb w) := by
  obtain ⟨i0, hi0, hz0, hz1, hz2⟩ := info_parts info5
  have L := hide (dlen_ h)
  have hnz : ((m : Int) + 1 == 0) = false := by rw [beq_eq_false_iff_ne]; omega
  obtain ⟨ad, d0, rfl, hab, hd0, p0, p1, p2, p3, p4, p5, p6⟩ := dat_ h 0 (by omega)
  rw [Nat.zero_mul] at p0 p1 p2 p3 p4 p5 p6
  have HD0 := hide hd0
  have H := hide h
  have HB := hide hb
  have e00 : ad.add 0 = ad := by unfold Addr.add; rw [if_pos rfl]
  rw [e00] at p0 p1 p2 p3 p4 p5 p6
  have hadB : ad.block < B := hab
  clear hd0 h hb e00
  go_enter Try.func20, Try.ntmps20
  go_upto_region 3 with fail
  go_cut [4] (fun s4 wx => s4 = .pointer (some ⟨w.heap.size + 1, 0, none⟩) ∧ Blk wx w.heap.size 25 #[.int .u16 0, .bool false, .slice none 0 0] ∧ Blk wx (w.heap.size + 1) 25 #[.int .u16 d0.st, .bool (!d0.un), .slice none 0 0] ∧ Below w.heap.size w wx)
  case first =>
    have q1 : ∀ o o', ((w.alloc o).alloc o').cell? ⟨ad.block, ad.off + 1, none⟩ = some (.int .u16 d0.st) := fun o o' => (World.cell?_alloc_lt (w.alloc o) o' _ (by simp; omega)).trans ((World.cell?_alloc_lt w o _ (by simp; omega)).trans p1)
    have q3 : ∀ o o', ((w.alloc o).alloc o').cell? ⟨ad.block, ad.off + 3, none⟩ = some (.bool d0.un) := fun o o' => (World.cell?_alloc_lt (w.alloc o) o' _ (by simp; omega)).trans ((World.cell?_alloc_lt w o _ (by simp; omega)).trans p3)
    have r1 : ∀ o, (w.alloc o).cell? ⟨ad.block, ad.off + 1, none⟩ = some (.int .u16 d0.st) := fun o => (World.cell?_alloc_lt w o _ (by simp; omega)).trans p1
    have r3 : ∀ o, (w.alloc o).cell? ⟨ad.block, ad.off + 3, none⟩ = some (.bool d0.un) := fun o => (World.cell?_alloc_lt w o _ (by simp; omega)).trans p3
    go_region_law (fail)
    all_goals
      go_wp2
      go_meet
      have n0 := (Blk.new w 25 #[.int .u16 0, .bool false, .slice none 0 0]).alloc (.cells #[.int .u16 d0.st, .bool (!d0.un), .slice none 0 0] 25)
      have n1 := Blk.new (w.alloc (.cells #[.int .u16 0, .bool false, .slice none 0 0] 25)) 25 #[.int .u16 d0.st, .bool (!d0.un), .slice none 0 0]
      have e1 : (w.alloc (.cells #[.int .u16 0, .bool false, .slice none 0 0] 25)).heap.size = w.heap.size + 1 := by simp
      rw [e1] at n1
      exact ⟨rfl, n0.drew, n1.drew, (((Below.refl _ _).alloc (Nat.le_refl _) _).alloc (by simp) _).drew⟩
  case rest =>
    obtain ⟨rfl, hR, hM, hbel⟩ := hcut
    have PP := hide (And.intro p2 (And.intro p1 p3))
    clear p0 p1 p2 p3 p4 p5 p6
    obtain ⟨wc0, hwc0⟩ : ∃ wx : World, wx = wc := ⟨_, rfl⟩
    subst hwc0
    have hsz := hM.lt
    go_wp2
    go_loopw [24] (fun i wr => ∃ (k : Nat) (v : Value), k ≤ m + 1 ∧ i = .int .i64 k ∧ Below w.heap.size w wr ∧ Blk wr w.heap.size 25 #[.int .u16 0, .bool false, .slice none 0 0] ∧ Blk wr (w.heap.size + 1) 25 #[.int .u16 d0.st, .bool (!d0.un), v] ∧ wr.ownsRow (w.heap.size + 2) 5 1 v (tot (bb.take k)) (bs (bb.take k).flatten) ∧ Hid (Rights ds d0 k)) (fun i _ => m + 1 - (intOf i).toNat)
    case atStart => exact ⟨0, .slice none 0 0, Nat.zero_le _, rfl, hbel, hR, hM, by simpa [tot, bs] using own_none wc0 (w.heap.size + 2) 5 1, fun i d hi => absurd hi (by omega)⟩
    case round =>
      obtain ⟨k, v, hk, rfl, hbr, hR', hM', hor, hT⟩ := hrel
      clear hR hM hbel
      have hltM := hM'.lt
      have hltR := hR'.lt
      obtain ⟨A2, c2, rfl, hle2, hnil2⟩ := own_slice hor
      have r0 := hR'.cell 0
      have r1 := hR'.cell 1
      have r2 := hR'.cell 2
      have rf0 := hR'.frozen 0
      have rf1 := hR'.frozen 1
      have rf2 := hR'.frozen 2
      have s0 := hM'.cell 0
      have s1 := hM'.cell 1
      have s2 := hM'.cell 2
      have sf2 := hM'.frozen 2
      by_cases hlt : k < m + 1
      · obtain ⟨ad', d, hA', hab', hd, q0, q1, q2, q3, q4, q5, q6⟩ := dat_ ((unhide H).keep (w' := wr) (fun p hp => hbr.cell (by omega))) k hlt
        obtain rfl : ad = ad' := by injection hA'
        have p2 : ∀ o, (wr.alloc o).cell? ⟨ad.block, ad.off + 2, none⟩ = some (.int .u16 d0.ssn) := fun o => (World.cell?_alloc_lt wr o _ (by have := hbr.size; show ad.block < _; omega)).trans ((hbr.cell (p := ⟨ad.block, _, none⟩) (by show ad.block < _; omega)).trans (unhide PP).1)
        obtain ⟨b, hb1, rb, cb, ob⟩ := ((unhide HB).keep (w' := wr) (fun p hp => hbr.cell (by omega))).at_ hd
        have hbn := blen_ rb
        have HD := hide hd
        have hlen := unhide L
        have hRt : Hid (Right ds.length d0 k d ↔ (d.fi = ((k : Int) == 0) ∧ d.la = ((k : Int) == m) ∧ 0 < d.n ∧ d.st = d0.st ∧ d.ssn = d0.ssn ∧ d.un = d0.un)) := by
          show _ ↔ _
          unfold Right
          rw [hlen, show decide (k = 0) = ((k : Int) == 0) from by rw [Bool.eq_iff_iff]; simp <;> omega, show decide (k + 1 = m + 1) = ((k : Int) == m) from by rw [Bool.eq_iff_iff]; simp <;> omega]
        have hno : Hid (¬ Right ds.length d0 k d → ¬ Fits ds bb) := fun h => fits_not (unhide HD0) (unhide HD) h
        clear hA' hab' hd hlen
        by_cases f1 : d.fi = ((k : Int) == 0)
        case neg =>
          have HN := hide (unhide hno (fun e => f1 (by have e := (unhide hRt).1 e; exact e.1)))
          clear p2
          go_wp2
          go_quiet (fail)
          go_wp2
          refine bodyPost_ret (results_ct (P := Try.prog) Try.results20 _ _ w.heap.size 25 #[.int .u16 0, .bool false, .slice none 0 0] _ rfl (zero_back hR' _ _) Try.underlying25 rfl size25) rfl ?_
          exact .inr ⟨unhide HN, rfl, below_back hbr hbr.size (Nat.le_refl _) _ _ _ _ _⟩
        case pos =>
          by_cases f2 : d.la = ((k : Int) == m)
          case neg =>
            have HN := hide (unhide hno (fun e => f2 (by have e := (unhide hRt).1 e; exact e.2.1)))
            clear p2
            go_wp2
            go_quiet (fail)
            go_wp2
            refine bodyPost_ret (results_ct (P := Try.prog) Try.results20 _ _ w.heap.size 25 #[.int .u16 0, .bool false, .slice none 0 0] _ rfl (zero_back hR' _ _) Try.underlying25 rfl size25) rfl ?_
            exact .inr ⟨unhide HN, rfl, below_back hbr hbr.size (Nat.le_refl _) _ _ _ _ _⟩
          case pos =>
            by_cases f3 : 0 < d.n
            case neg =>
              have HN := hide (unhide hno (fun e => f3 (by have e := (unhide hRt).1 e; exact e.2.2.1)))
              have g3 : ((d.n : Int) == 0) = true := by rw [beq_iff_eq]; omega
              clear p2
              go_wp2
              go_quiet (fail)
              go_wp2
              refine bodyPost_ret (results_ct (P := Try.prog) Try.results20 _ _ w.heap.size 25 #[.int .u16 0, .bool false, .slice none 0 0] _ rfl (zero_back hR' _ _) Try.underlying25 rfl size25) rfl ?_
              exact .inr ⟨unhide HN, rfl, below_back hbr hbr.size (Nat.le_refl _) _ _ _ _ _⟩
            case pos =>
              have g3 : ((d.n : Int) == 0) = false := by rw [beq_eq_false_iff_ne]; omega
              by_cases f4 : d.st = d0.st
              case neg =>
                have HN := hide (unhide hno (fun e => f4 (by have e := (unhide hRt).1 e; exact e.2.2.2.1)))
                have g4 : (d.st != d0.st) = true := by rw [bne_iff_ne]; exact f4
                clear p2
                go_wp2
                go_quiet (fail)
                go_wp2
                refine bodyPost_ret (results_ct (P := Try.prog) Try.results20 _ _ w.heap.size 25 #[.int .u16 0, .bool false, .slice none 0 0] _ rfl (zero_back hR' _ _) Try.underlying25 rfl size25) rfl ?_
                exact .inr ⟨unhide HN, rfl, below_back hbr hbr.size (Nat.le_refl _) _ _ _ _ _⟩
              case pos =>
                have g4 : (d.st != d0.st) = false := by rw [bne_eq_false_iff_eq]; exact f4
                by_cases f5 : d.ssn = d0.ssn
                case neg =>
                  have HN := hide (unhide hno (fun e => f5 (by have e := (unhide hRt).1 e; exact e.2.2.2.2.1)))
                  have g5 : (d.ssn != d0.ssn) = true := by rw [bne_iff_ne]; exact f5
                  go_wp2
                  go_quiet (fail)
                  go_wp2
                  refine bodyPost_ret (results_ct (P := Try.prog) Try.results20 _ _ w.heap.size 25 #[.int .u16 0, .bool false, .slice none 0 0] _ rfl (zero_back hR' _ _) Try.underlying25 rfl size25) rfl ?_
                  exact .inr ⟨unhide HN, rfl, below_back hbr hbr.size (Nat.le_refl _) _ _ _ _ _⟩
                case pos =>
                  have g5 : (d.ssn != d0.ssn) = false := by rw [bne_eq_false_iff_eq]; exact f5
                  by_cases f6 : d.un = d0.un
                  case neg =>
                    have HN := hide (unhide hno (fun e => f6 (by have e := (unhide hRt).1 e; exact e.2.2.2.2.2)))
                    have g6 : (d.un == !d0.un) = true := by revert f6; cases d.un <;> cases d0.un <;> simp
                    go_wp2
                    go_quiet (fail)
                    go_wp2
                    refine bodyPost_ret (results_ct (P := Try.prog) Try.results20 _ _ w.heap.size 25 #[.int .u16 0, .bool false, .slice none 0 0] _ rfl (zero_back hR' _ _) Try.underlying25 rfl size25) rfl ?_
                    exact .inr ⟨unhide HN, rfl, below_back hbr hbr.size (Nat.le_refl _) _ _ _ _ _⟩
                  case pos =>
                    have g6 : (d.un == !d0.un) = false := by revert f6; cases d.un <;> cases d0.un <;> simp
                    have HR := hide ((unhide hRt).2 ⟨f1, f2, f3, f4, f5, f6⟩)
                    clear f4 f5 f6
                    have hkt := tot_take_le bb k
                    have hkt2 := tot_take_le bb (k + 1)
                    have hnx := tot_next hb1
                    have hfx := hide (flat_next hb1)
                    have HNX := hide hnx
                    have hdt : tot (bb.take k) + d.n ≤ 1000000000 := by omega
                    have hwr := hbr.size
                    clear hb1 hnx
                    have hsz2 : ∀ (o : Obj) (q : Nat), w.heap.size + 2 ≤ ((wr.alloc o).drewN q).heap.size := by intro o q; show _ ≤ (wr.alloc o).heap.size; simp <;> omega
                    go_wp2
                    go_quiet (fail)
                    go_wp2_with (at_builtin; refine wpList_append_any _ rfl (.tmp 76) (.tmp 78) _ rfl (w.heap.size + 2) 5 i0 _ 1 1 Try.underlying23 hi0 hz0 hz1 hz2 rfl (by omega) (.slice A2 (tot (bb.take k)) c2) (tot (bb.take k)) (bs (bb.take k).flatten) rfl (own_drewN (hor.alloc _) _) B d.A d.n d.c (bs b) rfl ((rb.alloc (by omega) _).drewN _) (bs_one b) (by simp only [maxLen]; omega) (by omega) (hsz2 _ _) ?_; intro v1 w1 hown1 hg1 hat1; obtain ⟨A1, c1, rfl, _, _⟩ := own_slice hown1; have hM2 := ((hM'.alloc _).drewN _).grown hg1 (own_ne hor (by omega)); have hR2 := ((hR'.alloc _).drewN _).grown hg1 (own_ne hor (by omega)); have z0 := hM2.cell 2; have z1 := hM2.frozen 2; have hb2 := below_app (below_drewN (hbr.alloc hbr.size _) _) (own_weaken (own_drewN (hor.alloc _) _) (by omega)) hg1 (Nat.le_trans (Nat.le_add_right _ 2) (hsz2 _ _)))
                    go_roundw
                    case rel =>
                      have e1 : tot (bb.take (k + 1)) = tot (bb.take k) + d.n := by rw [unhide HNX, hbn]
                      have hM3 := hM2.set_ 2 (.slice A1 (tot (bb.take k) + d.n) c1)
                      have ho3 := own_set (i := 2) (u := .slice A1 (tot (bb.take k) + d.n) c1) hown1 (g := w.heap.size + 1) (by omega)
                      rw [← bs_append, ← unhide hfx, ← e1] at ho3
                      rw [← e1] at hM3
                      refine ⟨k + 1, .slice A1 (tot (bb.take (k + 1))) c1, by omega, by go_num, ?_, ?_, ?_, ?_, rights_next (unhide hT) (unhide HD) (unhide HR)⟩
                      · exact hb2.setCell (by simp) _
                      · exact hR2.far (by simp) _
                      · rw [e1] at hM3 ⊢
                        simpa using hM3
                      · rw [e1] at ho3 ⊢
                        exact ho3
                    case measure => simp [intOf]; omega
      · obtain rfl : k = m + 1 := by omega
        have hbb : bb.take (m + 1) = bb := List.take_of_length_le (by have e1 := unhide L; have e2 := (unhide HB).1; omega)
        rw [hbb] at hM' hor hle2 hnil2 s2
        have hRr : Rights ds d0 ds.length := by rw [unhide L]; exact unhide hT
        have HRr := hide hRr
        clear hRr hbb
        by_cases hfit : tot bb ≤ 1048576
        · go_wp2
          have hres : Blk (((wr.setCell ⟨w.heap.size, 0, none⟩ (.int .u16 d0.st)).setCell ⟨w.heap.size, 1, none⟩ (.bool (!d0.un))).setCell ⟨w.heap.size, 2, none⟩ (.slice A2 (tot bb) c2)) w.heap.size 25 #[.int .u16 d0.st, .bool (!d0.un), .slice A2 (tot bb) c2] := by
            simpa using (((hR'.set_ 0 (.int .u16 d0.st)).set_ 1 (.bool (!d0.un))).set_ 2 (.slice A2 (tot bb) c2))
          refine bodyPost_ret (results_ct (P := Try.prog) Try.results20 _ _ w.heap.size 25 _ _ rfl hres Try.underlying25 rfl size25) rfl ?_
          have o1 := own_weaken (base' := w.heap.size + 1) hor (by omega)
          have o2 := own_weaken (base' := w.heap.size) (own_set (i := 2) (u := .slice A2 (tot bb) c2) (own_set (i := 1) (u := .bool (!d0.un)) (own_set (i := 0) (u := .int .u16 d0.st) o1 (g := w.heap.size) (by omega)) (g := w.heap.size) (by omega)) (g := w.heap.size) (by omega)) (by omega)
          exact .inl ⟨d0, A2, c2, unhide HD0, unhide HRr, hfit, rfl, o2, ((hbr.setCell (by simp) _).setCell (by simp) _).setCell (by simp) _⟩
        · have hbig : 1048576 < tot bb := by omega
          have HN : Hid (¬ Fits ds bb) := fun ⟨_, _, _, h3⟩ => by omega
          go_wp2
          refine bodyPost_ret (results_ct (P := Try.prog) Try.results20 _ _ w.heap.size 25 #[.int .u16 0, .bool false, .slice none 0 0] _ rfl (by simpa using (((hR'.set_ 0 (.int .u16 0)).set_ 1 (.bool false)).set_ 2 (.slice none 0 0))) Try.underlying25 rfl size25) rfl ?_
          exact .inr ⟨unhide HN, rfl, ((hbr.setCell (by simp) _).setCell (by simp) _).setCell (by simp) _⟩
end Go.Proofs.Ytfgbegamdlafkaa.Jo

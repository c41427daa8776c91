/-
  Contract of the document's Join: as frag.Join's.
-/
import Derived.Test.YtfgbegamdlafkaaJo
set_option linter.unusedVariables false
set_option linter.unusedSimpArgs false
namespace Go.Proofs.Ytfgbegamdlafkaa.Jr
open Go.RowKit Wd Md Cm Cb Jo

/-- frag.Join at no pieces. -/
theorem c20z (A : Option Addr) (c : Nat) (w : World) : Calls Try.prog 20 #[.slice A 0 c] w (JoinOut [] [] w) := by
  go_enter Try.func20, Try.ntmps20
  go_wp2
  refine bodyPost_ret (results_ct (P := Try.prog) Try.results20 _ _ w.heap.size 25 _ _ rfl (Blk.new w 25 _) Try.underlying25 rfl size25) rfl ?_
  exact .inr ⟨fun ⟨d, h, _⟩ => by simp at h, rfl, (Below.refl _ _).alloc (Nat.le_refl _) _⟩
theorem c21z (A : Option Addr) (c : Nat) (w : World) : Calls Try.prog 21 #[.slice A 0 c] w (JoinOut [] [] w) := by
  go_enter Try.func21, Try.ntmps21
  go_wp2
  refine wp_loop_rounds 1 ?_
  rw [rounds_succ]
  go_wp2
  refine bodyPost_ret (results_ct (P := Try.prog) Try.results21 _ _ w.heap.size 25 _ _ rfl (Blk.new w 25 _) Try.underlying25 rfl size25) rfl ?_
  exact .inr ⟨fun ⟨d, h, _⟩ => by simp at h, rfl, (Below.refl _ _).alloc (Nat.le_refl _) _⟩
/-- frag.Join. -/
theorem join (A : Option Addr) (n c B : Nat) (ds : List Dt) (bb : List (List Int)) (w : World) (hn : n ≤ 1000000) (hB : B ≤ w.heap.size) (h : Reads w B 7 A n (dts ds)) (hb : RdB w B ds bb) (ht : tot bb ≤ 1000000000) :
    Calls Try.prog 20 #[.slice A n c] w (JoinOut ds bb w) := by
  rcases Nat.eq_zero_or_pos n with rfl | hp
  · obtain rfl : ds = [] := List.eq_nil_of_length_eq_zero (dlen_ h)
    obtain rfl : bb = [] := List.eq_nil_of_length_eq_zero hb.1.symm
    exact c20z A c w
  · obtain ⟨m, rfl⟩ : ∃ m, n = m + 1 := ⟨n - 1, by omega⟩
    exact c20 A m c B ds bb w hn hB h hb ht

set_option maxRecDepth 100000 in
set_option maxHeartbeats 2000000 in
theorem c21 (A : Option Addr) (m c B : Nat) (ds : List Dt) (bb : List (List Int)) (w : World) (hn : m + 1 ≤ 1000000) (hB : B ≤ w.heap.size) (h : Reads w B 7 A (m + 1) (dts ds)) (hb : RdB w B ds bb) (ht : tot bb ≤ 1000000000) :
    Calls Try.prog 21 #[.slice A (m + 1) c] w (JoinOut ds bb w) := by
  obtain ⟨i0, hi0, hz0, hz1, hz2⟩ := info_parts info5
  have L := hide (dlen_ h)
  have hnz : ((m : Int) + 1 == 0) = false := by rw [beq_eq_false_iff_ne]; omega
  obtain ⟨ad, d0, rfl, hab, hd0, p0, p1, p2, p3, p4, p5, p6⟩ := dat_ h 0 (by omega)
  rw [Nat.zero_mul] at p0 p1 p2 p3 p4 p5 p6
  have HD0 := hide hd0
  have H := hide h
  have HB := hide hb
  have e00 : ad.add 0 = ad := by unfold Addr.add; rw [if_pos rfl]
  rw [e00] at p0 p1 p2 p3 p4 p5 p6
  have hadB : ad.block < B := hab
  have PP := hide (And.intro p1 (And.intro p2 p3))
  clear hd0 h hb e00 p0 p1 p2 p3 p4 p5 p6
  go_enter Try.func21, Try.ntmps21
  go_wp2
  go_loopw [4, 5] (fun v i wr => ∃ (k : Nat), k ≤ m + 1 ∧ i = .int .i64 k ∧ Below w.heap.size w wr ∧ Blk wr w.heap.size 25 #[.int .u16 0, .bool false, .slice none 0 0] ∧ wr.ownsRow (w.heap.size + 1) 5 1 v (tot (bb.take k)) (bs (bb.take k).flatten) ∧ Hid (Rights ds d0 k)) (fun _ i _ => m + 1 - (intOf i).toNat)
  case atStart => exact ⟨0, Nat.zero_le _, rfl, (Below.refl _ _).alloc (Nat.le_refl _) _, Blk.new _ _ _, by simpa [tot, bs] using own_none _ (w.heap.size + 1) 5 1, fun i d hi => absurd hi (by omega)⟩
  case round =>
    obtain ⟨k, hk, rfl, hbr, hR', hor, hT⟩ := hrel
    have hltR := hR'.lt
    obtain ⟨A2, c2, rfl, hle2, hnil2⟩ := own_slice hor
    have r0 := hR'.cell 0
    have r1 := hR'.cell 1
    have r2 := hR'.cell 2
    have rf0 := hR'.frozen 0
    have rf1 := hR'.frozen 1
    have rf2 := hR'.frozen 2
    have hwr := hbr.size
    have pc : ∀ i u, w.cell? ⟨ad.block, i, none⟩ = some u → ∀ o, (wr.alloc o).cell? ⟨ad.block, i, none⟩ = some u := fun i u h o => (World.cell?_alloc_lt wr o _ (by show ad.block < _; omega)).trans ((hbr.cell (p := ⟨ad.block, i, none⟩) (by show ad.block < _; omega)).trans h)
    have p1 := pc _ _ (unhide PP).1
    have p2 := pc _ _ (unhide PP).2.1
    have p3 := pc _ _ (unhide PP).2.2
    clear pc
    by_cases hlt : k < m + 1
    · obtain ⟨ad', d, hA', hab', hd, q0, q1, q2, q3, q4, q5, q6⟩ := dat_ ((unhide H).keep (w' := wr) (fun p hp => hbr.cell (by omega))) k hlt
      obtain rfl : ad = ad' := by injection hA'
      obtain ⟨b, hb1, rb, cb, ob⟩ := ((unhide HB).keep (w' := wr) (fun p hp => hbr.cell (by omega))).at_ hd
      have hbn := blen_ rb
      have HD := hide hd
      have hlen := unhide L
      have hRt : Hid (Right ds.length d0 k d ↔ (d.fi = ((k : Int) == 0) ∧ d.la = ((k : Int) == m) ∧ d.st = d0.st ∧ d.ssn = d0.ssn ∧ d.un = d0.un ∧ 0 < d.n)) := by
        show _ ↔ _
        unfold Right
        rw [hlen, show decide (k = 0) = ((k : Int) == 0) from by rw [Bool.eq_iff_iff]; simp <;> omega, show decide (k + 1 = m + 1) = ((k : Int) == m) from by rw [Bool.eq_iff_iff]; simp <;> omega]
        constructor
        · rintro ⟨a, b, c, d, e, f⟩
          exact ⟨a, b, d, e, f, c⟩
        · rintro ⟨a, b, d, e, f, c⟩
          exact ⟨a, b, c, d, e, f⟩
      have hno : Hid (¬ Right ds.length d0 k d → ¬ Fits ds bb) := fun h => fits_not (unhide HD0) (unhide HD) h
      clear hA' hab' hd hlen
      by_cases f1 : d.fi = ((k : Int) == 0)
      case neg =>
        have HN := hide (unhide hno (fun e => f1 (by have e := (unhide hRt).1 e; exact e.1)))
        have g1 : (d.fi == ((k : Int) == 0)) = false := by rw [beq_eq_false_iff_ne]; exact f1
        clear f1
        go_wp2
        go_quiet (fail)
        go_wp2
        refine bodyPost_ret (results_ct (P := Try.prog) Try.results21 _ _ w.heap.size 25 #[.int .u16 0, .bool false, .slice none 0 0] _ rfl (zero_back hR' _ _) Try.underlying25 rfl size25) rfl ?_
        exact .inr ⟨unhide HN, rfl, below_back hbr hbr.size (Nat.le_refl _) _ _ _ _ _⟩
      case pos =>
        have g1 : (d.fi == ((k : Int) == 0)) = true := by rw [beq_iff_eq]; exact f1
        have F1 := hide f1
        clear f1
        by_cases f2 : d.la = ((k : Int) == m)
        case neg =>
          have HN := hide (unhide hno (fun e => f2 (by have e := (unhide hRt).1 e; exact e.2.1)))
          have g2 : (d.la == ((k : Int) == m)) = false := by rw [beq_eq_false_iff_ne]; exact f2
          clear f2
          go_wp2
          go_quiet (fail)
          go_wp2
          refine bodyPost_ret (results_ct (P := Try.prog) Try.results21 _ _ w.heap.size 25 #[.int .u16 0, .bool false, .slice none 0 0] _ rfl (zero_back hR' _ _) Try.underlying25 rfl size25) rfl ?_
          exact .inr ⟨unhide HN, rfl, below_back hbr hbr.size (Nat.le_refl _) _ _ _ _ _⟩
        case pos =>
          have g2 : (d.la == ((k : Int) == m)) = true := by rw [beq_iff_eq]; exact f2
          have F2 := hide f2
          clear f2
          by_cases f3 : d.st = d0.st
          case neg =>
            have HN := hide (unhide hno (fun e => f3 (by have e := (unhide hRt).1 e; exact e.2.2.1)))
            have g3 : (d.st != d0.st) = true := by rw [bne_iff_ne]; exact f3
            go_wp2
            go_quiet (fail)
            go_wp2
            refine bodyPost_ret (results_ct (P := Try.prog) Try.results21 _ _ w.heap.size 25 #[.int .u16 0, .bool false, .slice none 0 0] _ rfl (zero_back hR' _ _) Try.underlying25 rfl size25) rfl ?_
            exact .inr ⟨unhide HN, rfl, below_back hbr hbr.size (Nat.le_refl _) _ _ _ _ _⟩
          case pos =>
            have g3 : (d.st != d0.st) = false := by rw [bne_eq_false_iff_eq]; exact f3
            by_cases f4 : d.ssn = d0.ssn
            case neg =>
              have HN := hide (unhide hno (fun e => f4 (by have e := (unhide hRt).1 e; exact e.2.2.2.1)))
              have g4 : (d.ssn != d0.ssn) = true := by rw [bne_iff_ne]; exact f4
              go_wp2
              go_quiet (fail)
              go_wp2
              refine bodyPost_ret (results_ct (P := Try.prog) Try.results21 _ _ w.heap.size 25 #[.int .u16 0, .bool false, .slice none 0 0] _ rfl (zero_back hR' _ _) Try.underlying25 rfl size25) rfl ?_
              exact .inr ⟨unhide HN, rfl, below_back hbr hbr.size (Nat.le_refl _) _ _ _ _ _⟩
            case pos =>
              have g4 : (d.ssn != d0.ssn) = false := by rw [bne_eq_false_iff_eq]; exact f4
              by_cases f5 : d.un = d0.un
              case neg =>
                have HN := hide (unhide hno (fun e => f5 (by have e := (unhide hRt).1 e; exact e.2.2.2.2.1)))
                have g5 : (d.un == d0.un) = false := by rw [beq_eq_false_iff_ne]; exact f5
                clear f5
                go_wp2
                go_quiet (fail)
                go_wp2
                refine bodyPost_ret (results_ct (P := Try.prog) Try.results21 _ _ w.heap.size 25 #[.int .u16 0, .bool false, .slice none 0 0] _ rfl (zero_back hR' _ _) Try.underlying25 rfl size25) rfl ?_
                exact .inr ⟨unhide HN, rfl, below_back hbr hbr.size (Nat.le_refl _) _ _ _ _ _⟩
              case pos =>
                have g5 : (d.un == d0.un) = true := by rw [beq_iff_eq]; exact f5
                by_cases f6 : 0 < d.n
                case neg =>
                  have HN := hide (unhide hno (fun e => f6 (by have e := (unhide hRt).1 e; exact e.2.2.2.2.2)))
                  have g6 : ((d.n : Int) == 0) = true := by rw [beq_iff_eq]; omega
                  go_wp2
                  go_quiet (fail)
                  go_wp2
                  refine bodyPost_ret (results_ct (P := Try.prog) Try.results21 _ _ w.heap.size 25 #[.int .u16 0, .bool false, .slice none 0 0] _ rfl (zero_back hR' _ _) Try.underlying25 rfl size25) rfl ?_
                  exact .inr ⟨unhide HN, rfl, below_back hbr hbr.size (Nat.le_refl _) _ _ _ _ _⟩
                case pos =>
                  have g6 : ((d.n : Int) == 0) = false := by rw [beq_eq_false_iff_ne]; omega
                  have HR := hide ((unhide hRt).2 ⟨unhide F1, unhide F2, f3, f4, f5, f6⟩)
                  clear f3 f4 f5
                  have hkt := tot_take_le bb k
                  have hkt2 := tot_take_le bb (k + 1)
                  have hnx := tot_next hb1
                  have hfx := hide (flat_next hb1)
                  have HNX := hide hnx
                  have hdt : tot (bb.take k) + d.n ≤ 1000000000 := by omega
                  clear hb1 hnx
                  have hsz2 : ∀ (o : Obj) (q : Nat), w.heap.size + 1 ≤ ((wr.alloc o).drewN q).heap.size := by intro o q; show _ ≤ (wr.alloc o).heap.size; simp <;> omega
                  go_wp2
                  go_quiet (fail)
                  go_wp2_with (at_builtin; refine wpList_append_any _ rfl (.tmp 66) (.tmp 68) _ rfl (w.heap.size + 1) 5 i0 _ 1 1 Try.underlying23 hi0 hz0 hz1 hz2 rfl (by omega) (.slice A2 (tot (bb.take k)) c2) (tot (bb.take k)) (bs (bb.take k).flatten) rfl (own_drewN (hor.alloc _) _) B d.A d.n d.c (bs b) rfl ((rb.alloc (by omega) _).drewN _) (bs_one b) (by simp only [maxLen]; omega) (by omega) (hsz2 _ _) ?_; intro v1 w1 hown1 hg1 hat1; have hR2 := ((hR'.alloc _).drewN _).grown hg1 (own_ne hor (by omega)); have hb2 := below_app (below_drewN (hbr.alloc hbr.size _) _) (own_weaken (own_drewN (hor.alloc _) _) (by omega)) hg1 (Nat.le_trans (Nat.le_add_right _ 1) (hsz2 _ _)))
                  go_roundw
                  case rel =>
                    have e1 : tot (bb.take (k + 1)) = tot (bb.take k) + d.n := by rw [unhide HNX, hbn]
                    have ho3 := hown1
                    rw [← bs_append, ← unhide hfx, ← e1] at ho3
                    exact ⟨k + 1, by omega, by go_num, hb2, hR2, ho3, rights_next (unhide hT) (unhide HD) (unhide HR)⟩
                  case measure => simp [intOf]; omega
    · obtain rfl : k = m + 1 := by omega
      have hbb : bb.take (m + 1) = bb := List.take_of_length_le (by have e1 := unhide L; have e2 := (unhide HB).1; omega)
      rw [hbb] at hor hle2 hnil2
      have hRr : Rights ds d0 ds.length := by rw [unhide L]; exact unhide hT
      have HRr := hide hRr
      have pd : ∀ i u, w.cell? ⟨ad.block, i, none⟩ = some u → wr.cell? ⟨ad.block, i, none⟩ = some u := fun i u h => (hbr.cell (p := ⟨ad.block, i, none⟩) (by show ad.block < _; omega)).trans h
      have p1 := pd _ _ (unhide PP).1
      have p3 := pd _ _ (unhide PP).2.2
      clear hRr pd
      have hbbv := hide hbb
      have htk : Value.slice A2 (tot (bb.take (m + 1))) c2 = .slice A2 (tot bb) c2 := by rw [hbb]
      clear hbb
      by_cases hfit : tot bb ≤ 1048576
      · go_wp2
        go_region_law (fail)
        all_goals
          go_wp2
          have hres : ∀ q, Blk ((((wr.drewN q).setCell ⟨w.heap.size, 0, none⟩ (.int .u16 d0.st)).setCell ⟨w.heap.size, 1, none⟩ (.bool (!d0.un))).setCell ⟨w.heap.size, 2, none⟩ (.slice A2 (tot bb) c2)) w.heap.size 25 #[.int .u16 d0.st, .bool (!d0.un), .slice A2 (tot bb) c2] := fun q => by
            simpa using ((((hR'.drewN q).set_ 0 (.int .u16 d0.st)).set_ 1 (.bool (!d0.un))).set_ 2 (.slice A2 (tot bb) c2))
          refine bodyPost_ret (results_ct (P := Try.prog) Try.results21 _ _ w.heap.size 25 _ _ rfl (hres 1) Try.underlying25 rfl size25) rfl ?_
          have o2 := own_weaken (base' := w.heap.size) (own_set (i := 2) (u := .slice A2 (tot bb) c2) (own_set (i := 1) (u := .bool (!d0.un)) (own_set (i := 0) (u := .int .u16 d0.st) hor.drew (g := w.heap.size) (by omega)) (g := w.heap.size) (by omega)) (g := w.heap.size) (by omega)) (by omega)
          exact .inl ⟨d0, A2, c2, unhide HD0, unhide HRr, hfit, rfl, o2, (((hbr.drew).setCell (by simp) _).setCell (by simp) _).setCell (by simp) _⟩
      · have hbig : 1048576 < tot bb := by omega
        have HN : Hid (¬ Fits ds bb) := fun ⟨_, _, _, h3⟩ => by omega
        go_wp2
        refine bodyPost_ret (results_ct (P := Try.prog) Try.results21 _ _ w.heap.size 25 #[.int .u16 0, .bool false, .slice none 0 0] _ rfl (by simpa using (((hR'.set_ 0 (.int .u16 0)).set_ 1 (.bool false)).set_ 2 (.slice none 0 0))) Try.underlying25 rfl size25) rfl ?_
        exact .inr ⟨unhide HN, rfl, ((hbr.setCell (by simp) _).setCell (by simp) _).setCell (by simp) _⟩
/-- The document's Join. -/
theorem ref (A : Option Addr) (n c B : Nat) (ds : List Dt) (bb : List (List Int)) (w : World) (hn : n ≤ 1000000) (hB : B ≤ w.heap.size) (h : Reads w B 7 A n (dts ds)) (hb : RdB w B ds bb) (ht : tot bb ≤ 1000000000) :
    Calls Try.prog 21 #[.slice A n c] w (JoinOut ds bb w) := by
  rcases Nat.eq_zero_or_pos n with rfl | hp
  · obtain rfl : ds = [] := List.eq_nil_of_length_eq_zero (dlen_ h)
    obtain rfl : bb = [] := List.eq_nil_of_length_eq_zero hb.1.symm
    exact c21z A c w
  · obtain ⟨m, rfl⟩ : ∃ m, n = m + 1 := ⟨n - 1, by omega⟩
    exact c21 A m c B ds bb w hn hB h hb ht
end Go.Proofs.Ytfgbegamdlafkaa.Jr

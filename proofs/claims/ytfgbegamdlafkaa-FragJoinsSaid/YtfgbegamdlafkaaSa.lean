/-
  Contract of what compares two rows of pieces.
-/
import Derived.Test.YtfgbegamdlafkaaCm
import Derived.Deep.RegionHeld3
set_option linter.unusedVariables false
set_option linter.unusedSimpArgs false
namespace Go.Proofs.Ytfgbegamdlafkaa.Sa
open Go.RowKit Wd Md Cm

/-- The same pieces, the same bytes. -/
def SameAll (ds : List Dt) (bb : List (List Int)) (es : List Dt) (cc : List (List Int)) : Prop := ds.length = es.length ∧ bb = cc ∧ ∀ (i : Nat) (d e : Dt), ds[i]? = some d → es[i]? = some e → sameHd d e = true
/-- The first k are. -/
def SameTo (ds : List Dt) (bb : List (List Int)) (es : List Dt) (cc : List (List Int)) (k : Nat) : Prop := bb.take k = cc.take k ∧ ∀ (i : Nat) (d e : Dt), i < k → ds[i]? = some d → es[i]? = some e → sameHd d e = true
theorem sameTo_next {ds es : List Dt} {bb cc : List (List Int)} {k : Nat} {x y : Dt} {a b : List Int} (h : SameTo ds bb es cc k) (hx : ds[k]? = some x) (hy : es[k]? = some y) (ha : bb[k]? = some a) (hb : cc[k]? = some b) (he : sameHd x y = true) (hab : a = b) : SameTo ds bb es cc (k + 1) := by
  refine ⟨by rw [List.take_add_one, List.take_add_one, h.1, ha, hb, hab], fun i d e hi hd he' => ?_⟩
  rcases Nat.lt_or_ge i k with h1 | h1
  · exact h.2 i d e h1 hd he'
  · have : i = k := by omega
    subst this
    rw [hx] at hd
    rw [hy] at he'
    injection hd with hd
    injection he' with he'
    rw [← hd, ← he']
    exact he
theorem sameTo_all {ds es : List Dt} {bb cc : List (List Int)} {k : Nat} (h : SameTo ds bb es cc k) (h1 : ds.length = k) (h2 : es.length = k) (h3 : bb.length = k) (h4 : cc.length = k) : SameAll ds bb es cc := by
  refine ⟨by omega, ?_, fun i d e hd he => h.2 i d e (by have := (List.getElem?_eq_some_iff.1 hd).1; omega) hd he⟩
  have := h.1
  rwa [List.take_of_length_le (by omega), List.take_of_length_le (by omega)] at this
theorem sameAll_not {ds es : List Dt} {bb cc : List (List Int)} {k : Nat} {x y : Dt} {a b : List Int} (hx : ds[k]? = some x) (hy : es[k]? = some y) (ha : bb[k]? = some a) (hb : cc[k]? = some b) (h : (sameHd x y && decide (a = b)) = false) : ¬ SameAll ds bb es cc := by
  rintro ⟨_, e1, e2⟩
  rw [e1, hb] at ha
  injection ha with ha
  rw [e2 k x y hx hy, ha] at h
  simp at h
set_option maxRecDepth 100000 in
set_option maxHeartbeats 1000000 in
/-- Same. -/
theorem c15 (A A' : Option Addr) (n m c d B B' : Nat) (ds es : List Dt) (bb cc : List (List Int)) (w : World) (hn : n ≤ 1000000) (hm : m ≤ 1000000) (hB : B ≤ w.heap.size) (hB' : B' ≤ w.heap.size) (h : Reads w B 7 A n (dts ds)) (h' : Reads w B' 7 A' m (dts es)) (hb : RdB w B ds bb) (hc : RdB w B' es cc) (hbl : Hid (∀ d ∈ ds, d.n ≤ 1000000000)) (hcl : Hid (∀ d ∈ es, d.n ≤ 1000000000)) :
    Calls Try.prog 15 #[.slice A n c, .slice A' m d] w fun e w' => ∃ r, e = .returned (.bool r) ∧ (r = true ↔ SameAll ds bb es cc) ∧ Below w.heap.size w w' := by
  have L := hide (dlen_ h)
  have L' := hide (dlen_ h')
  by_cases hnm : n = m
  · subst hnm
    go_enter Try.func15, Try.ntmps15
    go_wp2
    go_loopw [5] (fun i wr => ∃ (k : Nat), k ≤ n ∧ i = .int .i64 k ∧ Below w.heap.size w wr ∧ Hid (SameTo ds bb es cc k)) (fun i _ => n - (intOf i).toNat)
    case atStart => exact ⟨0, Nat.zero_le _, rfl, Below.refl _ _, ⟨by simp, fun i d e hi => absurd hi (by omega)⟩⟩
    case round =>
      obtain ⟨k, hk, rfl, hbr, hT⟩ := hrel
      by_cases hlt : k < n
      · have g1 := h.keep (w' := wr) (fun p hp => hbr.cell (by omega))
        have g2 := h'.keep (w' := wr) (fun p hp => hbr.cell (by omega))
        obtain ⟨ad, x, rfl, hab, hx, hX⟩ := dat_ g1 k hlt
        obtain ⟨ad', y, rfl, hab', hy, hY⟩ := dat_ g2 k hlt
        obtain ⟨a, ha, ra, ca, oa⟩ := (hb.keep (w' := wr) (fun p hp => hbr.cell (by omega))).at_ hx
        obtain ⟨b, hb', rb, cb, ob⟩ := (hc.keep (w' := wr) (fun p hp => hbr.cell (by omega))).at_ hy
        have hxn := (unhide hbl) x (List.mem_of_getElem? hx)
        have hyn := (unhide hcl) y (List.mem_of_getElem? hy)
        have HX := hide hX
        have HY := hide hY
        have hsz := hbr.size
        have HF := hide (And.intro hx (And.intro hy (And.intro ha hb')))
        have hbx : (ad.add (k * 7)).block < wr.heap.size := by rw [block_of_add]; omega
        have hby : (ad'.add (k * 7)).block < wr.heap.size := by rw [block_of_add]; omega
        have mkS : ∀ w', Below wr.heap.size wr w' → (Below wr.heap.size wr w' ∧ w'.cell? (ad.add (k * 7)) = some (.int .u32 x.tsn) ∧ w'.cell? ⟨(ad.add (k * 7)).block, (ad.add (k * 7)).off + 1, none⟩ = some (.int .u16 x.st) ∧ w'.cell? ⟨(ad.add (k * 7)).block, (ad.add (k * 7)).off + 2, none⟩ = some (.int .u16 x.ssn) ∧ w'.cell? ⟨(ad.add (k * 7)).block, (ad.add (k * 7)).off + 3, none⟩ = some (.bool x.un) ∧ w'.cell? ⟨(ad.add (k * 7)).block, (ad.add (k * 7)).off + 4, none⟩ = some (.bool x.fi) ∧ w'.cell? ⟨(ad.add (k * 7)).block, (ad.add (k * 7)).off + 5, none⟩ = some (.bool x.la) ∧ w'.cell? ⟨(ad.add (k * 7)).block, (ad.add (k * 7)).off + 6, none⟩ = some (.slice x.A x.n x.c) ∧ w'.cell? (ad'.add (k * 7)) = some (.int .u32 y.tsn) ∧ w'.cell? ⟨(ad'.add (k * 7)).block, (ad'.add (k * 7)).off + 1, none⟩ = some (.int .u16 y.st) ∧ w'.cell? ⟨(ad'.add (k * 7)).block, (ad'.add (k * 7)).off + 2, none⟩ = some (.int .u16 y.ssn) ∧ w'.cell? ⟨(ad'.add (k * 7)).block, (ad'.add (k * 7)).off + 3, none⟩ = some (.bool y.un) ∧ w'.cell? ⟨(ad'.add (k * 7)).block, (ad'.add (k * 7)).off + 4, none⟩ = some (.bool y.fi) ∧ w'.cell? ⟨(ad'.add (k * 7)).block, (ad'.add (k * 7)).off + 5, none⟩ = some (.bool y.la) ∧ w'.cell? ⟨(ad'.add (k * 7)).block, (ad'.add (k * 7)).off + 6, none⟩ = some (.slice y.A y.n y.c)) := fun w' hw => by
          obtain ⟨x0, x1, x2, x3, x4, x5, x6⟩ := unhide HX
          obtain ⟨y0, y1, y2, y3, y4, y5, y6⟩ := unhide HY
          have kx : ∀ o, w'.cell? ⟨(ad.add (k * 7)).block, o, none⟩ = wr.cell? ⟨(ad.add (k * 7)).block, o, none⟩ := fun o => hw.cell (p := ⟨_, o, none⟩) hbx
          have ky : ∀ o, w'.cell? ⟨(ad'.add (k * 7)).block, o, none⟩ = wr.cell? ⟨(ad'.add (k * 7)).block, o, none⟩ := fun o => hw.cell (p := ⟨_, o, none⟩) hby
          exact ⟨hw, (hw.cell hbx).trans x0, (kx _).trans x1, (kx _).trans x2, (kx _).trans x3, (kx _).trans x4, (kx _).trans x5, (kx _).trans x6, (hw.cell hby).trans y0, (ky _).trans y1, (ky _).trans y2, (ky _).trans y3, (ky _).trans y4, (ky _).trans y5, (ky _).trans y6⟩
        have MS := hide mkS
        have HO := hide (And.intro oa ob)
        clear h h' g1 g2 hX hY hx hy ha hb' hb hc hbl hcl mkS oa ob hbx hby
        go_wp2
        go_region_held3 (fun w' => Below wr.heap.size wr w' ∧ w'.cell? (ad.add (k * 7)) = some (.int .u32 x.tsn) ∧ w'.cell? ⟨(ad.add (k * 7)).block, (ad.add (k * 7)).off + 1, none⟩ = some (.int .u16 x.st) ∧ w'.cell? ⟨(ad.add (k * 7)).block, (ad.add (k * 7)).off + 2, none⟩ = some (.int .u16 x.ssn) ∧ w'.cell? ⟨(ad.add (k * 7)).block, (ad.add (k * 7)).off + 3, none⟩ = some (.bool x.un) ∧ w'.cell? ⟨(ad.add (k * 7)).block, (ad.add (k * 7)).off + 4, none⟩ = some (.bool x.fi) ∧ w'.cell? ⟨(ad.add (k * 7)).block, (ad.add (k * 7)).off + 5, none⟩ = some (.bool x.la) ∧ w'.cell? ⟨(ad.add (k * 7)).block, (ad.add (k * 7)).off + 6, none⟩ = some (.slice x.A x.n x.c) ∧ w'.cell? (ad'.add (k * 7)) = some (.int .u32 y.tsn) ∧ w'.cell? ⟨(ad'.add (k * 7)).block, (ad'.add (k * 7)).off + 1, none⟩ = some (.int .u16 y.st) ∧ w'.cell? ⟨(ad'.add (k * 7)).block, (ad'.add (k * 7)).off + 2, none⟩ = some (.int .u16 y.ssn) ∧ w'.cell? ⟨(ad'.add (k * 7)).block, (ad'.add (k * 7)).off + 3, none⟩ = some (.bool y.un) ∧ w'.cell? ⟨(ad'.add (k * 7)).block, (ad'.add (k * 7)).off + 4, none⟩ = some (.bool y.fi) ∧ w'.cell? ⟨(ad'.add (k * 7)).block, (ad'.add (k * 7)).off + 5, none⟩ = some (.bool y.la) ∧ w'.cell? ⟨(ad'.add (k * 7)).block, (ad'.add (k * 7)).off + 6, none⟩ = some (.slice y.A y.n y.c)) ((first | exact unhide MS _ (Below.refl _ _).drew | exact unhide MS _ hB5))
          ((go_at_call 26; have hp : Below wr.heap.size wr _ := And.left (by assumption); have hps := hp.size; refine (c26 x y B B' a b _ (by omega) (by omega) (by omega) (by omega) (ra.keep (fun p hp' => hp.cell (by omega))) (rb.keep (fun p hp' => hp.cell (by omega))) (unhide HO).1 (unhide HO).2).mono ?_; rintro e w5 ⟨rfl, hb5⟩; have hB5 := below_then hp hp.size hb5; generalize hr : (sameHd x y && decide (a = b)) = r))
        have HR := hide hr
        clear hr
        cases r with
        | true =>
          go_wp2
          go_roundw
          case rel =>
            have hr := unhide HR
            rw [Bool.and_eq_true, decide_eq_true_eq] at hr
            exact ⟨k + 1, by omega, by go_num, below_then hbr hbr.size hB5, sameTo_next (unhide hT) (unhide HF).1 (unhide HF).2.1 (unhide HF).2.2.1 (unhide HF).2.2.2 hr.1 hr.2⟩
          case measure => simp [intOf]; omega
        | false =>
          go_wp2
          go_ret
          exact ⟨false, rfl, ⟨fun e => (by cases e), fun e => absurd e (sameAll_not (unhide HF).1 (unhide HF).2.1 (unhide HF).2.2.1 (unhide HF).2.2.2 (unhide HR))⟩, below_then hbr hbr.size hB5⟩
      · obtain rfl : k = n := by omega
        have e1 := hb.1
        have e2 := hc.1
        have hA := hide (sameTo_all (unhide hT) (unhide L) (unhide L') (by have := unhide L; omega) (by have := unhide L'; omega))
        go_wp2
        go_ret
        exact ⟨true, rfl, ⟨fun _ => unhide hA, fun _ => rfl⟩, hbr⟩
  · have hne : Hid (¬ SameAll ds bb es cc) := fun e => hnm (by rw [← show ds.length = n from L, ← show es.length = m from L', e.1])
    have k1 : ((n : Int) == m) = false := by rw [beq_eq_false_iff_ne]; omega
    have k2 : ((n : Int) != m) = true := by rw [bne_iff_ne]; omega
    clear hnm
    go_enter Try.func15, Try.ntmps15
    go_wp2
    go_ret
    exact ⟨false, rfl, ⟨fun e => (by cases e), fun e => absurd e (unhide hne)⟩, Below.refl _ _⟩
end Go.Proofs.Ytfgbegamdlafkaa.Sa

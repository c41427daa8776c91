/-
  does, with a queue.
-/
import Derived.Test.YtmidnfkmefoleaaDt
import Derived.Test.YtmidnfkmefoleaaOw
set_option linter.unusedVariables false
set_option linter.unusedSimpArgs false
namespace Go.Proofs.Ytmidnfkmefoleaa.Dq
open Go.RowKit Wd Ra Qm Qs Qp Qn Qe Qd Qx Ql Qt Oq Vs Dk Do Dn Dt Ow

/-- What a call answers: the queue after it, a piece, a number, whether there is one, an error. -/
structure Ans where
  q : PQ
  d : PD
  id : Int
  ok : Bool
  err : Int
def pPut (q : PQ) (st : Int) (o : Bool) (xs : List Int) (un : Int) : Ans :=
  if why q st xs.length un = 0 then ⟨put q st o xs un, zeroD, q.many, true, 0⟩ else ⟨q, zeroD, 0, true, why q st xs.length un⟩
def pNext (q : PQ) (most : Int) : Ans :=
  match q.its with
  | [] => ⟨q, zeroD, 0, false, 0⟩
  | p :: r => if most < 1 then ⟨q, zeroD, 0, false, 0⟩ else ⟨nxQ q p r most.toNat, nxD q p most.toNat, p.id, true, 0⟩
def pExp (q : PQ) (now : Int) : Ans := ⟨exQ now q, lastD (exX now q).2, lastI (exX now q).2, (exX now q).2.isSome, 0⟩
def pFree (q : PQ) (n : Int) : Ans := ⟨{ q with used := q.used - n.toNat }, zeroD, 0, false, 0⟩
def play (q : PQ) (x : OV) : Ans :=
  if x.kind = 0 then pPut q x.m.st x.m.o x.m.xs x.un
  else if x.kind = 1 then pNext q x.k
  else if x.kind = 2 then pExp q x.un
  else if x.kind = 3 then pFree q x.k
  else ⟨q, zeroD, 0, false, 0⟩
def Post (b : Nat) (w0 : World) (w : World) (a : Ans) (e : Ending) (w' : World) : Prop :=
  ∃ A n c, e = .returned (.agg (told a.d A n c a.id a.ok a.err)) ∧ w'.ownsRow w.heap.size 5 1 (.slice A n c) n (bs a.d.xs) ∧ St b (fun _ => False) w0 a.q w' ∧ Fr b b w w'
section
variable (b : Nat) (w0 : World) (q : PQ) (w : World)
theorem St.free (h : St b (fun _ => False) w0 q w) : St b (fun k => w.heap.size ≤ k) w0 q w := ⟨h.qi.free.weaken fun k hk => .inr hk, h.below, h.ok⟩
theorem nxD_len (q : PQ) (p : PI) (m : Nat) : (nxD q p m).xs.length = nxLen p m := by
  show ((p.xs.drop p.at_).take (nxLen p m)).length = _
  rw [List.length_take, List.length_drop]
  unfold nxLen PI.left
  omega
theorem lastD_len (o : Option PI) : (lastD o).xs.length ≤ 1 := by
  cases o with
  | none => show 0 ≤ 1; omega
  | some p => show 1 ≤ 1; omega
theorem doesQ (x : OV) (h : St b (fun _ => False) w0 q w) (hx : x.m.n ≤ 140737488355328) (hs : 0 ≤ x.m.st ∧ x.m.st ≤ 65535) (hr : Reads w b 1 x.m.A x.m.n (bs x.m.xs)) (hb : BOk x.m.xs) (hu : I64 x.un) (hk : I64 x.k) (hm : q.many < 1000000) :
    Calls Try.prog 17 #[.pointer (some ⟨b + 1, 0, none⟩), .agg #[.int .i64 x.kind, .int .u16 x.m.st, .bool x.m.o, .slice x.m.A x.m.n x.m.c, .int .i64 x.un, .int .i64 x.k]] w (Post b w0 w (play q x)) := by
  have hsz := h.size
  have hbw : b < w.heap.size := by omega
  have hf := St.free b w0 q w h
  have hI : St b (fun k => w.heap.size ≤ k) w0 q w ∧ Fr b b w w := ⟨hf, Fr.refl _ _ _⟩
  have KQ := fun (F : Nat → Prop) (q' : PQ) => Kp.queue b F w0 q' w hbw
  have hlen := blen_ hr
  by_cases k0 : x.kind = 0
  · have hp : play q x = pPut q x.m.st x.m.o x.m.xs x.un := by unfold play; rw [if_pos k0]
    rw [hp, k0]
    have RI : ∀ (F : Nat → Prop) (q' : PQ) (W : World), (St b F w0 q' W ∧ Fr b b w W) → w.heap.size ≤ W.heap.size → Reads W b 1 x.m.A x.m.n (bs x.m.xs) := fun F q' W hW _ => reads_fr hr hW.2 (Nat.le_refl _) (by omega)
    unfold pPut
    rw [hlen]
    by_cases hy : why q x.m.st x.m.n x.un = 0
    · rw [if_pos hy]
      refine (does0 (.pointer (some ⟨b + 1, 0, none⟩)) (fun W => St b (fun k => w.heap.size ≤ k) w0 q W ∧ Fr b b w W) (fun S W => St b (fun k => w.heap.size ≤ k ∧ k < S) w0 (put q x.m.st x.m.o x.m.xs x.un) W ∧ Fr b b w W) x.m.st x.un x.k q.many 0 x.m.o x.m.A x.m.n x.m.c b x.m.xs w hI (KQ _ q) (fun S => KQ _ _) (RI _ _) (fun S => RI _ _) (by omega) hx ?_).mono ?_
      · intro W A' c' hW hlt ho
        obtain ⟨A2, c2, e2, _, hnil⟩ := own_slice ho
        injection e2 with e2 _ e3
        subst e2 e3
        refine (putS b (fun k => w.heap.size ≤ k ∧ k < W.heap.size) w0 q W x.m.st x.m.o A' x.m.n c' W.heap.size x.un x.m.xs (hW.1.weaken fun k hk => hk.1) hy hs hu.2 (Reads.of_own ho) (Nat.le_refl _) hnil (fun k hk => hk.2) hb hm).mono ?_
        rintro e w' ⟨rfl, h1, h2⟩
        exact ⟨rfl, ⟨h1, hW.2.trans h2⟩, Sd.of_fr h2 hbw⟩
      · rintro e w' ⟨rfl, ⟨S, h1, h2⟩, _⟩
        exact ⟨none, 0, 0, rfl, own_none _ _ _ _, h1.none_, h2⟩
    · rw [if_neg hy]
      refine (does0 (.pointer (some ⟨b + 1, 0, none⟩)) (fun W => St b (fun k => w.heap.size ≤ k) w0 q W ∧ Fr b b w W) (fun S W => St b (fun k => w.heap.size ≤ k ∧ k < S) w0 q W ∧ Fr b b w W) x.m.st x.un x.k 0 (why q x.m.st x.m.n x.un) x.m.o x.m.A x.m.n x.m.c b x.m.xs w hI (KQ _ q) (fun S => KQ _ _) (RI _ _) (fun S => RI _ _) (by omega) hx ?_).mono ?_
      · intro W A' c' hW hlt ho
        refine (putxS b (fun k => w.heap.size ≤ k ∧ k < W.heap.size) w0 q W x.m.st x.m.o A' x.m.n c' x.un _ (hW.1.weaken fun k hk => hk.1) rfl hy (by omega) hs).mono ?_
        rintro e w' ⟨rfl, h1, h2⟩
        exact ⟨rfl, ⟨h1, hW.2.trans (Fr.of_below h2)⟩, Sd.of_below h2⟩
      · rintro e w' ⟨rfl, ⟨S, h1, h2⟩, _⟩
        exact ⟨none, 0, 0, rfl, own_none _ _ _ _, h1.none_, h2⟩
  · by_cases k1 : x.kind = 1
    · have hp : play q x = pNext q x.k := by unfold play; rw [if_neg k0, if_pos k1]
      rw [hp, k1]
      unfold pNext
      by_cases he : q.its = [] ∨ x.k < 1
      · have e0 : (match q.its with | [] => (⟨q, zeroD, 0, false, 0⟩ : Ans) | p :: r => if x.k < 1 then ⟨q, zeroD, 0, false, 0⟩ else ⟨nxQ q p r x.k.toNat, nxD q p x.k.toNat, p.id, true, 0⟩) = ⟨q, zeroD, 0, false, 0⟩ := by
          cases hi : q.its with
          | nil => rfl
          | cons p r =>
            rcases he with he | he
            · rw [hi] at he; cases he
            · simp [he]
        rw [e0]
        refine (does1 (.pointer (some ⟨b + 1, 0, none⟩)) (fun W => St b (fun k => w.heap.size ≤ k) w0 q W ∧ Fr b b w W) (fun S W => St b (fun k => S ≤ k) w0 q W ∧ Fr b b w W) x.m.st x.un x.k 0 x.m.o false x.m.A x.m.n x.m.c zeroD w hI (KQ _ q) (fun S _ => KQ _ _) (by decide) ?_).mono ?_
        · intro W hW hlt
          refine (nextxS b (fun k => w.heap.size ≤ k) w0 q W x.k hW.1 he).mono ?_
          rintro e w' ⟨rfl, h1, h2⟩
          exact ⟨none, 0, 0, rfl, own_none _ _ _ _, ⟨h1.weaken fun k hk => by omega, hW.2.trans (Fr.of_below h2)⟩, Sd.of_below h2⟩
        · rintro e w' ⟨A6, n6, c6, rfl, ho, ⟨S, _, h1, h2⟩, _⟩
          exact ⟨A6, n6, c6, rfl, ho, h1.none_, h2⟩
      · cases hi : q.its with
        | nil => exact absurd (.inl hi) he
        | cons p r =>
          have hk1 : ¬ x.k < 1 := fun h => he (.inr h)
          simp only [hk1, if_false]
          obtain ⟨kn, hkn⟩ : ∃ kn : Nat, x.k = (kn : Int) := ⟨x.k.toNat, by omega⟩
          have hkt : x.k.toNat = kn := by omega
          rw [hkt]
          have hpo := ok_left h.ok (p := p) (by rw [hi]; exact List.mem_cons_self)
          refine (does1 (.pointer (some ⟨b + 1, 0, none⟩)) (fun W => St b (fun k => w.heap.size ≤ k) w0 q W ∧ Fr b b w W) (fun S W => St b (fun k => S ≤ k) w0 (nxQ q p r kn) W ∧ Fr b b w W) x.m.st x.un x.k p.id x.m.o true x.m.A x.m.n x.m.c (nxD q p kn) w hI (KQ _ q) (fun S _ => KQ _ _) (by rw [nxD_len]; unfold nxLen PI.left; omega) ?_).mono ?_
          · intro W hW hlt
            rw [hkn]
            refine (nextS b (fun k => w.heap.size ≤ k) w0 q W p r kn hW.1 hi (by omega) (by have := hk.2; omega)).mono ?_
            rintro e w' ⟨A, c, rfl, ho, h1, h2⟩
            exact ⟨A, _, c, rfl, ho, ⟨h1.weaken fun k hk => .inr hk, hW.2.trans h2⟩, Sd.of_fr h2 hbw⟩
          · rintro e w' ⟨A6, n6, c6, rfl, ho, ⟨S, _, h1, h2⟩, _⟩
            exact ⟨A6, n6, c6, rfl, ho, h1.none_, h2⟩
    · by_cases k2 : x.kind = 2
      · have hp : play q x = pExp q x.un := by unfold play; rw [if_neg k0, if_neg k1, if_pos k2]
        rw [hp, k2]
        refine (does2 (.pointer (some ⟨b + 1, 0, none⟩)) (fun W => St b (fun k => w.heap.size ≤ k) w0 q W ∧ Fr b b w W) (fun S W => St b (fun k => S ≤ k) w0 (exQ x.un q) W ∧ Fr b b w W) x.m.st x.un x.k (lastI (exX x.un q).2) x.m.o (exX x.un q).2.isSome x.m.A x.m.n x.m.c (lastD (exX x.un q).2) w hI (KQ _ q) (fun S _ => KQ _ _) (by have := lastD_len (exX x.un q).2; omega) ?_).mono ?_
        · intro W hW hlt
          refine (expS b (fun k => w.heap.size ≤ k) w0 q W x.un hW.1).mono ?_
          rintro e w' ⟨A, n, c, rfl, ho, h1, h2⟩
          exact ⟨A, n, c, rfl, ho, ⟨h1.weaken fun k hk => .inr hk, hW.2.trans h2⟩, Sd.of_fr h2 hbw⟩
        · rintro e w' ⟨A6, n6, c6, rfl, ho, ⟨S, _, h1, h2⟩, _⟩
          exact ⟨A6, n6, c6, rfl, ho, h1.none_, h2⟩
      · by_cases k3 : x.kind = 3
        · have hp : play q x = pFree q x.k := by unfold play; rw [if_neg k0, if_neg k1, if_neg k2, if_pos k3]
          rw [hp, k3]
          refine (does3 (.pointer (some ⟨b + 1, 0, none⟩)) (fun W => St b (fun k => w.heap.size ≤ k) w0 q W ∧ Fr b b w W) (fun W => St b (fun k => w.heap.size ≤ k) w0 { q with used := q.used - x.k.toNat } W ∧ Fr b b w W) x.m.st x.un x.k x.m.o x.m.A x.m.n x.m.c w hI (KQ _ q) (KQ _ _) ?_).mono ?_
          · intro W hW hlt
            refine (freeS b (fun k => w.heap.size ≤ k) w0 q W x.k hW.1 hk.1 hk.2).mono ?_
            rintro e w' ⟨rfl, h1, h2⟩
            exact ⟨rfl, ⟨h1, hW.2.trans h2⟩, Sd.of_fr h2 hbw⟩
          · rintro e w' ⟨rfl, ⟨h1, h2⟩, _⟩
            exact ⟨none, 0, 0, rfl, own_none _ _ _ _, h1.none_, h2⟩
        · have hp : play q x = ⟨q, zeroD, 0, false, 0⟩ := by unfold play; rw [if_neg k0, if_neg k1, if_neg k2, if_neg k3]
          rw [hp]
          refine (does4 (.pointer (some ⟨b + 1, 0, none⟩)) (fun W => St b (fun k => w.heap.size ≤ k) w0 q W ∧ Fr b b w W) x.kind x.m.st x.un x.k x.m.o x.m.A x.m.n x.m.c w hI (KQ _ q) ⟨k0, k1, k2, k3⟩).mono ?_
          rintro e w' ⟨rfl, ⟨h1, h2⟩, _⟩
          exact ⟨none, 0, 0, rfl, own_none _ _ _ _, h1.none_, h2⟩
end
end Go.Proofs.Ytmidnfkmefoleaa.Dq

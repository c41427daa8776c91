/-
  The plain side of the skips of a row: each stream once, told with its latest number.
-/
import Derived.Test.YtkjohgokkfghiaaPl
set_option linter.unusedVariables false
set_option linter.unusedSimpArgs false
namespace Go.Proofs.Ytkjohgokkfghiaa.Pl

/-- The numbers of pieces lie within 2^14 of a first one. -/
def Near (first : Int) (ds : List Dt) : Prop := ∀ d ∈ ds, 0 ≤ d.ssn ∧ d.ssn ≤ 65535 ∧ ah16 first d.ssn < 16384
def Lat (first : Int) (ds : List Dt) (L : List (Int × Int)) : Prop :=
  (∀ (i : Nat) (s : Int × Int), L[i]? = some s → ∃ d ∈ ds, d.un = false ∧ d.st = s.1 ∧ d.ssn = s.2) ∧
  (∀ d ∈ ds, d.un = false → ∃ q, L[idx d.st L]? = some (d.st, q) ∧ ah16 first d.ssn ≤ ah16 first q) ∧
  (∀ (i : Nat) (s : Int × Int), L[i]? = some s → idx s.1 L = i)
theorem mx16_near {first a b : Int} (ha : 0 ≤ a ∧ a ≤ 65535) (hb : 0 ≤ b ∧ b ≤ 65535) (h1 : ah16 first a < 16384) (h2 : ah16 first b < 16384) :
    (mx16 a b = a ∨ mx16 a b = b) ∧ ah16 first a ≤ ah16 first (mx16 a b) ∧ ah16 first b ≤ ah16 first (mx16 a b) := by
  unfold mx16
  split
  · rename_i h
    rw [ls16_iff] at h
    unfold ah16 at *
    omega
  · rename_i h
    rw [ls16_iff] at h
    unfold ah16 at *
    omega
theorem lat_step {first : Int} {ds : List Dt} {L : List (Int × Int)} {d : Dt} (h : Lat first ds L) (hn : Near first (ds ++ [d])) : Lat first (ds ++ [d]) (stp L d) := by
  obtain ⟨h1, h2, h3⟩ := h
  unfold stp
  by_cases hu : d.un = true
  · rw [if_pos hu]
    refine ⟨fun i s hs => ?_, fun e he hun => ?_, h3⟩
    · obtain ⟨e, he, r⟩ := h1 i s hs
      exact ⟨e, by simp [he], r⟩
    · rw [List.mem_append] at he
      rcases he with he | he
      · exact h2 e he hun
      · simp at he
        subst he
        rw [hu] at hun
        cases hun
  · rw [if_neg hu]
    have hu' : d.un = false := by simpa using hu
    obtain ⟨nd0, nd1, nd2⟩ := hn d (by simp)
    unfold upd
    by_cases hx : idx d.st L < L.length
    · rw [if_pos hx]
      obtain ⟨q, hq⟩ := idx_at d.st L hx
      have e0 : (L.getD (idx d.st L) (0, 0)).2 = q := by rw [List.getD_eq_getElem?_getD, hq]; rfl
      rw [e0]
      obtain ⟨e, he, hun, hst, hss⟩ := h1 _ _ hq
      obtain ⟨ne0, ne1, ne2⟩ := hn e (by simp [he])
      simp only at hst hss
      rw [hss] at ne0 ne1 ne2
      obtain ⟨m1, m2, m3⟩ := mx16_near (first := first) ⟨ne0, ne1⟩ ⟨nd0, nd1⟩ ne2 nd2
      have hself : (L.set (idx d.st L) (d.st, mx16 q d.ssn))[idx d.st L]? = some (d.st, mx16 q d.ssn) := by
        rw [List.getElem?_set, if_pos rfl, if_pos hx]
      refine ⟨fun i s hs => ?_, fun e' he' hun' => ?_, fun i s hs => ?_⟩
      · rw [List.getElem?_set] at hs
        split at hs
        · injection hs with hs
          subst hs
          rcases m1 with m1 | m1
          · exact ⟨e, by simp [he], hun, hst, by simp only; rw [m1, hss]⟩
          · exact ⟨d, by simp, hu', rfl, by simp only; rw [m1]⟩
        · obtain ⟨e2, he2, r⟩ := h1 i s hs
          exact ⟨e2, by simp [he2], r⟩
      · rw [idx_set e'.st d.st _ L hx]
        rw [List.mem_append] at he'
        rcases he' with he' | he'
        · obtain ⟨q', hq', hle⟩ := h2 e' he' hun'
          by_cases hs : e'.st = d.st
          · rw [hs]
            rw [hs, hq] at hq'
            have : q = q' := by injection hq' with hq'; injection hq'
            subst this
            exact ⟨_, hself, by omega⟩
          · have hne : idx d.st L ≠ idx e'.st L := fun he => by
              rw [← he, hq] at hq'
              injection hq' with hq'
              injection hq' with h _
              exact hs h.symm
            exact ⟨q', by rw [List.getElem?_set, if_neg hne]; exact hq', hle⟩
        · simp at he'
          subst he'
          exact ⟨_, hself, m3⟩
      · rw [idx_set s.1 d.st _ L hx]
        rw [List.getElem?_set] at hs
        split at hs
        · rename_i e1
          injection hs with hs
          subst hs
          exact e1
        · exact h3 i s hs
    · rw [if_neg hx]
      have hsn := idx_snoc
      have hle := idx_le d.st L
      refine ⟨fun i s hs => ?_, fun e' he' hun' => ?_, fun i s hs => ?_⟩
      · rw [List.getElem?_append] at hs
        split at hs
        · obtain ⟨e2, he2, r⟩ := h1 i s hs
          exact ⟨e2, by simp [he2], r⟩
        · have : s = (d.st, d.ssn) := by
            have := List.mem_of_getElem? hs
            simpa using this
          subst this
          exact ⟨d, by simp, hu', rfl, rfl⟩
      · rw [List.mem_append] at he'
        rcases he' with he' | he'
        · obtain ⟨q', hq', hle⟩ := h2 e' he' hun'
          have hlt : idx e'.st L < L.length := (List.getElem?_eq_some_iff.1 hq').1
          rw [idx_snoc, if_pos hlt]
          exact ⟨q', by rw [List.getElem?_append_left hlt]; exact hq', hle⟩
        · simp at he'
          subst he'
          rw [idx_snoc, if_neg hx, if_pos rfl]
          exact ⟨e'.ssn, by simp, Int.le_refl _⟩
      · rw [idx_snoc]
        rw [List.getElem?_append] at hs
        split at hs
        · rename_i hlt
          rw [h3 i s hs, if_pos hlt]
        · rename_i hge
          have hil : i = L.length := by
            have := (List.getElem?_eq_some_iff.1 hs).1
            simp at this
            omega
          have : s = (d.st, d.ssn) := by
            have := List.mem_of_getElem? hs
            simpa using this
          subst this
          simp only
          rw [if_neg hx, if_pos trivial]
          exact hil.symm
theorem lat_take (first : Int) (ds : List Dt) (hn : Near first ds) (k : Nat) (hk : k ≤ ds.length) : Lat first (ds.take k) (skips (ds.take k)) := by
  induction k with
  | zero => exact ⟨fun i s h => by simp [skips] at h, fun d h => by simp at h, fun i s h => by simp [skips] at h⟩
  | succ k ih =>
    have e : ds[k]? = some (ds[k]'(by omega)) := List.getElem?_eq_getElem _
    rw [skips_take ds k _ e]
    have e2 : ds.take (k + 1) = ds.take k ++ [ds[k]'(by omega)] := by rw [List.take_add_one, e]; rfl
    rw [e2]
    refine lat_step (ih (by omega)) fun d hd => hn d ?_
    rw [← e2] at hd
    exact List.mem_of_mem_take hd
theorem lat_skips {first : Int} {ds : List Dt} (hn : Near first ds) : Lat first ds (skips ds) := by
  have := lat_take first ds hn ds.length (Nat.le_refl _)
  rwa [List.take_length] at this
end Go.Proofs.Ytkjohgokkfghiaa.Pl

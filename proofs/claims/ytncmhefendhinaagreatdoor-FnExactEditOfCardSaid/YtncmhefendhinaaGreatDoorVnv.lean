/- PLAIN: what a word must be like to be a number. No condition. -/
import Derived.Test.YtncmhefendhinaaGreatDoorVnu
namespace Go.Proofs.YtncmhefendhinaaGreatDoor
open Go.Lib

/-- The digits of a word, and its value. -/
def dgs : List UInt8 → List UInt8
  | [] => []
  | c :: r => if c.toNat = 45 then r else c :: r
def sgnV : List UInt8 → Int
  | [] => 0
  | c :: r => if c.toNat = 45 then -((valA 0 r : Nat) : Int) else ((valA 0 (c :: r) : Nat) : Int)
theorem numW_eq (l : List UInt8) : numW l = if itoa (sgnV l) = l ∧ -999999999 ≤ sgnV l ∧ sgnV l ≤ 999999999 then some (sgnV l) else none := by
  cases l with
  | nil => rw [if_neg (fun h => itoa_ne _ h.1)]; rfl
  | cons c r => rfl
theorem numW_val {l : List UInt8} {n : Int} (h : numW l = some n) : n = sgnV l := by
  rw [numW_eq] at h
  split at h
  · exact (Option.some.inj h).symm
  · cases h
theorem numW_dgs {l : List UInt8} {n : Int} (h : numW l = some n) : (dgs l).all isDg = true ∧ 1 ≤ (dgs l).length ∧ (dgs l).length ≤ 9 := by
  obtain ⟨hi, h0, h1⟩ := numW_some h
  have key : ∀ u : Nat, u ≤ 999999999 → (decDigits u).all isDg = true ∧ 1 ≤ (decDigits u).length ∧ (decDigits u).length ≤ 9 := fun u hu =>
    ⟨decDigits_dg u, by have := decDigits_ne u; cases hd : decDigits u with | nil => exact absurd hd this | cons c r => simp, decDigits_len9 hu⟩
  by_cases hn : n < 0
  · obtain ⟨u, rfl⟩ : ∃ u : Nat, n = -(u : Int) := ⟨n.natAbs, by omega⟩
    rw [itoa_neg u (by omega)] at hi
    rw [← hi]
    have h45 : dgs (45 :: decDigits u) = decDigits u := by rw [dgs, if_pos (show (45 : UInt8).toNat = 45 from rfl)]
    rw [h45]
    exact key u (by omega)
  · obtain ⟨u, rfl⟩ : ∃ u : Nat, n = (u : Int) := ⟨n.toNat, by omega⟩
    rw [itoa_nonneg u] at hi
    have hk := key u (by omega)
    rw [hi] at hk
    have hd : dgs l = l := by
      cases l with
      | nil => rfl
      | cons c r =>
        have hc : isDg c = true := by have := hk.1; rw [List.all_cons, Bool.and_eq_true] at this; exact this.1
        rw [dgs, if_neg (dg_45 hc)]
    rw [hd]
    exact hk
theorem numW_not {l : List UInt8} (h : ¬ ((dgs l).all isDg = true ∧ 1 ≤ (dgs l).length ∧ (dgs l).length ≤ 9)) : numW l = none := by
  cases hn : numW l with
  | none => rfl
  | some n => exact absurd (numW_dgs hn) h
theorem sgnV_bound {l : List UInt8} (h : (dgs l).all isDg = true) (h9 : (dgs l).length ≤ 9) : -999999999 ≤ sgnV l ∧ sgnV l ≤ 999999999 := by
  have key : ∀ m : List UInt8, m.all isDg = true → m.length ≤ 9 → valA 0 m ≤ 999999999 := fun m hm hl => by
    have h1 := valA_le m 0 hm
    have h2 : 10 ^ m.length ≤ 10 ^ 9 := Nat.pow_le_pow_right (by omega) hl
    omega
  cases l with
  | nil => simp [sgnV]
  | cons c r =>
    rw [dgs] at h h9
    rw [sgnV]
    by_cases hc : c.toNat = 45
    · rw [if_pos hc] at h h9 ⊢
      have := key r h h9
      omega
    · rw [if_neg hc] at h h9 ⊢
      have := key (c :: r) h h9
      omega
/-- A word of digits: it is a number exactly if its decimal form is that word. -/
theorem numW_dec {l : List UInt8} (h : (dgs l).all isDg = true) (h9 : (dgs l).length ≤ 9) : numW l = if itoa (sgnV l) = l then some (sgnV l) else none := by
  have hb := sgnV_bound h h9
  rw [numW_eq]
  by_cases hi : itoa (sgnV l) = l
  · rw [if_pos ⟨hi, hb⟩, if_pos hi]
  · rw [if_neg (fun hh => hi hh.1), if_neg hi]
end Go.Proofs.YtncmhefendhinaaGreatDoor

/- PLAIN: decimal forms of whole numbers of at most nine digits. No condition. -/
import Derived.Lib.ParseIntB
import Derived.Lib.ItoaMem
namespace Go.Proofs.YtncmhefendhinaaGreatDoor
open Go.Lib

def isDg (c : UInt8) : Bool := decide (48 ≤ c.toNat) && decide (c.toNat ≤ 57)
/-- The value of digits behind a value. -/
def valA (a : Nat) (l : List UInt8) : Nat := l.foldl (fun a c => a * 10 + (c.toNat - 48)) a
theorem valA_nil (a : Nat) : valA a [] = a := by rw [valA, List.foldl_nil]
theorem valA_cons (a : Nat) (c : UInt8) (r : List UInt8) : valA a (c :: r) = valA (a * 10 + (c.toNat - 48)) r := by rw [valA, List.foldl_cons, valA]
theorem valA_append (l m : List UInt8) : ∀ a : Nat, valA a (l ++ m) = valA (valA a l) m := by
  induction l with
  | nil => intro a; rw [List.nil_append, valA_nil]
  | cons c l ih => intro a; rw [List.cons_append, valA_cons, valA_cons, ih]
theorem dg_nat {d : Nat} (h : d < 10) : (UInt8.ofNat (48 + d)).toNat = 48 + d := by
  rw [UInt8.toNat_ofNat']; omega
theorem dg_is {d : Nat} (h : d < 10) : isDg (UInt8.ofNat (48 + d)) = true := by
  rw [isDg, dg_nat h]; simp; omega
theorem decDigits_val (u : Nat) : valA 0 (decDigits u) = u := by
  induction u using Nat.strongRecOn with
  | _ u ih =>
    rw [decDigits]
    split
    · rename_i h; rw [valA_cons, valA_nil, dg_nat h]; omega
    · rename_i h
      rw [valA_append, ih (u / 10) (by omega), valA_cons, valA_nil, dg_nat (Nat.mod_lt _ (by omega))]
      omega
theorem decDigits_dg (u : Nat) : (decDigits u).all isDg = true := by
  induction u using Nat.strongRecOn with
  | _ u ih =>
    rw [decDigits]
    split
    · rename_i h; rw [List.all_cons, dg_is h]; rfl
    · rename_i h
      rw [List.all_append, ih (u / 10) (by omega), List.all_cons, dg_is (show u % 10 < 10 by omega)]; rfl
theorem decDigits_ne (u : Nat) : decDigits u ≠ [] := by
  rw [decDigits]; split <;> simp
theorem decDigits_len9 {u : Nat} (h : u ≤ 999999999) : (decDigits u).length ≤ 9 := by
  rw [decDigits_length]
  have n9 : ∀ (k v : Nat), v < 10 ^ (k + 1) → nDigits v ≤ k + 1 := by
    intro k
    induction k with
    | zero => intro v hv; rw [nDigits, dif_pos (by simpa using hv)]; exact Nat.le_refl _
    | succ k ih =>
      intro v hv
      rw [nDigits]
      split
      · omega
      · have := ih (v / 10) (by rw [Nat.pow_succ] at hv; omega)
        omega
  exact n9 8 u (by omega)
theorem valA_le : ∀ (l : List UInt8) (a : Nat), l.all isDg = true → valA a l < (a + 1) * 10 ^ l.length
  | [], a, _ => by rw [valA_nil]; simp
  | c :: r, a, h => by
    rw [List.all_cons, Bool.and_eq_true] at h
    have hc : 48 ≤ c.toNat ∧ c.toNat ≤ 57 := by simpa [isDg] using h.1
    have h1 := valA_le r (a * 10 + (c.toNat - 48)) h.2
    rw [valA_cons, List.length_cons, Nat.pow_succ]
    have h2 : (a * 10 + (c.toNat - 48) + 1) * 10 ^ r.length ≤ ((a + 1) * 10) * 10 ^ r.length := Nat.mul_le_mul_right _ (by omega)
    have h3 : (a + 1) * (10 ^ r.length * 10) = ((a + 1) * 10) * 10 ^ r.length := by rw [Nat.mul_comm (10 ^ r.length), Nat.mul_assoc]
    omega
theorem valA_mono : ∀ (l : List UInt8) (a : Nat), a ≤ valA a l
  | [], a => by rw [valA_nil]; exact Nat.le_refl _
  | c :: r, a => by
    rw [valA_cons]
    have := valA_mono r (a * 10 + (c.toNat - 48))
    omega
theorem parseM : ∀ (l : List UInt8) (M a : Nat), l.all isDg = true → valA a l ≤ M → valA a l ≤ 999999999999 → parseUintM M a l = .ok (valA a l)
  | [], _, a, _, _, _ => by rw [valA_nil]; rfl
  | c :: r, M, a, h, hM, hb => by
    rw [List.all_cons, Bool.and_eq_true] at h
    have hc : 48 ≤ c.toNat ∧ c.toNat ≤ 57 := by simpa [isDg] using h.1
    rw [valA_cons] at hM hb ⊢
    have hm := valA_mono r (a * 10 + (c.toNat - 48))
    rw [parseUintM, if_pos hc, if_neg (by omega), if_neg (by omega)]
    exact parseM r M _ h.2 hM hb
/-- The number of at most nine digits of which this is the decimal form. -/
def numW (l : List UInt8) : Option Int :=
  match l with
  | [] => none
  | c :: r =>
    let n : Int := if c.toNat = 45 then -(valA 0 r : Nat) else (valA 0 l : Nat)
    if itoa n = l ∧ -999999999 ≤ n ∧ n ≤ 999999999 then some n else none
theorem numW_some {l : List UInt8} {n : Int} (h : numW l = some n) : itoa n = l ∧ -999999999 ≤ n ∧ n ≤ 999999999 := by
  cases l with
  | nil => cases h
  | cons c r =>
    obtain ⟨N, hN⟩ : ∃ N : Int, N = (if c.toNat = 45 then -((valA 0 r : Nat) : Int) else ((valA 0 (c :: r) : Nat) : Int)) := ⟨_, rfl⟩
    have h' : (if itoa N = c :: r ∧ -999999999 ≤ N ∧ N ≤ 999999999 then some N else none) = some n := by rw [hN]; exact h
    by_cases hc : itoa N = c :: r ∧ -999999999 ≤ N ∧ N ≤ 999999999
    · rw [if_pos hc] at h'
      obtain rfl := Option.some.inj h'
      exact hc
    · rw [if_neg hc] at h'; cases h'
theorem itoa_ne (n : Int) : itoa n ≠ [] := by
  unfold itoa
  split
  · simp
  · exact decDigits_ne _
theorem dg_45 {c : UInt8} (h : isDg c = true) : c.toNat ≠ 45 := by
  have hc : 48 ≤ c.toNat ∧ c.toNat ≤ 57 := by simpa [isDg] using h
  omega
theorem numW_itoa {n : Int} (h0 : -999999999 ≤ n) (h1 : n ≤ 999999999) : numW (itoa n) = some n := by
  by_cases hn : n < 0
  · obtain ⟨u, rfl⟩ : ∃ u : Nat, n = -(u : Int) := ⟨n.natAbs, by omega⟩
    have hi := itoa_neg u (by omega)
    unfold numW
    rw [hi]
    have h45 : (45 : UInt8).toNat = 45 := rfl
    simp only [h45, if_true, decDigits_val]
    rw [if_pos ⟨hi, h0, h1⟩]
  · obtain ⟨u, rfl⟩ : ∃ u : Nat, n = (u : Int) := ⟨n.toNat, by omega⟩
    have hi := itoa_nonneg u
    have hd := decDigits_dg u
    have hv := decDigits_val u
    unfold numW
    cases hl : decDigits u with
    | nil => exact absurd hl (decDigits_ne u)
    | cons c r =>
      rw [hl] at hi hd hv
      rw [hi]
      have hc := dg_45 (by rw [List.all_cons, Bool.and_eq_true] at hd; exact hd.1)
      simp only [hc, if_false, hv]
      rw [if_pos ⟨hi, h0, h1⟩]
theorem numW_iff {l : List UInt8} {n : Int} : numW l = some n ↔ itoa n = l ∧ -999999999 ≤ n ∧ n ≤ 999999999 :=
  ⟨numW_some, fun ⟨h, h0, h1⟩ => by rw [← h]; exact numW_itoa h0 h1⟩
theorem parse_itoa {n : Int} (h0 : -999999999 ≤ n) (h1 : n ≤ 999999999) : parseIntB 64 (itoa n) = .ok n := by
  by_cases hn : n < 0
  · obtain ⟨u, rfl⟩ : ∃ u : Nat, n = -(u : Int) := ⟨n.natAbs, by omega⟩
    have hi := itoa_neg u (by omega)
    have hp : parseUintB 64 (decDigits u) = .ok u := by
      unfold parseUintB
      rw [if_neg (decDigits_ne u), parseM _ _ _ (decDigits_dg u) (by rw [decDigits_val]; omega) (by rw [decDigits_val]; omega), decDigits_val]
    rw [hi]
    unfold parseIntB
    have h45 : (45 : UInt8).toNat = 45 := rfl
    simp only [h45, or_true, if_true, hp]
    rw [if_neg (by simp), if_neg (by simp; omega)]
  · obtain ⟨u, rfl⟩ : ∃ u : Nat, n = (u : Int) := ⟨n.toNat, by omega⟩
    have hi := itoa_nonneg u
    have hd := decDigits_dg u
    have hv := decDigits_val u
    have hp : parseUintB 64 (decDigits u) = .ok u := by
      unfold parseUintB
      rw [if_neg (decDigits_ne u), parseM _ _ _ (decDigits_dg u) (by rw [decDigits_val]; omega) (by rw [decDigits_val]; omega), decDigits_val]
    rw [hi]
    unfold parseIntB
    cases hl : decDigits u with
    | nil => exact absurd hl (decDigits_ne u)
    | cons c r =>
      rw [hl] at hd hp
      have hc0 : isDg c = true := by rw [List.all_cons, Bool.and_eq_true] at hd; exact hd.1
      have hc := dg_45 hc0
      have hc3 : c.toNat ≠ 43 := by
        have : 48 ≤ c.toNat ∧ c.toNat ≤ 57 := by simpa [isDg] using hc0
        omega
      simp only [hc, hc3, or_self, if_false, hp]
      rw [if_neg (by simp; omega), if_neg (by simp)]
end Go.Proofs.YtncmhefendhinaaGreatDoor

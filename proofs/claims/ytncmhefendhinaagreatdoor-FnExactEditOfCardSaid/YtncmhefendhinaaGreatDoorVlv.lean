/- The reference's reading of a number. Condition: lengths that fit. -/
import Derived.Test.YtncmhefendhinaaGreatDoorVln
import Derived.Test.YtncmhefendhinaaGreatDoorVnv
import Derived.Test.YtncmhefendhinaaGreatDoorVrn
namespace Go.Proofs.YtncmhefendhinaaGreatDoor
open Go.RowKit Go.PlainAid Go.Lib

theorem size_list (s : ByteArray) : s.data.toList.length = s.size := by rw [Array.length_toList]; rfl
theorem bt_list {s : ByteArray} {k : Nat} (h : k < s.size) : ∃ c, s.data.toList[k]? = some c ∧ bt s k = (c.toNat : Int) := by
  have hl : k < s.data.toList.length := by rw [size_list]; exact h
  refine ⟨s.data.toList[k], List.getElem?_eq_getElem hl, ?_⟩
  unfold bt
  rw [dif_pos h]
  rfl
theorem dgs_drop {l : List UInt8} {c : UInt8} {r : List UInt8} (h : l = c :: r) : dgs l = l.drop (if c.toNat = 45 then 1 else 0) := by
  subst h
  rw [dgs]
  split <;> rfl
theorem valA_snoc {l : List UInt8} {j : Nat} {c : UInt8} (h : l[j]? = some c) : valA 0 (l.take (j + 1)) = valA 0 (l.take j) * 10 + (c.toNat - 48) := by
  rw [take_snoc h, valA_append, valA_cons, valA_nil]
theorem valA_small {l : List UInt8} (j : Nat) (h : (l.take j).all isDg = true) (h9 : l.length ≤ 9) : valA 0 (l.take j) ≤ 999999999 := by
  have h1 := valA_le _ 0 h
  have h2 : 10 ^ (l.take j).length ≤ 10 ^ 9 := Nat.pow_le_pow_right (by omega) (by rw [List.length_take]; omega)
  omega

set_option maxRecDepth 100000 in
set_option maxHeartbeats 4000000 in
theorem rVal_any (s : ByteArray) (w : World) (hs : s.size ≤ 1048576) :
    Calls Tryz.prog 79 #[.string s] w fun e w' => ∃ v : Int, e = .returned (.tuple #[.int .i64 v, .bool (nmV s).isSome]) ∧ (∀ n, nmV s = some n → v = n) ∧ Ext w w' := by
  have hbt := get_bt s
  by_cases h0 : s.size = 0
  · have hno : Hid (nmV s = none) := by
      show _ = _
      unfold nmV
      refine numW_not (fun hh => ?_)
      have hl : s.data.toList = [] := List.eq_nil_of_length_eq_zero (by rw [size_list]; exact h0)
      rw [hl] at hh
      simp [dgs] at hh
    have hI : (s.size : Int) = 0 := by omega
    go_enter Tryz.func79, Tryz.ntmps79
    go_wp2
    go_ret2
    rw [hno.out]
    exact ⟨_, rfl, (fun m hm => by cases hm), Ext.refl _⟩
  have hpos : (0 : Int) < s.size := by omega
  obtain ⟨c0, hc0, hb0⟩ := bt_list (s := s) (k := 0) (by omega)
  obtain ⟨r0, hl0⟩ : ∃ r, s.data.toList = c0 :: r := by
    cases hl : s.data.toList with
    | nil => rw [hl] at hc0; cases hc0
    | cons c r => rw [hl] at hc0; simp at hc0; exact ⟨r, by rw [hc0]⟩
  by_cases h45 : c0.toNat = 45
  · have hb45 : bt s 0 = 45 := by rw [hb0, h45]; rfl
    have hdr : Hid (dgs s.data.toList = s.data.toList.drop 1) := by show _ = _; rw [dgs_drop hl0, if_pos h45]
    have hsg : Hid ((-((valA 0 (dgs s.data.toList) : Nat) : Int)) = sgnV s.data.toList) := by show _ = _; rw [hl0, sgnV, dgs, if_pos h45, if_pos h45]
    clear hb0 hl0 hc0 h45
    have hlen : Hid (s.size = (dgs s.data.toList).length + 1) := by
      show _ = _
      have h1 := hdr.out
      rw [h1, List.length_drop, size_list]; omega
    by_cases h1 : (dgs s.data.toList).length < 1
    · have i1 : (s.size : Int) - 1 < 1 := by have := hlen.out; omega
      have hno : Hid (nmV s = none) := by
        show _ = _
        unfold nmV
        refine numW_not (fun hh => ?_)
        have := hlen.out
        omega
      go_enter Tryz.func79, Tryz.ntmps79
      go_wp2
      go_ret2
      rw [hno.out]
      exact ⟨_, rfl, (fun m hm => by cases hm), Ext.refl _⟩
    have i1 : ¬ ((s.size : Int) - 1 < 1) := by have := hlen.out; omega
    by_cases h2 : 9 < (dgs s.data.toList).length
    · have i2 : (9 : Int) < (s.size : Int) - 1 := by have := hlen.out; omega
      have hno : Hid (nmV s = none) := by
        show _ = _
        unfold nmV
        refine numW_not (fun hh => ?_)
        have := hlen.out
        omega
      go_enter Tryz.func79, Tryz.ntmps79
      go_wp2
      go_ret2
      rw [hno.out]
      exact ⟨_, rfl, (fun m hm => by cases hm), Ext.refl _⟩
    have i2 : ¬ ((9 : Int) < (s.size : Int) - 1) := by have := hlen.out; omega
    have h9 : Hid ((dgs s.data.toList).length ≤ 9) := by show _ ≤ _; omega
    go_enter Tryz.func79, Tryz.ntmps79
    go_wp2
    go_loopw [4, 6] (fun x i wr => ∃ (j n : Nat), j ≤ (dgs s.data.toList).length ∧ i = .int .i64 ((j + 1 : Nat) : Int) ∧ x = .int .i64 n ∧ n ≤ 999999999 ∧ Hid (n = valA 0 ((dgs s.data.toList).take j)) ∧ Hid (((dgs s.data.toList).take j).all isDg = true) ∧ wr = w) (fun _ i _ => s.size - (RowKit.intOf i).toNat)
    case atStart => exact ⟨0, 0, by omega, rfl, rfl, by omega, by show _ = _; rw [List.take_zero, valA_nil], rfl, by first | rfl | trivial⟩
    case round =>
      obtain ⟨j, n, hj, rfl, rfl, hn9, hn, hA, rfl⟩ := hrel
      by_cases hlt : j < (dgs s.data.toList).length
      · have hk : (j + 1) < s.size := by have := hlen.out; omega
        have hkI : ((j + 1 : Nat) : Int) < s.size := by omega
        obtain ⟨c, hc, hbc⟩ := bt_list hk
        have hdc : (dgs s.data.toList)[j]? = some c := by rw [hdr.out, List.getElem?_drop]; rw [Nat.add_comm]; exact hc
        by_cases hdg : isDg c = true
        · have hc2 : 48 ≤ c.toNat ∧ c.toNat ≤ 57 := by simpa [isDg] using hdg
          have b1 : 48 ≤ bt s (j + 1) := by rw [hbc]; omega
          have b2 : bt s (j + 1) ≤ 57 := by rw [hbc]; omega
          have hs2 := hid (valA_snoc hdc)
          have hA2 := hid (all_snoc hA.out hdc hdg)
          have hb2 := hid (valA_small (j + 1) hA2.out h9.out)
          replace hbc := hid hbc
          go_wp2
          go_roundw
          case rel => exact ⟨j + 1, valA 0 ((dgs s.data.toList).take (j + 1)), by omega, by go_num, by have := hn.out; have h1 := hs2.out; have h2 := hbc.out; congr 1; omega, hb2.out, rfl, hA2, by first | rfl | trivial⟩
          case measure => simp [RowKit.intOf]; omega
        · have hd0 : isDg c = false := by simpa using hdg
          have hno : Hid (nmV s = none) := by
            show _ = _
            unfold nmV
            refine numW_not (fun hh => ?_)
            have := List.all_eq_true.1 hh.1 c (List.mem_of_getElem? hdc)
            rw [hd0] at this; cases this
          have hor : bt s (j + 1) < 48 ∨ (48 ≤ bt s (j + 1) ∧ 57 < bt s (j + 1)) := by
            rw [hbc]
            have : ¬ (48 ≤ c.toNat ∧ c.toNat ≤ 57) := fun hh => by simp [isDg, hh.1, hh.2] at hd0
            omega
          clear hdg hd0 hbc
          rcases hor with b1 | ⟨b1, b2⟩
          · go_wp2
            go_ret2
            rw [hno.out]
            exact ⟨_, rfl, (fun m hm => by cases hm), Ext.refl _⟩
          · go_wp2
            go_ret2
            rw [hno.out]
            exact ⟨_, rfl, (fun m hm => by cases hm), Ext.refl _⟩
      · have hall : (dgs s.data.toList).all isDg = true := all_fin hA.out rfl (by omega)
        have hnv : n = valA 0 (dgs s.data.toList) := by have := hn.out; rwa [take_all rfl (by omega)] at this
        have hsv : (-(n : Int)) = sgnV s.data.toList := by rw [hnv]; exact hsg.out
        clear hnv
        have hjk : ¬ (((j + 1 : Nat) : Int) < s.size) := by have := hlen.out; omega
        by_cases he : itoa (-(n : Int)) = s.data.toList
        · have hr : Hid ((nmV s).isSome = true) := by show _ = _; unfold nmV; rw [numW_dec hall h9.out, if_pos (by rw [← hsv]; exact he)]; rfl
          have hm : Hid (∀ m, nmV s = some m → (-(n : Int)) = m) := fun m hm => by
            unfold nmV at hm
            rw [hsv]
            exact (numW_val hm).symm
          have hq : ((⟨(itoa (-(n : Int))).toArray⟩ : ByteArray).toList == s.toList) = true := by rw [toL]; simp only [he, decide_true]
          generalize hS : (⟨(itoa (-(n : Int))).toArray⟩ : ByteArray) = S at hq
          have hS2 := hid hS
          replace hall := hid hall
          replace he := hid he
          replace hsv := hid hsv
          clear hS
          go_wp2_with (go_at_call 95; refine (rNum_any _ (by omega) (by omega) _).mono ?_; rw [hS2.out]; rintro e w3 ⟨rfl, E3⟩)
          go_ret2
          rw [hr.out]
          exact ⟨_, rfl, hm.out, E3⟩
        · have hr : Hid ((nmV s).isSome = false) := by show _ = _; unfold nmV; rw [numW_dec hall h9.out, if_neg (by rw [← hsv]; exact he)]; rfl
          have hm : Hid (∀ m, nmV s = some m → (-(n : Int)) = m) := fun m hm => by
            unfold nmV at hm
            rw [hsv]
            exact (numW_val hm).symm
          have hq : ((⟨(itoa (-(n : Int))).toArray⟩ : ByteArray).toList == s.toList) = false := by rw [toL]; simp only [he, decide_false]
          generalize hS : (⟨(itoa (-(n : Int))).toArray⟩ : ByteArray) = S at hq
          have hS2 := hid hS
          replace hall := hid hall
          replace he := hid he
          replace hsv := hid hsv
          clear hS
          go_wp2_with (go_at_call 95; refine (rNum_any _ (by omega) (by omega) _).mono ?_; rw [hS2.out]; rintro e w3 ⟨rfl, E3⟩)
          go_ret2
          rw [hr.out]
          exact ⟨_, rfl, hm.out, E3⟩

  · have hb45 : ¬ (bt s 0 = 45) := by rw [hb0]; omega
    have hdr : Hid (dgs s.data.toList = s.data.toList.drop 0) := by show _ = _; rw [dgs_drop hl0, if_neg h45]
    have hsg : Hid (((valA 0 (dgs s.data.toList) : Nat) : Int) = sgnV s.data.toList) := by show _ = _; rw [hl0, sgnV, dgs, if_neg h45, if_neg h45]
    clear hb0 hl0 hc0 h45
    have hlen : Hid (s.size = (dgs s.data.toList).length + 0) := by
      show _ = _
      have h1 := hdr.out
      rw [h1, List.length_drop, size_list]; omega
    by_cases h1 : (dgs s.data.toList).length < 1
    · exfalso
      have := hlen.out
      omega
    have i1 : ¬ ((s.size : Int) - 0 < 1) := by have := hlen.out; omega
    by_cases h2 : 9 < (dgs s.data.toList).length
    · have i2 : (9 : Int) < (s.size : Int) - 0 := by have := hlen.out; omega
      have hno : Hid (nmV s = none) := by
        show _ = _
        unfold nmV
        refine numW_not (fun hh => ?_)
        have := hlen.out
        omega
      go_enter Tryz.func79, Tryz.ntmps79
      go_wp2
      go_ret2
      rw [hno.out]
      exact ⟨_, rfl, (fun m hm => by cases hm), Ext.refl _⟩
    have i2 : ¬ ((9 : Int) < (s.size : Int) - 0) := by have := hlen.out; omega
    have h9 : Hid ((dgs s.data.toList).length ≤ 9) := by show _ ≤ _; omega
    go_enter Tryz.func79, Tryz.ntmps79
    go_wp2
    go_loopw [4, 6] (fun x i wr => ∃ (j n : Nat), j ≤ (dgs s.data.toList).length ∧ i = .int .i64 (j : Int) ∧ x = .int .i64 n ∧ n ≤ 999999999 ∧ Hid (n = valA 0 ((dgs s.data.toList).take j)) ∧ Hid (((dgs s.data.toList).take j).all isDg = true) ∧ wr = w) (fun _ i _ => s.size - (RowKit.intOf i).toNat)
    case atStart => exact ⟨0, 0, by omega, rfl, rfl, by omega, by show _ = _; rw [List.take_zero, valA_nil], rfl, by first | rfl | trivial⟩
    case round =>
      obtain ⟨j, n, hj, rfl, rfl, hn9, hn, hA, rfl⟩ := hrel
      by_cases hlt : j < (dgs s.data.toList).length
      · have hk : j < s.size := by have := hlen.out; omega
        have hkI : (j : Int) < s.size := by omega
        obtain ⟨c, hc, hbc⟩ := bt_list hk
        have hdc : (dgs s.data.toList)[j]? = some c := by rw [hdr.out, List.getElem?_drop]; rw [Nat.zero_add]; exact hc
        by_cases hdg : isDg c = true
        · have hc2 : 48 ≤ c.toNat ∧ c.toNat ≤ 57 := by simpa [isDg] using hdg
          have b1 : 48 ≤ bt s j := by rw [hbc]; omega
          have b2 : bt s j ≤ 57 := by rw [hbc]; omega
          have hs2 := hid (valA_snoc hdc)
          have hA2 := hid (all_snoc hA.out hdc hdg)
          have hb2 := hid (valA_small (j + 1) hA2.out h9.out)
          replace hbc := hid hbc
          go_wp2
          go_roundw
          case rel => exact ⟨j + 1, valA 0 ((dgs s.data.toList).take (j + 1)), by omega, by go_num, by have := hn.out; have h1 := hs2.out; have h2 := hbc.out; congr 1; omega, hb2.out, rfl, hA2, by first | rfl | trivial⟩
          case measure => simp [RowKit.intOf]; omega
        · have hd0 : isDg c = false := by simpa using hdg
          have hno : Hid (nmV s = none) := by
            show _ = _
            unfold nmV
            refine numW_not (fun hh => ?_)
            have := List.all_eq_true.1 hh.1 c (List.mem_of_getElem? hdc)
            rw [hd0] at this; cases this
          have hor : bt s j < 48 ∨ (48 ≤ bt s j ∧ 57 < bt s j) := by
            rw [hbc]
            have : ¬ (48 ≤ c.toNat ∧ c.toNat ≤ 57) := fun hh => by simp [isDg, hh.1, hh.2] at hd0
            omega
          clear hdg hd0 hbc
          rcases hor with b1 | ⟨b1, b2⟩
          · go_wp2
            go_ret2
            rw [hno.out]
            exact ⟨_, rfl, (fun m hm => by cases hm), Ext.refl _⟩
          · go_wp2
            go_ret2
            rw [hno.out]
            exact ⟨_, rfl, (fun m hm => by cases hm), Ext.refl _⟩
      · have hall : (dgs s.data.toList).all isDg = true := all_fin hA.out rfl (by omega)
        have hnv : n = valA 0 (dgs s.data.toList) := by have := hn.out; rwa [take_all rfl (by omega)] at this
        have hsv : (n : Int) = sgnV s.data.toList := by rw [hnv]; exact hsg.out
        clear hnv
        have hjk : ¬ ((j : Int) < s.size) := by have := hlen.out; omega
        by_cases he : itoa (n : Int) = s.data.toList
        · have hr : Hid ((nmV s).isSome = true) := by show _ = _; unfold nmV; rw [numW_dec hall h9.out, if_pos (by rw [← hsv]; exact he)]; rfl
          have hm : Hid (∀ m, nmV s = some m → (n : Int) = m) := fun m hm => by
            unfold nmV at hm
            rw [hsv]
            exact (numW_val hm).symm
          have hq : ((⟨(itoa (n : Int)).toArray⟩ : ByteArray).toList == s.toList) = true := by rw [toL]; simp only [he, decide_true]
          generalize hS : (⟨(itoa (n : Int)).toArray⟩ : ByteArray) = S at hq
          have hS2 := hid hS
          replace hall := hid hall
          replace he := hid he
          replace hsv := hid hsv
          clear hS
          go_wp2_with (go_at_call 95; refine (rNum_any _ (by omega) (by omega) _).mono ?_; rw [hS2.out]; rintro e w3 ⟨rfl, E3⟩)
          go_ret2
          rw [hr.out]
          exact ⟨_, rfl, hm.out, E3⟩
        · have hr : Hid ((nmV s).isSome = false) := by show _ = _; unfold nmV; rw [numW_dec hall h9.out, if_neg (by rw [← hsv]; exact he)]; rfl
          have hm : Hid (∀ m, nmV s = some m → (n : Int) = m) := fun m hm => by
            unfold nmV at hm
            rw [hsv]
            exact (numW_val hm).symm
          have hq : ((⟨(itoa (n : Int)).toArray⟩ : ByteArray).toList == s.toList) = false := by rw [toL]; simp only [he, decide_false]
          generalize hS : (⟨(itoa (n : Int)).toArray⟩ : ByteArray) = S at hq
          have hS2 := hid hS
          replace hall := hid hall
          replace he := hid he
          replace hsv := hid hsv
          clear hS
          go_wp2_with (go_at_call 95; refine (rNum_any _ (by omega) (by omega) _).mono ?_; rw [hS2.out]; rintro e w3 ⟨rfl, E3⟩)
          go_ret2
          rw [hr.out]
          exact ⟨_, rfl, hm.out, E3⟩


end Go.Proofs.YtncmhefendhinaaGreatDoor

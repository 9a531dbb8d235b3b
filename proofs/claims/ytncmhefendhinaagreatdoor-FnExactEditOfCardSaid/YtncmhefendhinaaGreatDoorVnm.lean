/- Contracts of IsName and of the waivers' reasons, program and reference. Condition: a string's length fits. -/
import Derived.Test.YtncmhefendhinaaGreatDoorMrk
import Derived.PlainAid
namespace Go.Proofs.YtncmhefendhinaaGreatDoor
open Go.RowKit Go.PlainAid

def isLD (c : Int) : Bool := (decide (97 ≤ c) && decide (c ≤ 122)) || (decide (48 ≤ c) && decide (c ≤ 57))
def isRC (c : Int) : Bool := isLD c || decide (c = 45)
def charsB (f : Int → Bool) (s : ByteArray) : Bool := (List.range s.size).all fun i => f (bt s i)
def nameB (s : ByteArray) : Bool := charsB isLD s && (decide (1 ≤ s.size) && decide (s.size ≤ 8))
def reasonB (s : ByteArray) : Bool := charsB isRC s && (decide (1 ≤ s.size) && decide (s.size ≤ 24))
theorem charsB_no {f : Int → Bool} {s : ByteArray} {k : Nat} (hk : k < s.size) (h : f (bt s k) = false) : charsB f s = false := by
  rw [charsB, List.all_eq_false]
  exact ⟨k, List.mem_range.2 hk, by rw [h]; simp⟩
theorem charsB_yes {f : Int → Bool} {s : ByteArray} (h : ∀ j, j < s.size → f (bt s j) = true) : charsB f s = true := by
  rw [charsB, List.all_eq_true]
  exact fun i hi => h i (List.mem_range.1 hi)
/-- Where a byte lies: below the digits, a digit, between, a letter, above. -/
theorem byte_cases (c : Int) : c < 48 ∨ (48 ≤ c ∧ c ≤ 57) ∨ (57 < c ∧ c < 97) ∨ (97 ≤ c ∧ c ≤ 122) ∨ 122 < c := by omega
theorem isLD_dig {c : Int} (h1 : 48 ≤ c) (h2 : c ≤ 57) : isLD c = true := by simp [isLD]; omega
theorem isLD_let {c : Int} (h1 : 97 ≤ c) (h2 : c ≤ 122) : isLD c = true := by simp [isLD]; omega
theorem isLD_no {c : Int} (h1 : ¬ (48 ≤ c ∧ c ≤ 57)) (h2 : ¬ (97 ≤ c ∧ c ≤ 122)) : isLD c = false := by
  cases h : isLD c with
  | false => rfl
  | true => simp [isLD] at h; omega

set_option maxRecDepth 100000 in
set_option maxHeartbeats 4000000 in
theorem pName_any (s : ByteArray) (w : World) (hs : s.size ≤ 9223372036854775807) :
    Calls Tryz.prog 54 #[.string s] w fun e w' => e = .returned (.bool (nameB s)) ∧ Ext w w' := by
  have hb := get_bt s
  go_enter Tryz.func54, Tryz.ntmps54
  go_wp2
  go_loopw [3] (fun i wr => ∃ k : Nat, k ≤ s.size ∧ i = .int .i64 k ∧ Hid (∀ j, j < k → isLD (bt s j) = true) ∧ Ext w wr) (fun i _ => s.size - (intOf i).toNat)
  case atStart => exact ⟨0, by omega, rfl, fun j hj => by omega, Ext.refl _⟩
  case round =>
    obtain ⟨k, hk, rfl, hp, hE⟩ := hrel
    by_cases hlt : k < s.size
    · have hltI : (k : Int) < s.size := by omega
      rcases byte_cases (bt s k) with hc | ⟨hc, hc2⟩ | ⟨hc, hc2⟩ | ⟨hc, hc2⟩ | hc
      · have d57 : decide (bt s k ≤ 57) = true := decide_eq_true (by omega)
        have d122 : decide (bt s k ≤ 122) = true := decide_eq_true (by omega)
        have hr : Hid (false = nameB s) := by show _ = _; rw [nameB, charsB_no hlt (isLD_no (by omega) (by omega))]; rfl
        go_wp2
        go_ret
        exact ⟨ret_bool hr.out, hE⟩
      · have d57 : decide (bt s k ≤ 57) = true := decide_eq_true (by omega)
        have d122 : decide (bt s k ≤ 122) = true := decide_eq_true (by omega)
        have hn : Hid (isLD (bt s k) = true) := isLD_dig hc hc2
        go_wp2
        go_roundw
        case rel =>
          refine ⟨k + 1, by omega, by go_num, fun j hj => ?_, hE⟩
          by_cases hjk : j = k
          · subst hjk; exact hn.out
          · exact hp.out j (by omega)
        case measure => simp [intOf]; omega
      · have d57 : decide (bt s k ≤ 57) = false := decide_eq_false (by omega)
        have d122 : decide (bt s k ≤ 122) = true := decide_eq_true (by omega)
        have hr : Hid (false = nameB s) := by show _ = _; rw [nameB, charsB_no hlt (isLD_no (by omega) (by omega))]; rfl
        go_wp2
        go_ret
        exact ⟨ret_bool hr.out, hE⟩
      · have d57 : decide (bt s k ≤ 57) = false := decide_eq_false (by omega)
        have d122 : decide (bt s k ≤ 122) = true := decide_eq_true (by omega)
        have hn : Hid (isLD (bt s k) = true) := isLD_let hc hc2
        go_wp2
        go_roundw
        case rel =>
          refine ⟨k + 1, by omega, by go_num, fun j hj => ?_, hE⟩
          by_cases hjk : j = k
          · subst hjk; exact hn.out
          · exact hp.out j (by omega)
        case measure => simp [intOf]; omega
      · have d57 : decide (bt s k ≤ 57) = false := decide_eq_false (by omega)
        have d122 : decide (bt s k ≤ 122) = false := decide_eq_false (by omega)
        have hr : Hid (false = nameB s) := by show _ = _; rw [nameB, charsB_no hlt (isLD_no (by omega) (by omega))]; rfl
        go_wp2
        go_ret
        exact ⟨ret_bool hr.out, hE⟩
    · have hall : Hid (charsB isLD s = true) := charsB_yes fun j hj => hp.out j (by omega)
      by_cases hz : 1 ≤ s.size
      · have hzI : (1 : Int) ≤ s.size := by omega
        have hr : Hid (decide ((s.size : Int) ≤ 8) = nameB s) := by
          show _ = _
          rw [nameB, hall.out, decide_eq_true hz]
          simp
          omega
        go_wp2
        go_ret
        exact ⟨ret_bool hr.out, hE⟩
      · have hzI : ¬ (1 : Int) ≤ s.size := by omega
        have hr : Hid (false = nameB s) := by show _ = _; rw [nameB, decide_eq_false hz]; simp
        go_wp2
        go_ret
        exact ⟨ret_bool hr.out, hE⟩

set_option maxRecDepth 100000 in
set_option maxHeartbeats 4000000 in
theorem rName_any (s : ByteArray) (w : World) (hs : s.size ≤ 9223372036854775807) :
    Calls Tryz.prog 41 #[.string s] w fun e w' => e = .returned (.bool (nameB s)) ∧ Ext w w' := by
  have hb := get_bt s
  go_enter Tryz.func41, Tryz.ntmps41
  go_wp2
  go_loopw [3] (fun i wr => ∃ k : Nat, k ≤ s.size ∧ i = .int .i64 k ∧ Hid (∀ j, j < k → isLD (bt s j) = true) ∧ Ext w wr) (fun i _ => s.size - (intOf i).toNat)
  case atStart => exact ⟨0, by omega, rfl, fun j hj => by omega, Ext.refl _⟩
  case round =>
    obtain ⟨k, hk, rfl, hp, hE⟩ := hrel
    by_cases hlt : k < s.size
    · have hltI : (k : Int) < s.size := by omega
      rcases byte_cases (bt s k) with hc | ⟨hc, hc2⟩ | ⟨hc, hc2⟩ | ⟨hc, hc2⟩ | hc
      · have d57 : decide (bt s k ≤ 57) = true := decide_eq_true (by omega)
        have d122 : decide (bt s k ≤ 122) = true := decide_eq_true (by omega)
        have hr : Hid (false = nameB s) := by show _ = _; rw [nameB, charsB_no hlt (isLD_no (by omega) (by omega))]; rfl
        go_wp2
        go_ret
        exact ⟨ret_bool hr.out, hE⟩
      · have d57 : decide (bt s k ≤ 57) = true := decide_eq_true (by omega)
        have d122 : decide (bt s k ≤ 122) = true := decide_eq_true (by omega)
        have hn : Hid (isLD (bt s k) = true) := isLD_dig hc hc2
        go_wp2
        go_roundw
        case rel =>
          refine ⟨k + 1, by omega, by go_num, fun j hj => ?_, hE⟩
          by_cases hjk : j = k
          · subst hjk; exact hn.out
          · exact hp.out j (by omega)
        case measure => simp [intOf]; omega
      · have d57 : decide (bt s k ≤ 57) = false := decide_eq_false (by omega)
        have d122 : decide (bt s k ≤ 122) = true := decide_eq_true (by omega)
        have hr : Hid (false = nameB s) := by show _ = _; rw [nameB, charsB_no hlt (isLD_no (by omega) (by omega))]; rfl
        go_wp2
        go_ret
        exact ⟨ret_bool hr.out, hE⟩
      · have d57 : decide (bt s k ≤ 57) = false := decide_eq_false (by omega)
        have d122 : decide (bt s k ≤ 122) = true := decide_eq_true (by omega)
        have hn : Hid (isLD (bt s k) = true) := isLD_let hc hc2
        go_wp2
        go_roundw
        case rel =>
          refine ⟨k + 1, by omega, by go_num, fun j hj => ?_, hE⟩
          by_cases hjk : j = k
          · subst hjk; exact hn.out
          · exact hp.out j (by omega)
        case measure => simp [intOf]; omega
      · have d57 : decide (bt s k ≤ 57) = false := decide_eq_false (by omega)
        have d122 : decide (bt s k ≤ 122) = false := decide_eq_false (by omega)
        have hr : Hid (false = nameB s) := by show _ = _; rw [nameB, charsB_no hlt (isLD_no (by omega) (by omega))]; rfl
        go_wp2
        go_ret
        exact ⟨ret_bool hr.out, hE⟩
    · have hall : Hid (charsB isLD s = true) := charsB_yes fun j hj => hp.out j (by omega)
      by_cases hz : 1 ≤ s.size
      · have hzI : (1 : Int) ≤ s.size := by omega
        have hr : Hid (decide ((s.size : Int) ≤ 8) = nameB s) := by
          show _ = _
          rw [nameB, hall.out, decide_eq_true hz]
          simp
          omega
        go_wp2
        go_ret
        exact ⟨ret_bool hr.out, hE⟩
      · have hzI : ¬ (1 : Int) ≤ s.size := by omega
        have hr : Hid (false = nameB s) := by show _ = _; rw [nameB, decide_eq_false hz]; simp
        go_wp2
        go_ret
        exact ⟨ret_bool hr.out, hE⟩

end Go.Proofs.YtncmhefendhinaaGreatDoor

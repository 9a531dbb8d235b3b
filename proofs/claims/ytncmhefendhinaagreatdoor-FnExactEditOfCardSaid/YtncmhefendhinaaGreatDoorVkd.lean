/- The kinds of the words behind the keyword of an edit. No condition. -/
import Derived.Test.YtncmhefendhinaaGreatDoorVrw
namespace Go.Proofs.YtncmhefendhinaaGreatDoor
open Go.RowKit Go.PlainAid
set_option linter.unusedVariables false
set_option linter.unusedSimpArgs false

theorem list_lit {s : ByteArray} {l : List UInt8} (h : s = ⟨l.toArray⟩) : s.toList = l := by rw [h, ByteArray.toList_eq]
theorem kw_lit {s : ByteArray} {j : Nat} (h : kwX s = some j) : kwL[j]? = some s := by
  rcases kw_cases s with ⟨h1, _⟩ | ⟨i, _, h2, h3⟩
  · rw [h1] at h; cases h
  · rw [h3] at h; cases h; exact h2
theorem kw_no {s y : ByteArray} {l : List UInt8} (h : kwX s = none) (hy : y ∈ kwL) (hl : y = ⟨l.toArray⟩) : ¬ (s.toList = l) := by
  rcases kw_cases s with ⟨_, h2⟩ | ⟨i, _, _, h3⟩
  · have h4 := h2 y hy
    rw [list_lit hl] at h4
    simpa using h4
  · rw [h] at h3; cases h3

def kpL : List ByteArray := [⟨#[78]⟩, ⟨#[99]⟩, ⟨#[99, 78]⟩, ⟨#[99, 108, 110, 110, 110, 110]⟩, ⟨#[99, 108, 110, 110, 78]⟩, ⟨#[99, 99, 111, 110, 110]⟩, ⟨#[99, 99, 111, 110, 110, 110, 110, 110, 110]⟩, ⟨#[99, 110]⟩, ⟨#[99, 110]⟩, ⟨#[99, 110]⟩]
def kpJ (j : Nat) : ByteArray := (kpL[j]?).getD emp
theorem kw_0 {s : ByteArray} (h : kwX s = some 0) : s.toList = [110, 101, 119] := list_lit (Option.some.inj (kw_lit h)).symm
theorem kw_1 {s : ByteArray} (h : kwX s = some 1) : s.toList = [100, 114, 111, 112] := list_lit (Option.some.inj (kw_lit h)).symm
theorem kw_2 {s : ByteArray} (h : kwX s = some 2) : s.toList = [114, 101, 110, 97, 109, 101] := list_lit (Option.some.inj (kw_lit h)).symm
theorem kw_3 {s : ByteArray} (h : kwX s = some 3) : s.toList = [114, 101, 99, 116] := list_lit (Option.some.inj (kw_lit h)).symm
theorem kw_4 {s : ByteArray} (h : kwX s = some 4) : s.toList = [108, 97, 98, 101, 108] := list_lit (Option.some.inj (kw_lit h)).symm
theorem kw_5 {s : ByteArray} (h : kwX s = some 5) : s.toList = [112, 108, 97, 99, 101] := list_lit (Option.some.inj (kw_lit h)).symm
theorem kw_6 {s : ByteArray} (h : kwX s = some 6) : s.toList = [97, 114, 114, 97, 121] := list_lit (Option.some.inj (kw_lit h)).symm
theorem kw_7 {s : ByteArray} (h : kwX s = some 7) : s.toList = [117, 110, 114, 101, 99, 116] := list_lit (Option.some.inj (kw_lit h)).symm
theorem kw_8 {s : ByteArray} (h : kwX s = some 8) : s.toList = [117, 110, 108, 97, 98, 101, 108] := list_lit (Option.some.inj (kw_lit h)).symm
theorem kw_9 {s : ByteArray} (h : kwX s = some 9) : s.toList = [117, 110, 112, 108, 97, 99, 101] := list_lit (Option.some.inj (kw_lit h)).symm
set_option maxRecDepth 100000 in
set_option maxHeartbeats 4000000 in
theorem pKinds_0 (s : ByteArray) (w : World) (h : kwX s = some 0) :
    Calls Tryz.prog 31 #[.string s] w fun e w' => e = .returned (.tuple #[.string (kpJ 0), .bool true]) ∧ w' = w := by
  have hs := kw_0 h
  clear h
  go_enter Tryz.func31, Tryz.ntmps31
  go_wp2
  go_ret2
  exact ⟨rfl, rfl⟩

set_option maxRecDepth 100000 in
set_option maxHeartbeats 4000000 in
theorem pKinds_1 (s : ByteArray) (w : World) (h : kwX s = some 1) :
    Calls Tryz.prog 31 #[.string s] w fun e w' => e = .returned (.tuple #[.string (kpJ 1), .bool true]) ∧ w' = w := by
  have hs := kw_1 h
  clear h
  go_enter Tryz.func31, Tryz.ntmps31
  go_wp2
  go_ret2
  exact ⟨rfl, rfl⟩

set_option maxRecDepth 100000 in
set_option maxHeartbeats 4000000 in
theorem pKinds_2 (s : ByteArray) (w : World) (h : kwX s = some 2) :
    Calls Tryz.prog 31 #[.string s] w fun e w' => e = .returned (.tuple #[.string (kpJ 2), .bool true]) ∧ w' = w := by
  have hs := kw_2 h
  clear h
  go_enter Tryz.func31, Tryz.ntmps31
  go_wp2
  go_ret2
  exact ⟨rfl, rfl⟩

set_option maxRecDepth 100000 in
set_option maxHeartbeats 4000000 in
theorem pKinds_3 (s : ByteArray) (w : World) (h : kwX s = some 3) :
    Calls Tryz.prog 31 #[.string s] w fun e w' => e = .returned (.tuple #[.string (kpJ 3), .bool true]) ∧ w' = w := by
  have hs := kw_3 h
  clear h
  go_enter Tryz.func31, Tryz.ntmps31
  go_wp2
  go_ret2
  exact ⟨rfl, rfl⟩

set_option maxRecDepth 100000 in
set_option maxHeartbeats 4000000 in
theorem pKinds_4 (s : ByteArray) (w : World) (h : kwX s = some 4) :
    Calls Tryz.prog 31 #[.string s] w fun e w' => e = .returned (.tuple #[.string (kpJ 4), .bool true]) ∧ w' = w := by
  have hs := kw_4 h
  clear h
  go_enter Tryz.func31, Tryz.ntmps31
  go_wp2
  go_ret2
  exact ⟨rfl, rfl⟩

set_option maxRecDepth 100000 in
set_option maxHeartbeats 4000000 in
theorem pKinds_5 (s : ByteArray) (w : World) (h : kwX s = some 5) :
    Calls Tryz.prog 31 #[.string s] w fun e w' => e = .returned (.tuple #[.string (kpJ 5), .bool true]) ∧ w' = w := by
  have hs := kw_5 h
  clear h
  go_enter Tryz.func31, Tryz.ntmps31
  go_wp2
  go_ret2
  exact ⟨rfl, rfl⟩

set_option maxRecDepth 100000 in
set_option maxHeartbeats 4000000 in
theorem pKinds_6 (s : ByteArray) (w : World) (h : kwX s = some 6) :
    Calls Tryz.prog 31 #[.string s] w fun e w' => e = .returned (.tuple #[.string (kpJ 6), .bool true]) ∧ w' = w := by
  have hs := kw_6 h
  clear h
  go_enter Tryz.func31, Tryz.ntmps31
  go_wp2
  go_ret2
  exact ⟨rfl, rfl⟩

set_option maxRecDepth 100000 in
set_option maxHeartbeats 4000000 in
theorem pKinds_7 (s : ByteArray) (w : World) (h : kwX s = some 7) :
    Calls Tryz.prog 31 #[.string s] w fun e w' => e = .returned (.tuple #[.string (kpJ 7), .bool true]) ∧ w' = w := by
  have hs := kw_7 h
  clear h
  go_enter Tryz.func31, Tryz.ntmps31
  go_wp2
  go_ret2
  exact ⟨rfl, rfl⟩

set_option maxRecDepth 100000 in
set_option maxHeartbeats 4000000 in
theorem pKinds_8 (s : ByteArray) (w : World) (h : kwX s = some 8) :
    Calls Tryz.prog 31 #[.string s] w fun e w' => e = .returned (.tuple #[.string (kpJ 8), .bool true]) ∧ w' = w := by
  have hs := kw_8 h
  clear h
  go_enter Tryz.func31, Tryz.ntmps31
  go_wp2
  go_ret2
  exact ⟨rfl, rfl⟩

set_option maxRecDepth 100000 in
set_option maxHeartbeats 4000000 in
theorem pKinds_9 (s : ByteArray) (w : World) (h : kwX s = some 9) :
    Calls Tryz.prog 31 #[.string s] w fun e w' => e = .returned (.tuple #[.string (kpJ 9), .bool true]) ∧ w' = w := by
  have hs := kw_9 h
  clear h
  go_enter Tryz.func31, Tryz.ntmps31
  go_wp2
  go_ret2
  exact ⟨rfl, rfl⟩

set_option maxRecDepth 100000 in
set_option maxHeartbeats 4000000 in
theorem pKinds_no (s : ByteArray) (w : World) (h : kwX s = none) :
    Calls Tryz.prog 31 #[.string s] w fun e w' => e = .returned (.tuple #[.string emp, .bool false]) ∧ w' = w := by
  have n0 := kw_no (l := [110, 101, 119]) h (by simp [kwL] : ((⟨#[110, 101, 119]⟩) : ByteArray) ∈ kwL) rfl
  have m0 : (s.toList == [110, 101, 119]) = false := by simpa using n0
  have n1 := kw_no (l := [100, 114, 111, 112]) h (by simp [kwL] : ((⟨#[100, 114, 111, 112]⟩) : ByteArray) ∈ kwL) rfl
  have m1 : (s.toList == [100, 114, 111, 112]) = false := by simpa using n1
  have n2 := kw_no (l := [114, 101, 110, 97, 109, 101]) h (by simp [kwL] : ((⟨#[114, 101, 110, 97, 109, 101]⟩) : ByteArray) ∈ kwL) rfl
  have m2 : (s.toList == [114, 101, 110, 97, 109, 101]) = false := by simpa using n2
  have n3 := kw_no (l := [114, 101, 99, 116]) h (by simp [kwL] : ((⟨#[114, 101, 99, 116]⟩) : ByteArray) ∈ kwL) rfl
  have m3 : (s.toList == [114, 101, 99, 116]) = false := by simpa using n3
  have n4 := kw_no (l := [108, 97, 98, 101, 108]) h (by simp [kwL] : ((⟨#[108, 97, 98, 101, 108]⟩) : ByteArray) ∈ kwL) rfl
  have m4 : (s.toList == [108, 97, 98, 101, 108]) = false := by simpa using n4
  have n5 := kw_no (l := [112, 108, 97, 99, 101]) h (by simp [kwL] : ((⟨#[112, 108, 97, 99, 101]⟩) : ByteArray) ∈ kwL) rfl
  have m5 : (s.toList == [112, 108, 97, 99, 101]) = false := by simpa using n5
  have n6 := kw_no (l := [97, 114, 114, 97, 121]) h (by simp [kwL] : ((⟨#[97, 114, 114, 97, 121]⟩) : ByteArray) ∈ kwL) rfl
  have m6 : (s.toList == [97, 114, 114, 97, 121]) = false := by simpa using n6
  have n7 := kw_no (l := [117, 110, 114, 101, 99, 116]) h (by simp [kwL] : ((⟨#[117, 110, 114, 101, 99, 116]⟩) : ByteArray) ∈ kwL) rfl
  have m7 : (s.toList == [117, 110, 114, 101, 99, 116]) = false := by simpa using n7
  have n8 := kw_no (l := [117, 110, 108, 97, 98, 101, 108]) h (by simp [kwL] : ((⟨#[117, 110, 108, 97, 98, 101, 108]⟩) : ByteArray) ∈ kwL) rfl
  have m8 : (s.toList == [117, 110, 108, 97, 98, 101, 108]) = false := by simpa using n8
  have n9 := kw_no (l := [117, 110, 112, 108, 97, 99, 101]) h (by simp [kwL] : ((⟨#[117, 110, 112, 108, 97, 99, 101]⟩) : ByteArray) ∈ kwL) rfl
  have m9 : (s.toList == [117, 110, 112, 108, 97, 99, 101]) = false := by simpa using n9
  clear h
  go_enter Tryz.func31, Tryz.ntmps31
  go_wp2
  go_ret2
  exact ⟨rfl, rfl⟩

theorem kpJ_size0 : (kpJ 0).size = (kdJ 0).length := by kernel_rfl
theorem kpJ_size1 : (kpJ 1).size = (kdJ 1).length := by kernel_rfl
theorem kpJ_size2 : (kpJ 2).size = (kdJ 2).length := by kernel_rfl
theorem kpJ_size3 : (kpJ 3).size = (kdJ 3).length := by kernel_rfl
theorem kpJ_size4 : (kpJ 4).size = (kdJ 4).length := by kernel_rfl
theorem kpJ_size5 : (kpJ 5).size = (kdJ 5).length := by kernel_rfl
theorem kpJ_size6 : (kpJ 6).size = (kdJ 6).length := by kernel_rfl
theorem kpJ_size7 : (kpJ 7).size = (kdJ 7).length := by kernel_rfl
theorem kpJ_size8 : (kpJ 8).size = (kdJ 8).length := by kernel_rfl
theorem kpJ_size9 : (kpJ 9).size = (kdJ 9).length := by kernel_rfl
theorem fdJ_size0 : (fdJ 0).size = (kdJ 0).length := by kernel_rfl
theorem fdJ_size1 : (fdJ 1).size = (kdJ 1).length := by kernel_rfl
theorem fdJ_size2 : (fdJ 2).size = (kdJ 2).length := by kernel_rfl
theorem fdJ_size3 : (fdJ 3).size = (kdJ 3).length := by kernel_rfl
theorem fdJ_size4 : (fdJ 4).size = (kdJ 4).length := by kernel_rfl
theorem fdJ_size5 : (fdJ 5).size = (kdJ 5).length := by kernel_rfl
theorem fdJ_size6 : (fdJ 6).size = (kdJ 6).length := by kernel_rfl
theorem fdJ_size7 : (fdJ 7).size = (kdJ 7).length := by kernel_rfl
theorem fdJ_size8 : (fdJ 8).size = (kdJ 8).length := by kernel_rfl
theorem fdJ_size9 : (fdJ 9).size = (kdJ 9).length := by kernel_rfl
theorem kp_at {K : ByteArray} {ks : List Nat} (hK : K.size = ks.length) (h : K.data.toList.map (fun c => (c.toNat : Int)) = ks.map chP) (h5 : ks.all (fun k => decide (k < 5)) = true) : ∀ i k, ks[i]? = some k → k < 5 ∧ bt K i = chP k := fun i k hk => by
  have hi : i < K.size := by rw [hK]; exact (List.getElem?_eq_some_iff.1 hk).1
  refine ⟨by have := List.all_eq_true.1 h5 k (List.mem_of_getElem? hk); simpa using this, ?_⟩
  obtain ⟨c, hc, hb⟩ := bt_list hi
  have h1 : (K.data.toList.map (fun c => (c.toNat : Int)))[i]? = some (c.toNat : Int) := by rw [List.getElem?_map, hc]; rfl
  rw [h, List.getElem?_map, hk] at h1
  rw [hb]
  exact (Option.some.inj h1).symm

theorem fd_at {K : ByteArray} {ks : List Nat} (hK : K.size = ks.length) (h : K.data.toList.map (fun c => (c.toNat : Int)) = ks.map chR) (h5 : ks.all (fun k => decide (k < 5)) = true) : ∀ i k, ks[i]? = some k → k < 5 ∧ bt K i = chR k := fun i k hk => by
  have hi : i < K.size := by rw [hK]; exact (List.getElem?_eq_some_iff.1 hk).1
  refine ⟨by have := List.all_eq_true.1 h5 k (List.mem_of_getElem? hk); simpa using this, ?_⟩
  obtain ⟨c, hc, hb⟩ := bt_list hi
  have h1 : (K.data.toList.map (fun c => (c.toNat : Int)))[i]? = some (c.toNat : Int) := by rw [List.getElem?_map, hc]; rfl
  rw [h, List.getElem?_map, hk] at h1
  rw [hb]
  exact (Option.some.inj h1).symm

theorem bt_not {K : ByteArray} (h : K.data.toList.all (fun c => decide (c.toNat ≠ 84)) = true) : ∀ i, bt K i ≠ 84 := fun i hi => by
  by_cases hk : i < K.size
  · obtain ⟨c, hc, hb⟩ := bt_list hk
    have h2 := List.all_eq_true.1 h c (List.mem_of_getElem? hc)
    have h3 : c.toNat ≠ 84 := by simpa using h2
    omega
  · unfold bt at hi
    rw [dif_neg hk] at hi
    cases hi

theorem kpB0 : ∀ i k, (kdJ 0)[i]? = some k → k < 5 ∧ bt (kpJ 0) i = chP k := kp_at kpJ_size0 (by kernel_rfl) (by kernel_rfl)
theorem kpT0 : ∀ i, bt (kpJ 0) i ≠ 84 := bt_not (by kernel_rfl)
theorem fdB0 : ∀ i k, (kdJ 0)[i]? = some k → k < 5 ∧ bt (fdJ 0) i = chR k := fd_at fdJ_size0 (by kernel_rfl) (by kernel_rfl)
theorem fdT0 : ¬ ((fdJ 0).toList = [63]) ∧ ¬ ((fdJ 0).toList = [84]) := by
  rw [ByteArray.toList_eq]
  exact ⟨by decide, by decide⟩
theorem kpB1 : ∀ i k, (kdJ 1)[i]? = some k → k < 5 ∧ bt (kpJ 1) i = chP k := kp_at kpJ_size1 (by kernel_rfl) (by kernel_rfl)
theorem kpT1 : ∀ i, bt (kpJ 1) i ≠ 84 := bt_not (by kernel_rfl)
theorem fdB1 : ∀ i k, (kdJ 1)[i]? = some k → k < 5 ∧ bt (fdJ 1) i = chR k := fd_at fdJ_size1 (by kernel_rfl) (by kernel_rfl)
theorem fdT1 : ¬ ((fdJ 1).toList = [63]) ∧ ¬ ((fdJ 1).toList = [84]) := by
  rw [ByteArray.toList_eq]
  exact ⟨by decide, by decide⟩
theorem kpB2 : ∀ i k, (kdJ 2)[i]? = some k → k < 5 ∧ bt (kpJ 2) i = chP k := kp_at kpJ_size2 (by kernel_rfl) (by kernel_rfl)
theorem kpT2 : ∀ i, bt (kpJ 2) i ≠ 84 := bt_not (by kernel_rfl)
theorem fdB2 : ∀ i k, (kdJ 2)[i]? = some k → k < 5 ∧ bt (fdJ 2) i = chR k := fd_at fdJ_size2 (by kernel_rfl) (by kernel_rfl)
theorem fdT2 : ¬ ((fdJ 2).toList = [63]) ∧ ¬ ((fdJ 2).toList = [84]) := by
  rw [ByteArray.toList_eq]
  exact ⟨by decide, by decide⟩
theorem kpB3 : ∀ i k, (kdJ 3)[i]? = some k → k < 5 ∧ bt (kpJ 3) i = chP k := kp_at kpJ_size3 (by kernel_rfl) (by kernel_rfl)
theorem kpT3 : ∀ i, bt (kpJ 3) i ≠ 84 := bt_not (by kernel_rfl)
theorem fdB3 : ∀ i k, (kdJ 3)[i]? = some k → k < 5 ∧ bt (fdJ 3) i = chR k := fd_at fdJ_size3 (by kernel_rfl) (by kernel_rfl)
theorem fdT3 : ¬ ((fdJ 3).toList = [63]) ∧ ¬ ((fdJ 3).toList = [84]) := by
  rw [ByteArray.toList_eq]
  exact ⟨by decide, by decide⟩
theorem kpB4 : ∀ i k, (kdJ 4)[i]? = some k → k < 5 ∧ bt (kpJ 4) i = chP k := kp_at kpJ_size4 (by kernel_rfl) (by kernel_rfl)
theorem kpT4 : ∀ i, bt (kpJ 4) i ≠ 84 := bt_not (by kernel_rfl)
theorem fdB4 : ∀ i k, (kdJ 4)[i]? = some k → k < 5 ∧ bt (fdJ 4) i = chR k := fd_at fdJ_size4 (by kernel_rfl) (by kernel_rfl)
theorem fdT4 : ¬ ((fdJ 4).toList = [63]) ∧ ¬ ((fdJ 4).toList = [84]) := by
  rw [ByteArray.toList_eq]
  exact ⟨by decide, by decide⟩
theorem kpB5 : ∀ i k, (kdJ 5)[i]? = some k → k < 5 ∧ bt (kpJ 5) i = chP k := kp_at kpJ_size5 (by kernel_rfl) (by kernel_rfl)
theorem kpT5 : ∀ i, bt (kpJ 5) i ≠ 84 := bt_not (by kernel_rfl)
theorem fdB5 : ∀ i k, (kdJ 5)[i]? = some k → k < 5 ∧ bt (fdJ 5) i = chR k := fd_at fdJ_size5 (by kernel_rfl) (by kernel_rfl)
theorem fdT5 : ¬ ((fdJ 5).toList = [63]) ∧ ¬ ((fdJ 5).toList = [84]) := by
  rw [ByteArray.toList_eq]
  exact ⟨by decide, by decide⟩
theorem kpB6 : ∀ i k, (kdJ 6)[i]? = some k → k < 5 ∧ bt (kpJ 6) i = chP k := kp_at kpJ_size6 (by kernel_rfl) (by kernel_rfl)
theorem kpT6 : ∀ i, bt (kpJ 6) i ≠ 84 := bt_not (by kernel_rfl)
theorem fdB6 : ∀ i k, (kdJ 6)[i]? = some k → k < 5 ∧ bt (fdJ 6) i = chR k := fd_at fdJ_size6 (by kernel_rfl) (by kernel_rfl)
theorem fdT6 : ¬ ((fdJ 6).toList = [63]) ∧ ¬ ((fdJ 6).toList = [84]) := by
  rw [ByteArray.toList_eq]
  exact ⟨by decide, by decide⟩
theorem kpB7 : ∀ i k, (kdJ 7)[i]? = some k → k < 5 ∧ bt (kpJ 7) i = chP k := kp_at kpJ_size7 (by kernel_rfl) (by kernel_rfl)
theorem kpT7 : ∀ i, bt (kpJ 7) i ≠ 84 := bt_not (by kernel_rfl)
theorem fdB7 : ∀ i k, (kdJ 7)[i]? = some k → k < 5 ∧ bt (fdJ 7) i = chR k := fd_at fdJ_size7 (by kernel_rfl) (by kernel_rfl)
theorem fdT7 : ¬ ((fdJ 7).toList = [63]) ∧ ¬ ((fdJ 7).toList = [84]) := by
  rw [ByteArray.toList_eq]
  exact ⟨by decide, by decide⟩
theorem kpB8 : ∀ i k, (kdJ 8)[i]? = some k → k < 5 ∧ bt (kpJ 8) i = chP k := kp_at kpJ_size8 (by kernel_rfl) (by kernel_rfl)
theorem kpT8 : ∀ i, bt (kpJ 8) i ≠ 84 := bt_not (by kernel_rfl)
theorem fdB8 : ∀ i k, (kdJ 8)[i]? = some k → k < 5 ∧ bt (fdJ 8) i = chR k := fd_at fdJ_size8 (by kernel_rfl) (by kernel_rfl)
theorem fdT8 : ¬ ((fdJ 8).toList = [63]) ∧ ¬ ((fdJ 8).toList = [84]) := by
  rw [ByteArray.toList_eq]
  exact ⟨by decide, by decide⟩
theorem kpB9 : ∀ i k, (kdJ 9)[i]? = some k → k < 5 ∧ bt (kpJ 9) i = chP k := kp_at kpJ_size9 (by kernel_rfl) (by kernel_rfl)
theorem kpT9 : ∀ i, bt (kpJ 9) i ≠ 84 := bt_not (by kernel_rfl)
theorem fdB9 : ∀ i k, (kdJ 9)[i]? = some k → k < 5 ∧ bt (fdJ 9) i = chR k := fd_at fdJ_size9 (by kernel_rfl) (by kernel_rfl)
theorem fdT9 : ¬ ((fdJ 9).toList = [63]) ∧ ¬ ((fdJ 9).toList = [84]) := by
  rw [ByteArray.toList_eq]
  exact ⟨by decide, by decide⟩
end Go.Proofs.YtncmhefendhinaaGreatDoor

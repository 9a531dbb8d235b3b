/- readDecimal and shortNumber of the program. Condition: lengths that fit; the library's variables as they are laid. -/
import Derived.Test.YtncmhefendhinaaGreatDoorVrd
namespace Go.Proofs.YtncmhefendhinaaGreatDoor
open Go.RowKit Go.PlainAid Go.Lib

def rdV (s : ByteArray) : Option Int := if s.size ≤ 19 then (match parseIntB 64 s.data.toList with | .ok v => if itoa v = s.data.toList then some v else none | _ => none) else none
theorem rdV_long {s : ByteArray} (h : 19 < s.size) : rdV s = none := by rw [rdV, if_neg (by omega)]
theorem rdV_bad {s : ByteArray} (h : ∀ v, parseIntB 64 s.data.toList ≠ .ok v) : rdV s = none := by
  unfold rdV
  split
  · cases hp : parseIntB 64 s.data.toList
    · rename_i v
      exact absurd hp (h v)
    · rfl
    · rfl
  · rfl
theorem rdV_ok {s : ByteArray} {v : Int} (hs : s.size ≤ 19) (h : parseIntB 64 s.data.toList = .ok v) (he : itoa v = s.data.toList) : rdV s = some v := by
  rw [rdV, if_pos hs, h]; simp only [he, if_true]
theorem rdV_not {s : ByteArray} {v : Int} (hs : s.size ≤ 19) (h : parseIntB 64 s.data.toList = .ok v) (he : itoa v ≠ s.data.toList) : rdV s = none := by
  rw [rdV, if_pos hs, h]; simp only [he, if_false]
theorem rdV_some {s : ByteArray} {v : Int} (h : rdV s = some v) : itoa v = s.data.toList := by
  unfold rdV at h
  split at h
  · split at h
    · split at h
      · rename_i he; cases h; exact he
      · cases h
    · cases h
  · cases h
theorem toL (l : List UInt8) (s : ByteArray) : ((⟨l.toArray⟩ : ByteArray).toList == s.toList) = decide (l = s.data.toList) := by
  rw [ByteArray.toList_eq, ByteArray.toList_eq]
  show (l == s.data.toList) = _
  by_cases h : l = s.data.toList <;> simp [h]

set_option maxRecDepth 100000 in
set_option maxHeartbeats 4000000 in
theorem pDec_any (n : Int) (w : World) (hV : Vrs w) (h0 : -9223372036854775808 ≤ n) (h1 : n ≤ 9223372036854775807) :
    Calls Tryz.prog 102 #[.int .i64 n] w fun e w' => e = .returned (.string ⟨(itoa n).toArray⟩) ∧ Ext w w' := by
  go_enter Tryz.func102, Tryz.ntmps102
  go_wp2_with (go_at_call 105; refine (pDecimal_any n _ hV h0 h1).mono ?_; rintro e w2 ⟨rfl, E2⟩)
  go_ret
  exact ⟨rfl, E2⟩

set_option maxRecDepth 100000 in
set_option maxHeartbeats 4000000 in
theorem pRead_any (s : ByteArray) (w : World) (hV : Vrs w) (hs : s.size ≤ 1048576) :
    Calls Tryz.prog 100 #[.string s] w fun e w' => e = .returned (.tuple #[.int .i64 ((rdV s).getD 0), .bool (rdV s).isSome]) ∧ Ext w w' := by
  by_cases h19 : 19 < s.size
  · have hI : (19 : Int) < s.size := by omega
    have hr := hid (rdV_long h19)
    go_enter Tryz.func100, Tryz.ntmps100
    go_wp2
    go_ret2
    rw [hr.out]
    exact ⟨rfl, Ext.refl _⟩
  have hI : ¬ ((19 : Int) < s.size) := by omega
  by_cases hok : ∃ v, parseIntB 64 s.data.toList = .ok v
  · obtain ⟨v, hp⟩ := hok
    have hb := parseIntB_bounds hp
    have hb0 : -9223372036854775808 ≤ v := by have := hb.1; simp at this; omega
    have hb1 : v ≤ 9223372036854775807 := by have := hb.2; simp at this; omega
    have hp2 := hid hp
    clear hb
    by_cases he : itoa v = s.data.toList
    · have hr := hid (rdV_ok (by omega) hp he)
      have hq : ((⟨(itoa v).toArray⟩ : ByteArray).toList == s.toList) = true := by rw [toL, decide_eq_true he]
      clear hp he
      generalize hS : (⟨(itoa v).toArray⟩ : ByteArray) = S at hq
      have hS2 := hid hS
      clear hS
      go_enter Tryz.func100, Tryz.ntmps100
      go_wp2_with (first | (go_at_call 101; refine (pParse_ok s v _ hs hp2.out).mono ?_; rintro e w2 ⟨rfl, E2⟩) | (go_at_call 102; refine (pDec_any v _ (hV.ext E2) hb0 hb1).mono ?_; rw [hS2.out]; rintro e w3 ⟨rfl, E3⟩))
      go_ret2
      rw [hr.out]
      exact ⟨rfl, E2.trans E3⟩
    · have hr := hid (rdV_not (by omega) hp he)
      have hq : ((⟨(itoa v).toArray⟩ : ByteArray).toList == s.toList) = false := by rw [toL, decide_eq_false he]
      clear hp he
      generalize hS : (⟨(itoa v).toArray⟩ : ByteArray) = S at hq
      have hS2 := hid hS
      clear hS
      go_enter Tryz.func100, Tryz.ntmps100
      go_wp2_with (first | (go_at_call 101; refine (pParse_ok s v _ hs hp2.out).mono ?_; rintro e w2 ⟨rfl, E2⟩) | (go_at_call 102; refine (pDec_any v _ (hV.ext E2) hb0 hb1).mono ?_; rw [hS2.out]; rintro e w3 ⟨rfl, E3⟩))
      go_ret2
      rw [hr.out]
      exact ⟨rfl, E2.trans E3⟩
  · have hno := hid (show ∀ v, parseIntB 64 s.data.toList ≠ .ok v from fun v hv => hok ⟨v, hv⟩)
    have hr := hid (rdV_bad hno.out)
    clear hok
    go_enter Tryz.func100, Tryz.ntmps100
    go_wp2_with (go_at_call 101; refine (pParse_err s _ hV hs hno.out).mono ?_; rintro e w2 ⟨n, tp, x, rfl, E2⟩)
    go_ret2
    rw [hr.out]
    exact ⟨rfl, E2⟩
/-- The number of a word. -/
def nmV (s : ByteArray) : Option Int := numW s.data.toList
theorem nmV_rd (s : ByteArray) : nmV s = (match rdV s with | some v => if -999999999 ≤ v ∧ v ≤ 999999999 then some v else none | none => none) := by
  unfold nmV
  cases hn : numW s.data.toList with
  | some n =>
    obtain ⟨hi, h0, h1⟩ := numW_some hn
    have hp := parse_itoa h0 h1
    rw [hi] at hp
    have hl : s.size ≤ 19 := by
      have : s.data.toList.length ≤ 10 := by
        rw [← hi]
        unfold itoa
        split
        · have := decDigits_len9 (u := n.natAbs) (by omega); rw [List.length_cons]; omega
        · have := decDigits_len9 (u := n.toNat) (by omega); omega
      have hsz : s.size = s.data.toList.length := by rw [Array.length_toList]; rfl
      omega
    rw [rdV_ok hl hp hi]
    simp only [h0, h1, and_self, if_true]
  | none =>
    cases hv : rdV s with
    | none => rfl
    | some v =>
      have he := rdV_some hv
      by_cases hb : -999999999 ≤ v ∧ v ≤ 999999999
      · have := numW_itoa hb.1 hb.2
        rw [he, hn] at this
        cases this
      · simp only [if_neg hb]

set_option maxRecDepth 100000 in
set_option maxHeartbeats 4000000 in
theorem pShort_any (s : ByteArray) (w : World) (hV : Vrs w) (hs : s.size ≤ 1048576) :
    Calls Tryz.prog 91 #[.string s] w fun e w' => ∃ v : Int, e = .returned (.tuple #[.int .i64 v, .bool (nmV s).isSome]) ∧ (∀ n, nmV s = some n → v = n) ∧ Ext w w' := by
  have hc := pRead_any s w hV hs
  have hn := nmV_rd s
  cases hv : rdV s with
  | none =>
    rw [hv] at hc hn
    replace hc := hid hc
    replace hn := hid (show nmV s = none from hn)
    clear hv
    go_enter Tryz.func91, Tryz.ntmps91
    go_wp2_with (first | (go_at_call 100; refine hc.out.mono ?_; rintro e w2 ⟨rfl, E2⟩) | (go_at_call 67; refine (within_any _ _ _ _).mono ?_; rintro e w2 ⟨rfl, rfl⟩))
    go_ret2
    rw [hn.out]
    exact ⟨_, rfl, (fun n hh => by cases hh), E2⟩
  | some v =>
    rw [hv] at hc hn
    replace hc := hid (show Calls Tryz.prog 100 #[.string s] w fun e w' => e = .returned (.tuple #[.int .i64 v, .bool true]) ∧ Ext w w' from hc)
    replace hn := hid (show nmV s = if -999999999 ≤ v ∧ v ≤ 999999999 then some v else none from hn)
    clear hv
    cases hw : wit v (-999999999) 999999999 with
    | true =>
      have hb : -999999999 ≤ v ∧ v ≤ 999999999 := by simpa [wit] using hw
      have hm : Hid (nmV s = some v) := by show _ = _; rw [hn.out, if_pos hb]
      clear hn hb
      go_enter Tryz.func91, Tryz.ntmps91
      go_wp2_with (first | (go_at_call 100; refine hc.out.mono ?_; rintro e w2 ⟨rfl, E2⟩) | (go_at_call 67; refine (within_any _ _ _ _).mono ?_; rintro e w2 ⟨rfl, rfl⟩))
      go_ret2
      rw [hm.out]
      exact ⟨_, rfl, (fun n hh => by cases hh; rfl), E2⟩
    | false =>
      have hb : ¬ (-999999999 ≤ v ∧ v ≤ 999999999) := by intro hh; simp [wit, hh.1, hh.2] at hw
      have hm : Hid (nmV s = none) := by show _ = _; rw [hn.out, if_neg hb]
      clear hn hb
      go_enter Tryz.func91, Tryz.ntmps91
      go_wp2_with (first | (go_at_call 100; refine hc.out.mono ?_; rintro e w2 ⟨rfl, E2⟩) | (go_at_call 67; refine (within_any _ _ _ _).mono ?_; rintro e w2 ⟨rfl, rfl⟩))
      go_ret2
      rw [hm.out]
      exact ⟨_, rfl, (fun n hh => by cases hh), E2⟩

end Go.Proofs.YtncmhefendhinaaGreatDoor

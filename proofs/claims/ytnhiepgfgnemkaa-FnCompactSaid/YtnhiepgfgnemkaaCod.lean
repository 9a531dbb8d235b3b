/- Contracts of blocksCode (program) and l31Code (reference), of l31Left. Condition: at most 2^20 elements. -/
import Derived.Test.YtnhiepgfgnemkaaCsp
import Derived.Test.YtnhiepgfgnemkaaWid
namespace Go.Proofs.Ytnhiepgfgnemkaa
open Go.RowKit

def codeB (l : List Q4) (g : Int) : Int := if isBL l = true then (if wit g 0 8 = true then 0 else 2) else 1
set_option maxHeartbeats 400000 in
theorem blocksCode_any (q : Option Addr) (n c : Nat) (l : List Q4) (g : Int) (w : World) (h : SlT enc4 4 w q n l) (hn : n ≤ 1048576) :
    Calls Try.prog 58 #[.slice q n c, .int .i64 g] w fun e w' => e = .returned (.int .i64 (codeB l g)) ∧ Ext w w' := by
  go_enter Try.func58, Try.ntmps58
  cases hb : isBL l with
  | false =>
    have hr : Hid (1 = codeB l g) := by show _ = _; rw [codeB, hb]; rfl
    go_wp2_with (go_at_call 74; refine (IsBlockList_any _ _ _ l _ h hn).mono ?_; rw [hb]; rintro e w' ⟨rfl, hE⟩)
    go_ret
    exact ⟨ret_int hr.out, hE⟩
  | true =>
    cases hg : wit g 0 8 with
    | false =>
      have hr : Hid (2 = codeB l g) := by show _ = _; rw [codeB, hb, hg]; rfl
      go_wp2_with (first | (go_at_call 74; refine (IsBlockList_any _ _ _ l _ h hn).mono ?_; rw [hb]; rintro e w' ⟨rfl, hE⟩) | (go_at_call 93; refine (within_any _ _ _ _).mono ?_; rw [hg]; rintro e w' ⟨rfl, rfl⟩))
      go_ret
      exact ⟨ret_int hr.out, hE⟩
    | true =>
      have hr : Hid (0 = codeB l g) := by show _ = _; rw [codeB, hb, hg]; rfl
      go_wp2_with (first | (go_at_call 74; refine (IsBlockList_any _ _ _ l _ h hn).mono ?_; rw [hb]; rintro e w' ⟨rfl, hE⟩) | (go_at_call 93; refine (within_any _ _ _ _).mono ?_; rw [hg]; rintro e w' ⟨rfl, rfl⟩))
      go_ret
      exact ⟨ret_int hr.out, hE⟩
set_option maxHeartbeats 400000 in
theorem l31Code_any (q : Option Addr) (n c : Nat) (l : List Q4) (g : Int) (w : World) (h : SlT enc4 4 w q n l) (hn : n ≤ 1048576) :
    Calls Try.prog 54 #[.slice q n c, .int .i64 g] w fun e w' => e = .returned (.int .i64 (codeB l g)) ∧ Ext w w' := by
  go_enter Try.func54, Try.ntmps54
  cases hb : isBL l with
  | false =>
    have hr : Hid (1 = codeB l g) := by show _ = _; rw [codeB, hb]; rfl
    go_wp2_with (go_at_call 94; refine (specIsBlockList_any _ _ _ l _ h hn).mono ?_; rw [hb]; rintro e w' ⟨rfl, hE⟩)
    go_ret
    exact ⟨ret_int hr.out, hE⟩
  | true =>
    cases hg : wit g 0 8 with
    | false =>
      have hr : Hid (2 = codeB l g) := by show _ = _; rw [codeB, hb, hg]; rfl
      go_wp2_with (first | (go_at_call 94; refine (specIsBlockList_any _ _ _ l _ h hn).mono ?_; rw [hb]; rintro e w' ⟨rfl, hE⟩) | (go_at_call 95; refine (l31Gap_any _ _).mono ?_; rw [hg]; rintro e w' ⟨rfl, rfl⟩))
      go_ret
      exact ⟨ret_int hr.out, hE⟩
    | true =>
      have hr : Hid (0 = codeB l g) := by show _ = _; rw [codeB, hb, hg]; rfl
      go_wp2_with (first | (go_at_call 94; refine (specIsBlockList_any _ _ _ l _ h hn).mono ?_; rw [hb]; rintro e w' ⟨rfl, hE⟩) | (go_at_call 95; refine (l31Gap_any _ _).mono ?_; rw [hg]; rintro e w' ⟨rfl, rfl⟩))
      go_ret
      exact ⟨ret_int hr.out, hE⟩
set_option maxRecDepth 100000 in
set_option maxHeartbeats 1000000 in
theorem l31Left_any (q : Option Addr) (n c : Nat) (l : List Q4) (W : World) (h : SlT enc4 4 W q n l) (i k : Nat) (hi : i < n) (hk : k < n) :
    Calls Try.prog 98 #[.slice q n c, .int .i64 i, .int .i64 k] W fun e w' => e = .returned (.bool (decide (Lft l i k))) ∧ Ext W w' := by
  obtain ⟨b, off, x, rfl, hbl, hx, x0, x1, x2, x3⟩ := h.four hi
  obtain ⟨b', off', y, e, hbl', hy, y0, y1, y2, y3⟩ := h.four hk
  cases e
  have hX := bX_at hx.out
  have hY := bX_at hy.out
  have hiI : (i : Int) < n := by omega
  have hkI : (k : Int) < n := by omega
  go_enter Try.func98, Try.ntmps98
  by_cases h1 : x.a < y.a
  · have hr : Hid (true = decide (Lft l i k)) := (decide_eq_true (by rw [Lft, hX, hY]; exact Or.inl h1)).symm
    have hd1 : decide (x.a < y.a) = true := by simp [h1]
    clear hX hY
    go_wp2_with fail
    refine wp_region_later (by kernel_rfl) (by kernel_rfl) ?_
    repeat (go_big_quiet_step (fail))
    refine wpQuiet_nil ?_
    rintro w7 ⟨⟨_, h7⟩, rfl⟩
    go_wp2
    go_ret
    exact ⟨ret_bool hr.out, h7⟩
  · have hd1 : decide (x.a < y.a) = false := by simp [h1]
    by_cases h2 : x.a = y.a
    · have hr : Hid (decide ((i : Int) < k) = decide (Lft l i k)) := decide_eq_decide.2 (by rw [Lft, hX, hY]; omega)
      have hd2 : (x.a == y.a) = true := by simp [h2]
      clear hX hY h2
      go_wp2_with fail
      refine wp_region_later (by kernel_rfl) (by kernel_rfl) ?_
      repeat (go_big_quiet_step (fail))
      refine wpQuiet_nil ?_
      rintro w7 ⟨⟨_, h7⟩, rfl⟩
      go_wp2
      go_ret
      exact ⟨ret_bool (by rw [← hr.out]; simp), h7⟩
    · have hr : Hid (false = decide (Lft l i k)) := (decide_eq_false (by rw [Lft, hX, hY]; omega)).symm
      have hd2 : (x.a == y.a) = false := by simp [h2]
      clear hX hY
      go_wp2_with fail
      refine wp_region_later (by kernel_rfl) (by kernel_rfl) ?_
      repeat (go_big_quiet_step (fail))
      refine wpQuiet_nil ?_
      rintro w7 ⟨⟨_, h7⟩, rfl⟩
      go_wp2
      go_ret
      exact ⟨ret_bool hr.out, h7⟩
end Go.Proofs.Ytnhiepgfgnemkaa

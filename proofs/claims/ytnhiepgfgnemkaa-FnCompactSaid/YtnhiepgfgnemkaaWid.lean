/- Contracts of validXs, widthOf, WidthOf (program and reference) Condition: at most 2^20 elements. -/
import Derived.Test.YtnhiepgfgnemkaaBl2
import Derived.Test.YtnhiepgfgnemkaaOpn
namespace Go.Proofs.Ytnhiepgfgnemkaa
open Go.RowKit

def xsOk (xs : List Int) : Bool := xs.all fun x => wit x 0 800
def validXsB (l : List Q4) (xs : List Int) : Bool := decide (xs.length = l.length) && xsOk xs
/-- The width of the first k blocks. -/
def widK (l : List Q4) (xs : List Int) (k : Nat) : Int := ((l.zip xs).take k).foldl (fun m y => max m (y.2 + y.1.c)) 0
def widB (l : List Q4) (xs : List Int) : Int := widK l xs l.length
/-- What WidthOf answers. -/
def widthR (l : List Q4) (xs : List Int) : Int := if isBL l && validXsB l xs then widB l xs else -1
theorem widK_succ {l : List Q4} {xs : List Int} {k : Nat} {x : Q4} {v : Int} (hx : l[k]? = some x) (hv : xs[k]? = some v) : widK l xs (k + 1) = max (widK l xs k) (v + x.c) := by
  have h : (l.zip xs)[k]? = some (x, v) := by rw [List.getElem?_zip_eq_some]; exact ⟨hx, hv⟩
  unfold widK
  rw [take_snoc h, List.foldl_append]; rfl
theorem vblk_at {l : List Q4} (h : l.all vblk = true) {k : Nat} {x : Q4} (hx : l[k]? = some x) : vblk x = true := List.all_eq_true.1 h x (List.mem_of_getElem? hx)
theorem xsOk_at {l : List Int} (h : xsOk l = true) {k : Nat} {x : Int} (hx : l[k]? = some x) : 0 ≤ x ∧ x ≤ 800 := wit_iff.1 (List.all_eq_true.1 h x (List.mem_of_getElem? hx))

theorem validXs1_pred (w : World) : PredI 100 #[] (fun x => !wit x 0 800) w := by
  intro W x _
  show Calls Try.prog 100 #[.int .i64 x] W _
  go_enter Try.func100, Try.ntmps100
  go_wp2_with (go_at_call 93; refine (within_any _ _ _ _).mono ?_; rintro e w' ⟨rfl, rfl⟩)
  go_ret
  exact ⟨rfl, Ext.refl _⟩
set_option maxHeartbeats 400000 in
theorem validXs_any (p1 p2 : Option Addr) (n m c1 c2 : Nat) (l : List Q4) (xs : List Int) (w : World) (h1 : SlT enc4 4 w p1 n l) (h2 : SlT enc1 1 w p2 m xs) (hn : n ≤ 1048576) (hm : m ≤ 1048576) :
    Calls Try.prog 59 #[.slice p1 n c1, .slice p2 m c2] w fun e w' => e = .returned (.bool (validXsB l xs)) ∧ Ext w w' := by
  have l1 := hid h1.length
  have l2 := hid h2.length
  by_cases h12 : m = n
  · subst h12
    have hr : Hid ((!xs.any fun x => !wit x 0 800) = validXsB l xs) := by show _ = _; rw [all_not_any, validXsB, l1.out, l2.out]; simp [xsOk]
    go_enter Try.func59, Try.ntmps59
    go_wp2_with (go_at_call 99; refine (containsFuncI_any p2 m c2 xs (fun x => !wit x 0 800) 100 #[] (enters_of Try.func100 (by kernel_rfl) rfl) _ h2 (validXs1_pred _) hm).mono ?_; generalize (xs.any fun x => !wit x 0 800) = r at hr ⊢; rintro e w' ⟨rfl, hE⟩)
    go_ret
    exact ⟨ret_bool hr.out, hE⟩
  · have hr : Hid (false = validXsB l xs) := by show _ = _; rw [validXsB, l1.out, l2.out]; simp [h12]
    have hd : ((m : Int) == (n : Int)) = false := by simp; omega
    go_enter Try.func59, Try.ntmps59
    go_wp2
    go_ret
    exact ⟨ret_bool hr.out, Ext.refl _⟩
set_option maxRecDepth 100000 in
set_option maxHeartbeats 400000 in
theorem l31Positions_any (p1 p2 : Option Addr) (n m c1 c2 : Nat) (l : List Q4) (xs : List Int) (w : World) (h1 : SlT enc4 4 w p1 n l) (h2 : SlT enc1 1 w p2 m xs) (hn : n ≤ 1048576) (hm : m ≤ 1048576) :
    Calls Try.prog 55 #[.slice p1 n c1, .slice p2 m c2] w fun e w' => e = .returned (.bool (validXsB l xs)) ∧ Ext w w' := by
  have l1 := hid h1.length
  have l2 := hid h2.length
  by_cases h12 : m = n
  · subst h12
    go_enter Try.func55, Try.ntmps55
    go_wp2
    go_loop [5] (fun i => ∃ k : Nat, k ≤ m ∧ i = .int .i64 k ∧ Hid ((xs.take k).any (fun x => !wit x 0 800) = false)) (fun i => m - (intOf i).toNat)
    case atStart => exact ⟨0, by omega, rfl, rfl⟩
    case round =>
      obtain ⟨k, hk, rfl, hA⟩ := hrel
      by_cases hlt : k < m
      · obtain ⟨b, off, x, rfl, hb, hx, c0⟩ := h2.int hlt
        cases hq : wit x 0 800 with
        | true =>
          have hr : Hid ((xs.take (k + 1)).any (fun x => !wit x 0 800) = false) := any_take_snoc hA.out hx.out (by simp [hq])
          go_wp2_with (go_at_call 96; refine (l09In_any _ _ _ _).mono ?_; rintro e w' ⟨rfl, rfl⟩)
          go_round
          case rel => exact ⟨k + 1, by omega, by go_num, hr⟩
          case measure => simp [intOf]; omega
        | false =>
          have hr : Hid (false = validXsB l xs) := by
            have : xsOk xs = false := by rw [xsOk, List.all_eq_false]; exact ⟨x, List.mem_of_getElem? hx.out, by simp [hq]⟩
            show _ = _
            rw [validXsB, this, Bool.and_false]
          go_wp2_with (go_at_call 96; refine (l09In_any _ _ _ _).mono ?_; rintro e w' ⟨rfl, rfl⟩)
          go_ret
          exact ⟨ret_bool hr.out, Ext.refl _⟩
      · have hr : Hid (true = validXsB l xs) := by
          have hA := hA.out
          rw [take_all l2.out (by omega)] at hA
          show _ = _
          rw [validXsB, l1.out, l2.out, xsOk, ← all_not_any, hA]
          simp
        go_wp2_with fail
        go_ret
        exact ⟨ret_bool hr.out, Ext.refl _⟩
  · have hr : Hid (false = validXsB l xs) := by show _ = _; rw [validXsB, l1.out, l2.out]; simp [h12]
    have hd : ((m : Int) != (n : Int)) = true := by simp; omega
    go_enter Try.func55, Try.ntmps55
    go_wp2
    go_ret
    exact ⟨ret_bool hr.out, Ext.refl _⟩
set_option maxRecDepth 100000 in
set_option maxHeartbeats 400000 in
theorem widthOf_any (p1 p2 : Option Addr) (n c1 c2 : Nat) (l : List Q4) (xs : List Int) (w : World) (h1 : SlT enc4 4 w p1 n l) (h2 : SlT enc1 1 w p2 n xs) (hn : n ≤ 1048576) (hl : Hid (l.all vblk = true)) (hxs : Hid (xsOk xs = true)) :
    Calls Try.prog 69 #[.slice p1 n c1, .slice p2 n c2] w fun e w' => e = .returned (.int .i64 (widB l xs)) ∧ Ext w w' := by
  have l1 := hid h1.length
  go_enter Try.func69, Try.ntmps69
  go_wp2
  go_loopw [5, 10] (fun o i wr => ∃ k : Nat, k ≤ n ∧ i = .int .i64 k ∧ Ext w wr ∧ o = .int .i64 (widK l xs k)) (fun _ i _ => n - (intOf i).toNat)
  case atStart => exact ⟨0, by omega, rfl, Ext.refl _, rfl⟩
  case round =>
    obtain ⟨k, hk, rfl, hE, rfl⟩ := hrel
    by_cases hlt : k < n
    · obtain ⟨b, off, x, rfl, hb, hx, e0, e1, e2, e3⟩ := (h1.ext hE).four hlt
      obtain ⟨b', off', v, rfl, hb', hv, d0⟩ := (h2.ext hE).int hlt
      obtain ⟨⟨g1, g2⟩, ⟨g3, g4⟩, ⟨g5, g6⟩, ⟨g7, g8⟩⟩ := vblk_iff.1 (vblk_at hl.out hx.out)
      obtain ⟨g9, g10⟩ := xsOk_at hxs.out hv.out
      have hs := hid (widK_succ hx.out hv.out)
      have hlt' : (k : Int) < (n : Int) := by omega
      generalize widK l xs k = W at hs ⊢
      go_wp2_with fail
      refine wp_region_later (by kernel_rfl) (by kernel_rfl) ?_
      repeat (go_big_quiet_step (fail))
      refine wpQuiet_nil ?_
      rintro w2 ⟨⟨_, h3⟩, rfl⟩
      go_wp2
      go_roundw
      case rel => exact ⟨k + 1, by omega, by go_num, (hE.alloc _).trans h3, by rw [hs.out]; first | rfl | (congr 1; omega)⟩
      case measure => simp [intOf]; omega
    · have hr : Hid (widK l xs k = widB l xs) := by
        obtain rfl : k = n := by omega
        show _ = _
        rw [widB, l1.out]
      go_wp2_with fail
      go_ret
      exact ⟨ret_int hr.out, hE⟩
set_option maxRecDepth 100000 in
set_option maxHeartbeats 400000 in
theorem l31Width_any (p1 p2 : Option Addr) (n c1 c2 : Nat) (l : List Q4) (xs : List Int) (w : World) (h1 : SlT enc4 4 w p1 n l) (h2 : SlT enc1 1 w p2 n xs) (hn : n ≤ 1048576) (hl : Hid (l.all vblk = true)) (hxs : Hid (xsOk xs = true)) :
    Calls Try.prog 67 #[.slice p1 n c1, .slice p2 n c2] w fun e w' => e = .returned (.int .i64 (widB l xs)) ∧ Ext w w' := by
  have l1 := hid h1.length
  go_enter Try.func67, Try.ntmps67
  go_wp2
  go_loopw [5, 6] (fun o i wr => ∃ k : Nat, k ≤ n ∧ i = .int .i64 k ∧ Ext w wr ∧ o = .int .i64 (widK l xs k)) (fun _ i _ => n - (intOf i).toNat)
  case atStart => exact ⟨0, by omega, rfl, Ext.refl _, rfl⟩
  case round =>
    obtain ⟨k, hk, rfl, hE, rfl⟩ := hrel
    by_cases hlt : k < n
    · obtain ⟨b, off, x, rfl, hb, hx, e0, e1, e2, e3⟩ := (h1.ext hE).four hlt
      obtain ⟨b', off', v, rfl, hb', hv, d0⟩ := (h2.ext hE).int hlt
      obtain ⟨⟨g1, g2⟩, ⟨g3, g4⟩, ⟨g5, g6⟩, ⟨g7, g8⟩⟩ := vblk_iff.1 (vblk_at hl.out hx.out)
      obtain ⟨g9, g10⟩ := xsOk_at hxs.out hv.out
      have hs := hid (widK_succ hx.out hv.out)
      have hlt' : (k : Int) < (n : Int) := by omega
      generalize widK l xs k = W at hs ⊢
      go_wp2_with fail
      refine wp_region_later (by kernel_rfl) (by kernel_rfl) ?_
      repeat (go_big_quiet_step (fail))
      refine wpQuiet_nil ?_
      rintro w2 ⟨⟨_, h3⟩, rfl⟩
      go_wp2
      go_roundw
      case rel => exact ⟨k + 1, by omega, by go_num, hE.trans h3, by rw [hs.out]; first | rfl | (congr 1; omega)⟩
      case measure => simp [intOf]; omega
    · have hr : Hid (widK l xs k = widB l xs) := by
        obtain rfl : k = n := by omega
        show _ = _
        rw [widB, l1.out]
      go_wp2_with fail
      go_ret
      exact ⟨ret_int hr.out, hE⟩
set_option maxHeartbeats 400000 in
theorem WidthOf_any (p1 p2 : Option Addr) (n m c1 c2 : Nat) (l : List Q4) (xs : List Int) (w : World) (h1 : SlT enc4 4 w p1 n l) (h2 : SlT enc1 1 w p2 m xs) (hn : n ≤ 1048576) (hm : m ≤ 1048576) :
    Calls Try.prog 41 #[.slice p1 n c1, .slice p2 m c2] w fun e w' => e = .returned (.int .i64 (widthR l xs)) ∧ Ext w w' := by
  have l1 := hid h1.length
  have l2 := hid h2.length
  cases hb : isBL l with
  | false =>
    go_enter Try.func41, Try.ntmps41
    go_wp2_with (go_at_call 74; refine (IsBlockList_any _ _ _ l _ h1 hn).mono ?_; rw [hb]; rintro e w' ⟨rfl, hE⟩)
    go_ret
    exact ⟨ret_int (by simp [widthR, hb]), hE⟩
  | true =>
    cases hv : validXsB l xs with
    | false =>
      go_enter Try.func41, Try.ntmps41
      go_wp2_with fail
      refine (IsBlockList_any _ _ _ l _ h1 hn).mono ?_
      rw [hb]
      rintro e w1 ⟨rfl, hE⟩
      go_wp2_with fail
      refine (validXs_any _ _ _ _ _ _ l xs _ (h1.ext hE) (h2.ext hE) hn hm).mono ?_
      rw [hv]
      rintro e w2 ⟨rfl, hE2⟩
      go_wp2_with fail
      go_ret
      exact ⟨ret_int (by simp [widthR, hb, hv]), hE.trans hE2⟩
    | true =>
      have hl : Hid (l.all vblk = true) := by show _ = _; simp only [isBL, Bool.and_eq_true] at hb; exact hb.2
      have hmn : m = n := by simp only [validXsB, Bool.and_eq_true, decide_eq_true_eq] at hv; have := hv.1; have := l1.out; have := l2.out; omega
      have hx : Hid (xsOk xs = true) := by show _ = _; simp only [validXsB, Bool.and_eq_true] at hv; exact hv.2
      subst hmn
      go_enter Try.func41, Try.ntmps41
      go_wp2_with fail
      refine (IsBlockList_any _ _ _ l _ h1 hn).mono ?_
      rw [hb]
      rintro e w1 ⟨rfl, hE⟩
      go_wp2_with fail
      refine (validXs_any _ _ _ _ _ _ l xs _ (h1.ext hE) (h2.ext hE) hn hm).mono ?_
      rw [hv]
      rintro e w2 ⟨rfl, hE2⟩
      have E2 := hE.trans hE2
      go_wp2_with fail
      refine (widthOf_any _ _ _ _ _ l xs _ (h1.ext E2) (h2.ext E2) hn hl hx).mono ?_
      rintro e w3 ⟨rfl, hE3⟩
      go_wp2_with fail
      go_ret
      exact ⟨ret_int (by simp [widthR, hb, hv]), E2.trans hE3⟩
end Go.Proofs.Ytnhiepgfgnemkaa

/- Contracts of the reference's l03Has, l03Runs. No condition. -/
import Derived.Test.YtaigndaabmelhaaSp1
namespace Go.Proofs.Ytaigndaabmelhaa
open Go.RowKit

/-- Block B holds the 6400 bools of g. -/
def Bits (w : World) (B : Nat) (g : Grid) : Prop := B < w.heap.size ∧ ∀ i, i < 6400 → w.cell? ⟨B, i, none⟩ = some (.bool (g i))
theorem Bits.ext {w w' : World} {B : Nat} {g : Grid} (h : Bits w B g) (hE : Ext w w') : Bits w' B g := ⟨Nat.lt_of_lt_of_le h.1 hE.le, fun i hi => (hE.cells _ _ h.1).trans (h.2 i hi)⟩
theorem Bits.of {w : World} {base B c : Nat} {e : TypeId} {g : Grid} (h : w.ownsRow base e 1 (.slice (some ⟨B, 0, none⟩) 6400 c) 6400 (gcells g)) : Bits w B g :=
  ⟨(owns_lt h).2, fun i hi => by rw [h.cellAt i (by omega), gcells_get _ hi]⟩
set_option maxHeartbeats 1000000 in
theorem l03Has_any (B c : Nat) (g : Grid) (x y : Int) (w : World) (h : Bits w B g) :
    Calls Try.prog 142 #[.slice (some ⟨B, 0, none⟩) 6400 c, .int .i64 x, .int .i64 y] w fun e w' => e = .returned (.bool (gh g x y)) ∧ w = w' := by
  have hw := hid (onC_wit x y)
  cases hx : wit x (-40) 39 with
  | false =>
    have hr : Hid (gh g x y = false) := gh_off (by rw [hw.out, hx]; rfl)
    go_enter Try.func142, Try.ntmps142
    go_wp2_with (go_at_call 147; refine (l01In_any _ _ _ _).mono ?_; rintro e w' ⟨rfl, rfl⟩)
    go_ret
    exact ⟨ret_bool hr.out.symm, rfl⟩
  | true =>
    cases hy : wit y (-40) 39 with
    | false =>
      have hr : Hid (gh g x y = false) := gh_off (by rw [hw.out, hx, hy]; rfl)
      go_enter Try.func142, Try.ntmps142
      go_wp2_with (go_at_call 147; refine (l01In_any _ _ _ _).mono ?_; rintro e w' ⟨rfl, rfl⟩)
      go_ret
      exact ⟨ret_bool hr.out.symm, rfl⟩
    | true =>
      have hc : onC x y = true := by rw [hw.out, hx, hy]; rfl
      have hr : Hid (gh g x y = g (atG x y)) := gh_on hc
      have hat := atG_lt hc
      have hatI : (atG x y : Int) < 6400 := by omega
      have c0 := h.2 _ hat
      replace hc := hid hc
      go_enter Try.func142, Try.ntmps142
      go_wp2_with (first | (go_at_call 147; refine (l01In_any _ _ _ _).mono ?_; rintro e w' ⟨rfl, rfl⟩) | (go_at_call 125; refine (l03At_any _ _ _ hc.out).mono ?_; rintro e w' ⟨rfl, rfl⟩))
      go_ret
      exact ⟨ret_bool hr.out.symm, rfl⟩
/-- A list of int64s in a row of the call's own. -/
def IntsB (l : List Int) (w : World) (e : Ending) (w' : World) : Prop := ∃ q c, e = .returned (.slice q l.length c) ∧ w'.ownsRow w.heap.size 2 1 (.slice q l.length c) l.length (l.flatMap enc1) ∧ Ext w w'
theorem info_Int : (Try.prog.info? 2).map (fun i => (i.zero, i.size, i.bytes)) = some (some (.int .i64 0), 1, 8) := by kernel_rfl
theorem runs_len (g : Grid) (y : Int) : (runs g y).length ≤ 81 := by
  have key : ∀ (l : List Int) (lo : Int), Inc lo l → lo ≤ 41 → (l.length : Int) ≤ 41 - lo := by
    intro l
    induction l with
    | nil => intro lo _ h; simp; omega
    | cons a l ih =>
      intro lo h hlo
      obtain ⟨h1, h2, h3⟩ := h
      have := ih (a + 1) h3 (by omega)
      rw [List.length_cons]; omega
  have := key _ _ (runs_inc g y) (by omega)
  omega
set_option maxRecDepth 100000 in
set_option maxHeartbeats 1000000 in
theorem l03Runs_any (B c : Nat) (g : Grid) (y : Int) (w : World) (h : Bits w B g) :
    Calls Try.prog 126 #[.slice (some ⟨B, 0, none⟩) 6400 c, .int .i64 y] w (IntsB (runs g y) w) := by
  obtain ⟨i0, hi, hz0, hz1, hz2⟩ := info_parts info_Int
  have ho0 : (w.alloc (.cells #[] 2)).ownsRow w.heap.size 2 1 (.slice (some ⟨w.heap.size, 0, none⟩) 0 0) 0 [] := by
    have := World.ownsRow_made (base := w.heap.size) (e := 2) (size := 1) w #[] 0 (by simp) (by simp [maxLen]) (by simp)
    exact this
  have hb := hid h
  clear h
  go_enter Try.func126, Try.ntmps126
  go_wp2
  go_loopw [5, 6] (fun v i wr => ∃ (x : Int) (out : List Int) (q : Option Addr) (c : Nat), -40 ≤ x ∧ x ≤ 41 ∧ v = .slice q out.length c ∧ i = .int .i64 x ∧ Hid (runs g y = out ++ chg g y x) ∧ wr.ownsRow w.heap.size 2 1 (.slice q out.length c) out.length (out.flatMap enc1) ∧ Ext w wr) (fun _ i _ => (41 - intOf i).toNat)
  case atStart => exact ⟨-40, [], _, _, by omega, by omega, rfl, rfl, rfl, ho0, (Ext.refl _).alloc _⟩
  case round =>
    clear ho0
    obtain ⟨x, out, q, c', hx0, hx1, rfl, rfl, hR, ho, hE⟩ := hrel
    have hlen : out.length ≤ 81 := by
      have h1 := runs_len g y
      rw [hR.out, List.length_append] at h1
      omega
    by_cases hx : x ≤ 40
    · by_cases hd : gh g x y = gh g (x - 1) y
      · have hR2 : Hid (runs g y = out ++ chg g y (x + 1)) := by show _ = _; rw [hR.out, chg_miss hd]
        clear hR
        have ho2 := hid ho
        clear ho
        go_wp2_with (go_at_call 142; refine (l03Has_any _ _ g _ _ _ (hb.out.ext hE)).mono ?_; rintro e w' ⟨rfl, rfl⟩)
        go_roundw
        case rel => exact ⟨x + 1, out, q, c', by omega, by omega, rfl, rfl, hR2, ho2.out, hE⟩
        case measure => simp [intOf]; omega
      · have hR2 : Hid (runs g y = (out ++ [x]) ++ chg g y (x + 1)) := by show _ = _; rw [hR.out, chg_hit hx hd]; simp
        have hne : (gh g x y == gh g (x - 1) y) = false := by simpa using hd
        clear hR
        have ho2 := hid ho
        have hNl := hE.le
        clear ho
        go_wp2_with (first | (go_at_call 142; refine (l03Has_any _ _ g _ _ _ (hb.out.ext hE)).mono ?_; rintro e w' ⟨rfl, rfl⟩) | (at_builtin; refine wpList_append_own _ rfl _ _ 41 rfl w.heap.size 2 i0 (.int .i64 0) 1 8 Try.underlying41 hi hz0 hz1 hz2 rfl (by omega) _ _ _ rfl (ho2.out.alloc _) ⟨_, 0, none⟩ 1 1 [.int .i64 x] rfl rfl (cells_new1 _ _ _) (one_int1 _) (len_le (by omega) (by omega)) (by omega) (by simp; omega) ?_; intro v' w1 ho' hg' _; obtain ⟨qa, ca, rfl⟩ := owns_forms ho'; have hE1 := hid ((hE.alloc _).grown hg' (fun k hk => (ho2.out.lt k hk).1)); replace ho' := hid ho'; clear hg'))
        go_roundw
        case rel => exact ⟨x + 1, out ++ [x], qa, ca, by omega, by omega, by rw [List.length_append]; rfl, rfl, hR2, by rw [List.length_append, List.flatMap_append]; exact ho'.out, hE1.out⟩
        case measure => simp [intOf]; omega
    · have hR2 : Hid (runs g y = out) := by show _ = _; rw [hR.out, chg_stop (by omega), List.append_nil]
      clear hR
      go_wp2_with fail
      go_ret
      rw [hR2.out]
      exact ⟨q, c', rfl, ho, hE⟩
end Go.Proofs.Ytaigndaabmelhaa

/- Contracts of the reference's sets of unit cells: l03Bits, l03Has. Condition: at most 2^20 valid rectangles. -/
import Derived.Test.YtiljojpnbpdaeaaRg3
namespace Go.Proofs.Ytiljojpnbpdaeaa
open Go.RowKit

/-- A row of 6400 bools of the call's own. -/
def BitsB (g : Grid) (w : World) (e : Ending) (w' : World) : Prop := ∃ B, e = .returned (.slice (some ⟨B, 0, none⟩) 6400 6400) ∧ w'.ownsRow w.heap.size 4 1 (.slice (some ⟨B, 0, none⟩) 6400 6400) 6400 (gcells g) ∧ Ext w w'
section
variable (f : Int → Int → Bool) (r : Q4) {u v : Int}
theorem pg_start (h0 : v ≤ r.b ∨ v ≤ -40) : gcells (gmk f) = gcells (gmk (part f r (-2000) v)) :=
  part_start f r fun x y hc hr => by rw [onC_iff] at hc; rw [inR_iff] at hr; omega
theorem pg_row (hu : r.c ≤ u ∨ 40 ≤ u) : gcells (gmk (part f r u v)) = gcells (gmk (part f r (-2000) (v + 1))) :=
  part_row f r (fun x hc hr => by rw [onC_iff] at hc; rw [inR_iff] at hr; omega) (fun x hc _ => by rw [onC_iff] at hc; omega)
theorem pg_go (hu : u ≤ r.a ∨ u ≤ -40) : gcells (gmk (part f r (-2000) v)) = gcells (gmk (part f r u v)) :=
  gmk_ext fun x y hc => by
    rw [part, part]
    by_cases hr : inR r x y = true
    · rw [hr, Bool.true_and, Bool.true_and]
      rw [onC_iff] at hc
      rw [inR_iff] at hr
      rw [show decide (x < -2000) = false by simp; omega, show decide (x < u) = false by simp; omega]
    · rw [Bool.not_eq_true] at hr; rw [hr]; rfl
theorem pg_set (hc : onC u v = true) (hr : inR r u v = true) : (gcells (gmk (part f r u v))).set (atG u v) (.bool true) = gcells (gmk (part f r (u + 1) v)) := by
  rw [gcells_set, part_set _ _ hc hr]
theorem pg_done (hv : r.d ≤ v ∨ 40 ≤ v) : gcells (gmk (part f r (-2000) v)) = gcells (gmk (fun x y => f x y || inR r x y)) :=
  part_end f r fun x y hc hr => by rw [onC_iff] at hc; rw [inR_iff] at hr; omega
end
theorem info_Bool : (Try.prog.info? 4).map (fun i => (i.zero, i.size, i.bytes)) = some (some (.bool false), 1, 1) := by kernel_rfl
set_option maxRecDepth 100000 in
set_option maxHeartbeats 4000000 in
theorem l03Bits_any (q : Option Addr) (n c : Nat) (l : List Q4) (w : World) (h : SlT enc4 4 w q n l) (hn : n ≤ 1048576) (hv : ∀ r ∈ l, vR r = true) :
    Calls Try.prog 52 #[.slice q n c] w (BitsB (gL l) w) := by
  obtain ⟨i0, hi, hz0, hz1, hz2⟩ := info_parts info_Bool
  have hl := hid h.length
  replace hv := hid hv
  go_enter Try.func52, Try.ntmps52
  go_wp2_with (refine wpList_make_full _ rfl _ _ 97 rfl w.heap.size 4 i0 _ 1 Try.underlying97 hi hz0 hz1 .i64 .i64 6400 6400 6400 rfl rfl rfl rfl (by rw [hz2]; omega) (by unfold maxLen; omega) (Nat.le_refl _) ?_; intro w1 ho hg)
  rw [made_const _ (.bool false) _ (by simp [Value.cells]) (by intro j hj; simp [Value.cells] at hj ⊢; subst hj; rfl), ← gcells_none, show gcells gnone = gcells (gL (l.take 0)) from by rw [inL_nil]; rfl] at ho
  have hE : Ext w w1 := (Ext.refl _).grown hg (fun _ h => by cases h)
  clear hg
  go_wp2
  go_loopw [4] (fun i wr => ∃ k : Nat, k ≤ n ∧ i = .int .i64 k ∧ Ext w wr ∧ wr.ownsRow w.heap.size 4 1 (.slice (some ⟨w.heap.size, 0, none⟩) 6400 6400) 6400 (gcells (gL (l.take k)))) (fun i _ => n - (intOf i).toNat)
  case atStart => exact ⟨0, by omega, rfl, hE, ho⟩
  case round =>
    clear ho hE w1
    obtain ⟨k, hk, rfl, hE, ho⟩ := hrel
    by_cases hlt : k < n
    · have hkI : (k : Int) < n := by omega
      obtain ⟨b, off, r, rfl, hbn, hr, c0, c1, c2, c3⟩ := (h.ext hE).four hlt
      have hvr := hid (vR_iff.1 (hv.out r (List.mem_of_getElem? hr.out)))
      obtain ⟨⟨a0, a1, a2⟩, b0, b1, b2⟩ := hvr.out
      replace ho := hid ho
      go_wp2
      go_loopw [5] (fun i wr => ∃ y : Int, i = .int .i64 y ∧ r.b ≤ y ∧ y ≤ r.d ∧ Ext w wr ∧ wr.ownsRow w.heap.size 4 1 (.slice (some ⟨w.heap.size, 0, none⟩) 6400 6400) 6400 (gcells (gmk (part (inL (l.take k)) r (-2000) y)))) (fun i _ => (1100 - intOf i).toNat)
      case atStart => exact ⟨_, rfl, by omega, by omega, hE, by rw [← pg_start _ r (Or.inl (Int.le_refl _))]; exact ho.out⟩
      case round =>
        clear hE ho c0 c1 c2 c3 hbn
        obtain ⟨y, rfl, hy0, hy1, hE, ho⟩ := hrel
        obtain ⟨b', off', r', hp', hbn, hr', c0, c1, c2, c3⟩ := (h.ext hE).four hlt
        cases hp'
        obtain rfl : r = r' := Option.some.inj (hr.out.symm.trans hr'.out)
        clear hr'
        by_cases hyd : y < r.d
        · replace ho := hid ho
          go_wp2
          go_loopw [6] (fun i wr => ∃ x : Int, i = .int .i64 x ∧ r.a ≤ x ∧ x ≤ r.c ∧ Ext w wr ∧ wr.ownsRow w.heap.size 4 1 (.slice (some ⟨w.heap.size, 0, none⟩) 6400 6400) 6400 (gcells (gmk (part (inL (l.take k)) r x y)))) (fun i _ => (1100 - intOf i).toNat)
          case atStart => exact ⟨_, rfl, by omega, by omega, hE, by rw [← pg_go _ r (Or.inl (Int.le_refl _))]; exact ho.out⟩
          case round =>
            clear hE ho c0 c1 c2 c3 hbn
            obtain ⟨x, rfl, hx0, hx1, hE, ho⟩ := hrel
            obtain ⟨b', off', r', hp', hbn, hr', c0, c1, c2, c3⟩ := (h.ext hE).four hlt
            cases hp'
            obtain rfl : r = r' := Option.some.inj (hr.out.symm.trans hr'.out)
            clear hr'
            by_cases hxc : x < r.c
            · have hc : onC x y = true := by rw [onC_iff]; omega
              have hin : Hid (inR r x y = true) := by show _ = _; rw [inR_iff]; omega
              have hat := atG_lt hc
              have hatI : (atG x y : Int) < 6400 := by omega
              obtain ⟨v0, e0⟩ := owns_cell ho (atG x y) (by omega)
              have hf := owns_free ho
              have ho2 := hid ho
              have hE2 := hid hE
              clear ho
              go_wp2_with (go_at_call 54; refine (l03At_any _ _ _ hc).mono ?_; rintro e w' ⟨rfl, rfl⟩)
              go_roundw
              case rel =>
                refine ⟨x + 1, rfl, by omega, by omega, hE2.out.setCell (Nat.le_refl _) _, ?_⟩
                rw [← pg_set _ r hc hin.out]
                exact owns_set ho2.out _ _
              case measure => simp [intOf]; omega
            · rw [pg_row _ r (Or.inl (by omega))] at ho
              have ho2 := hid ho
              have hE2 := hid hE
              clear ho
              go_wp2
              go_roundw
              case rel => exact ⟨y + 1, rfl, by omega, by omega, hE2.out, ho2.out⟩
              case measure => simp [intOf]; omega
        · rw [pg_done _ r (Or.inl (by omega)), inL_snoc hr.out] at ho
          have ho2 := hid ho
          have hE2 := hid hE
          clear ho
          go_wp2
          go_roundw
          case rel => exact ⟨k + 1, by omega, by go_num, hE2.out, ho2.out⟩
          case measure => simp [intOf]; omega
    · have hkI : ¬ (k : Int) < n := by omega
      go_wp2_with fail
      go_ret
      rw [take_all hl.out (by omega)] at ho
      exact ⟨_, rfl, ho, hE⟩
end Go.Proofs.Ytiljojpnbpdaeaa
/- Contracts of the reference's l03Has, l03Runs. No condition. -/
namespace Go.Proofs.Ytiljojpnbpdaeaa
open Go.RowKit

/-- Block B holds the 6400 bools of g. -/
def Bits (w : World) (B : Nat) (g : Grid) : Prop := B < w.heap.size ∧ ∀ i, i < 6400 → w.cell? ⟨B, i, none⟩ = some (.bool (g i))
theorem Bits.ext {w w' : World} {B : Nat} {g : Grid} (h : Bits w B g) (hE : Ext w w') : Bits w' B g := ⟨Nat.lt_of_lt_of_le h.1 hE.le, fun i hi => (hE.cells _ _ h.1).trans (h.2 i hi)⟩
theorem Bits.of {w : World} {base B c : Nat} {e : TypeId} {g : Grid} (h : w.ownsRow base e 1 (.slice (some ⟨B, 0, none⟩) 6400 c) 6400 (gcells g)) : Bits w B g :=
  ⟨(owns_lt h).2, fun i hi => by rw [h.cellAt i (by omega), gcells_get _ hi]⟩
set_option maxHeartbeats 1000000 in
theorem l03Has_any (B c : Nat) (g : Grid) (x y : Int) (w : World) (h : Bits w B g) :
    Calls Try.prog 133 #[.slice (some ⟨B, 0, none⟩) 6400 c, .int .i64 x, .int .i64 y] w fun e w' => e = .returned (.bool (gh g x y)) ∧ w = w' := by
  have hw := hid (onC_wit x y)
  cases hx : wit x (-40) 39 with
  | false =>
    have hr : Hid (gh g x y = false) := gh_off (by rw [hw.out, hx]; rfl)
    go_enter Try.func133, Try.ntmps133
    go_wp2_with (go_at_call 143; refine (l01In_any _ _ _ _).mono ?_; rintro e w' ⟨rfl, rfl⟩)
    go_ret
    exact ⟨ret_bool hr.out.symm, rfl⟩
  | true =>
    cases hy : wit y (-40) 39 with
    | false =>
      have hr : Hid (gh g x y = false) := gh_off (by rw [hw.out, hx, hy]; rfl)
      go_enter Try.func133, Try.ntmps133
      go_wp2_with (go_at_call 143; refine (l01In_any _ _ _ _).mono ?_; rintro e w' ⟨rfl, rfl⟩)
      go_ret
      exact ⟨ret_bool hr.out.symm, rfl⟩
    | true =>
      have hc : onC x y = true := by rw [hw.out, hx, hy]; rfl
      have hr : Hid (gh g x y = g (atG x y)) := gh_on hc
      have hat := atG_lt hc
      have hatI : (atG x y : Int) < 6400 := by omega
      have c0 := h.2 _ hat
      replace hc := hid hc
      go_enter Try.func133, Try.ntmps133
      go_wp2_with (first | (go_at_call 143; refine (l01In_any _ _ _ _).mono ?_; rintro e w' ⟨rfl, rfl⟩) | (go_at_call 54; refine (l03At_any _ _ _ hc.out).mono ?_; rintro e w' ⟨rfl, rfl⟩))
      go_ret
      exact ⟨ret_bool hr.out.symm, rfl⟩
/-- A list of int64s in a row of the call's own. -/
def IntsB (l : List Int) (w : World) (e : Ending) (w' : World) : Prop := ∃ q c, e = .returned (.slice q l.length c) ∧ w'.ownsRow w.heap.size 2 1 (.slice q l.length c) l.length (l.flatMap enc1) ∧ Ext w w'
theorem info_Int : (Try.prog.info? 2).map (fun i => (i.zero, i.size, i.bytes)) = some (some (.int .i64 0), 1, 8) := by kernel_rfl
theorem runs_len (g : Grid) (y : Int) : (runs g y).length ≤ 81 := by
  have key : ∀ (l : List Int) (lo : Int), Inc lo l → lo ≤ 41 → (l.length : Int) ≤ 41 - lo := by
    intro l
    induction l with
    | nil => intro lo _ h; simp; omega
    | cons a l ih =>
      intro lo h hlo
      obtain ⟨h1, h2, h3⟩ := h
      have := ih (a + 1) h3 (by omega)
      rw [List.length_cons]; omega
  have := key _ _ (runs_inc g y) (by omega)
  omega
set_option maxRecDepth 100000 in
set_option maxHeartbeats 1000000 in
theorem l03Runs_any (B c : Nat) (g : Grid) (y : Int) (w : World) (h : Bits w B g) :
    Calls Try.prog 121 #[.slice (some ⟨B, 0, none⟩) 6400 c, .int .i64 y] w (IntsB (runs g y) w) := by
  obtain ⟨i0, hi, hz0, hz1, hz2⟩ := info_parts info_Int
  have ho0 : (w.alloc (.cells #[] 2)).ownsRow w.heap.size 2 1 (.slice (some ⟨w.heap.size, 0, none⟩) 0 0) 0 [] := by
    have := World.ownsRow_made (base := w.heap.size) (e := 2) (size := 1) w #[] 0 (by simp) (by simp [maxLen]) (by simp)
    exact this
  have hb := hid h
  clear h
  go_enter Try.func121, Try.ntmps121
  go_wp2
  go_loopw [5, 6] (fun v i wr => ∃ (x : Int) (out : List Int) (q : Option Addr) (c : Nat), -40 ≤ x ∧ x ≤ 41 ∧ v = .slice q out.length c ∧ i = .int .i64 x ∧ Hid (runs g y = out ++ chg g y x) ∧ wr.ownsRow w.heap.size 2 1 (.slice q out.length c) out.length (out.flatMap enc1) ∧ Ext w wr) (fun _ i _ => (41 - intOf i).toNat)
  case atStart => exact ⟨-40, [], _, _, by omega, by omega, rfl, rfl, rfl, ho0, (Ext.refl _).alloc _⟩
  case round =>
    clear ho0
    obtain ⟨x, out, q, c', hx0, hx1, rfl, rfl, hR, ho, hE⟩ := hrel
    have hlen : out.length ≤ 81 := by
      have h1 := runs_len g y
      rw [hR.out, List.length_append] at h1
      omega
    by_cases hx : x ≤ 40
    · by_cases hd : gh g x y = gh g (x - 1) y
      · have hR2 : Hid (runs g y = out ++ chg g y (x + 1)) := by show _ = _; rw [hR.out, chg_miss hd]
        clear hR
        have ho2 := hid ho
        clear ho
        go_wp2_with (go_at_call 133; refine (l03Has_any _ _ g _ _ _ (hb.out.ext hE)).mono ?_; rintro e w' ⟨rfl, rfl⟩)
        go_roundw
        case rel => exact ⟨x + 1, out, q, c', by omega, by omega, rfl, rfl, hR2, ho2.out, hE⟩
        case measure => simp [intOf]; omega
      · have hR2 : Hid (runs g y = (out ++ [x]) ++ chg g y (x + 1)) := by show _ = _; rw [hR.out, chg_hit hx hd]; simp
        have hne : (gh g x y == gh g (x - 1) y) = false := by simpa using hd
        clear hR
        have ho2 := hid ho
        have hNl := hE.le
        clear ho
        go_wp2_with (first | (go_at_call 133; refine (l03Has_any _ _ g _ _ _ (hb.out.ext hE)).mono ?_; rintro e w' ⟨rfl, rfl⟩) | (at_builtin; refine wpList_append_own _ rfl _ _ 22 rfl w.heap.size 2 i0 (.int .i64 0) 1 8 Try.underlying22 hi hz0 hz1 hz2 rfl (by omega) _ _ _ rfl (ho2.out.alloc _) ⟨_, 0, none⟩ 1 1 [.int .i64 x] rfl rfl (cells_new1 _ _ _) (one_int1 _) (len_le (by omega) (by omega)) (by omega) (by simp; omega) ?_; intro v' w1 ho' hg' _; obtain ⟨qa, ca, rfl⟩ := owns_forms ho'; have hE1 := hid ((hE.alloc _).grown hg' (fun k hk => (ho2.out.lt k hk).1)); replace ho' := hid ho'; clear hg'))
        go_roundw
        case rel => exact ⟨x + 1, out ++ [x], qa, ca, by omega, by omega, by rw [List.length_append]; rfl, rfl, hR2, by rw [List.length_append, List.flatMap_append]; exact ho'.out, hE1.out⟩
        case measure => simp [intOf]; omega
    · have hR2 : Hid (runs g y = out) := by show _ = _; rw [hR.out, chg_stop (by omega), List.append_nil]
      clear hR
      go_wp2_with fail
      go_ret
      rw [hR2.out]
      exact ⟨q, c', rfl, ho, hE⟩
end Go.Proofs.Ytiljojpnbpdaeaa

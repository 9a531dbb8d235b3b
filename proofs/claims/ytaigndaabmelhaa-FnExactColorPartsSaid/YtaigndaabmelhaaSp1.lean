/- Contracts of the reference's sets of unit cells: l03Bits, l03Has. Condition: at most 2^20 valid rectangles. -/
import Derived.Test.YtaigndaabmelhaaRg3
namespace Go.Proofs.Ytaigndaabmelhaa
open Go.RowKit

/-- A row of 6400 bools of the call's own. -/
def BitsB (g : Grid) (w : World) (e : Ending) (w' : World) : Prop := ∃ B, e = .returned (.slice (some ⟨B, 0, none⟩) 6400 6400) ∧ w'.ownsRow w.heap.size 4 1 (.slice (some ⟨B, 0, none⟩) 6400 6400) 6400 (gcells g) ∧ Ext w w'
section
variable (f : Int → Int → Bool) (r : Q4) {u v : Int}
theorem pg_start (h0 : v ≤ r.b ∨ v ≤ -40) : gcells (gmk f) = gcells (gmk (part f r (-2000) v)) :=
  part_start f r fun x y hc hr => by rw [onC_iff] at hc; rw [inR_iff] at hr; omega
theorem pg_row (hu : r.c ≤ u ∨ 40 ≤ u) : gcells (gmk (part f r u v)) = gcells (gmk (part f r (-2000) (v + 1))) :=
  part_row f r (fun x hc hr => by rw [onC_iff] at hc; rw [inR_iff] at hr; omega) (fun x hc _ => by rw [onC_iff] at hc; omega)
theorem pg_go (hu : u ≤ r.a ∨ u ≤ -40) : gcells (gmk (part f r (-2000) v)) = gcells (gmk (part f r u v)) :=
  gmk_ext fun x y hc => by
    rw [part, part]
    by_cases hr : inR r x y = true
    · rw [hr, Bool.true_and, Bool.true_and]
      rw [onC_iff] at hc
      rw [inR_iff] at hr
      rw [show decide (x < -2000) = false by simp; omega, show decide (x < u) = false by simp; omega]
    · rw [Bool.not_eq_true] at hr; rw [hr]; rfl
theorem pg_set (hc : onC u v = true) (hr : inR r u v = true) : (gcells (gmk (part f r u v))).set (atG u v) (.bool true) = gcells (gmk (part f r (u + 1) v)) := by
  rw [gcells_set, part_set _ _ hc hr]
theorem pg_done (hv : r.d ≤ v ∨ 40 ≤ v) : gcells (gmk (part f r (-2000) v)) = gcells (gmk (fun x y => f x y || inR r x y)) :=
  part_end f r fun x y hc hr => by rw [onC_iff] at hc; rw [inR_iff] at hr; omega
end
theorem info_Bool : (Try.prog.info? 4).map (fun i => (i.zero, i.size, i.bytes)) = some (some (.bool false), 1, 1) := by kernel_rfl
set_option maxRecDepth 100000 in
set_option maxHeartbeats 4000000 in
theorem l03Bits_any (q : Option Addr) (n c : Nat) (l : List Q4) (w : World) (h : SlT enc4 4 w q n l) (hn : n ≤ 1048576) (hv : ∀ r ∈ l, vR r = true) :
    Calls Try.prog 83 #[.slice q n c] w (BitsB (gL l) w) := by
  obtain ⟨i0, hi, hz0, hz1, hz2⟩ := info_parts info_Bool
  have hl := hid h.length
  replace hv := hid hv
  go_enter Try.func83, Try.ntmps83
  go_wp2_with (refine wpList_make_full _ rfl _ _ 79 rfl w.heap.size 4 i0 _ 1 Try.underlying79 hi hz0 hz1 .i64 .i64 6400 6400 6400 rfl rfl rfl rfl (by rw [hz2]; omega) (by unfold maxLen; omega) (Nat.le_refl _) ?_; intro w1 ho hg)
  rw [made_const _ (.bool false) _ (by simp [Value.cells]) (by intro j hj; simp [Value.cells] at hj ⊢; subst hj; rfl), ← gcells_none, show gcells gnone = gcells (gL (l.take 0)) from by rw [inL_nil]; rfl] at ho
  have hE : Ext w w1 := (Ext.refl _).grown hg (fun _ h => by cases h)
  clear hg
  go_wp2
  go_loopw [4] (fun i wr => ∃ k : Nat, k ≤ n ∧ i = .int .i64 k ∧ Ext w wr ∧ wr.ownsRow w.heap.size 4 1 (.slice (some ⟨w.heap.size, 0, none⟩) 6400 6400) 6400 (gcells (gL (l.take k)))) (fun i _ => n - (intOf i).toNat)
  case atStart => exact ⟨0, by omega, rfl, hE, ho⟩
  case round =>
    clear ho hE w1
    obtain ⟨k, hk, rfl, hE, ho⟩ := hrel
    by_cases hlt : k < n
    · have hkI : (k : Int) < n := by omega
      obtain ⟨b, off, r, rfl, hbn, hr, c0, c1, c2, c3⟩ := (h.ext hE).four hlt
      have hvr := hid (vR_iff.1 (hv.out r (List.mem_of_getElem? hr.out)))
      obtain ⟨⟨a0, a1, a2⟩, b0, b1, b2⟩ := hvr.out
      replace ho := hid ho
      go_wp2
      go_loopw [5] (fun i wr => ∃ y : Int, i = .int .i64 y ∧ r.b ≤ y ∧ y ≤ r.d ∧ Ext w wr ∧ wr.ownsRow w.heap.size 4 1 (.slice (some ⟨w.heap.size, 0, none⟩) 6400 6400) 6400 (gcells (gmk (part (inL (l.take k)) r (-2000) y)))) (fun i _ => (1100 - intOf i).toNat)
      case atStart => exact ⟨_, rfl, by omega, by omega, hE, by rw [← pg_start _ r (Or.inl (Int.le_refl _))]; exact ho.out⟩
      case round =>
        clear hE ho c0 c1 c2 c3 hbn
        obtain ⟨y, rfl, hy0, hy1, hE, ho⟩ := hrel
        obtain ⟨b', off', r', hp', hbn, hr', c0, c1, c2, c3⟩ := (h.ext hE).four hlt
        cases hp'
        obtain rfl : r = r' := Option.some.inj (hr.out.symm.trans hr'.out)
        clear hr'
        by_cases hyd : y < r.d
        · replace ho := hid ho
          go_wp2
          go_loopw [6] (fun i wr => ∃ x : Int, i = .int .i64 x ∧ r.a ≤ x ∧ x ≤ r.c ∧ Ext w wr ∧ wr.ownsRow w.heap.size 4 1 (.slice (some ⟨w.heap.size, 0, none⟩) 6400 6400) 6400 (gcells (gmk (part (inL (l.take k)) r x y)))) (fun i _ => (1100 - intOf i).toNat)
          case atStart => exact ⟨_, rfl, by omega, by omega, hE, by rw [← pg_go _ r (Or.inl (Int.le_refl _))]; exact ho.out⟩
          case round =>
            clear hE ho c0 c1 c2 c3 hbn
            obtain ⟨x, rfl, hx0, hx1, hE, ho⟩ := hrel
            obtain ⟨b', off', r', hp', hbn, hr', c0, c1, c2, c3⟩ := (h.ext hE).four hlt
            cases hp'
            obtain rfl : r = r' := Option.some.inj (hr.out.symm.trans hr'.out)
            clear hr'
            by_cases hxc : x < r.c
            · have hc : onC x y = true := by rw [onC_iff]; omega
              have hin : Hid (inR r x y = true) := by show _ = _; rw [inR_iff]; omega
              have hat := atG_lt hc
              have hatI : (atG x y : Int) < 6400 := by omega
              obtain ⟨v0, e0⟩ := owns_cell ho (atG x y) (by omega)
              have hf := owns_free ho
              have ho2 := hid ho
              have hE2 := hid hE
              clear ho
              go_wp2_with (go_at_call 125; refine (l03At_any _ _ _ hc).mono ?_; rintro e w' ⟨rfl, rfl⟩)
              go_roundw
              case rel =>
                refine ⟨x + 1, rfl, by omega, by omega, hE2.out.setCell (Nat.le_refl _) _, ?_⟩
                rw [← pg_set _ r hc hin.out]
                exact owns_set ho2.out _ _
              case measure => simp [intOf]; omega
            · rw [pg_row _ r (Or.inl (by omega))] at ho
              have ho2 := hid ho
              have hE2 := hid hE
              clear ho
              go_wp2
              go_roundw
              case rel => exact ⟨y + 1, rfl, by omega, by omega, hE2.out, ho2.out⟩
              case measure => simp [intOf]; omega
        · rw [pg_done _ r (Or.inl (by omega)), inL_snoc hr.out] at ho
          have ho2 := hid ho
          have hE2 := hid hE
          clear ho
          go_wp2
          go_roundw
          case rel => exact ⟨k + 1, by omega, by go_num, hE2.out, ho2.out⟩
          case measure => simp [intOf]; omega
    · have hkI : ¬ (k : Int) < n := by omega
      go_wp2_with fail
      go_ret
      rw [take_all hl.out (by omega)] at ho
      exact ⟨_, rfl, ho, hE⟩
end Go.Proofs.Ytaigndaabmelhaa

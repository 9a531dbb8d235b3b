/- Contracts of combine, Union, Intersection (program). Condition: regions. -/
import Derived.Test.YtaigndaabmelhaaGro
import Derived.Deep.RegionHeld3
import Derived.Shelf.Abstract
namespace Go.Proofs.Ytaigndaabmelhaa
open Go.RowKit

/-- Two sets, cell by cell. -/
def binG (f : Bool → Bool → Bool) (g h : Grid) : Grid := fun i => f (g i) (h i)
theorem gh_bin {f : Bool → Bool → Bool} (h0 : f false false = false) (g h : Grid) (x y : Int) : gh (binG f g h) x y = f (gh g x y) (gh h x y) := by
  rw [gh, gh, gh, binG]; cases onC x y <;> simp [h0]
/-- The first m flags. -/
def binN (f : Bool → Bool → Bool) (g h : Grid) (m : Nat) : Grid := fun i => decide (i < m) && f (g i) (h i)
theorem binN_zero (f : Bool → Bool → Bool) (g h : Grid) : gcells gnone = gcells (binN f g h 0) := gcells_ext fun i _ => by simp [gnone, binN]
theorem binN_all (f : Bool → Bool → Bool) (g h : Grid) : gcells (binN f g h 6400) = gcells (binG f g h) := gcells_ext fun i hi => by rw [binN, binG]; simp [hi]
theorem binN_set (f : Bool → Bool → Bool) (g h : Grid) (m : Nat) : (gcells (binN f g h m)).set m (.bool (f (g m) (h m))) = gcells (binN f g h (m + 1)) := by
  rw [gcells_set]
  refine gcells_ext fun i _ => ?_
  rw [gset, binN, binN]
  by_cases e : i = m
  · subst e; simp
  · rw [if_neg e]
    congr 1
    rw [decide_eq_decide]; omega
theorem set_neC {w : World} {B N j i : Nat} {u x : Value} (h : N ≠ B) (hx : w.cell? ⟨B, j, none⟩ = some x) : (w.setCell ⟨N, i, none⟩ u).cell? ⟨B, j, none⟩ = some x := by
  rw [World.cell?_of_block (w := w) (a := ⟨B, j, none⟩) (Below.heap_setCell _ _ _ _ (by simpa using h.symm))]; exact hx
set_option maxRecDepth 100000 in
set_option maxHeartbeats 8000000 in
theorem combine_any (f : Bool → Bool → Bool) (F : Nat) (eF : ∀ args w, (callFunc F args).run Try.prog w = .ok (.enter F args) w) (hF : ∀ W x y, Calls Try.prog F #[.bool x, .bool y] W fun e w' => e = .returned (.bool (f x y)) ∧ W = w')
    (q1 q2 : Option Addr) (n1 n2 c1 c2 : Nat) (l1 l2 : List Q4) (w : World) (h1 : SlT enc4 4 w q1 n1 l1) (h2 : SlT enc4 4 w q2 n2 l2) (hn1 : n1 ≤ 1048576) (hn2 : n2 ≤ 1048576) (r1 : isReg l1 = true) (r2 : isReg l2 = true) :
    Calls Try.prog 79 #[.slice q1 n1 c1, .slice q2 n2 c2, .func (.func F) #[] #[]] w (RegB (canon (binG f (gL l1) (gL l2))) w) := by
  have k1 := fun V (hV : Ext w V) => IsRegion_any q1 n1 c1 l1 V (h1.ext hV) hn1
  have k2 := fun V (hV : Ext w V) => IsRegion_any q2 n2 c2 l2 V (h2.ext hV) hn2
  have v1 := hid (fun r hr => vR_near ((vRs_parts (isReg_iff.1 r1).1).2 r hr))
  have v2 := hid (fun r hr => vR_near ((vRs_parts (isReg_iff.1 r2).1).2 r hr))
  rw [r1] at k1
  rw [r2] at k2
  replace k1 := hid k1
  replace k2 := hid k2
  have hF := hid hF
  clear r1 r2
  go_enter Try.func79, Try.ntmps79
  go_wp2_with fail
  refine (k1.out _ (Ext.refl _)).mono ?_
  rintro e w1 ⟨rfl, E1⟩
  go_wp2_with fail
  refine (k2.out _ E1).mono ?_
  rintro e w2 ⟨rfl, E2⟩
  have E := E1.trans E2
  go_wp2_with fail
  refine (cellsOf_any q1 n1 c1 l1 _ (h1.ext E) hn1 v1.out).mono ?_
  rintro e w3 ⟨B1, rfl, lo1, b1, E3⟩
  have E := E.trans E3
  go_wp2_with fail
  refine (cellsOf_any q2 n2 c2 l2 _ (h2.ext E) hn2 v2.out).mono ?_
  rintro e w4 ⟨B2, rfl, lo2, b2, E4⟩
  have E := E.trans E4
  have b1 := b1.ext E4
  have b1 := hid b1
  have b2 := hid b2
  clear E1 E2 E3 E4 k1 k2 v1 v2
  go_wp2_with fail
  generalize hW : World.alloc _ _ = W0
  obtain ⟨E0, z0, b0⟩ := boxes1 hW
  clear hW
  have hb0 : Blk W0 w4.heap.size (gcells (binN f (gL l1) (gL l2) (0 * 80))) 109 := by
    rw [zeroCells, binN_zero f (gL l1) (gL l2)] at b0
    exact b0
  clear b0
  obtain ⟨N, hN⟩ : ∃ N, N = w4.heap.size := ⟨_, rfl⟩
  rw [← hN] at hb0 ⊢
  have hN1 : N ≠ B1 := by have := b1.out.lt; omega
  have hN2 : N ≠ B2 := by have := b2.out.lt; omega
  have hNw : w.heap.size ≤ N := by rw [hN]; exact E.le
  replace hN := hid hN
  replace z0 := hid z0
  have b1 := hid (b1.out.ext E0)
  have b2 := hid (b2.out.ext E0)
  have E := hid (E.trans E0)
  obtain ⟨g, hg⟩ : ∃ g, g = gL l1 := ⟨_, rfl⟩
  obtain ⟨h, hh⟩ : ∃ h, h = gL l2 := ⟨_, rfl⟩
  rw [← hg] at b1 hb0 ⊢
  rw [← hh] at b2 hb0 ⊢
  replace hg := hid hg
  replace hh := hid hh
  replace h1 := hid h1
  replace h2 := hid h2
  have I := Ext.refl W0
  have hNl := hb0.lt
  go_loopw [10, 11, 26] (fun _ _ i wr => ∃ k : Nat, k ≤ 80 ∧ i = .int .i64 k ∧ Mut W0 wr [N] ∧ Blk wr N (gcells (binN f g h (k * 80))) 109) (fun _ _ i _ => 80 - (intOf i).toNat)
  case atStart => exact ⟨0, by omega, rfl, Mut.refl _ _, hb0⟩
  case round =>
    clear hb0 E0 z0
    obtain ⟨y, hy, rfl, hM, hb⟩ := hrel
    by_cases hlt : y < 80
    · have hyI : (y : Int) < 80 := by omega
      replace hb := hid hb
      go_wp2_with fail
      go_loopw [11, 29] (fun _ i wr => ∃ k : Nat, k ≤ 80 ∧ i = .int .i64 k ∧ Mut W0 wr [N] ∧ Blk wr N (gcells (binN f g h (y * 80 + k))) 109) (fun _ i _ => 80 - (intOf i).toNat)
      case atStart => exact ⟨0, by omega, rfl, hM, hb.out⟩
      case round =>
        clear hb hM
        obtain ⟨x, hx, rfl, hM, hb⟩ := hrel
        by_cases hxl : x < 80
        · have hxI : (x : Int) < 80 := by omega
          have z1 := (b1.out.mut hM (by simpa using hN1.symm)).cells (y * 80 + x)
          rw [gcells_get _ (by omega)] at z1
          have z2 := (b2.out.mut hM (by simpa using hN2.symm)).cells (y * 80 + x)
          rw [gcells_get _ (by omega)] at z2
          have z3 := hb.cells (y * 80 + x)
          rw [gcells_get _ (by omega)] at z3
          have fz := hb.free (y * 80 + x)
          have hB1l : B1 < wr.heap.size := Nat.lt_of_lt_of_le b1.out.lt hM.size
          have hB2l : B2 < wr.heap.size := Nat.lt_of_lt_of_le b2.out.lt hM.size
          have hNl2 := hb.lt
          have hst := hid (binN_set f g h (y * 80 + x))
          have hb2 := hid ((show Blk wr.drew N _ _ from hb).set (y * 80 + x) (.bool (f (g (y * 80 + x)) (h (y * 80 + x)))))
          have hM2 := hid (hM.drew.setCell (p := ⟨N, y * 80 + x, none⟩) (by simp) (.bool (f (g (y * 80 + x)) (h (y * 80 + x)))))
          replace hb := hid hb
          go_wp2_with fail
          go_region_held3 (fun W => W.cell? ⟨B1, y * 80 + x, none⟩ = some (.bool (g (y * 80 + x))) ∧ W.cell? ⟨B2, y * 80 + x, none⟩ = some (.bool (h (y * 80 + x))))
            (first | exact ⟨z1, z2⟩ | exact ⟨set_neC hN1 z1, set_neC hN2 z2⟩)
            (first
              | (go_at_fn F; refine (hF.out _ _ _).mono ?_; rintro e w' ⟨rfl, rfl⟩))
          clear hM z1 z2 z3 fz
          go_wp2_with fail
          go_roundw
          case rel => exact ⟨x + 1, by omega, by go_num, hM2.out, by have := hb2.out; rw [hst.out] at this; exact this⟩
          case measure => simp [intOf]; omega
        · have hxI : ¬ (x : Int) < 80 := by omega
          have h80 : y * 80 + x = (y + 1) * 80 := by omega
          rw [h80] at hb
          replace hb := hid hb
          clear h80
          go_wp2_with fail
          go_roundw
          case rel => exact ⟨y + 1, by omega, by go_num, hM, hb.out⟩
          case measure => simp [intOf]; omega
    · have hyI : ¬ (y : Int) < 80 := by omega
      have h80 : y * 80 = 6400 := by omega
      rw [h80, binN_all] at hb
      clear h80
      have hE := hid (E.out.then hM (by simpa using hNw))
      have hwl := hid hE.out.le
      replace hb := hid hb
      go_wp2_with fail
      refine (region_any N _ _ hb.out).mono ?_
      rintro e w5 ⟨q5, c5, rfl, o5, E5⟩
      have hO := hid o5
      clear o5
      go_wp2_with fail
      go_ret
      rw [← hg.out, ← hh.out]
      exact ⟨q5, c5, rfl, owns_lowG hO.out hwl.out, hE.out.trans E5⟩
theorem or_any (x y : Bool) (w : World) : Calls Try.prog 80 #[.bool x, .bool y] w fun e w' => e = .returned (.bool (x || y)) ∧ w = w' := by
  cases x <;> cases y
  all_goals
    go_enter Try.func80, Try.ntmps80
    go_wp2_with fail
    go_ret
    exact ⟨rfl, rfl⟩
theorem and_any (x y : Bool) (w : World) : Calls Try.prog 104 #[.bool x, .bool y] w fun e w' => e = .returned (.bool (x && y)) ∧ w = w' := by
  cases x <;> cases y
  all_goals
    go_enter Try.func104, Try.ntmps104
    go_wp2_with fail
    go_ret
    exact ⟨rfl, rfl⟩
theorem Union_any (q1 q2 : Option Addr) (n1 n2 c1 c2 : Nat) (l1 l2 : List Q4) (w : World) (h1 : SlT enc4 4 w q1 n1 l1) (h2 : SlT enc4 4 w q2 n2 l2) (hn1 : n1 ≤ 1048576) (hn2 : n2 ≤ 1048576) (r1 : isReg l1 = true) (r2 : isReg l2 = true) :
    Calls Try.prog 38 #[.slice q1 n1 c1, .slice q2 n2 c2] w (RegB (canon (binG (· || ·) (gL l1) (gL l2))) w) := by
  have hc := hid (combine_any (· || ·) 80 (enters_of Try.func80 (by kernel_rfl) rfl) (fun W x y => or_any x y W) q1 q2 n1 n2 c1 c2 l1 l2 w h1 h2 hn1 hn2 r1 r2)
  clear r1 r2
  go_enter Try.func38, Try.ntmps38
  go_wp2_with fail
  refine hc.out.mono ?_
  rintro e w5 ⟨q5, c5, rfl, o5, E5⟩
  have hO := hid o5
  clear o5
  go_wp2_with fail
  go_ret
  exact ⟨q5, c5, rfl, hO.out, E5⟩
theorem Intersection_any (q1 q2 : Option Addr) (n1 n2 c1 c2 : Nat) (l1 l2 : List Q4) (w : World) (h1 : SlT enc4 4 w q1 n1 l1) (h2 : SlT enc4 4 w q2 n2 l2) (hn1 : n1 ≤ 1048576) (hn2 : n2 ≤ 1048576) (r1 : isReg l1 = true) (r2 : isReg l2 = true) :
    Calls Try.prog 55 #[.slice q1 n1 c1, .slice q2 n2 c2] w (RegB (canon (binG (· && ·) (gL l1) (gL l2))) w) := by
  have hc := hid (combine_any (· && ·) 104 (enters_of Try.func104 (by kernel_rfl) rfl) (fun W x y => and_any x y W) q1 q2 n1 n2 c1 c2 l1 l2 w h1 h2 hn1 hn2 r1 r2)
  clear r1 r2
  go_enter Try.func55, Try.ntmps55
  go_wp2_with fail
  refine hc.out.mono ?_
  rintro e w5 ⟨q5, c5, rfl, o5, E5⟩
  have hO := hid o5
  clear o5
  go_wp2_with fail
  go_ret
  exact ⟨q5, c5, rfl, hO.out, E5⟩
end Go.Proofs.Ytaigndaabmelhaa

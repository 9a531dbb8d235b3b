/- Contract of leftToRight: the order of the blocks from left to right. Condition: at most 12 blocks. -/
import Derived.Test.YtnhiepgfgnemkaaSrs
import Derived.Test.YtnhiepgfgnemkaaSpn
namespace Go.Proofs.Ytnhiepgfgnemkaa
open Go.RowKit

def cmpI (a b : Int) : Int := if a < b then -1 else if a > b then 1 else 0
theorem isNaN_any (a : Int) (w : World) : Calls Try.prog 114 #[.int .i64 a] w fun e w' => e = .returned (.bool false) ∧ w = w' := by
  go_enter Try.func114, Try.ntmps114
  go_wp2
  go_ret
  exact ⟨by simp, rfl⟩
theorem compare_any (a b : Int) (w : World) : Calls Try.prog 90 #[.int .i64 a, .int .i64 b] w fun e w' => e = .returned (.int .i64 (cmpI a b)) ∧ w = w' := by
  go_enter Try.func90, Try.ntmps90
  by_cases h : a < b
  · have hr : Hid (-1 = cmpI a b) := by show _ = _; rw [cmpI, if_pos h]
    go_wp2
    go_ret
    exact ⟨ret_int hr.out, rfl⟩
  · by_cases h2 : b < a
    · have hr : Hid (1 = cmpI a b) := by show _ = _; rw [cmpI, if_neg h, if_pos h2]
      go_wp2
      go_ret
      exact ⟨ret_int hr.out, rfl⟩
    · have hr : Hid (0 = cmpI a b) := by show _ = _; rw [cmpI, if_neg h, if_neg h2]
      go_wp2
      go_ret
      exact ⟨ret_int hr.out, rfl⟩
def bX (l : List Q4) (i : Int) : Int := (l.getD i.toNat ⟨0, 0, 0, 0⟩).a
def cfX (l : List Q4) (i k : Int) : Int := cmpI (bX l i) (bX l k)
def upto (n : Nat) : List Int := (List.range n).map Int.ofNat
/-- The blocks from left to right. -/
def ltr (l : List Q4) : List Int := isort (ltOf (cfX l)) (upto l.length)
theorem bX_at {l : List Q4} {i : Nat} {x : Q4} (h : l[i]? = some x) : bX l i = x.a := by rw [bX, Int.toNat_natCast, getD_of h]
set_option maxRecDepth 100000 in
set_option maxHeartbeats 1000000 in
theorem ltr1_any (q : Option Addr) (n c : Nat) (l : List Q4) (bx : Nat) (W : World) (h : SlT enc4 4 W q n l) (hb : Blk W bx [.slice q n c] 26) (i k : Nat) (hi : i < n) (hk : k < n) :
    Calls Try.prog 105 #[.int .i64 i, .int .i64 k, .pointer (some ⟨bx, 0, none⟩)] W fun e w' => e = .returned (.int .i64 (cfX l i k)) ∧ Ext W w' := by
  have g := hb.cells
  have gl := hb.lt
  obtain ⟨b, off, x, rfl, hbl, hx, x0, x1, x2, x3⟩ := h.four hi
  obtain ⟨b', off', y, e, hbl', hy, y0, y1, y2, y3⟩ := h.four hk
  cases e
  have hr : Hid (cmpI x.a y.a = cfX l i k) := by show _ = _; rw [cfX, bX_at hx.out, bX_at hy.out]
  have hiI : (i : Int) < n := by omega
  have hkI : (k : Int) < n := by omega
  go_enter Try.func105, Try.ntmps105
  go_wp2_with fail
  refine wp_region_later (by kernel_rfl) (by kernel_rfl) ?_
  repeat (go_big_quiet_step ((go_at_call 90; exact later_same (compare_any _ _ _))))
  refine wpQuiet_nil ?_
  rintro w7 ⟨⟨_, h7⟩, rfl⟩
  go_wp2
  go_ret
  exact ⟨ret_int hr.out, h7⟩
theorem owns_some2 {w : World} {base size n : Nat} {e : TypeId} {v : Value} {xs : List Value} (h : w.ownsRow base e size v n xs) (hv : v ≠ .slice none 0 0) : ∃ g c, v = .slice (some ⟨g, 0, none⟩) n c := by
  rcases Joins.ownsRow_forms h with ⟨rfl, rfl⟩ | ⟨g, c, rfl⟩
  · exact absurd rfl hv
  · exact ⟨_, _, rfl⟩
theorem upto_snoc (k : Nat) : upto (k + 1) = upto k ++ [(k : Int)] := by simp [upto, List.range_succ]
theorem upto_len (k : Nat) : (upto k).length = k := by simp [upto]
theorem upto_mem {k : Nat} {x : Int} (h : x ∈ upto k) : ∃ i : Nat, x = i ∧ i < k := by
  obtain ⟨i, hi, rfl⟩ := List.mem_map.1 h
  exact ⟨i, rfl, List.mem_range.1 hi⟩
theorem info_int : (Try.prog.info? 3).map (fun i => (i.zero, i.size, i.bytes)) = some (some (.int .i64 0), 1, 8) := by kernel_rfl
set_option maxRecDepth 100000 in
set_option maxHeartbeats 1000000 in
theorem leftToRight_any (q : Option Addr) (n c : Nat) (l : List Q4) (w : World) (h : SlT enc4 4 w q n l) (hn : n ≤ 12) :
    Calls Try.prog 68 #[.slice q n c] w fun e w' => ∃ q c, e = .returned (.slice q n c) ∧ w'.ownsRow w.heap.size 3 1 (.slice q n c) n (ints (ltr l)) ∧ Ext w w' := by
  obtain ⟨i0, hi, hz0, hz1, hz2⟩ := info_parts info_int
  have l1 := hid h.length
  have hnI : (n : Int) ≤ 12 := by omega
  go_enter Try.func68, Try.ntmps68
  go_wp2
  generalize hW : w.alloc _ = W0
  obtain ⟨E0, z0, b0⟩ := boxes1 hW
  clear hW
  have ho0 : (W0.alloc (.cells #[] 3)).ownsRow W0.heap.size 3 1 (.slice (some ⟨w.heap.size + 1, 0, none⟩) 0 0) 0 [] := by
    have := World.ownsRow_made (base := W0.heap.size) (e := 3) (size := 1) W0 #[] 0 (by simp) (by simp [maxLen]) (by simp)
    rwa [z0] at this ⊢
  replace z0 := hid z0
  have gb := hid (show Blk W0 _ [_] _ from b0)
  clear b0
  go_loopw [3, 4, 8] (fun v _ i wr => ∃ k : Nat, k ≤ n ∧ i = .int .i64 k ∧ Ext W0 wr ∧ v ≠ .slice none 0 0 ∧ wr.ownsRow W0.heap.size 3 1 v k (ints (upto k))) (fun _ _ i _ => n - (intOf i).toNat)
  case atStart => exact ⟨0, by omega, rfl, (Ext.refl _).alloc _, by simp, ho0⟩
  case round =>
    clear ho0
    obtain ⟨k, hk, rfl, hE, hv, ho⟩ := hrel
    by_cases hkn : k < n
    · have hr := hid (upto_snoc k)
      go_wp2_with (at_builtin; refine wpList_append_own _ rfl _ _ 80 rfl W0.heap.size 3 i0 _ 1 8 Try.underlying80 hi hz0 hz1 hz2 rfl (by omega) _ _ _ rfl (ho.alloc _) ⟨wr.heap.size, 0, none⟩ 1 1 [.int .i64 (k : Int)] rfl rfl ?c1 ?c2 ?c3 ?c4 ?c5 ?_; rotate_left 5; intro v' w1 ho' hg hnil)
      case c1 => exact cells_new _ _ _
      case c2 => intro u hu; simp at hu; subst hu; rfl
      case c3 => unfold maxLen; omega
      case c4 => omega
      case c5 => have := hE.le; simp; omega
      go_roundw
      case rel =>
        refine ⟨k + 1, by omega, by go_num, (hE.alloc _).grown hg (fun k hk => (ho.lt k hk).1), fun hh => ?_, ?_⟩
        · have := (hnil.1 hh).2; omega
        · rw [hr.out, ints, List.map_append]; exact ho'
      case measure => simp [intOf]; omega
    · have hkn' : k = n := by omega
      have hr : Hid (isort (ltOf (cfX l)) (upto k) = ltr l) := by show _ = _; rw [ltr, l1.out, hkn']
      subst hkn'
      obtain ⟨g, c', rfl⟩ := owns_some2 ho hv
      clear hv
      have hgl := owns_lt ho
      have hp : Hid (Cmp 105 #[.pointer (some ⟨w.heap.size, 0, none⟩)] (cfX l) (upto k) wr g) := by
        intro W x y hx hy m
        obtain ⟨i, rfl, hi⟩ := upto_mem hx
        obtain ⟨j, rfl, hj⟩ := upto_mem hy
        have hEW : Ext W0 W := hE.then m (by intro k hk; simp at hk; omega)
        exact ltr1_any q k c l w.heap.size W (h.ext (E0.trans hEW)) (gb.out.ext hEW) i j hi hj
      go_wp2_with (go_at_call 88; refine (sortStable_any g k c' (upto k) 105 _ (cfX l) (enters_of Try.func105 (by kernel_rfl) rfl) W0.heap.size _ ho hn hp).mono ?_; rintro e w2 ⟨rfl, ho2, M2⟩)
      go_ret
      refine ⟨_, _, rfl, ?_, ?_⟩
      · rw [← hr.out]; exact Joins.ownsRow_le ho2 E0.le
      · exact E0.trans (hE.then M2 (by intro k hk; simp at hk; omega))
end Go.Proofs.Ytnhiepgfgnemkaa

/- Contracts of toChannel, eqChannel, szChannel, validChannel (program and reference). Condition: at most 2^20 elements each. -/
import Derived.Test.YtiljojpnbpdaeaaCat
import Derived.Test.YtiljojpnbpdaeaaBox
import Derived.Test.YtiljojpnbpdaeaaFun
namespace Go.Proofs.Ytiljojpnbpdaeaa
open Go.RowKit

set_option maxRecDepth 100000 in
set_option maxHeartbeats 400000 in
theorem toChannel_any (p1 p2 : Option Addr) (n m c1 c2 : Nat) (t b : List Int) (w : World) (h1 : SlT enc1 1 w p1 n t) (h2 : SlT enc1 1 w p2 m b) (hn : n ≤ 1048576) (hm : m ≤ 1048576) :
    Calls Try.prog 9 #[.agg #[.slice p1 n c1, .slice p2 m c2]] w fun e w' => ∃ q1 q2, e = .returned (.agg #[.slice q1 n n, .slice q2 m m]) ∧
      w'.ownsRow w.heap.size 2 1 (.slice q1 n n) n (t.flatMap enc1) ∧ w'.ownsRow w.heap.size 2 1 (.slice q2 m m) m (b.flatMap enc1) ∧ (∀ a1 a2, q1 = some a1 → q2 = some a2 → a1.block ≠ a2.block) ∧ Ext w w' := by
  go_enter Try.func9, Try.ntmps9
  go_wp2_with fail
  generalize hW : ((w.alloc _).alloc _).alloc _ = W0
  obtain ⟨E0, z0, b0, b1, b2⟩ := boxes3 hW
  clear hW
  replace z0 := hid z0
  have lt0 : w.heap.size + 2 < W0.heap.size := by have := z0.out; omega
  refine (toInt64S_any _ _ _ t _ (h1.ext E0) hn).mono ?_
  rintro e w1 ⟨q1, rfl, o1, g1⟩
  have b0 : Blk w1 _ [_, _] _ := Blk.ext b0 g1
  have b1 : Blk w1 _ [_, _] _ := Blk.ext b1 g1
  have b2 : Blk w1 _ [_, _] _ := Blk.ext b2 g1
  have k2 := b2.cells
  have f2 := b2.free
  have k0 := b0.cells
  go_wp2_with fail
  generalize hW : w1.setCell _ _ = W1
  have E1 : Ext w W1 := by rw [← hW]; exact (E0.trans g1).setCell (by show w.heap.size ≤ w.heap.size + 1 + 1; omega) _
  have b0' := b0.other (B := w.heap.size + 1 + 1) 0 (.slice q1 n n) (by omega)
  have b1' := b1.other (B := w.heap.size + 1 + 1) 0 (.slice q1 n n) (by omega)
  have b2' := b2.set 0 (.slice q1 n n)
  rw [hW] at b0' b1' b2'
  have hq1 : ∀ k, (Value.slice q1 n n).ownBlock = some k → W0.heap.size ≤ k ∧ k < w1.heap.size := o1.lt
  have o1' := owns_other (B := w.heap.size + 1 + 1) o1 (fun hh => by have := (hq1 _ hh).1; omega) 0 (.slice q1 n n)
  rw [hW] at o1'
  have lt1 : w1.heap.size = W1.heap.size := by rw [← hW]; simp [World.setCell]
  replace lt1 := hid lt1
  clear hW b0 b1 b2 k0 k2 f2
  refine (toInt64S_any _ _ _ b _ (h2.ext E1) hm).mono ?_
  rintro e w2 ⟨q2, rfl, o2, g2⟩
  have o1'' := owns_ext o1' g2
  replace b1 := b1'.ext g2
  replace b2 := b2'.ext g2
  have k2 := b2.cells
  have f2 := b2.free
  have k1 := b1.cells
  have f1 := b1.free
  have hq2 : ∀ k, (Value.slice q2 m m).ownBlock = some k → W1.heap.size ≤ k ∧ k < w2.heap.size := o2.lt
  go_wp2_with fail
  generalize hW : ((w2.setCell _ _).setCell _ _).setCell _ _ = W2
  have hW' := hid hW
  have hB := b1.other (B := w.heap.size + 1 + 1) 1 (.slice q2 m m) (by omega)
  have hB := (hB.set 0 (.slice q1 n n)).set 1 (.slice q2 m m)
  rw [hW] at hB
  have O1 := owns_other (B := w.heap.size + 1) (owns_other (B := w.heap.size + 1) (owns_other (B := w.heap.size + 1 + 1) o1'' (fun hh => by have := (hq1 _ hh).1; omega) 1 (.slice q2 m m)) (fun hh => by have := (hq1 _ hh).1; omega) 0 (.slice q1 n n)) (fun hh => by have := (hq1 _ hh).1; omega) 1 (.slice q2 m m)
  rw [hW] at O1
  have hs1 := hid lt1.out
  have O2 := owns_other (B := w.heap.size + 1) (owns_other (B := w.heap.size + 1) (owns_other (B := w.heap.size + 1 + 1) o2 (fun hh => by have := (hq2 _ hh).1; have := lt1.out; have := g1.le; omega) 1 (.slice q2 m m)) (fun hh => by have := (hq2 _ hh).1; have := lt1.out; have := g1.le; omega) 0 (.slice q1 n n)) (fun hh => by have := (hq2 _ hh).1; have := lt1.out; have := g1.le; omega) 1 (.slice q2 m m)
  rw [hW] at O2
  have EW : Ext w W2 := by
    rw [← hW]
    exact (((E1.trans g2).setCell (by show w.heap.size ≤ w.heap.size + 1 + 1; omega) _).setCell (by show w.heap.size ≤ w.heap.size + 1; omega) _).setCell (by show w.heap.size ≤ w.heap.size + 1; omega) _
  clear hW
  have kB := hB.cells
  refine bodyPost_ret (v := .agg #[.slice q1 n n, .slice q2 m m]) (by simp [results, Try.results9, go_sem, kB]) rfl ⟨q1, q2, rfl, Joins.ownsRow_le O1 E0.le, Joins.ownsRow_le O2 E1.le, ?_, EW⟩
  intro a1 a2 h1 h2
  subst h1 h2
  have := (hq1 a1.block rfl).2
  have := (hq2 a2.block rfl).1
  have := lt1.out
  omega
set_option maxRecDepth 100000 in
set_option maxHeartbeats 400000 in
theorem eqChannel_same (p1 p2 q1 q2 : Option Addr) (n m c1 c2 d1 d2 : Nat) (t b : List Int) (w : World) (h1 : SlT enc1 1 w p1 n t) (h2 : SlT enc1 1 w p2 m b) (g1 : SlT enc1 1 w q1 n t) (g2 : SlT enc1 1 w q2 m b) (hn : n ≤ 1048576) (hm : m ≤ 1048576) :
    Calls Try.prog 12 #[.agg #[.slice p1 n c1, .slice p2 m c2], .agg #[.slice q1 n d1, .slice q2 m d2]] w fun e w' => e = .returned (.bool true) ∧ Ext w w' := by
  go_enter Try.func12, Try.ntmps12
  go_wp2_with fail
  generalize hW : (w.alloc _).alloc _ = W0
  obtain ⟨E0, z0, b0, b1⟩ := boxes2 hW
  clear hW
  replace z0 := hid z0
  refine (eqInt64S_same _ _ _ _ _ t _ (h1.ext E0) (g1.ext E0) hn).mono ?_
  rintro e w1 ⟨rfl, e1⟩
  have k0 := (show Blk w1 _ [_, _] _ from Blk.ext b0 e1).cells
  have k1 := (show Blk w1 _ [_, _] _ from Blk.ext b1 e1).cells
  have E1 := E0.trans e1
  go_wp2_with fail
  refine (eqInt64S_same _ _ _ _ _ b _ (h2.ext E1) (g2.ext E1) hm).mono ?_
  rintro e w2 ⟨rfl, e2⟩
  go_wp2_with fail
  go_ret
  exact ⟨rfl, E1.trans e2⟩
/-- What is left of a budget. -/
def lessOr (left tot : Int) : Int := if left < tot then -1 else left - tot
set_option maxRecDepth 100000 in
set_option maxHeartbeats 400000 in
theorem szChannel_any (p1 p2 : Option Addr) (n m c1 c2 : Nat) (left : Int) (w : World) (h0 : 0 ≤ left) (h1 : left ≤ 1048576) (hn : n ≤ 9223372036854775807) (hm : m ≤ 9223372036854775807) :
    Calls Try.prog 7 #[.agg #[.slice p1 n c1, .slice p2 m c2], .int .i64 left] w fun e w' => e = .returned (.int .i64 (lessOr left ((n : Int) + m))) ∧ Ext w w' := by
  by_cases hl : left < n
  · go_enter Try.func7, Try.ntmps7
    go_wp2_with fail
    refine (szInt64S_any _ _ _ _ _ h0 h1 hn).mono ?_
    rintro e w1 ⟨rfl, rfl⟩
    rw [if_pos hl]
    go_wp2_with fail
    go_ret
    exact ⟨ret_int (by rw [lessOr, if_pos (by omega)]), (Ext.refl _).alloc _⟩
  · by_cases hk : left < (n : Int) + m
    · go_enter Try.func7, Try.ntmps7
      go_wp2_with fail
      refine (szInt64S_any _ _ _ _ _ h0 h1 hn).mono ?_
      rintro e w1 ⟨rfl, rfl⟩
      rw [if_neg (by omega)]
      go_wp2_with fail
      refine (szInt64S_any _ _ _ _ _ (by omega) (by omega) hm).mono ?_
      rintro e w1 ⟨rfl, rfl⟩
      rw [if_pos (by omega)]
      go_wp2_with fail
      go_ret
      exact ⟨ret_int (by rw [lessOr, if_pos hk]), (Ext.refl _).alloc _⟩
    · go_enter Try.func7, Try.ntmps7
      go_wp2_with fail
      refine (szInt64S_any _ _ _ _ _ h0 h1 hn).mono ?_
      rintro e w1 ⟨rfl, rfl⟩
      rw [if_neg (by omega)]
      go_wp2_with fail
      refine (szInt64S_any _ _ _ _ _ (by omega) (by omega) hm).mono ?_
      rintro e w1 ⟨rfl, rfl⟩
      rw [if_neg (by omega)]
      go_wp2_with fail
      go_ret
      exact ⟨ret_int (by rw [lessOr, if_neg (by omega)]; omega), (Ext.refl _).alloc _⟩

def chOk (t b : List Int) : Bool := decide (t.length = b.length) && decide (t.length ≤ 16) && (t ++ b).all fun x => wit x 0 12
theorem validChannel1_pred (w : World) : PredI 75 #[] (fun x => !wit x 0 12) w := by
  intro W x _
  show Calls Try.prog 75 #[.int .i64 x] W _
  go_enter Try.func75, Try.ntmps75
  go_wp2_with (go_at_call 46; refine (within_any _ _ _ _).mono ?_; rintro e w' ⟨rfl, rfl⟩)
  go_ret
  exact ⟨rfl, Ext.refl _⟩
/-- A channel's two rows, of less than 2^20 columns each; a nil row has no spare room. -/
structure IsCh (w : World) (p1 p2 : Option Addr) (n m c1 c2 : Nat) (t b : List Int) : Prop where
  top : SlT enc1 1 w p1 n t
  bot : SlT enc1 1 w p2 m b
  hn : n ≤ 1048576
  hm : m ≤ 1048576
  n1 : p1 = none → n = 0 ∧ c1 = 0
  n2 : p2 = none → m = 0 ∧ c2 = 0
theorem IsCh.ext {w w' : World} {p1 p2 : Option Addr} {n m c1 c2 : Nat} {t b : List Int} (h : IsCh w p1 p2 n m c1 c2 t b) (hE : Ext w w') : IsCh w' p1 p2 n m c1 c2 t b :=
  ⟨h.top.ext hE, h.bot.ext hE, h.hn, h.hm, h.n1, h.n2⟩
set_option maxRecDepth 100000 in
set_option maxHeartbeats 400000 in
theorem validChannel_any (p1 p2 : Option Addr) (n m c1 c2 : Nat) (t b : List Int) (w : World) (h : IsCh w p1 p2 n m c1 c2 t b) :
    Calls Try.prog 35 #[.agg #[.slice p1 n c1, .slice p2 m c2]] w fun e w' => e = .returned (.bool (chOk t b)) ∧ Ext w w' := by
  obtain ⟨h1, h2, hn, hm, k1, k2⟩ := h
  have k1 := hid k1
  have k2 := hid k2
  have l1 := hid h1.length
  have l2 := hid h2.length
  by_cases hnm : n = m
  · subst hnm
    by_cases h16 : n ≤ 16
    · have hr : Hid ((!(t ++ b).any fun x => !wit x 0 12) = chOk t b) := by show _ = _; rw [all_not_any, chOk, l1.out, l2.out]; simp [h16]
      go_enter Try.func35, Try.ntmps35
      go_wp2_with fail
      generalize hW : (w.alloc _).alloc _ = W0
      obtain ⟨E0, z0, b0, b1⟩ := boxes2 hW
      clear hW
      have g0 := (show Blk W0 _ [_, _] _ from b1).cells 0
      have g1 := (show Blk W0 _ [_, _] _ from b1).cells 1
      have hlt := (show Blk W0 _ [_, _] _ from b1).lt
      clear z0
      refine (Concat2 _ p1 p2 n n c1 c2 t b _ hlt g0 g1 (h1.ext E0) (h2.ext E0) hn hm k1 k2).mono ?_
      rintro e w1 ⟨q, c, rfl, ho, E1⟩
      have hs := SlT.of_owns enc1_len (by rw [List.length_append, l1.out, l2.out]) ho
      clear ho g0 g1
      go_wp2_with fail
      refine (containsFuncI_any q (n + n) c (t ++ b) (fun x => !wit x 0 12) 75 #[] (enters_of Try.func75 (by kernel_rfl) rfl) _ hs (validChannel1_pred _) (by omega)).mono ?_
      generalize ((t ++ b).any fun x => !wit x 0 12) = r at hr ⊢
      rintro e w2 ⟨rfl, E2⟩
      go_wp2_with fail
      go_ret
      exact ⟨ret_bool hr.out, (E0.trans E1).trans E2⟩
    · have hr : Hid (false = chOk t b) := by show _ = _; rw [chOk, l1.out]; simp [h16]
      go_enter Try.func35, Try.ntmps35
      go_wp2
      go_ret
      exact ⟨ret_bool hr.out, (Ext.refl _).alloc _⟩
  · have hr : Hid (false = chOk t b) := by show _ = _; rw [chOk, l1.out, l2.out]; simp [hnm]
    have hd : ((n : Int) == (m : Int)) = false := by simp; omega
    go_enter Try.func35, Try.ntmps35
    go_wp2
    go_ret
    exact ⟨ret_bool hr.out, (Ext.refl _).alloc _⟩

def chK (t b : List Int) (k : Nat) : Bool := (t.take k).all (fun x => wit x 0 12) && (b.take k).all fun x => wit x 0 12
theorem chK_succ {t b : List Int} {k : Nat} {x y : Int} (hx : t[k]? = some x) (hy : b[k]? = some y) : chK t b (k + 1) = (chK t b k && wit x 0 12 && wit y 0 12) := by
  rw [chK, take_snoc hx, take_snoc hy, List.all_append, List.all_append, chK]
  simp only [List.all_cons, List.all_nil, Bool.and_true]
  cases (t.take k).all fun x => wit x 0 12 <;> cases wit x 0 12 <;> cases (b.take k).all fun x => wit x 0 12 <;> cases wit y 0 12 <;> rfl
theorem chOk_of {t b : List Int} {n : Nat} (h1 : t.length = n) (h2 : b.length = n) (hn : n ≤ 16) (h : chK t b n = true) : chOk t b = true := by
  rw [chK, take_all h1 (Nat.le_refl _), take_all h2 (Nat.le_refl _)] at h
  simp only [Bool.and_eq_true] at h
  rw [chOk, h1, h2, List.all_append, h.1, h.2]
  simp [hn]
theorem chOk_no {t b : List Int} {k : Nat} (h : chK t b k = false) : chOk t b = false := by
  rw [chOk, List.all_append]
  have : (t.all (fun x => wit x 0 12) && b.all fun x => wit x 0 12) = false := by
    rw [chK, Bool.and_eq_false_iff] at h
    rw [Bool.and_eq_false_iff]
    rcases h with h | h
    · left; rw [List.all_eq_false] at h ⊢; obtain ⟨x, hx, h⟩ := h; exact ⟨x, List.mem_of_mem_take hx, h⟩
    · right; rw [List.all_eq_false] at h ⊢; obtain ⟨x, hx, h⟩ := h; exact ⟨x, List.mem_of_mem_take hx, h⟩
  rw [this, Bool.and_false]
set_option maxRecDepth 100000 in
set_option maxHeartbeats 400000 in
theorem l32Channel_any (p1 p2 : Option Addr) (n m c1 c2 : Nat) (t b : List Int) (w : World) (h : IsCh w p1 p2 n m c1 c2 t b) :
    Calls Try.prog 31 #[.agg #[.slice p1 n c1, .slice p2 m c2]] w fun e w' => e = .returned (.bool (chOk t b)) ∧ Ext w w' := by
  obtain ⟨h1, h2, hn, hm, k1, k2⟩ := h
  clear k1 k2
  have l1 := hid h1.length
  have l2 := hid h2.length
  by_cases hnm : n = m
  · subst hnm
    by_cases h16 : n ≤ 16
    · go_enter Try.func31, Try.ntmps31
      go_wp2
      generalize hW : w.alloc _ = W0
      obtain ⟨E0, z0, b0⟩ := boxes1 hW
      clear hW z0
      have g := (show Blk W0 _ [_, _] _ from b0).cells
      go_loop [3] (fun i => ∃ k : Nat, k ≤ n ∧ i = .int .i64 k ∧ Hid (chK t b k = true)) (fun i => n - (intOf i).toNat)
      case atStart => exact ⟨0, by omega, rfl, rfl⟩
      case round =>
        obtain ⟨k, hk, rfl, hA⟩ := hrel
        by_cases hlt : k < n
        · obtain ⟨a, off, x, rfl, hb, hx, c0⟩ := (h1.ext E0).int hlt
          obtain ⟨a', off', y, rfl, hb', hy, d0⟩ := (h2.ext E0).int hlt
          have hs := hid (chK_succ hx.out hy.out)
          cases hq : wit x 0 12 with
          | true =>
            cases hq2 : wit y 0 12 with
            | true =>
              have hr : Hid (chK t b (k + 1) = true) := by show _ = _; rw [hs.out, hA.out, hq, hq2]; rfl
              go_wp2_with (go_at_call 71; refine (l09In_any _ _ _ _).mono ?_; rintro e w' ⟨rfl, rfl⟩)
              go_round
              case rel => exact ⟨k + 1, by omega, by go_num, hr⟩
              case measure => simp [intOf]; omega
            | false =>
              have hr : Hid (false = chOk t b) := (chOk_no (k := k + 1) (by rw [hs.out, hq2, Bool.and_false])).symm
              go_wp2_with (go_at_call 71; refine (l09In_any _ _ _ _).mono ?_; rintro e w' ⟨rfl, rfl⟩)
              go_ret
              exact ⟨ret_bool hr.out, E0⟩
          | false =>
            have hr : Hid (false = chOk t b) := (chOk_no (k := k + 1) (by rw [hs.out, hq, Bool.and_false, Bool.false_and])).symm
            go_wp2_with (go_at_call 71; refine (l09In_any _ _ _ _).mono ?_; rintro e w' ⟨rfl, rfl⟩)
            go_ret
            exact ⟨ret_bool hr.out, E0⟩
        · have hr : Hid (true = chOk t b) := by
            obtain rfl : k = n := by omega
            exact (chOk_of l1.out l2.out h16 hA.out).symm
          go_wp2_with fail
          go_ret
          exact ⟨ret_bool hr.out, E0⟩
    · have hr : Hid (false = chOk t b) := by show _ = _; rw [chOk, l1.out]; simp [h16]
      go_enter Try.func31, Try.ntmps31
      go_wp2
      go_ret
      exact ⟨ret_bool hr.out, (Ext.refl _).alloc _⟩
  · have hr : Hid (false = chOk t b) := by show _ = _; rw [chOk, l1.out, l2.out]; simp [hnm]
    have hd : ((n : Int) != (m : Int)) = true := by simp; omega
    go_enter Try.func31, Try.ntmps31
    go_wp2
    go_ret
    exact ⟨ret_bool hr.out, (Ext.refl _).alloc _⟩
end Go.Proofs.Ytiljojpnbpdaeaa

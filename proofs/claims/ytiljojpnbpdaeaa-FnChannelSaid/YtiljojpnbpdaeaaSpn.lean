/- Contracts of spans (program) and l32Spans (reference): both make a new slice that reads as the plain list of spans. Condition: a valid channel. -/
import Derived.Test.YtiljojpnbpdaeaaChn
namespace Go.Proofs.Ytiljojpnbpdaeaa
open Go.RowKit

/-- One column more, for one net. -/
def spStep (s : Int × Int) (x y net : Int) (k : Nat) : Int × Int := if x = net ∨ y = net then (if s.1 < 0 then (k : Int) else s.1, (k : Int)) else s
/-- Leftmost and rightmost column of a net among the first k, or -1. -/
def sp (t b : List Int) (net : Int) : Nat → Int × Int
  | 0 => (-1, -1)
  | k + 1 => spStep (sp t b net k) (t.getD k 0) (b.getD k 0) net k
theorem getD_of {α : Type} {l : List α} {k : Nat} {x d : α} (h : l[k]? = some x) : l.getD k d = x := by rw [List.getD_eq_getElem?_getD, h]; rfl
theorem sp_succ {t b : List Int} {net : Int} {k : Nat} {x y : Int} (hx : t[k]? = some x) (hy : b[k]? = some y) : sp t b net (k + 1) = spStep (sp t b net k) x y net k := by
  rw [sp, getD_of hx, getD_of hy]
theorem sp_bd (t b : List Int) (net : Int) : ∀ k, -1 ≤ (sp t b net k).1 ∧ (sp t b net k).1 ≤ (sp t b net k).2 ∧ (sp t b net k).2 < k
  | 0 => by simp [sp]
  | k + 1 => by
    have h := sp_bd t b net k
    rw [sp, spStep]
    split
    · split
      · simp; omega
      · simp; omega
    · omega
def spanOf (t b : List Int) (n : Nat) (net : Int) : Option Q3 := if 0 ≤ (sp t b net n).1 then some ⟨net, (sp t b net n).1, (sp t b net n).2⟩ else none
/-- The spans of the first j nets. -/
def spansK (t b : List Int) (n : Nat) : Nat → List Q3
  | 0 => []
  | j + 1 => spansK t b n j ++ (spanOf t b n (j + 1)).toList
def spansL (t b : List Int) : List Q3 := spansK t b t.length 12
theorem spansK_len (t b : List Int) (n : Nat) : ∀ j, (spansK t b n j).length ≤ j
  | 0 => by simp [spansK]
  | j + 1 => by
    have h := spansK_len t b n j
    rw [spansK, List.length_append]
    have : (spanOf t b n (j + 1)).toList.length ≤ 1 := by cases spanOf t b n (j + 1) <;> simp
    omega
theorem spansK_hit {t b : List Int} {n j : Nat} {L R : Int} (h : sp t b (j + 1) n = (L, R)) (hL : 0 ≤ L) : spansK t b n (j + 1) = spansK t b n j ++ [⟨j + 1, L, R⟩] := by
  rw [spansK, spanOf, h, if_pos hL]; rfl
theorem spansK_miss {t b : List Int} {n j : Nat} {L R : Int} (h : sp t b (j + 1) n = (L, R)) (hL : L < 0) : spansK t b n (j + 1) = spansK t b n j := by
  rw [spansK, spanOf, h, if_neg (by simp; omega)]; simp
/-- The program's own field Right, which is 0 where no column was met. -/
def imR (s : Int × Int) : Int := if s.1 < 0 then 0 else s.2
theorem cells_new (w : World) (cs : List Value) (t : TypeId) : ∀ j u, cs[j]? = some u → (w.alloc (.cells cs.toArray t)).cell? ((⟨w.heap.size, 0, none⟩ : Addr).add j) = some u := by
  intro j u h
  rw [Addr.add_lit, Nat.zero_add, (Blk.new w cs t).cells j]; exact h
theorem imR_pos {a b : Int} (h : 0 ≤ a) : imR (a, b) = b := by rw [imR, if_neg (by simp; omega)]
theorem info_NetSpan : (Try.prog.info? 79).map (fun i => (i.zero, i.size, i.bytes)) = some (some (.agg #[.int .i64 0, .int .i64 0, .int .i64 0]), 3, 24) := by kernel_rfl
/-- A slice of the call's own that reads as l. -/
def Own {α : Type} (enc : α → List Value) (sz : Nat) (e : TypeId) (w : World) (base : Nat) (v : Value) (l : List α) : Prop := w.ownsRow base e sz v l.length (l.flatMap enc)

set_option maxRecDepth 100000 in
set_option maxHeartbeats 400000 in
theorem l32Spans_any (p1 p2 : Option Addr) (n c1 c2 : Nat) (t b : List Int) (w : World) (h1 : SlT enc1 1 w p1 n t) (h2 : SlT enc1 1 w p2 n b) (hn : n ≤ 16) :
    Calls Try.prog 32 #[.agg #[.slice p1 n c1, .slice p2 n c2]] w fun e w' => ∃ q c, e = .returned (.slice q (spansL t b).length c) ∧ Own enc3 3 79 w' w.heap.size (.slice q (spansL t b).length c) (spansL t b) ∧ Ext w w' := by
  obtain ⟨i0, hi, hz0, hz1, hz2⟩ := info_parts info_NetSpan
  have l1 := hid h1.length
  go_enter Try.func32, Try.ntmps32
  go_wp2
  generalize hW : w.alloc _ = W0
  obtain ⟨E0, z0, b0⟩ := boxes1 hW
  clear hW
  have ho0 : (W0.alloc (.cells #[] 79)).ownsRow W0.heap.size 79 3 (.slice (some ⟨w.heap.size + 1, 0, none⟩) 0 0) 0 [] := by
    have := World.ownsRow_made (base := W0.heap.size) (e := 79) (size := 3) W0 #[] 0 (by simp) (by simp [maxLen]) (by simp)
    rwa [z0] at this ⊢
  replace z0 := hid z0
  have g := (show Blk W0 _ [_, _] _ from b0).cells
  have gb := hid (show Blk W0 _ [_, _] _ from b0)
  clear b0
  go_loopw [3, 4, 5, 6, 7] (fun v net _ _ _ wr => ∃ j : Nat, j ≤ 12 ∧ net = .int .i64 ((j : Int) + 1) ∧ Ext W0 wr ∧ wr.ownsRow W0.heap.size 79 3 v (spansK t b n j).length ((spansK t b n j).flatMap enc3)) (fun _ net _ _ _ _ => 13 - (intOf net).toNat)
  case atStart => exact ⟨0, by omega, rfl, (Ext.refl _).alloc _, ho0⟩
  case round =>
    clear ho0
    obtain ⟨j, hj, rfl, hE, ho⟩ := hrel
    have hlen := spansK_len t b n j
    by_cases hlt : j < 12
    · have g' := (gb.out.ext hE).cells
      go_wp2
      go_loop [5, 6, 7] (fun L R i => ∃ k : Nat, k ≤ n ∧ i = .int .i64 k ∧ L = .int .i64 (sp t b (j + 1) k).1 ∧ R = .int .i64 (sp t b (j + 1) k).2) (fun _ _ i => n - (intOf i).toNat)
      case atStart => exact ⟨0, by omega, rfl, rfl, rfl⟩
      case round =>
        obtain ⟨k, hk, rfl, rfl, rfl⟩ := hrel
        by_cases hkn : k < n
        · obtain ⟨a, off, x, rfl, hb, hx, x0⟩ := (h1.ext (E0.trans hE)).int hkn
          obtain ⟨a', off', y, rfl, hb', hy, y0⟩ := (h2.ext (E0.trans hE)).int hkn
          have hs := hid (sp_succ (net := j + 1) hx.out hy.out)
          have bd := sp_bd t b (j + 1) k
          generalize hS : sp t b (j + 1) k = S at hs bd ⊢
          clear hS
          obtain ⟨L, R⟩ := S
          simp only at bd
          go_wp2
          all_goals
            refine ⟨⟨_, _, _, ⟨k + 1, by omega, by go_num, ?_, ?_⟩, rfl, rfl, rfl⟩, by simp [intOf]; omega⟩
          all_goals
            rw [hs.out, spStep]
            (repeat' split) <;> first | rfl | (exfalso; omega) | (exfalso; simp_all; done) | (exfalso; simp_all; omega)
        · have hkn' : k = n := by omega
          have hS : Hid (∃ L R, sp t b (j + 1) n = (L, R)) := ⟨_, _, rfl⟩
          have hh := hid (show spansK t b n j = spansK t b n j from rfl)
          subst hkn'
          obtain ⟨L, R, hS⟩ := hS.out
          rw [hS]
          simp only
          by_cases hL : 0 ≤ L
          · have hr := hid (spansK_hit hS hL)
            clear hS hh
            go_wp2_with (at_builtin; refine wpList_append_own _ rfl _ _ 73 rfl W0.heap.size 79 i0 _ 3 24 Try.underlying73 hi hz0 hz1 hz2 rfl (by omega) _ _ _ rfl (ho.alloc _) ⟨wr.heap.size, 0, none⟩ 1 1 [.int .i64 ((j : Int) + 1), .int .i64 L, .int .i64 R] rfl rfl ?c1 ?c2 ?c3 ?c4 ?c5 ?_; rotate_left 5; intro v' w1 ho' hg _)
            case c2 => exact ⟨rfl, rfl, rfl⟩
            case c3 => unfold maxLen; omega
            case c4 => omega
            case c5 => have := hE.le; omega
            refine ⟨⟨j + 1, by omega, by go_num, (hE.alloc _).grown hg (fun k hk => (ho.lt k hk).1), ?_⟩, by simp [intOf]; omega⟩
            rw [hr.out, List.length_append, List.flatMap_append]
            exact ho'
          · have hr := hid (spansK_miss hS (by omega))
            clear hS hh
            go_wp2
            refine ⟨⟨j + 1, by omega, by go_num, hE, ?_⟩, by simp [intOf]; omega⟩
            rw [hr.out]
            exact ho
    · have hj' : j = 12 := by omega
      subst hj'
      obtain ⟨q, c, rfl⟩ := owns_forms ho
      have hr : Hid (spansK t b n 12 = spansL t b) := by show _ = _; rw [spansL, l1.out]
      rw [hr.out] at ho hlen ⊢
      go_wp2
      go_ret
      exact ⟨_, _, rfl, Joins.ownsRow_le ho E0.le, E0.trans hE⟩

set_option maxRecDepth 100000 in
set_option maxHeartbeats 1000000 in
theorem spans_any (p1 p2 : Option Addr) (n c1 c2 : Nat) (t b : List Int) (w : World) (h1 : SlT enc1 1 w p1 n t) (h2 : SlT enc1 1 w p2 n b) (hn : n ≤ 16) :
    Calls Try.prog 36 #[.agg #[.slice p1 n c1, .slice p2 n c2]] w fun e w' => ∃ q c, e = .returned (.slice q (spansL t b).length c) ∧ Own enc3 3 79 w' w.heap.size (.slice q (spansL t b).length c) (spansL t b) ∧ Ext w w' := by
  obtain ⟨i0, hi, hz0, hz1, hz2⟩ := info_parts info_NetSpan
  have l1 := hid h1.length
  go_enter Try.func36, Try.ntmps36
  go_wp2
  generalize hW : w.alloc _ = W0
  obtain ⟨E0, z0, b0⟩ := boxes1 hW
  clear hW
  have ho0 : (W0.alloc (.cells #[] 79)).ownsRow W0.heap.size 79 3 (.slice (some ⟨w.heap.size + 1, 0, none⟩) 0 0) 0 [] := by
    have := World.ownsRow_made (base := W0.heap.size) (e := 79) (size := 3) W0 #[] 0 (by simp) (by simp [maxLen]) (by simp)
    rwa [z0] at this ⊢
  replace z0 := hid z0
  have g := (show Blk W0 _ [_, _] _ from b0).cells
  have gb := hid (show Blk W0 _ [_, _] _ from b0)
  clear b0
  go_loopw [3, 4] (fun v net wr => ∃ j : Nat, j ≤ 12 ∧ net = .int .i64 ((j : Int) + 1) ∧ Ext W0 wr ∧ wr.ownsRow W0.heap.size 79 3 v (spansK t b n j).length ((spansK t b n j).flatMap enc3)) (fun _ net _ => 13 - (intOf net).toNat)
  case atStart => exact ⟨0, by omega, rfl, (Ext.refl _).alloc _, ho0⟩
  case round =>
    clear ho0
    obtain ⟨j, hj, rfl, hE, ho⟩ := hrel
    have hlen := spansK_len t b n j
    by_cases hlt : j < 12
    · have g' := (gb.out.ext hE).cells
      obtain ⟨wo, hwo⟩ : ∃ wo : World, wo = wr := ⟨_, rfl⟩
      rw [← hwo] at hE ho g' ⊢
      clear hwo wr
      have hq : w.heap.size < wo.heap.size := by have := hE.le; have := z0.out; omega
      have hq' : ¬ (w.heap.size = wo.heap.size) := by omega
      have hd : (j : Int) + 1 ≤ 12 := by omega
      go_wp2
      go_loopw [17] (fun i wr => ∃ k : Nat, k ≤ n ∧ i = .int .i64 k ∧ Ext wo wr ∧ Blk wr wo.heap.size [.int .i64 ((j : Int) + 1), .int .i64 (sp t b (j + 1) k).1, .int .i64 (imR (sp t b (j + 1) k))] 79) (fun i _ => n - (intOf i).toNat)
      case atStart => exact ⟨0, by omega, rfl, (Ext.refl _).alloc _, Blk.new _ _ _⟩
      case round =>
        obtain ⟨k, hk, rfl, hI, hB⟩ := hrel
        by_cases hkn : k < n
        · obtain ⟨a, off, x, rfl, hb, hx, x0⟩ := (h1.ext (E0.trans (hE.trans hI))).int hkn
          obtain ⟨a', off', y, rfl, hb', hy, y0⟩ := (h2.ext (E0.trans (hE.trans hI))).int hkn
          have hs := hid (sp_succ (net := j + 1) hx.out hy.out)
          have bd := sp_bd t b (j + 1) k
          generalize hS : sp t b (j + 1) k = S at hs bd hB ⊢
          clear hS
          obtain ⟨L, R⟩ := S
          simp only at bd hB
          have c' := (gb.out.ext (hE.trans hI)).cells
          have c'' := hB.cells
          have f'' := hB.free
          have ib : Hid (∃ r, r = imR (L, R)) := ⟨_, rfl⟩
          obtain ⟨R', ib⟩ := ib.out
          rw [← ib] at hB c''
          replace ib := hid ib
          have hB := hid hB
          clear g g'
          go_wp2
          all_goals
            go_roundw
            case rel =>
              refine ⟨k + 1, by omega, by go_num, ?_, ?_⟩
              · first | exact hI | exact hI.setCell (Nat.le_refl _) _ | exact (hI.setCell (Nat.le_refl _) _).setCell (Nat.le_refl _) _
              · rw [hs.out, spStep]
                (repeat' split) <;> first
                  | (exfalso; omega)
                  | (exfalso; simp_all; done)
                  | (exfalso; simp_all; omega)
                  | (rw [← ib.out]; exact hB.out)
                  | (rw [imR_pos (by omega)]; exact (hB.out.set 1 _).set 2 _)
                  | (rw [imR_pos (by omega)]; exact hB.out.set 2 _)
            case measure => simp [intOf]; omega
        · have hkn' : k = n := by omega
          have hS : Hid (∃ L R, sp t b (j + 1) n = (L, R)) := ⟨_, _, rfl⟩
          subst hkn'
          obtain ⟨L, R, hS⟩ := hS.out
          rw [hS] at hB
          simp only at hB
          have c'' := hB.cells
          have hoI := owns_ext ho hI
          clear g g'
          by_cases hL : 0 ≤ L
          · have hr := hid (spansK_hit hS hL)
            rw [imR_pos hL] at c''
            clear hS hB
            go_wp2_with (at_builtin; refine wpList_append_own _ rfl _ _ 73 rfl W0.heap.size 79 i0 _ 3 24 Try.underlying73 hi hz0 hz1 hz2 rfl (by omega) _ _ _ rfl (hoI.alloc _) ⟨wr.heap.size, 0, none⟩ 1 1 [.int .i64 ((j : Int) + 1), .int .i64 L, .int .i64 R] rfl rfl ?c1 ?c2 ?c3 ?c4 ?c5 ?_; rotate_left 5; intro v' w1 ho' hg _)
            case c1 => exact cells_new wr [.int .i64 ((j : Int) + 1), .int .i64 L, .int .i64 R] 79
            case c2 => intro u hu; simp at hu; rcases hu with rfl | rfl | rfl <;> rfl
            case c3 => unfold maxLen; omega
            case c4 => omega
            case c5 => have := (hE.trans hI).le; simp; omega
            refine ⟨⟨j + 1, by omega, by go_num, ((hE.trans hI).alloc _).grown hg (fun k hk => (ho.lt k hk).1), ?_⟩, by simp [intOf]; omega⟩
            rw [hr.out, List.length_append, List.flatMap_append]
            exact ho'
          · have hr := hid (spansK_miss hS (by omega))
            clear hS hB
            go_wp2
            refine ⟨⟨j + 1, by omega, by go_num, hE.trans hI, ?_⟩, by simp [intOf]; omega⟩
            rw [hr.out]
            exact hoI
    · have hj' : j = 12 := by omega
      subst hj'
      obtain ⟨q, c, rfl⟩ := owns_forms ho
      have hr : Hid (spansK t b n 12 = spansL t b) := by show _ = _; rw [spansL, l1.out]
      rw [hr.out] at ho hlen ⊢
      go_wp2
      go_ret
      exact ⟨_, _, rfl, Joins.ownsRow_le ho E0.le, E0.trans hE⟩
end Go.Proofs.Ytiljojpnbpdaeaa

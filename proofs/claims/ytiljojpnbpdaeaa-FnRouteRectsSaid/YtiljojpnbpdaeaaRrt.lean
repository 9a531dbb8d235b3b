/- Contracts of unitRect, boxOf, l32Span. Condition: unit cells of the chip; at least one rectangle. -/
import Derived.Test.YtiljojpnbpdaeaaPcs
import Derived.Test.YtiljojpnbpdaeaaIrt
import Derived.Deep.RegionHeld3
import Derived.Deep.AppendLies
namespace Go.Proofs.Ytiljojpnbpdaeaa
open Go.RowKit

def uQ (p : Q2) : Q4 := ⟨p.a, p.b, p.a + 1, p.b + 1⟩
def joinQ (o r : Q4) : Q4 := ⟨min o.a r.a, min o.b r.b, max o.c r.c, max o.d r.d⟩
def boxL (l : List Q4) : Q4 := l.foldl joinQ (l.getD 0 ⟨0, 0, 0, 0⟩)
theorem box_two (s e : Q2) : boxL [uQ s, uQ e] = span s e := by
  simp only [boxL, uQ, joinQ, span, List.foldl, List.getD_cons_zero, Q4.mk.injEq]
  omega
def boxK (l : List Q4) (k : Nat) : Q4 := (l.take k).foldl joinQ (l.getD 0 ⟨0, 0, 0, 0⟩)
theorem boxK_snoc {l : List Q4} {k : Nat} {r : Q4} (h : l[k]? = some r) : joinQ (boxK l k) r = boxK l (k + 1) := by
  rw [boxK, boxK, take_snoc h, List.foldl_append]; rfl
set_option maxHeartbeats 4000000 in
theorem unitRect_any (p : Q2) (w : World) (h : onC p.a p.b = true) :
    Calls Try.prog 50 #[.agg #[.int .i64 p.a, .int .i64 p.b]] w fun e w' => e = .returned (.agg #[.int .i64 p.a, .int .i64 p.b, .int .i64 (p.a + 1), .int .i64 (p.b + 1)]) ∧ Ext w w' := by
  obtain ⟨⟨a0, a1⟩, b0, b1⟩ := onC_iff.1 h
  clear h
  go_enter Try.func50, Try.ntmps50
  go_wp2
  refine bodyPost_ret (v := .agg #[.int .i64 p.a, .int .i64 p.b, .int .i64 (p.a + 1), .int .i64 (p.b + 1)]) (by simp [results, Try.results50, go_sem]) rfl ⟨rfl, ?_⟩
  repeat (first | exact Ext.refl _ | refine Ext.alloc ?_ _ | refine Ext.setCell ?_ (by simp) _)
set_option maxRecDepth 100000 in
set_option maxHeartbeats 4000000 in
theorem boxOf_any (q : Option Addr) (n c : Nat) (l : List Q4) (w : World) (h : SlT enc4 4 w q n l) (h0 : 0 < n) (hn : n ≤ 1048576) :
    Calls Try.prog 49 #[.slice q n c] w fun e w' => e = .returned (.agg #[.int .i64 (boxL l).a, .int .i64 (boxL l).b, .int .i64 (boxL l).c, .int .i64 (boxL l).d]) ∧ Ext w w' := by
  have hl := hid h.length
  obtain ⟨b, off, r, rfl, hb, hr, c0, c1, c2, c3⟩ := h.four h0
  have hr0 : Hid (r = boxK l 0) := by show _ = _; rw [boxK, List.take_zero, List.foldl_nil, List.getD_eq_getElem?_getD, hr.out]; rfl
  simp only [Nat.zero_mul, Nat.add_zero] at c0 c1 c2 c3
  have h0I : (0 : Int) < (n : Int) := by omega
  go_enter Try.func49, Try.ntmps49
  go_wp2
  generalize hW : (w.alloc _).alloc _ = W0
  obtain ⟨E0, z0, bT, bP⟩ := boxes2 hW
  clear hW
  have hT0 := (show Blk W0 w.heap.size [.int .i64 0, .int .i64 0, .int .i64 0, .int .i64 0] _ from bT)
  have hP0 := (show Blk W0 (w.heap.size + 1) [.int .i64 r.a, .int .i64 r.b, .int .i64 r.c, .int .i64 r.d] _ from bP)
  rw [hr0.out] at hP0
  clear bT bP z0 c0 c1 c2 c3 hr0 hr
  obtain ⟨P, hP⟩ : ∃ P, P = w.heap.size + 1 := ⟨_, rfl⟩
  obtain ⟨T, hT⟩ : ∃ T, T = w.heap.size := ⟨_, rfl⟩
  rw [← hP] at hP0 ⊢
  rw [← hT] at hT0 ⊢
  have hTP : T < P := by omega
  replace hP := hid hP
  replace hT := hid hT
  go_loopw [11] (fun i wr => ∃ k : Nat, k ≤ n ∧ i = .int .i64 k ∧ Ext w wr ∧ Blk wr T [.int .i64 0, .int .i64 0, .int .i64 0, .int .i64 0] 49 ∧ Blk wr P [.int .i64 (boxK l k).a, .int .i64 (boxK l k).b, .int .i64 (boxK l k).c, .int .i64 (boxK l k).d] 49) (fun i _ => n - (intOf i).toNat)
  case atStart => exact ⟨0, by omega, rfl, E0, hT0, hP0⟩
  case round =>
    clear hT0 hP0 E0 W0 hb
    obtain ⟨k, hk, rfl, hE, hbT, hbP⟩ := hrel
    by_cases hlt : k < n
    · have hkI : (k : Int) < (n : Int) := by omega
      obtain ⟨b', off', r, hp', hb, hr, c0, c1, c2, c3⟩ := (h.ext hE).four hlt
      cases hp'
      have hg := hbP.cells
      have p0 := hg 0
      have p1 := hg 1
      have p2 := hg 2
      have p3 := hg 3
      have f0 := hbP.free 0
      have f1 := hbP.free 1
      have f2 := hbP.free 2
      have f3 := hbP.free 3
      simp only [List.getElem?_cons_zero, List.getElem?_cons_succ] at p0 p1 p2 p3
      have hPl := hbP.lt
      have hsn := hid (boxK_snoc hr.out)
      have hPw := hid (show w.heap.size ≤ P by have := hP.out; omega)
      replace hbP := hid hbP
      replace hbT := hid hbT
      clear hg
      go_wp2
      all_goals
        go_roundw
        case rel =>
          refine ⟨k + 1, by omega, by go_num, ((((hE.setCell (p := ⟨P, 0, none⟩) hPw.out _).setCell (p := ⟨P, 1, none⟩) hPw.out _).setCell (p := ⟨P, 2, none⟩) hPw.out _).setCell (p := ⟨P, 3, none⟩) hPw.out _).alloc _, ((((hbT.out.other _ _ (by omega)).other _ _ (by omega)).other _ _ (by omega)).other _ _ (by omega)).alloc _, Blk.pair (((((hbP.out.set 0 _).set 1 _).set 2 _).set 3 _).alloc _) ?_ rfl⟩
          rw [← hsn.out]
          simp only [joinQ, List.set_cons_zero, List.set_cons_succ, List.cons.injEq, Value.int.injEq, true_and, and_true]
          refine ⟨?_, ?_, ?_, ?_⟩ <;> first | (split <;> omega) | omega
        case measure => simp [intOf] <;> omega
    · have hkI : ¬ (k : Int) < (n : Int) := by omega
      have hkn : k = n := by omega
      subst hkn
      have hfin : Hid (boxK l k = boxL l) := by show _ = _; rw [boxK, boxL, take_all hl.out (Nat.le_refl _)]
      rw [hfin.out] at hbP
      have hg := hbP.cells
      have p0 := hg 0
      have p1 := hg 1
      have p2 := hg 2
      have p3 := hg 3
      have ht := hbT.cells
      have t0 := ht 0
      have t1 := ht 1
      have t2 := ht 2
      have t3 := ht 3
      have f0 := hbT.free 0
      have f1 := hbT.free 1
      have f2 := hbT.free 2
      have f3 := hbT.free 3
      simp only [List.getElem?_cons_zero, List.getElem?_cons_succ] at p0 p1 p2 p3 t0 t1 t2 t3
      have hPl := hbP.lt
      have hTl := hbT.lt
      have hTw := hid (show w.heap.size ≤ T by have := hT.out; omega)
      clear hg ht hbP hbT
      go_wp2
      refine bodyPost_ret (v := .agg #[.int .i64 (boxL l).a, .int .i64 (boxL l).b, .int .i64 (boxL l).c, .int .i64 (boxL l).d]) (by simp [results, Try.results49, go_sem, t0, t1, t2, t3]) rfl ⟨rfl, ?_⟩
      exact (((hE.setCell (p := ⟨T, 0, none⟩) hTw.out _).setCell (p := ⟨T, 1, none⟩) hTw.out _).setCell (p := ⟨T, 2, none⟩) hTw.out _).setCell (p := ⟨T, 3, none⟩) hTw.out _
end Go.Proofs.Ytiljojpnbpdaeaa

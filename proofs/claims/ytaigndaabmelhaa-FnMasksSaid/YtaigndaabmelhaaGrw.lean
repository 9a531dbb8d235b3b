/- Contract of grown (program). Condition: at most 2^20 valid rectangles. -/
import Derived.Test.YtaigndaabmelhaaRg3
namespace Go.Proofs.Ytaigndaabmelhaa
open Go.RowKit

/-- A rectangle that has grown. -/
def grwQ (k : Int) (r : Q4) : Q4 := ⟨r.a - k, r.b - k, r.c + k, r.d + k⟩
set_option maxRecDepth 100000 in
set_option maxHeartbeats 4000000 in
theorem grown_any (q : Option Addr) (n c : Nat) (l : List Q4) (k0 : Int) (w : World) (h : SlT enc4 4 w q n l) (hn : n ≤ 1048576) (hv : ∀ r ∈ l, vR r = true) (hk0 : 0 ≤ k0) (hk1 : k0 ≤ 100) :
    Calls Try.prog 132 #[.slice q n c, .int .i64 k0] w (CellsB (gL (l.map (grwQ k0))) w) := by
  have hl := hid h.length
  replace hv := hid hv
  go_enter Try.func132, Try.ntmps132
  go_wp2
  generalize hW : w.alloc _ = W0
  obtain ⟨E0, z0, b0⟩ := boxes1 hW
  clear hW
  have hb0 : Blk W0 w.heap.size (gcells (gL ((l.map (grwQ k0)).take 0))) 109 := by
    have := inL_nil
    rw [zeroCells] at b0
    show W0.heap[w.heap.size]? = _
    rw [b0]
    simp only [List.take_zero, gL, ← inL_nil]
  clear b0
  obtain ⟨B, hB⟩ : ∃ B, B = w.heap.size := ⟨_, rfl⟩
  rw [← hB] at hb0 ⊢
  replace hB := hid hB
  replace z0 := hid z0
  go_loopw [12] (fun i wr => ∃ k : Nat, k ≤ n ∧ i = .int .i64 k ∧ Ext w wr ∧ Blk wr B (gcells (gL ((l.map (grwQ k0)).take k))) 109) (fun i _ => n - (intOf i).toNat)
  case atStart => exact ⟨0, by omega, rfl, E0, hb0⟩
  case round =>
    clear hb0 E0 W0 z0
    obtain ⟨k, hk, rfl, hE, hb⟩ := hrel
    by_cases hlt : k < n
    · obtain ⟨b, off, x, rfl, hbn, hx, c0, c1, c2, c3⟩ := (h.ext hE).four hlt
      have hBl := hb.lt
      have hvx := hid (hv.out x (List.mem_of_getElem? hx.out))
      obtain ⟨⟨xa0, xa1, xa2⟩, xb0, xb1, xb2⟩ := vR_iff.1 hvx.out
      have hxm : Hid ((l.map (grwQ k0))[k]? = some (grwQ k0 x)) := by show _ = _; rw [List.getElem?_map, hx.out]; rfl
      replace hb := hid hb
      clear hbn
      go_wp2_with fail
      have hb1 := hb.out.alloc (.cells #[.int .i64 x.a, .int .i64 x.b, .int .i64 x.c, .int .i64 x.d] 50)
      refine (put_any B _ (grwQ k0 x) _ hb1 (by unfold Near grwQ; simp only; omega)).mono ?_
      rintro e w1 ⟨rfl, hb2, hM⟩
      rw [gL_snoc hxm.out] at hb2
      have hE1 := hid ((hE.alloc (.cells #[.int .i64 x.a, .int .i64 x.b, .int .i64 x.c, .int .i64 x.d] 50)).then hM (by intro k hk; simp at hk; rw [hk, hB.out]; omega))
      clear hM c0 c1 c2 c3 hb1
      replace hb2 := hid hb2
      go_wp2_with fail
      go_roundw
      case rel => exact ⟨k + 1, by omega, by go_num, hE1.out, hb2.out⟩
      case measure => simp [intOf]; omega
    · go_wp2_with fail
      go_ret
      rw [take_all (n := n) (l := l.map (grwQ k0)) (by rw [List.length_map]; exact hl.out) (by omega)] at hb
      exact ⟨B, rfl, by rw [hB.out]; omega, hb, hE⟩
end Go.Proofs.Ytaigndaabmelhaa

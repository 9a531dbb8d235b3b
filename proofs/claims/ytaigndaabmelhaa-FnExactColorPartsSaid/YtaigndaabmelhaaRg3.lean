/- Contract of cellsOf. Condition: at most 2^20 rectangles, not too far from the chip. -/
import Derived.Test.YtaigndaabmelhaaRg2
namespace Go.Proofs.Ytaigndaabmelhaa
open Go.RowKit

/-- What cellsOf and its kin leave: a new block with the cells of g. -/
def CellsB (g : Grid) (w : World) (e : Ending) (w' : World) : Prop := ∃ B, e = .returned (.pointer (some ⟨B, 0, none⟩)) ∧ w.heap.size ≤ B ∧ Blk w' B (gcells g) 109 ∧ Ext w w'
theorem gL_snoc {l : List Q4} {k : Nat} {r : Q4} (h : l[k]? = some r) : gcells (gmk fun x y => gh (gL (l.take k)) x y || inR r x y) = gcells (gL (l.take (k + 1))) := by
  rw [gL, gL, ← inL_snoc h]
  refine gmk_ext fun x y hc => ?_
  rw [gh_gmk _ hc]
theorem Blk.pair {w w' : World} {B : Nat} {cs ds : List Value} {t : TypeId} (h : Blk w B cs t) (e : cs = ds) (hw : w = w') : Blk w' B ds t := hw ▸ e ▸ h
set_option maxRecDepth 100000 in
set_option maxHeartbeats 4000000 in
theorem cellsOf_any (q : Option Addr) (n c : Nat) (l : List Q4) (w : World) (h : SlT enc4 4 w q n l) (hn : n ≤ 1048576) (hv : ∀ r ∈ l, Near r) :
    Calls Try.prog 77 #[.slice q n c] w (CellsB (gL l) w) := by
  have hl := hid h.length
  replace hv := hid hv
  go_enter Try.func77, Try.ntmps77
  go_wp2
  generalize hW : w.alloc _ = W0
  obtain ⟨E0, z0, b0⟩ := boxes1 hW
  clear hW
  have hb0 : Blk W0 w.heap.size (gcells (gL (l.take 0))) 109 := by
    have := inL_nil
    rw [zeroCells] at b0
    show W0.heap[w.heap.size]? = _
    rw [b0]
    simp only [List.take_zero, gL, ← inL_nil]
  clear b0
  obtain ⟨B, hB⟩ : ∃ B, B = w.heap.size := ⟨_, rfl⟩
  rw [← hB] at hb0 ⊢
  replace hB := hid hB
  replace z0 := hid z0
  go_loopw [10] (fun i wr => ∃ k : Nat, k ≤ n ∧ i = .int .i64 k ∧ Ext w wr ∧ Blk wr B (gcells (gL (l.take k))) 109) (fun i _ => n - (intOf i).toNat)
  case atStart => exact ⟨0, by omega, rfl, E0, hb0⟩
  case round =>
    clear hb0 E0 W0 z0
    obtain ⟨k, hk, rfl, hE, hb⟩ := hrel
    by_cases hlt : k < n
    · obtain ⟨b, off, x, rfl, hbn, hx, c0, c1, c2, c3⟩ := (h.ext hE).four hlt
      have hBl := hb.lt
      have hvx := hid (hv.out x (List.mem_of_getElem? hx.out))
      replace hb := hid hb
      clear hbn
      go_wp2_with fail
      have hb1 := hb.out.alloc (.cells #[.int .i64 x.a, .int .i64 x.b, .int .i64 x.c, .int .i64 x.d] 50)
      refine (put_any B _ x _ hb1 hvx.out).mono ?_
      rintro e w1 ⟨rfl, hb2, hM⟩
      rw [gL_snoc hx.out] at hb2
      have hE1 := hid ((hE.alloc (.cells #[.int .i64 x.a, .int .i64 x.b, .int .i64 x.c, .int .i64 x.d] 50)).then hM (by intro k hk; simp at hk; rw [hk, hB.out]; omega))
      clear hM c0 c1 c2 c3 hb1
      replace hb2 := hid hb2
      go_wp2_with fail
      go_roundw
      case rel => exact ⟨k + 1, by omega, by go_num, hE1.out, hb2.out⟩
      case measure => simp [intOf]; omega
    · go_wp2_with fail
      go_ret
      rw [take_all hl.out (by omega)] at hb
      exact ⟨B, rfl, by rw [hB.out]; omega, hb, hE⟩
end Go.Proofs.Ytaigndaabmelhaa

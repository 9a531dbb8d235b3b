/- Contract of DrawFillSquares. Condition: at most 2^20 bytes of code. -/
import Derived.Test.YtaigndaabmelhaaDrf
import Derived.Test.YtaigndaabmelhaaOpv
namespace Go.Proofs.Ytaigndaabmelhaa
open Go.RowKit

/-- What a draw of rectangles and four numbers leaves. -/
def DrwF (w : World) (e : Ending) (w' : World) : Prop := ∃ (q : Option Addr) (n c : Nat) (l : List Q4) (s p sz gap : Int), e = .returned (.tuple #[.slice q n c, .int .i64 s, .int .i64 p, .int .i64 sz, .int .i64 gap]) ∧ SlT enc4 4 w' q n l ∧ n ≤ 3201 ∧ Ext w w'
set_option maxRecDepth 100000 in
set_option maxHeartbeats 8000000 in
theorem drawFillSquares_any (q : Option Addr) (n c : Nat) (l : List Int) (w : World) (h : SlT encU 1 w q n l) (hu : ∀ x ∈ l, 0 ≤ x ∧ x ≤ 255) (hn : n ≤ 1048576) :
    Calls Try.prog 52 #[.slice q n c] w (DrwF w) := by
  have hu := hid hu
  go_enter Try.func52, Try.ntmps52
  go_wp2_with fail
  refine (from_any q n c l _ h hu.out hn).mono ?_
  rintro e w1 ⟨B, rfl, hB, S, E⟩
  go_wp2_with fail
  refine (drawRegion_any B _ S).mono ?_
  rintro e w2 ⟨q2, n2, c2, l2, rfl, s2, hn2, hq2, S2, M2⟩
  have hBT : B < w2.heap.size := S2.lt
  have E := hid (E.then M2 (by simp; omega))
  have hBq : Hid (∀ a, q2 = some a → B < a.block) := fun a ha => Nat.lt_of_lt_of_le S.lt (hq2 a ha)
  clear M2 hq2 S
  replace s2 := hid s2
  go_wp2_with fail
  generalize hW : w2.alloc _ = W0
  obtain ⟨E0, z0, bT⟩ := boxes1 hW
  clear hW
  have hT : Hid (Blk W0 w2.heap.size [.int .i64 3, .int .i64 8, .int .i64 16, .int .i64 20, .int .i64 40, .int .i64 41] 2) := bT
  clear bT
  have S2 := S2.ext E0
  have s2 := hid (s2.out.ext E0)
  have E := hid (E.out.trans E0)
  refine (next_any B 6 _ S2 (by omega) (by omega)).mono ?_
  rintro e w3 ⟨j, rfl, j0, j1, S3, M3⟩
  have E := hid (E.out.then M3 (by simp; omega))
  have s2 := hid (s2.out.mut M3 (fun a ha hh => by simp at hh; have := hBq.out a ha; omega))
  have hT := hid (hT.out.mut M3 (by simp; omega))
  clear S2 M3
  obtain ⟨k, rfl⟩ : ∃ k : Nat, j = k := ⟨j.toNat, by omega⟩
  have hk : k < 6 := by omega
  obtain ⟨s, hs⟩ : ∃ s : Int, ([.int .i64 3, .int .i64 8, .int .i64 16, .int .i64 20, .int .i64 40, .int .i64 41] : List Value)[k]? = some (.int .i64 s) := by
    match k, hk with
    | 0, _ => exact ⟨_, rfl⟩
    | 1, _ => exact ⟨_, rfl⟩
    | 2, _ => exact ⟨_, rfl⟩
    | 3, _ => exact ⟨_, rfl⟩
    | 4, _ => exact ⟨_, rfl⟩
    | 5, _ => exact ⟨_, rfl⟩
  have z := hT.out.cells k
  rw [hs] at z
  have hTl := hT.out.lt
  clear hs
  go_wp2_with fail
  clear z
  refine (next_any B 40 _ S3 (by omega) (by omega)).mono ?_
  rintro e w4 ⟨p, rfl, _, _, S4, M4⟩
  have E := hid (E.out.then M4 (by simp; omega))
  have s2 := hid (s2.out.mut M4 (fun a ha hh => by simp at hh; have := hBq.out a ha; omega))
  clear M4 S3
  go_wp2_with fail
  refine (next_any B 6 _ S4 (by omega) (by omega)).mono ?_
  rintro e w5 ⟨sz, rfl, _, _, S5, M5⟩
  have E := hid (E.out.then M5 (by simp; omega))
  have s2 := hid (s2.out.mut M5 (fun a ha hh => by simp at hh; have := hBq.out a ha; omega))
  clear M5 S4
  go_wp2_with fail
  refine (next_any B 4 _ S5 (by omega) (by omega)).mono ?_
  rintro e w6 ⟨gap, rfl, _, _, S6, M6⟩
  have E := hid (E.out.then M6 (by simp; omega))
  have s2 := hid (s2.out.mut M6 (fun a ha hh => by simp at hh; have := hBq.out a ha; omega))
  clear M6 S5
  go_wp2_with fail
  refine bodyPost_ret (v := .tuple #[.slice q2 n2 c2, .int .i64 s, .int .i64 p, .int .i64 sz, .int .i64 gap]) (by simp [results, Try.results52, go_sem]) rfl ⟨q2, n2, c2, l2, s, p, sz, gap, rfl, s2.out, hn2, E.out⟩
end Go.Proofs.Ytaigndaabmelhaa

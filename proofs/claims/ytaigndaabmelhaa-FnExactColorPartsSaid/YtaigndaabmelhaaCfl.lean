/- Contracts of cellDistance, conflict (program). Condition: at most 2^20 valid rectangles. -/
import Derived.Test.YtaigndaabmelhaaGnr
import Derived.Test.YtaigndaabmelhaaPpc
namespace Go.Proofs.Ytaigndaabmelhaa
open Go.RowKit

/-- Two rectangles have unit cells at a distance of at most s. -/
def cls (r t : Q4) (s : Int) : Bool := decide (t.a - r.c + 1 ≤ s) && decide (r.a - t.c + 1 ≤ s) && decide (t.b - r.d + 1 ≤ s) && decide (r.b - t.d + 1 ≤ s)
theorem cls_iff {r t : Q4} {s : Int} : cls r t s = true ↔ t.a - r.c + 1 ≤ s ∧ r.a - t.c + 1 ≤ s ∧ t.b - r.d + 1 ≤ s ∧ r.b - t.d + 1 ≤ s := by
  simp only [cls, Bool.and_eq_true, decide_eq_true_eq]
  constructor
  · rintro ⟨⟨⟨h1, h2⟩, h3⟩, h4⟩; exact ⟨h1, h2, h3, h4⟩
  · rintro ⟨h1, h2, h3, h4⟩; exact ⟨⟨⟨h1, h2⟩, h3⟩, h4⟩
def m2 (x y : Int) : Int := if y > x then y else x
def m5 (a b c d e : Int) : Int := m2 (m2 (m2 (m2 a b) c) d) e
theorem m2_le (x y s : Int) : m2 x y ≤ s ↔ x ≤ s ∧ y ≤ s := by unfold m2; split <;> omega
theorem m5_le (a b c d e s : Int) : m5 a b c d e ≤ s ↔ a ≤ s ∧ b ≤ s ∧ c ≤ s ∧ d ≤ s ∧ e ≤ s := by
  rw [m5, m2_le, m2_le, m2_le, m2_le]
  constructor
  · rintro ⟨⟨⟨⟨h1, h2⟩, h3⟩, h4⟩, h5⟩; exact ⟨h1, h2, h3, h4, h5⟩
  · rintro ⟨h1, h2, h3, h4, h5⟩; exact ⟨⟨⟨⟨h1, h2⟩, h3⟩, h4⟩, h5⟩
theorem m5_ge (a b c d e : Int) : a ≤ m5 a b c d e := ((m5_le a b c d e _).1 (Int.le_refl _)).1
theorem run_max_int5 (P : Program) (w : World) (ts : Array TypeId) (t : TypeId) (k k1 k2 k3 k4 : IntKind) (a b c d e : Int) : (Builtin.max_ ts t #[.int k a, .int k1 b, .int k2 c, .int k3 d, .int k4 e]).run P w = .ok (.int k (m5 a b c d e)) w := by
  simp [Builtin.max_, Builtin.max2, m5, m2]
attribute [local go_sem] run_max_int5
def DistB (r t : Q4) (w : World) (e : Ending) (w' : World) : Prop := ∃ d : Int, e = .returned (.int .i64 d) ∧ (-100000 ≤ d ∧ d ≤ 100000) ∧ (∀ s, 0 ≤ s → (d ≤ s ↔ cls r t s = true)) ∧ Ext w w'
set_option maxRecDepth 100000 in
set_option maxHeartbeats 4000000 in
theorem cellDistance_any (x y : Q4) (w : World) (hx : Near x) (hy : Near y) :
    Calls Try.prog 140 #[.agg #[.int .i64 x.a, .int .i64 x.b, .int .i64 x.c, .int .i64 x.d], .agg #[.int .i64 y.a, .int .i64 y.b, .int .i64 y.c, .int .i64 y.d]] w (DistB x y w) := by
  unfold Near at hx hy
  obtain ⟨⟨a1, a2⟩, ⟨a3, a4⟩, ⟨a5, a6⟩, a7, a8⟩ := hx
  obtain ⟨⟨b1, b2⟩, ⟨b3, b4⟩, ⟨b5, b6⟩, b7, b8⟩ := hy
  go_enter Try.func140, Try.ntmps140
  go_wp2
  go_ret
  refine ⟨_, rfl, ⟨?_, ?_⟩, fun s hs => ?_, ((Ext.refl w).alloc _).alloc _⟩
  · have := m5_ge 0 (y.a - x.c + 1) (x.a - y.c + 1) (y.b - x.d + 1) (x.b - y.d + 1)
    omega
  · rw [m5_le]; omega
  · rw [m5_le, cls_iff]; omega
/-- Two rows of rectangles are in conflict. -/
def confL (l1 l2 : List Q4) (s : Int) : Bool := l1.any fun r => l2.any fun t => cls r t s
theorem any_hit {α : Type} {p : α → Bool} {l : List α} {k : Nat} {x : α} (hx : l[k]? = some x) (hp : p x = true) : l.any p = true := List.any_eq_true.2 ⟨x, List.mem_of_getElem? hx, hp⟩
set_option maxRecDepth 100000 in
set_option maxHeartbeats 4000000 in
theorem conflict_any (q1 q2 : Option Addr) (n1 n2 c1 c2 : Nat) (l1 l2 : List Q4) (s : Int) (w : World) (h1 : SlT enc4 4 w q1 n1 l1) (h2 : SlT enc4 4 w q2 n2 l2) (hn1 : n1 ≤ 1048576) (hn2 : n2 ≤ 1048576) (v1 : ∀ r ∈ l1, vR r = true) (v2 : ∀ r ∈ l2, vR r = true) (hs0 : 1 ≤ s) (hs8 : s ≤ 8) :
    Calls Try.prog 119 #[.slice q1 n1 c1, .slice q2 n2 c2, .int .i64 s] w fun e w' => e = .returned (.bool (confL l1 l2 s)) ∧ Ext w w' := by
  have hl1 := hid h1.length
  have hl2 := hid h2.length
  replace v1 := hid v1
  replace v2 := hid v2
  go_enter Try.func119, Try.ntmps119
  go_wp2
  go_loopw [13] (fun i wr => ∃ k : Nat, k ≤ n1 ∧ i = .int .i64 k ∧ Hid ((l1.take k).any (fun r => l2.any fun t => cls r t s) = false) ∧ Hid (Ext w wr)) (fun i _ => n1 - (intOf i).toNat)
  case atStart => exact ⟨0, by omega, rfl, rfl, Ext.refl _⟩
  case round =>
    obtain ⟨k, hk, rfl, hno, hE⟩ := hrel
    by_cases hlt : k < n1
    · have hltI : (k : Int) < (n1 : Int) := by omega
      obtain ⟨b, off, x, rfl, hb, hx, z0, z1, z2, z3⟩ := (h1.ext hE.out).four hlt
      have hxv := hid (vR_near (v1.out x (List.mem_of_getElem? hx.out)))
      go_upto_region 4 with (fail)
      generalize hW : wr.alloc _ = W1
      obtain ⟨E1, sz1, b1⟩ := boxes1 hW
      clear hW
      have hB1 : Hid (Blk W1 wr.heap.size [.int .i64 x.a, .int .i64 x.b, .int .i64 x.c, .int .i64 x.d] 50) := b1
      have hEw := hid (hE.out.trans E1)
      obtain ⟨X, hX⟩ : ∃ X, X = wr.heap.size := ⟨_, rfl⟩
      rw [← hX] at hB1 ⊢
      have hst := hid (fun hr : (l2.any fun t => cls x t s) = false => any_take_snoc hno.out hx.out hr)
      have hhit := hid (fun (t : Q4) (m : Nat) (ht : l2[m]? = some t) (hc : cls x t s = true) => (any_hit (p := fun r => l2.any fun t => cls r t s) hx.out (any_hit ht hc) : confL l1 l2 s = true))
      clear b1 sz1 hX E1 hE z0 z1 z2 z3 hb
      go_wp2
      go_loopw [19] (fun i wr => ∃ m : Nat, m ≤ n2 ∧ i = .int .i64 m ∧ Hid ((l2.take m).any (fun t => cls x t s) = false) ∧ Hid (Ext W1 wr)) (fun i _ => n2 - (intOf i).toNat)
      case atStart => exact ⟨0, by omega, rfl, rfl, Ext.refl _⟩
      case round =>
        obtain ⟨m, hm, rfl, hno2, hE2⟩ := hrel
        by_cases hlt2 : m < n2
        · have hltI2 : (m : Int) < (n2 : Int) := by omega
          obtain ⟨b2, off2, y, rfl, hb2, hy, y0, y1, y2, y3⟩ := (h2.ext (hEw.out.trans hE2.out)).four hlt2
          have hyv := hid (vR_near (v2.out y (List.mem_of_getElem? hy.out)))
          go_upto_region 7 with (fail)
          generalize hW : wr.alloc _ = W2
          obtain ⟨E3, sz3, b3⟩ := boxes1 hW
          clear hW
          have hB2 : Blk W2 wr.heap.size [.int .i64 y.a, .int .i64 y.b, .int .i64 y.c, .int .i64 y.d] 50 := b3
          have hB1' := hB1.out.ext (hE2.out.trans E3)
          have g1 := hB1'.cells
          have g2 := hB2.cells
          have p0 := g1 0
          have p1 := g1 1
          have p2 := g1 2
          have p3 := g1 3
          have r0 := g2 0
          have r1 := g2 1
          have r2 := g2 2
          have r3 := g2 3
          simp only [List.getElem?_cons_zero, List.getElem?_cons_succ] at p0 p1 p2 p3 r0 r1 r2 r3
          have hXl := hB1'.lt
          have hYl := hB2.lt
          obtain ⟨Y, hY⟩ : ∃ Y, Y = wr.heap.size := ⟨_, rfl⟩
          rw [← hY] at hYl r0 r1 r2 r3 ⊢
          have hE5 := hid (hE2.out.trans E3)
          clear g1 g2 b3 sz3 hB2 hB1' hY y0 y1 y2 y3 hb2 hE2 E3
          go_wp2_with fail
          refine (cellDistance_any x y _ hxv.out hyv.out).mono ?_
          rintro e w4 ⟨d, rfl, ⟨d1, d2⟩, hds, E4⟩
          have hE6 := hid (hE5.out.trans E4)
          clear p0 p1 p2 p3 r0 r1 r2 r3 hXl hYl
          cases hc : cls x y s with
          | true =>
            have hd : d - 1 < s := by have := (hds s (by omega)).2 hc; omega
            have hr := hid (hhit.out y m hy.out hc)
            have hE7 := hid (hEw.out.trans hE6.out)
            clear hc hds E4
            go_wp2_with fail
            go_ret
            exact ⟨ret_bool hr.out.symm, hE7.out⟩
          | false =>
            have hd : ¬ d - 1 < s := fun h => by have := (hds s (by omega)).1 (by omega); rw [hc] at this; cases this
            have hn := hid (any_take_snoc hno2.out hy.out hc)
            clear hc hds E4
            go_wp2_with fail
            go_roundw
            case rel => exact ⟨m + 1, by omega, by go_num, hn, hE6⟩
            case measure => simp [intOf]; omega
        · have hltI2 : ¬ (m : Int) < (n2 : Int) := by omega
          rw [take_all hl2.out (by omega)] at hno2
          have hn := hst.out hno2.out
          have hn := hid hn
          have hE3 := hid (hEw.out.trans hE2.out)
          go_wp2
          go_roundw
          case rel => exact ⟨k + 1, by omega, by go_num, hn, hE3⟩
          case measure => simp [intOf]; omega
    · have hltI : ¬ (k : Int) < (n1 : Int) := by omega
      rw [take_all hl1.out (by omega)] at hno
      go_wp2
      go_ret
      exact ⟨ret_bool hno.out.symm, hE.out⟩
end Go.Proofs.Ytaigndaabmelhaa

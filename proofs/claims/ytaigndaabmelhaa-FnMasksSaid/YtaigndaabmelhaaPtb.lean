/- Contracts of cellDistance, conflict (program). Condition: at most 2^20 valid rectangles. -/
import Derived.Test.YtaigndaabmelhaaGnr
import Derived.Test.YtaigndaabmelhaaPpc
namespace Go.Proofs.Ytaigndaabmelhaa
open Go.RowKit

/-- Two rectangles have unit cells at a distance of at most s. -/
def cls (r t : Q4) (s : Int) : Bool := decide (t.a - r.c + 1 ≤ s) && decide (r.a - t.c + 1 ≤ s) && decide (t.b - r.d + 1 ≤ s) && decide (r.b - t.d + 1 ≤ s)
theorem cls_iff {r t : Q4} {s : Int} : cls r t s = true ↔ t.a - r.c + 1 ≤ s ∧ r.a - t.c + 1 ≤ s ∧ t.b - r.d + 1 ≤ s ∧ r.b - t.d + 1 ≤ s := by
  simp only [cls, Bool.and_eq_true, decide_eq_true_eq]
  constructor
  · rintro ⟨⟨⟨h1, h2⟩, h3⟩, h4⟩; exact ⟨h1, h2, h3, h4⟩
  · rintro ⟨h1, h2, h3, h4⟩; exact ⟨⟨⟨h1, h2⟩, h3⟩, h4⟩
def m2 (x y : Int) : Int := if y > x then y else x
def m5 (a b c d e : Int) : Int := m2 (m2 (m2 (m2 a b) c) d) e
theorem m2_le (x y s : Int) : m2 x y ≤ s ↔ x ≤ s ∧ y ≤ s := by unfold m2; split <;> omega
theorem m5_le (a b c d e s : Int) : m5 a b c d e ≤ s ↔ a ≤ s ∧ b ≤ s ∧ c ≤ s ∧ d ≤ s ∧ e ≤ s := by
  rw [m5, m2_le, m2_le, m2_le, m2_le]
  constructor
  · rintro ⟨⟨⟨⟨h1, h2⟩, h3⟩, h4⟩, h5⟩; exact ⟨h1, h2, h3, h4, h5⟩
  · rintro ⟨h1, h2, h3, h4, h5⟩; exact ⟨⟨⟨⟨h1, h2⟩, h3⟩, h4⟩, h5⟩
theorem m5_ge (a b c d e : Int) : a ≤ m5 a b c d e := ((m5_le a b c d e _).1 (Int.le_refl _)).1
theorem run_max_int5 (P : Program) (w : World) (ts : Array TypeId) (t : TypeId) (k k1 k2 k3 k4 : IntKind) (a b c d e : Int) : (Builtin.max_ ts t #[.int k a, .int k1 b, .int k2 c, .int k3 d, .int k4 e]).run P w = .ok (.int k (m5 a b c d e)) w := by
  simp [Builtin.max_, Builtin.max2, m5, m2]
attribute [local go_sem] run_max_int5
def DistB (r t : Q4) (w : World) (e : Ending) (w' : World) : Prop := ∃ d : Int, e = .returned (.int .i64 d) ∧ (-100000 ≤ d ∧ d ≤ 100000) ∧ (∀ s, 0 ≤ s → (d ≤ s ↔ cls r t s = true)) ∧ Ext w w'
set_option maxRecDepth 100000 in
set_option maxHeartbeats 4000000 in
theorem cellDistance_any (x y : Q4) (w : World) (hx : Near x) (hy : Near y) :
    Calls Try.prog 140 #[.agg #[.int .i64 x.a, .int .i64 x.b, .int .i64 x.c, .int .i64 x.d], .agg #[.int .i64 y.a, .int .i64 y.b, .int .i64 y.c, .int .i64 y.d]] w (DistB x y w) := by
  unfold Near at hx hy
  obtain ⟨⟨a1, a2⟩, ⟨a3, a4⟩, ⟨a5, a6⟩, a7, a8⟩ := hx
  obtain ⟨⟨b1, b2⟩, ⟨b3, b4⟩, ⟨b5, b6⟩, b7, b8⟩ := hy
  go_enter Try.func140, Try.ntmps140
  go_wp2
  go_ret
  refine ⟨_, rfl, ⟨?_, ?_⟩, fun s hs => ?_, ((Ext.refl w).alloc _).alloc _⟩
  · have := m5_ge 0 (y.a - x.c + 1) (x.a - y.c + 1) (y.b - x.d + 1) (x.b - y.d + 1)
    omega
  · rw [m5_le]; omega
  · rw [m5_le, cls_iff]; omega
/-- Two rows of rectangles are in conflict. -/
def confL (l1 l2 : List Q4) (s : Int) : Bool := l1.any fun r => l2.any fun t => cls r t s
theorem any_hit {α : Type} {p : α → Bool} {l : List α} {k : Nat} {x : α} (hx : l[k]? = some x) (hp : p x = true) : l.any p = true := List.any_eq_true.2 ⟨x, List.mem_of_getElem? hx, hp⟩
set_option maxRecDepth 100000 in
set_option maxHeartbeats 4000000 in
theorem conflict_any (q1 q2 : Option Addr) (n1 n2 c1 c2 : Nat) (l1 l2 : List Q4) (s : Int) (w : World) (h1 : SlT enc4 4 w q1 n1 l1) (h2 : SlT enc4 4 w q2 n2 l2) (hn1 : n1 ≤ 1048576) (hn2 : n2 ≤ 1048576) (v1 : ∀ r ∈ l1, vR r = true) (v2 : ∀ r ∈ l2, vR r = true) (hs0 : 1 ≤ s) (hs8 : s ≤ 8) :
    Calls Try.prog 119 #[.slice q1 n1 c1, .slice q2 n2 c2, .int .i64 s] w fun e w' => e = .returned (.bool (confL l1 l2 s)) ∧ Ext w w' := by
  have hl1 := hid h1.length
  have hl2 := hid h2.length
  replace v1 := hid v1
  replace v2 := hid v2
  go_enter Try.func119, Try.ntmps119
  go_wp2
  go_loopw [13] (fun i wr => ∃ k : Nat, k ≤ n1 ∧ i = .int .i64 k ∧ Hid ((l1.take k).any (fun r => l2.any fun t => cls r t s) = false) ∧ Hid (Ext w wr)) (fun i _ => n1 - (intOf i).toNat)
  case atStart => exact ⟨0, by omega, rfl, rfl, Ext.refl _⟩
  case round =>
    obtain ⟨k, hk, rfl, hno, hE⟩ := hrel
    by_cases hlt : k < n1
    · have hltI : (k : Int) < (n1 : Int) := by omega
      obtain ⟨b, off, x, rfl, hb, hx, z0, z1, z2, z3⟩ := (h1.ext hE.out).four hlt
      have hxv := hid (vR_near (v1.out x (List.mem_of_getElem? hx.out)))
      go_upto_region 4 with (fail)
      generalize hW : wr.alloc _ = W1
      obtain ⟨E1, sz1, b1⟩ := boxes1 hW
      clear hW
      have hB1 : Hid (Blk W1 wr.heap.size [.int .i64 x.a, .int .i64 x.b, .int .i64 x.c, .int .i64 x.d] 50) := b1
      have hEw := hid (hE.out.trans E1)
      obtain ⟨X, hX⟩ : ∃ X, X = wr.heap.size := ⟨_, rfl⟩
      rw [← hX] at hB1 ⊢
      have hst := hid (fun hr : (l2.any fun t => cls x t s) = false => any_take_snoc hno.out hx.out hr)
      have hhit := hid (fun (t : Q4) (m : Nat) (ht : l2[m]? = some t) (hc : cls x t s = true) => (any_hit (p := fun r => l2.any fun t => cls r t s) hx.out (any_hit ht hc) : confL l1 l2 s = true))
      clear b1 sz1 hX E1 hE z0 z1 z2 z3 hb
      go_wp2
      go_loopw [19] (fun i wr => ∃ m : Nat, m ≤ n2 ∧ i = .int .i64 m ∧ Hid ((l2.take m).any (fun t => cls x t s) = false) ∧ Hid (Ext W1 wr)) (fun i _ => n2 - (intOf i).toNat)
      case atStart => exact ⟨0, by omega, rfl, rfl, Ext.refl _⟩
      case round =>
        obtain ⟨m, hm, rfl, hno2, hE2⟩ := hrel
        by_cases hlt2 : m < n2
        · have hltI2 : (m : Int) < (n2 : Int) := by omega
          obtain ⟨b2, off2, y, rfl, hb2, hy, y0, y1, y2, y3⟩ := (h2.ext (hEw.out.trans hE2.out)).four hlt2
          have hyv := hid (vR_near (v2.out y (List.mem_of_getElem? hy.out)))
          go_upto_region 7 with (fail)
          generalize hW : wr.alloc _ = W2
          obtain ⟨E3, sz3, b3⟩ := boxes1 hW
          clear hW
          have hB2 : Blk W2 wr.heap.size [.int .i64 y.a, .int .i64 y.b, .int .i64 y.c, .int .i64 y.d] 50 := b3
          have hB1' := hB1.out.ext (hE2.out.trans E3)
          have g1 := hB1'.cells
          have g2 := hB2.cells
          have p0 := g1 0
          have p1 := g1 1
          have p2 := g1 2
          have p3 := g1 3
          have r0 := g2 0
          have r1 := g2 1
          have r2 := g2 2
          have r3 := g2 3
          simp only [List.getElem?_cons_zero, List.getElem?_cons_succ] at p0 p1 p2 p3 r0 r1 r2 r3
          have hXl := hB1'.lt
          have hYl := hB2.lt
          obtain ⟨Y, hY⟩ : ∃ Y, Y = wr.heap.size := ⟨_, rfl⟩
          rw [← hY] at hYl r0 r1 r2 r3 ⊢
          have hE5 := hid (hE2.out.trans E3)
          clear g1 g2 b3 sz3 hB2 hB1' hY y0 y1 y2 y3 hb2 hE2 E3
          go_wp2_with fail
          refine (cellDistance_any x y _ hxv.out hyv.out).mono ?_
          rintro e w4 ⟨d, rfl, ⟨d1, d2⟩, hds, E4⟩
          have hE6 := hid (hE5.out.trans E4)
          clear p0 p1 p2 p3 r0 r1 r2 r3 hXl hYl
          cases hc : cls x y s with
          | true =>
            have hd : d - 1 < s := by have := (hds s (by omega)).2 hc; omega
            have hr := hid (hhit.out y m hy.out hc)
            have hE7 := hid (hEw.out.trans hE6.out)
            clear hc hds E4
            go_wp2_with fail
            go_ret
            exact ⟨ret_bool hr.out.symm, hE7.out⟩
          | false =>
            have hd : ¬ d - 1 < s := fun h => by have := (hds s (by omega)).1 (by omega); rw [hc] at this; cases this
            have hn := hid (any_take_snoc hno2.out hy.out hc)
            clear hc hds E4
            go_wp2_with fail
            go_roundw
            case rel => exact ⟨m + 1, by omega, by go_num, hn, hE6⟩
            case measure => simp [intOf]; omega
        · have hltI2 : ¬ (m : Int) < (n2 : Int) := by omega
          rw [take_all hl2.out (by omega)] at hno2
          have hn := hst.out hno2.out
          have hn := hid hn
          have hE3 := hid (hEw.out.trans hE2.out)
          go_wp2
          go_roundw
          case rel => exact ⟨k + 1, by omega, by go_num, hn, hE3⟩
          case measure => simp [intOf]; omega
    · have hltI : ¬ (k : Int) < (n1 : Int) := by omega
      rw [take_all hl1.out (by omega)] at hno
      go_wp2
      go_ret
      exact ⟨ret_bool hno.out.symm, hE.out⟩
end Go.Proofs.Ytaigndaabmelhaa
/- Contract of conflictTable (program). Condition: at most 12 parts of valid rectangles, a spacing from 1 to 8. -/
namespace Go.Proofs.Ytaigndaabmelhaa
open Go.RowKit

/-- Parts i and k are in conflict. -/
def tbB (L : List (List Q4)) (s : Int) (i k : Nat) : Bool := !decide (i = k) && confL (L.getD i []) (L.getD k []) s
def tabR (L : List (List Q4)) (s : Int) (i m : Nat) : List Bool := (List.range m).map fun k => tbB L s i k
def tabN (L : List (List Q4)) (s : Int) (m : Nat) : List (List Bool) := (List.range m).map fun i => tabR L s i L.length
def tabL (L : List (List Q4)) (s : Int) : List (List Bool) := tabN L s L.length
theorem tabR_len (L : List (List Q4)) (s : Int) (i m : Nat) : (tabR L s i m).length = m := by simp [tabR]
theorem tabN_len (L : List (List Q4)) (s : Int) (m : Nat) : (tabN L s m).length = m := by simp [tabN]
theorem tabL_len (L : List (List Q4)) (s : Int) : (tabL L s).length = L.length := tabN_len _ _ _
theorem tabR_succ (L : List (List Q4)) (s : Int) (i m : Nat) : tabR L s i (m + 1) = tabR L s i m ++ [tbB L s i m] := by simp [tabR, List.range_succ]
theorem tabN_succ (L : List (List Q4)) (s : Int) (m : Nat) : tabN L s (m + 1) = tabN L s m ++ [tabR L s m L.length] := by simp [tabN, List.range_succ]
def flB (T : List (List Bool)) : List (List Value) := T.map (·.flatMap encb)
theorem flB_snoc (T : List (List Bool)) (r : List Bool) : flB (T ++ [r]) = flB T ++ [r.flatMap encb] := by simp [flB]
def TabB (T : List (List Bool)) (w : World) (e : Ending) (w' : World) : Prop := ∃ (q : Option Addr) (c : Nat) (H : List Hd), e = .returned (.slice q T.length c) ∧ OwnG 79 4 1 w.heap.size w' q T.length c H (flB T) ∧ Ext w w'
set_option maxRecDepth 100000 in
set_option maxHeartbeats 4000000 in
theorem conflictTable_any (q : Option Addr) (n c : Nat) (L : List (List Q4)) (s : Int) (w : World) (h : SlR enc4 4 w q n L) (hn : n ≤ 1000) (hv : ∀ l ∈ L, l.length ≤ 3200 ∧ ∀ r ∈ l, vR r = true) (hs0 : 1 ≤ s) (hs8 : s ≤ 8) :
    Calls Try.prog 73 #[.slice q n c, .int .i64 s] w (TabB (tabL L s) w) := by
  have hl := hid h.length
  replace hv := hid hv
  obtain ⟨i0, hi, hz0, hz1, hz2⟩ := info_parts info_BB
  obtain ⟨j0, hj, hy0, hy1, hy2⟩ := info_parts info_Bool
  go_enter Try.func73, Try.ntmps73
  go_upto_region 2 with (fail)
  have ho0 : (w.alloc (.cells #[] 79)).ownsRow w.heap.size 79 1 (.slice (some ⟨w.heap.size, 0, none⟩) 0 0) 0 [] := by
    have := World.ownsRow_made (base := w.heap.size) (e := 79) (size := 1) w #[] 0 (by simp) (by simp [maxLen]) (by simp)
    exact this
  generalize hW : w.alloc _ = W0 at ho0 ⊢
  have E0 : Ext w W0 := by rw [← hW]; exact (Ext.refl _).alloc _
  clear hW
  replace ho0 := hid ho0
  replace E0 := hid E0
  go_wp2
  go_loopw [5, 14] (fun vo iv wo => ∃ (k : Nat) (qo : Option Addr) (co : Nat) (H : List Hd), k ≤ n ∧ iv = .int .i64 k ∧ vo = .slice qo k co ∧ Hid (OwnG 79 4 1 w.heap.size wo qo k co H (flB (tabN L s k))) ∧ Hid (Ext w wo)) (fun _ i _ => n - (intOf i).toNat)
  case atStart => exact ⟨0, _, _, [], by omega, rfl, rfl, OwnG.start ho0.out, E0⟩
  case round =>
    clear ho0 E0
    obtain ⟨k, qo, co, H, hk, rfl, rfl, ho, hE⟩ := hrel
    rename World => wo
    by_cases hlt : k < n
    · have hltI : (k : Int) < (n : Int) := by omega
      obtain ⟨b, off, q1, n1, c1, l1, rfl, hb, hl1, z, t1⟩ := (h.ext hE.out).get hlt
      have t1 := hid t1
      have g1 := hid (hv.out l1 (List.mem_of_getElem? hl1.out))
      go_upto_region 6 with (fail)
      have hr0 : (wo.alloc (.cells #[] 4)).ownsRow wo.heap.size 4 1 (.slice (some ⟨wo.heap.size, 0, none⟩) 0 0) 0 [] := by
        have := World.ownsRow_made (base := wo.heap.size) (e := 4) (size := 1) wo #[] 0 (by simp) (by simp [maxLen]) (by simp)
        exact this
      generalize hW : wo.alloc _ = W1 at hr0 ⊢
      have E1 : Ext wo W1 := by rw [← hW]; exact (Ext.refl _).alloc _
      clear hW z hb
      replace hr0 := hid hr0
      replace E1 := hid E1
      go_wp2
      go_loopw [8, 22] (fun vr iv wr => ∃ (m : Nat) (qr : Option Addr) (cr : Nat), m ≤ n ∧ iv = .int .i64 m ∧ vr = .slice qr m cr ∧ Hid (wr.ownsRow wo.heap.size 4 1 (.slice qr m cr) m ((tabR L s k m).flatMap encb)) ∧ Hid (Ext wo wr)) (fun _ i _ => n - (intOf i).toNat)
      case atStart => exact ⟨0, _, _, by omega, rfl, rfl, hr0, E1⟩
      case round =>
        clear hr0 E1
        obtain ⟨m, qr, cr, hm, rfl, rfl, hrow, hE2⟩ := hrel
        by_cases hltm : m < n
        · have hltmI : (m : Int) < (n : Int) := by omega
          obtain ⟨b', off', q2, n2, c2, l2, e9, hb, hl2, z, t2⟩ := (h.ext (hE.out.trans hE2.out)).get hltm
          cases e9
          have t2 := hid t2
          have g2 := hid (hv.out l2 (List.mem_of_getElem? hl2.out))
          have hEw := hid (hE.out.trans hE2.out)
          by_cases hkm : k = m
          · subst hkm
            have hval : Hid (tabR L s k (k + 1) = tabR L s k k ++ [false]) := by show _ = _; rw [tabR_succ, tbB]; simp
            have hsz := hE2.out.le
            go_wp2_with (at_builtin; refine wpList_append_own_at _ rfl _ _ 79 rfl wo.heap.size 4 j0 (.bool false) 1 1 Try.underlying79 hj hy0 hy1 hy2 rfl (by omega) _ _ _ rfl (hrow.out.alloc _) ⟨_, 0, none⟩ 1 1 [.bool false] rfl rfl (cells_new1 _ _ _) (one_b _) (len_le (by omega) (by omega)) (by omega) (by simp; omega) ?_; intro v' w9 ho' hg' _ hb'; obtain ⟨qa, ca, rfl⟩ := owns_forms ho'; replace ho' := hid ho'; replace hg' := hid hg')
            go_roundw
            case rel => exact ⟨k + 1, qa, ca, by omega, by go_num, rfl, by rw [hval.out, List.flatMap_append]; exact ho'.out, (hE2.out.alloc _).grown hg'.out (fun g hg => (hrow.out.lt g hg).1)⟩
            case measure => simp [intOf]; omega
          · have hkmI : ((k : Int) != (m : Int)) = true := by simp; omega
            have hval : Hid (tabR L s k (m + 1) = tabR L s k m ++ [confL l1 l2 s]) := by
              show _ = _
              rw [tabR_succ, tbB, getD_of hl1.out, getD_of hl2.out, decide_eq_false hkm]; rfl
            have hcf := hid (conflict_any q1 q2 n1 n2 c1 c2 l1 l2 s _ (t1.out.ext hE2.out) t2.out (by have := t1.out.length; have := g1.out.1; omega) (by have := t2.out.length; have := g2.out.1; omega) g1.out.2 g2.out.2 hs0 hs8)
            go_wp2_with fail
            refine hcf.out.mono ?_
            rintro e w5 ⟨rfl, E5⟩
            have hrow5 := hid (owns_ext hrow.out E5)
            have hE5 := hid (hE2.out.trans E5)
            have hsz := hE5.out.le
            obtain ⟨cv, hcv⟩ : ∃ cv, cv = confL l1 l2 s := ⟨_, rfl⟩
            rw [← hcv] at hval ⊢
            clear hcf E5 hcv
            go_wp2_with (at_builtin; refine wpList_append_own_at _ rfl _ _ 79 rfl wo.heap.size 4 j0 (.bool false) 1 1 Try.underlying79 hj hy0 hy1 hy2 rfl (by omega) _ _ _ rfl (hrow5.out.alloc _) ⟨_, 0, none⟩ 1 1 [.bool cv] rfl rfl (cells_new1 _ _ _) (one_b _) (len_le (by omega) (by omega)) (by omega) (by simp; omega) ?_; intro v' w9 ho' hg' _ hb'; obtain ⟨qa, ca, rfl⟩ := owns_forms ho'; replace ho' := hid ho'; replace hg' := hid hg')
            go_roundw
            case rel => exact ⟨m + 1, qa, ca, by omega, by go_num, rfl, by rw [hval.out, List.flatMap_append]; exact ho'.out, (hE5.out.alloc _).grown hg'.out (fun g hg => (hrow5.out.lt g hg).1)⟩
            case measure => simp [intOf]; omega
        · have hltmI : ¬ (m : Int) < (n : Int) := by omega
          obtain rfl : m = n := by omega
          have hval : Hid (tabN L s (k + 1) = tabN L s k ++ [tabR L s k m]) := by show _ = _; rw [tabN_succ, hl.out]
          have hEw := hid (hE.out.trans hE2.out)
          have hsz := hE.out.le
          have hsz2 := hE2.out.le
          have htop := hid (owns_ext ho.out.top hE2.out)
          go_wp2_with (at_builtin; refine wpList_append_own_at _ rfl _ _ 76 rfl w.heap.size 79 i0 (.slice none 0 0) 1 24 Try.underlying76 hi hz0 hz1 hz2 rfl (by omega) _ _ _ rfl (htop.out.alloc _) ⟨_, 0, none⟩ 1 1 [.slice qr m cr] rfl rfl (cells_new1 _ _ _) (one_hd1 _ _ _) (len_le (by omega) (by omega)) (by omega) (by simp; omega) ?_; intro v' w9 ho' hg' _ hb'; obtain ⟨qa, ca, rfl⟩ := owns_forms ho'; replace ho' := hid ho'; replace hg' := hid hg'; replace hb' := hid hb')
          go_roundw
          case rel => exact ⟨k + 1, qa, ca, _, by omega, by go_num, rfl, by rw [hval.out, flB_snoc]; exact ho.out.more hE.out.le hrow.out hE2.out _ ho'.out hg'.out hb'.out, (hEw.out.alloc _).grown hg'.out (fun g hg => (htop.out.lt g hg).1)⟩
          case measure => simp [intOf]; omega
    · have hltI : ¬ (k : Int) < (n : Int) := by omega
      obtain rfl : k = n := by omega
      have hT : Hid ((tabL L s).length = k) := (tabL_len L s).trans hl.out
      have hT2 : Hid (tabN L s k = tabL L s) := by show _ = _; rw [tabL, hl.out]
      go_wp2
      go_ret
      rw [TabB, hT.out, ← hT2.out]
      exact ⟨qo, co, H, rfl, ho.out, hE.out⟩
end Go.Proofs.Ytaigndaabmelhaa
/- Contract of patternTable (program). Condition: at most 2^20 rectangles. -/
namespace Go.Proofs.Ytaigndaabmelhaa
open Go.RowKit

/-- The code of patternTable, and its parts. -/
def ptC (l : List Q4) (s : Int) : Int := if ppC l = 0 then (if 1 ≤ s ∧ s ≤ 8 then 0 else 2) else ppC l
def ptL (l : List Q4) (s : Int) : List (List Q4) := if ptC l s = 0 then (ppG l).map canon else []
theorem ptC_no {l : List Q4} {s : Int} (h : ¬ ppC l = 0) : ptC l s = ppC l ∧ ptL l s = [] := by
  have h1 : ptC l s = ppC l := by rw [ptC, if_neg h]
  exact ⟨h1, by rw [ptL, h1, if_neg h]⟩
theorem ptC_range {l : List Q4} {s : Int} (h : ppC l = 0) (h2 : ¬ (1 ≤ s ∧ s ≤ 8)) : ptC l s = 2 ∧ ptL l s = [] := by
  have h1 : ptC l s = 2 := by rw [ptC, if_pos h, if_neg h2]
  exact ⟨h1, by rw [ptL, h1, if_neg (by omega)]⟩
theorem ptC_ok {l : List Q4} {s : Int} (h : ppC l = 0) (h2 : 1 ≤ s ∧ s ≤ 8) : ptC l s = 0 ∧ ptL l s = (ppG l).map canon := by
  have h1 : ptC l s = 0 := by rw [ptC, if_pos h, if_pos h2]
  exact ⟨h1, by rw [ptL, if_pos h1]⟩
theorem ppG_zero {l : List Q4} (h : ¬ ppC l = 0) : ppG l = [] := by
  rw [ppC] at h
  rw [ppG]
  split at h
  · rename_i h1
    rw [if_pos h1]
    split at h
    · rename_i h2; rw [if_pos h2]
    · exact absurd rfl h
  · rename_i h1; rw [if_neg h1]
theorem ptL_len (l : List Q4) (s : Int) : (ptL l s).length ≤ 12 := by
  rw [ptL]; split
  · rw [List.length_map]; exact ppG_len l
  · simp
theorem parts_ok (G : List Grid) : ∀ l ∈ G.map canon, l.length ≤ 3200 ∧ ∀ r ∈ l, vR r = true := by
  intro l hl
  rw [List.mem_map] at hl
  obtain ⟨g, _, rfl⟩ := hl
  exact vRs_parts (canon_valid g)
theorem ptL_ok (l : List Q4) (s : Int) : ∀ x ∈ ptL l s, x.length ≤ 3200 ∧ ∀ r ∈ x, vR r = true := by
  rw [ptL]; split
  · exact parts_ok _
  · intro x hx; simp at hx
def PtTab (l : List Q4) (s : Int) (w : World) (e : Ending) (w' : World) : Prop := ∃ (q : Option Addr) (c : Nat) (q2 : Option Addr) (c2 : Nat), e = .returned (.tuple #[.slice q (ptL l s).length c, .slice q2 (ptL l s).length c2, .int .i64 (ptC l s)]) ∧
  SlR enc4 4 w' q (ptL l s).length (ptL l s) ∧ SlR encb 1 w' q2 (ptL l s).length (tabL (ptL l s) s) ∧ Ext w w'
/-- The same, and the capacity of the parts' row. -/
def PtTabC (l : List Q4) (s : Int) (w : World) (e : Ending) (w' : World) : Prop := ∃ (q : Option Addr) (c : Nat) (q2 : Option Addr) (c2 : Nat), e = .returned (.tuple #[.slice q (ptL l s).length c, .slice q2 (ptL l s).length c2, .int .i64 (ptC l s)]) ∧
  (ptL l s).length ≤ c ∧ SlR enc4 4 w' q (ptL l s).length (ptL l s) ∧ SlR encb 1 w' q2 (ptL l s).length (tabL (ptL l s) s) ∧ Ext w w'
set_option maxRecDepth 100000 in
set_option maxHeartbeats 4000000 in
theorem patternTable_cap (q : Option Addr) (n c : Nat) (l : List Q4) (s : Int) (w : World) (h : SlT enc4 4 w q n l) (hn : n ≤ 1048576) :
    Calls Try.prog 65 #[.slice q n c, .int .i64 s] w (PtTabC l s w) := by
  have hp := hid (PatternParts_any q n c l w h hn)
  have hgl := ppG_len l
  have hwi := fun W => within_any s 1 8 W
  have hwb : wit s 1 8 = true ↔ (1 ≤ s ∧ s ≤ 8) := wit_iff
  by_cases h0 : ppC l = 0
  · cases hw : wit s 1 8 with
    | true =>
      have hs := hwb.1 hw
      rw [hw] at hwi
      replace hwi := hid hwi
      have hc := hid (ptC_ok h0 hs)
      have hok := hid (parts_ok (ppG l))
      obtain ⟨P, hP⟩ : ∃ P, P = (ppG l).map canon := ⟨_, rfl⟩
      obtain ⟨m, hm⟩ : ∃ m, m = (ppG l).length := ⟨_, rfl⟩
      have hPm : P.length = m := by rw [hP, hm, List.length_map]
      rw [← hP] at hok hc
      obtain ⟨hs1, hs8⟩ := hs
      clear hw hwb
      go_enter Try.func65, Try.ntmps65
      go_wp2_with fail
      refine hp.out.mono ?_
      rintro e w1 ⟨q1, c1, H, rfl, o1, E1⟩
      rw [h0]
      rw [← hm] at o1 hgl ⊢
      have hcap := hid (owns_cap o1.top)
      have hr := hid (o1.toS.toR)
      rw [← hP] at hr
      replace hm := hid hm
      replace hP := hid hP
      replace hPm := hid hPm
      replace h0 := hid h0
      clear o1
      go_wp2_with fail
      refine (hwi.out _).mono ?_
      rintro e w2 ⟨rfl, rfl⟩
      go_wp2_with fail
      refine (conflictTable_any q1 m c1 P s _ hr.out (by omega) hok.out hs1 hs8).mono ?_
      rintro e w3 ⟨q2, c2, H2, rfl, o2, E2⟩
      have hT : Hid ((tabL P s).length = m) := (tabL_len P s).trans hPm.out
      rw [hT.out] at o2 ⊢
      have hr2 := hid (o2.toR (enc := encb) (L := tabL P s) (by omega) encb_len)
      have hr1 := hid (hr.out.ext E2)
      have hE := hid (E1.trans E2)
      clear o2
      go_wp2_with fail
      refine bodyPost_ret (results_tmp3 rfl _ _ _) rfl ?_
      rw [PtTabC, hc.out.1, hc.out.2, hPm.out]
      exact ⟨q1, c1, q2, c2, rfl, hcap.out, hr1.out, hr2.out, hE.out⟩
    | false =>
      have hs : ¬ (1 ≤ s ∧ s ≤ 8) := fun h => by rw [hwb.2 h] at hw; cases hw
      rw [hw] at hwi
      replace hwi := hid hwi
      have hc := hid (ptC_range h0 hs)
      clear hw hwb hs
      go_enter Try.func65, Try.ntmps65
      go_wp2_with fail
      refine hp.out.mono ?_
      rintro e w1 ⟨q1, c1, H, rfl, o1, E1⟩
      rw [h0]
      replace h0 := hid h0
      replace o1 := hid o1
      go_wp2_with fail
      refine (hwi.out _).mono ?_
      rintro e w2 ⟨rfl, rfl⟩
      go_wp2_with fail
      refine bodyPost_ret (results_tmp3 rfl _ _ _) rfl ?_
      rw [PtTabC, hc.out.1, hc.out.2]
      exact ⟨none, 0, none, 0, rfl, Nat.le_refl _, SlR.nil _ _, SlR.nil _ _, E1⟩
  · have hc := hid (ptC_no (s := s) h0)
    have hB1 : decide (ppC l = 0) = false := decide_eq_false h0
    have hB2 : (ppC l == 0) = false := by simpa using h0
    have hB3 : (ppC l != 0) = true := by simp [h0]
    obtain ⟨C, hC⟩ : ∃ C, C = ppC l := ⟨_, rfl⟩
    rw [← hC] at h0 hB1 hB2 hB3 hc
    clear hwb
    go_enter Try.func65, Try.ntmps65
    go_wp2_with fail
    refine hp.out.mono ?_
    rintro e w1 ⟨q1, c1, H, rfl, o1, E1⟩
    rw [← hC]
    replace hC := hid hC
    replace o1 := hid o1
    go_wp2_with fail
    refine bodyPost_ret (results_tmp3 rfl _ _ _) rfl ?_
    rw [PtTabC, hc.out.1, hc.out.2]
    exact ⟨none, 0, none, 0, rfl, Nat.le_refl _, SlR.nil _ _, SlR.nil _ _, E1⟩
theorem patternTable_any (q : Option Addr) (n c : Nat) (l : List Q4) (s : Int) (w : World) (h : SlT enc4 4 w q n l) (hn : n ≤ 1048576) :
    Calls Try.prog 65 #[.slice q n c, .int .i64 s] w (PtTab l s w) :=
  (patternTable_cap q n c l s w h hn).mono fun _ _ ⟨q1, c1, q2, c2, h1, _, h3, h4, h5⟩ => ⟨q1, c1, q2, c2, h1, h3, h4, h5⟩
end Go.Proofs.Ytaigndaabmelhaa

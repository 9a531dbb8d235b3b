/- Contracts of unionAll, RectsOverlap, meet, covers, ClipRegion (program). Condition: valid rectangles. -/
import Derived.Test.YtaigndaabmelhaaRws
import Derived.Test.YtaigndaabmelhaaCov
import Derived.Test.YtaigndaabmelhaaClr
import Derived.Deep.Cut
namespace Go.Proofs.Ytaigndaabmelhaa
open Go.RowKit

theorem owns_lowM {w : World} {b b' size n : Nat} {e : TypeId} {v : Value} {xs : List Value} (h : w.ownsRow b e size v n xs) (hb : b' ≤ b) : w.ownsRow b' e size v n xs :=
  ⟨h.1, h.2.elim Or.inl (fun ⟨g, cap, cur, hv, hg, r⟩ => Or.inr ⟨g, cap, cur, hv, Nat.le_trans hb hg, r⟩)⟩
theorem Blk.quad {w : World} {P : Nat} {x : Q4} {t : TypeId} (h : Blk w P [.int .i64 x.a, .int .i64 x.b, .int .i64 x.c, .int .i64 x.d] t) :
    P < w.heap.size ∧ w.cell? ⟨P, 0, none⟩ = some (.int .i64 x.a) ∧ w.cell? ⟨P, 1, none⟩ = some (.int .i64 x.b) ∧ w.cell? ⟨P, 2, none⟩ = some (.int .i64 x.c) ∧ w.cell? ⟨P, 3, none⟩ = some (.int .i64 x.d) :=
  ⟨h.lt, h.cells 0, h.cells 1, h.cells 2, h.cells 3⟩
theorem gL_app (A : List Q4) (r : Q4) : gcells (gmk fun x y => gh (gL A) x y || inR r x y) = gcells (gL (A ++ [r])) := by
  rw [gL, gL]
  refine gmk_ext fun x y hc => ?_
  rw [gh_gmk _ hc, inL, inL, List.any_append]; simp
set_option maxRecDepth 100000 in
set_option maxHeartbeats 4000000 in
theorem unionAll_any (q : Option Addr) (n c : Nat) (L : List (List Q4)) (w : World) (h : SlS w q n L) (hn : n ≤ 1048576) (hv : ∀ l ∈ L, l.length ≤ 1048576 ∧ ∀ r ∈ l, Near r) :
    Calls Try.prog 74 #[.slice q n c] w (RegB (canon (gL L.flatten)) w) := by
  have hl := hid h.length
  replace hv := hid hv
  go_enter Try.func74, Try.ntmps74
  go_wp2
  generalize hW : w.alloc _ = W0
  obtain ⟨E0, z0, b0⟩ := boxes1 hW
  clear hW
  have hb0 : Blk W0 w.heap.size (gcells (gL (L.take 0).flatten)) 109 := by
    rw [zeroCells] at b0
    show W0.heap[w.heap.size]? = _
    rw [b0]
    simp only [List.take_zero, List.flatten_nil, gL, ← inL_nil]
  clear b0
  obtain ⟨B, hB⟩ : ∃ B, B = w.heap.size := ⟨_, rfl⟩
  rw [← hB] at hb0 ⊢
  replace hB := hid hB
  replace z0 := hid z0
  replace hb0 := hid hb0
  replace E0 := hid E0
  go_loopw [12] (fun i wr => ∃ k : Nat, k ≤ n ∧ i = .int .i64 k ∧ Hid (Ext w wr) ∧ Hid (Blk wr B (gcells (gL (L.take k).flatten)) 109)) (fun i _ => n - (intOf i).toNat)
  case atStart => exact ⟨0, by omega, rfl, E0, hb0⟩
  case round =>
    clear hb0 E0 W0 z0
    obtain ⟨k, hk, rfl, hE, hb⟩ := hrel
    by_cases hlt : k < n
    · have hltI : (k : Int) < (n : Int) := by omega
      obtain ⟨b, off, q1, n1, c1, l1, rfl, hbn, hl1, z, t1⟩ := h.get hlt
      have z := (hE.out.cells b (off + k) hbn).trans z
      have hbn := Nat.lt_of_lt_of_le hbn hE.out.le
      have hvl := hid (hv.out l1 (List.mem_of_getElem? hl1.out))
      have hln := hid t1.length
      have t1 := hid t1
      have hn1 : n1 ≤ 1048576 := by rw [← hln.out]; exact hvl.out.1
      have hsn : Hid (gcells (gL ((L.take k).flatten ++ l1)) = gcells (gL (L.take (k + 1)).flatten)) := by show _ = _; rw [take_snoc hl1.out, List.flatten_append]; simp
      obtain ⟨A, hA⟩ : ∃ A, A = (L.take k).flatten := ⟨_, rfl⟩
      rw [← hA] at hb hsn
      have hb' : Hid (Blk wr B (gcells (gL (A ++ l1.take 0))) 109) := by rw [List.take_zero, List.append_nil]; exact hb
      clear hA hb
      go_wp2
      go_loopw [18] (fun i wr => ∃ j : Nat, j ≤ n1 ∧ i = .int .i64 j ∧ Hid (Ext w wr) ∧ Hid (Blk wr B (gcells (gL (A ++ l1.take j))) 109)) (fun i _ => n1 - (intOf i).toNat)
      case atStart => exact ⟨0, by omega, rfl, hE, hb'⟩
      case round =>
        clear hE hb' z hbn
        obtain ⟨j, hj, rfl, hE, hb⟩ := hrel
        by_cases hlt2 : j < n1
        · have hltI2 : (j : Int) < (n1 : Int) := by omega
          obtain ⟨b2, off2, x, rfl, hbn, hx, c0, c1, c2, c3⟩ := (t1.out.ext hE.out).four hlt2
          have hBl := hb.out.lt
          have hvx := hid (hvl.out.2 x (List.mem_of_getElem? hx.out))
          have hsx : Hid (gcells (gmk fun u v => gh (gL (A ++ l1.take j)) u v || inR x u v) = gcells (gL (A ++ l1.take (j + 1)))) := by show _ = _; rw [gL_app, take_snoc hx.out, List.append_assoc]
          clear hbn
          go_wp2_with fail
          have hb1 := hb.out.alloc (.cells #[.int .i64 x.a, .int .i64 x.b, .int .i64 x.c, .int .i64 x.d] 50)
          refine (put_any B _ x _ hb1 hvx.out).mono ?_
          rintro e w1 ⟨rfl, hb2, hM⟩
          rw [hsx.out] at hb2
          have hE1 := hid ((hE.out.alloc (.cells #[.int .i64 x.a, .int .i64 x.b, .int .i64 x.c, .int .i64 x.d] 50)).then hM (by intro k hk; simp at hk; rw [hk, hB.out]; omega))
          clear hM c0 c1 c2 c3 hb1
          replace hb2 := hid hb2
          go_wp2_with fail
          go_roundw
          case rel => exact ⟨j + 1, by omega, by go_num, hE1, hb2⟩
          case measure => simp [intOf]; omega
        · have hltI2 : ¬ (j : Int) < (n1 : Int) := by omega
          rw [take_all hln.out (by omega), hsn.out] at hb
          go_wp2_with fail
          go_roundw
          case rel => exact ⟨k + 1, by omega, by go_num, hE, hb⟩
          case measure => simp [intOf]; omega
    · have hltI : ¬ (k : Int) < (n : Int) := by omega
      rw [take_all hl.out (by omega)] at hb
      go_wp2_with fail
      refine (region_any B _ _ hb.out).mono ?_
      rintro e w1 ⟨q1, c1, rfl, o1, E1⟩
      have hE1 := hid (hE.out.trans E1)
      have o1 := hid (owns_lowM o1 hE.out.le)
      clear E1
      go_wp2_with fail
      go_ret
      exact ⟨q1, c1, rfl, o1.out, hE1.out⟩
/-- Two rectangles have a unit cell in common. -/
def ovl (r t : Q4) : Bool := (vR r && vR t) && vR (comQ r t)
theorem inR_com (p q : Q4) (x y : Int) : inR (comQ p q) x y = (inR p x y && inR q x y) := by
  rw [Bool.eq_iff_iff, Bool.and_eq_true, inR_iff, inR_iff, inR_iff]
  simp only [comQ]
  omega
theorem ovl_iff {r t : Q4} (hr : vR r = true) (ht : vR t = true) : ovl r t = true ↔ ∃ x y, inR r x y = true ∧ inR t x y = true := by
  rw [ovl, hr, ht, Bool.and_self, Bool.true_and]
  have h1 := vR_iff.1 hr
  have h2 := vR_iff.1 ht
  constructor
  · intro h
    have h3 := vR_iff.1 h
    have h4 : inR (comQ r t) (comQ r t).a (comQ r t).b = true := inR_iff.2 (by omega)
    rw [inR_com, Bool.and_eq_true] at h4
    exact ⟨_, _, h4.1, h4.2⟩
  · rintro ⟨x, y, h3, h4⟩
    have h5 : inR (comQ r t) x y = true := by rw [inR_com, h3, h4]; rfl
    rw [inR_iff] at h5
    simp only [comQ] at h5
    rw [vR_iff]
    simp only [comQ]
    omega
set_option maxRecDepth 100000 in
set_option maxHeartbeats 4000000 in
theorem RectsOverlap_any (p q : Q4) (w : World) :
    Calls Try.prog 120 #[.agg #[.int .i64 p.a, .int .i64 p.b, .int .i64 p.c, .int .i64 p.d], .agg #[.int .i64 q.a, .int .i64 q.b, .int .i64 q.c, .int .i64 q.d]] w
      fun e w' => e = .returned (.bool (ovl p q)) ∧ Ext w w' := by
  have k1 := fun W => IsValidRect_any p W
  have k2 := fun W => IsValidRect_any q W
  have k3 := fun W => IsValidRect_any (comQ p q) W
  have k4 := hid (fun W => common_any p q W)
  have hr : Hid (ovl p q = ((vR p && vR q) && vR (comQ p q))) := rfl
  obtain ⟨C, hC⟩ : ∃ C, C = comQ p q := ⟨_, rfl⟩
  rw [← hC] at k3 k4 hr
  clear hC
  obtain ⟨b1, h1⟩ : ∃ b, b = vR p := ⟨_, rfl⟩
  obtain ⟨b2, h2⟩ : ∃ b, b = vR q := ⟨_, rfl⟩
  obtain ⟨b3, h3⟩ : ∃ b, b = vR C := ⟨_, rfl⟩
  rw [← h1] at k1 hr
  rw [← h2] at k2 hr
  rw [← h3] at k3 hr
  replace k1 := hid k1
  replace k2 := hid k2
  replace k3 := hid k3
  clear h1 h2 h3
  go_enter Try.func120, Try.ntmps120
  go_upto_region 1 with (fail)
  generalize hW : (w.alloc _).alloc _ = W0
  obtain ⟨E0, z0, bp, bq⟩ := boxes2 hW
  clear hW
  have bp := hid (show Blk W0 w.heap.size [.int .i64 p.a, .int .i64 p.b, .int .i64 p.c, .int .i64 p.d] _ from bp)
  have bq := hid (show Blk W0 (w.heap.size + 1) [.int .i64 q.a, .int .i64 q.b, .int .i64 q.c, .int .i64 q.d] _ from bq)
  obtain ⟨P, hP⟩ : ∃ P, P = w.heap.size := ⟨_, rfl⟩
  rw [← hP] at bp bq ⊢
  replace hP := hid hP
  replace z0 := hid z0
  replace E0 := hid E0
  obtain ⟨p9, p0, p1, p2, p3⟩ := bp.out.quad
  obtain ⟨q9, q0, q1, q2, q3⟩ := bq.out.quad
  cases b1 with
  | false =>
    go_wp2_with fail
    refine (k1.out _).mono ?_
    rintro e w1 ⟨rfl, E1⟩
    clear p0 p1 p2 p3 q0 q1 q2 q3 p9 q9
    go_wp2_with fail
    go_ret
    exact ⟨ret_bool hr.out.symm, E0.out.trans E1⟩
  | true =>
    go_wp2_with fail
    refine (k1.out _).mono ?_
    rintro e w1 ⟨rfl, E1⟩
    clear p0 p1 p2 p3 q0 q1 q2 q3 p9 q9
    obtain ⟨p9, p0, p1, p2, p3⟩ := (bp.out.ext E1).quad
    obtain ⟨q9, q0, q1, q2, q3⟩ := (bq.out.ext E1).quad
    replace E1 := hid E1
    cases b2 with
    | false =>
      go_wp2_with fail
      refine (k2.out _).mono ?_
      rintro e w2 ⟨rfl, E2⟩
      clear p0 p1 p2 p3 q0 q1 q2 q3 p9 q9
      go_wp2_with fail
      go_ret
      exact ⟨ret_bool hr.out.symm, E0.out.trans (E1.out.trans E2)⟩
    | true =>
      go_wp2_with fail
      refine (k2.out _).mono ?_
      rintro e w2 ⟨rfl, E2⟩
      clear p0 p1 p2 p3 q0 q1 q2 q3 p9 q9
      obtain ⟨p9, p0, p1, p2, p3⟩ := (bp.out.ext (E1.out.trans E2)).quad
      obtain ⟨q9, q0, q1, q2, q3⟩ := (bq.out.ext (E1.out.trans E2)).quad
      replace E2 := hid (E1.out.trans E2)
      go_wp2_with fail
      refine (k4.out _).mono ?_
      rintro e w3 ⟨rfl, E3⟩
      clear p0 p1 p2 p3 q0 q1 q2 q3 p9 q9
      replace E3 := hid (E2.out.trans E3)
      go_wp2_with fail
      refine (k3.out _).mono ?_
      rintro e w4 ⟨rfl, E4⟩
      go_wp2_with fail
      go_ret
      exact ⟨ret_bool hr.out.symm, E0.out.trans (E3.out.trans E4)⟩
/-- Two lists of rectangles have a unit cell in common. -/
def meetL (l1 l2 : List Q4) : Bool := l1.any fun r => l2.any fun t => ovl r t
theorem any_hitM {α : Type} {p : α → Bool} {l : List α} {k : Nat} {x : α} (hx : l[k]? = some x) (hp : p x = true) : l.any p = true := List.any_eq_true.2 ⟨x, List.mem_of_getElem? hx, hp⟩
set_option maxRecDepth 100000 in
set_option maxHeartbeats 4000000 in
theorem meet_any (q1 q2 : Option Addr) (n1 n2 c1 c2 : Nat) (l1 l2 : List Q4) (w : World) (h1 : SlT enc4 4 w q1 n1 l1) (h2 : SlT enc4 4 w q2 n2 l2) (hn1 : n1 ≤ 1048576) (hn2 : n2 ≤ 1048576) :
    Calls Try.prog 75 #[.slice q1 n1 c1, .slice q2 n2 c2] w fun e w' => e = .returned (.bool (meetL l1 l2)) ∧ Ext w w' := by
  have hl1 := hid h1.length
  have hl2 := hid h2.length
  go_enter Try.func75, Try.ntmps75
  go_wp2
  go_loopw [11] (fun i wr => ∃ k : Nat, k ≤ n1 ∧ i = .int .i64 k ∧ Hid ((l1.take k).any (fun r => l2.any fun t => ovl r t) = false) ∧ Hid (Ext w wr)) (fun i _ => n1 - (intOf i).toNat)
  case atStart => exact ⟨0, by omega, rfl, rfl, Ext.refl _⟩
  case round =>
    obtain ⟨k, hk, rfl, hno, hE⟩ := hrel
    by_cases hlt : k < n1
    · have hltI : (k : Int) < (n1 : Int) := by omega
      obtain ⟨b, off, x, rfl, hb, hx, z0, z1, z2, z3⟩ := (h1.ext hE.out).four hlt
      go_upto_region 4 with (fail)
      generalize hW : wr.alloc _ = W1
      obtain ⟨E1, sz1, b1⟩ := boxes1 hW
      clear hW
      have hB1 : Hid (Blk W1 wr.heap.size [.int .i64 x.a, .int .i64 x.b, .int .i64 x.c, .int .i64 x.d] 50) := b1
      have hEw := hid (hE.out.trans E1)
      obtain ⟨X, hX⟩ : ∃ X, X = wr.heap.size := ⟨_, rfl⟩
      rw [← hX] at hB1 ⊢
      have hst := hid (fun hr : (l2.any fun t => ovl x t) = false => any_take_snoc hno.out hx.out hr)
      have hhit := hid (fun (t : Q4) (m : Nat) (ht : l2[m]? = some t) (hc : ovl x t = true) => (any_hitM (p := fun r => l2.any fun t => ovl r t) hx.out (any_hitM ht hc) : meetL l1 l2 = true))
      clear b1 sz1 hX E1 hE z0 z1 z2 z3 hb
      go_wp2
      go_loopw [17] (fun i wr => ∃ m : Nat, m ≤ n2 ∧ i = .int .i64 m ∧ Hid ((l2.take m).any (fun t => ovl x t) = false) ∧ Hid (Ext W1 wr)) (fun i _ => n2 - (intOf i).toNat)
      case atStart => exact ⟨0, by omega, rfl, rfl, Ext.refl _⟩
      case round =>
        obtain ⟨m, hm, rfl, hno2, hE2⟩ := hrel
        by_cases hlt2 : m < n2
        · have hltI2 : (m : Int) < (n2 : Int) := by omega
          obtain ⟨b2, off2, y, rfl, hb2, hy, y0, y1, y2, y3⟩ := (h2.ext (hEw.out.trans hE2.out)).four hlt2
          go_upto_region 7 with (fail)
          generalize hW : wr.alloc _ = W2
          obtain ⟨E3, sz3, b3⟩ := boxes1 hW
          clear hW
          have hB2 : Blk W2 wr.heap.size [.int .i64 y.a, .int .i64 y.b, .int .i64 y.c, .int .i64 y.d] 50 := b3
          obtain ⟨hXl, p0, p1, p2, p3⟩ := (hB1.out.ext (hE2.out.trans E3)).quad
          obtain ⟨hYl, r0, r1, r2, r3⟩ := hB2.quad
          obtain ⟨Y, hY⟩ : ∃ Y, Y = wr.heap.size := ⟨_, rfl⟩
          rw [← hY] at hYl r0 r1 r2 r3 ⊢
          have hE5 := hid (hE2.out.trans E3)
          clear b3 sz3 hB2 hY y0 y1 y2 y3 hb2 hE2 E3
          go_wp2_with fail
          refine (RectsOverlap_any x y _).mono ?_
          rintro e w4 ⟨rfl, E4⟩
          have hE6 := hid (hE5.out.trans E4)
          clear p0 p1 p2 p3 r0 r1 r2 r3 hXl hYl E4
          cases hc : ovl x y with
          | true =>
            have hr := hid (hhit.out y m hy.out hc)
            have hE7 := hid (hEw.out.trans hE6.out)
            clear hc
            go_wp2_with fail
            go_ret
            exact ⟨ret_bool hr.out.symm, hE7.out⟩
          | false =>
            have hn := hid (any_take_snoc hno2.out hy.out hc)
            clear hc
            go_wp2_with fail
            go_roundw
            case rel => exact ⟨m + 1, by omega, by go_num, hn, hE6⟩
            case measure => simp [intOf]; omega
        · have hltI2 : ¬ (m : Int) < (n2 : Int) := by omega
          rw [take_all hl2.out (by omega)] at hno2
          have hn := hst.out hno2.out
          have hn := hid hn
          have hE3 := hid (hEw.out.trans hE2.out)
          go_wp2
          go_roundw
          case rel => exact ⟨k + 1, by omega, by go_num, hn, hE3⟩
          case measure => simp [intOf]; omega
    · have hltI : ¬ (k : Int) < (n1 : Int) := by omega
      rw [take_all hl1.out (by omega)] at hno
      go_wp2
      go_ret
      exact ⟨ret_bool hno.out.symm, hE.out⟩
def notG (g : Grid) : Grid := fun i => !g i
theorem gh_not {g : Grid} {x y : Int} (h : onC x y = true) : gh (notG g) x y = !gh g x y := by rw [gh_on h, gh_on h, notG]
/-- The set has all unit cells of the rectangles. -/
def covB (g : Grid) (l : List Q4) : Bool := l.all fun r => clearB (notG g) r
theorem covB_iff {g : Grid} {l : List Q4} (hv : ∀ r ∈ l, vR r = true) : covB g l = true ↔ ∀ x y, inL l x y = true → gh g x y = true := by
  rw [covB, List.all_eq_true]
  constructor
  · intro h x y hi
    rw [inL, List.any_eq_true] at hi
    obtain ⟨r, hr, hi⟩ := hi
    have := clearB_iff.1 (h r hr) x y hi
    rw [gh_not (inR_on (hv r hr) hi)] at this
    simpa using this
  · intro h r hr
    rw [clearB_iff]
    intro x y hi
    rw [gh_not (inR_on (hv r hr) hi), h x y (by rw [inL, List.any_eq_true]; exact ⟨r, hr, hi⟩)]; rfl
theorem all_hitM {α : Type} {p : α → Bool} {l : List α} {k : Nat} {x : α} (hx : l[k]? = some x) (hp : p x = false) : l.all p = false := by
  cases h : l.all p with
  | false => rfl
  | true => rw [List.all_eq_true] at h; rw [h x (List.mem_of_getElem? hx)] at hp; cases hp
theorem all_take_snoc {α : Type} {p : α → Bool} {l : List α} {k : Nat} {x : α} (h : (l.take k).all p = true) (hx : l[k]? = some x) (hp : p x = true) : (l.take (k + 1)).all p = true := by
  rw [take_snoc hx, List.all_append, h]; simp [hp]
set_option maxRecDepth 100000 in
set_option maxHeartbeats 4000000 in
theorem covers_any (B : Nat) (g : Grid) (q : Option Addr) (n c : Nat) (l : List Q4) (w : World) (hb : Blk w B (gcells g) 109) (h : SlT enc4 4 w q n l) (hn : n ≤ 1048576) (hv : ∀ r ∈ l, vR r = true) :
    Calls Try.prog 78 #[.pointer (some ⟨B, 0, none⟩), .slice q n c] w fun e w' => e = .returned (.bool (covB g l)) ∧ Ext w w' := by
  have hl := hid h.length
  have hbw := hid hb
  replace hv := hid hv
  clear hb
  go_enter Try.func78, Try.ntmps78
  go_wp2
  go_loopw [11] (fun i wr => ∃ k : Nat, k ≤ n ∧ i = .int .i64 k ∧ Hid ((l.take k).all (fun r => clearB (notG g) r) = true) ∧ Hid (Ext w wr)) (fun i _ => n - (intOf i).toNat)
  case atStart => exact ⟨0, by omega, rfl, rfl, Ext.refl _⟩
  case round =>
    obtain ⟨k, hk, rfl, hno, hE⟩ := hrel
    by_cases hlt : k < n
    · have hltI : (k : Int) < (n : Int) := by omega
      obtain ⟨b, off, x, rfl, hb, hx, z0, z1, z2, z3⟩ := (h.ext hE.out).four hlt
      have hvx := hid (hv.out x (List.mem_of_getElem? hx.out))
      obtain ⟨⟨xa0, xa1, xa2⟩, xb0, xb1, xb2⟩ := vR_iff.1 hvx.out
      go_upto_region 4 with (fail)
      generalize hW : wr.alloc _ = W1
      obtain ⟨E1, sz1, b1⟩ := boxes1 hW
      clear hW
      have hB1 : Hid (Blk W1 wr.heap.size [.int .i64 x.a, .int .i64 x.b, .int .i64 x.c, .int .i64 x.d] 50) := b1
      have hEw := hid (hE.out.trans E1)
      obtain ⟨X, hX⟩ : ∃ X, X = wr.heap.size := ⟨_, rfl⟩
      rw [← hX] at hB1 ⊢
      have hst := hid (fun hr : clearB (notG g) x = true => all_take_snoc (p := fun r => clearB (notG g) r) hno.out hx.out hr)
      have hbad := hid (fun hr : clearB (notG g) x = false => (all_hitM (p := fun r => clearB (notG g) r) hx.out hr : covB g l = false))
      clear b1 sz1 hX E1 hE z0 z1 z2 z3 hb
      obtain ⟨hXl, p0, p1, p2, p3⟩ := hB1.out.quad
      go_wp2
      go_loopw [7] (fun v wr => ∃ y : Int, v = .int .i64 y ∧ x.b ≤ y ∧ y ≤ 1000 ∧ Hid (clrTo (notG g) x x.a y) ∧ Hid (Ext W1 wr)) (fun v _ => (1100 - intOf v).toNat)
      case atStart => exact ⟨x.b, rfl, by omega, by omega, hid (clrTo_start _ x x.a (Int.le_refl _)), Ext.refl _⟩
      case round =>
        clear hXl p0 p1 p2 p3
        obtain ⟨y, rfl, hy0, hy1, hC, hE⟩ := hrel
        obtain ⟨hXl, p0, p1, p2, p3⟩ := (hB1.out.ext hE.out).quad
        by_cases hyd : y < x.d
        · go_wp2
          go_loopw [8] (fun v wr => ∃ u : Int, v = .int .i64 u ∧ x.a ≤ u ∧ u ≤ 1000 ∧ Hid (clrTo (notG g) x u y) ∧ Hid (Ext W1 wr)) (fun v _ => (1100 - intOf v).toNat)
          case atStart => exact ⟨x.a, rfl, by omega, by omega, hC, hE⟩
          case round =>
            clear hC hE p0 p1 p2 p3 hXl
            obtain ⟨u, rfl, hu0, hu1, hC, hE⟩ := hrel
            obtain ⟨hXl, p0, p1, p2, p3⟩ := (hB1.out.ext hE.out).quad
            by_cases huc : u < x.c
            · have hin : Hid (inR x u y = true) := inR_iff.2 (by omega)
              have hgn := hid (gh_not (g := g) (inR_on hvx.out hin.out))
              have hcall := fun W (hW : Blk W B (gcells g) 109) => has_any B g u y W hW
              have hbr := hid (hbw.out.ext (hEw.out.trans hE.out))
              cases hg : gh g u y with
              | false =>
                have hr : Hid (covB g l = false) := hbad.out (clearB_hit hin.out (by rw [hgn.out, hg]; rfl))
                rw [hg] at hcall
                replace hcall := hid hcall
                clear hg
                go_wp2_with fail
                refine (hcall.out _ hbr.out).mono ?_
                rintro e w2 ⟨rfl, E2⟩
                clear p0 p1 p2 p3 hXl
                go_wp2_with fail
                go_ret
                exact ⟨ret_bool hr.out.symm, (hEw.out.trans hE.out).trans E2⟩
              | true =>
                have hC2 := hid (clrTo_step hC.out (by rw [hgn.out, hg]; rfl))
                rw [hg] at hcall
                replace hcall := hid hcall
                clear hg
                go_wp2_with fail
                refine (hcall.out _ hbr.out).mono ?_
                rintro e w2 ⟨rfl, E2⟩
                clear p0 p1 p2 p3 hXl
                replace E2 := hid (hE.out.trans E2)
                go_wp2_with fail
                go_roundw
                case rel => exact ⟨u + 1, rfl, by omega, by omega, hC2, E2⟩
                case measure => simp [intOf]; omega
            · have hC2 := hid (clrTo_row hC.out (by omega))
              go_wp2_with fail
              go_roundw
              case rel => exact ⟨y + 1, rfl, by omega, by omega, hC2, hE⟩
              case measure => simp [intOf]; omega
        · have hn := hid (hst.out (clrTo_end hC.out (by omega)))
          have hE3 := hid (hEw.out.trans hE.out)
          go_wp2_with fail
          go_roundw
          case rel => exact ⟨k + 1, by omega, by go_num, hn, hE3⟩
          case measure => simp [intOf]; omega
    · have hltI : ¬ (k : Int) < (n : Int) := by omega
      rw [take_all hl.out (by omega)] at hno
      go_wp2
      go_ret
      exact ⟨ret_bool hno.out.symm, hE.out⟩
/-- The unit cells of a list that lie in a box. -/
def clipG (l : List Q4) (box : Q4) : Grid := gmk fun x y => inL l x y && inR box x y
theorem clip_snoc {l : List Q4} {k : Nat} {r box : Q4} (h : l[k]? = some r) : gcells (gmk fun x y => gh (clipG (l.take k) box) x y || inR (comQ r box) x y) = gcells (clipG (l.take (k + 1)) box) := by
  rw [clipG, clipG]
  refine gmk_ext fun x y hc => ?_
  rw [gh_gmk _ hc, inR_com, take_snoc h, inL, inL, List.any_append]
  simp only [List.any_cons, List.any_nil, Bool.or_false]
  cases inR box x y <;> simp
theorem com_near {p q : Q4} (hp : Near p) (hq : Near q) : Near (comQ p q) := by
  unfold Near at *
  simp only [comQ]
  omega
set_option maxRecDepth 100000 in
set_option maxHeartbeats 4000000 in
theorem ClipRegion_any (q : Option Addr) (n c : Nat) (l : List Q4) (box : Q4) (w : World) (h : SlT enc4 4 w q n l) (hn : n ≤ 1048576) (hreg : isReg l = true) (hbv : vR box = true) :
    Calls Try.prog 71 #[.slice q n c, .agg #[.int .i64 box.a, .int .i64 box.b, .int .i64 box.c, .int .i64 box.d]] w (RegB (canon (clipG l box)) w) := by
  have hl := hid h.length
  have k1 := fun V (hV : Ext w V) => IsRegion_any q n c l V (h.ext hV) hn
  have k2 := fun V => IsValidRect_any box V
  rw [hreg] at k1
  rw [hbv] at k2
  replace k1 := hid k1
  replace k2 := hid k2
  have hv := hid (fun r hr => vR_near ((vRs_parts (isReg_iff.1 hreg).1).2 r hr))
  have hbn := hid (vR_near hbv)
  clear hreg hbv
  go_enter Try.func71, Try.ntmps71
  go_upto_region 1 with (fail)
  generalize hW : w.alloc _ = W0
  obtain ⟨E0, z0, b0⟩ := boxes1 hW
  clear hW
  have bx := hid (show Blk W0 w.heap.size [.int .i64 box.a, .int .i64 box.b, .int .i64 box.c, .int .i64 box.d] _ from b0)
  obtain ⟨P, hP⟩ : ∃ P, P = w.heap.size := ⟨_, rfl⟩
  rw [← hP] at bx ⊢
  replace hP := hid hP
  replace z0 := hid z0
  replace E0 := hid E0
  clear b0
  go_wp2_with fail
  refine (k1.out _ E0.out).mono ?_
  rintro e w1 ⟨rfl, E1⟩
  obtain ⟨p9, p0, p1, p2, p3⟩ := (bx.out.ext E1).quad
  replace E1 := hid E1
  go_wp2_with fail
  refine (k2.out _).mono ?_
  rintro e w2 ⟨rfl, E2⟩
  clear p0 p1 p2 p3 p9
  go_upto_region 4 with (fail)
  have E2 := hid (E1.out.trans E2)
  generalize hW : w2.alloc _ = W3
  obtain ⟨E3, z3, b3⟩ := boxes1 hW
  clear hW
  have hb0 : Blk W3 w2.heap.size (gcells (clipG (l.take 0) box)) 109 := by
    have e0 : gcells gnone = gcells (clipG (l.take 0) box) := gcells_ext fun _ _ => by simp [clipG, gmk, inL, gnone]
    rw [zeroCells] at b3
    show W3.heap[w2.heap.size]? = _
    rw [b3, e0]
  clear b3
  obtain ⟨B, hB⟩ : ∃ B, B = w2.heap.size := ⟨_, rfl⟩
  rw [← hB] at hb0 ⊢
  have hBw : W0.heap.size ≤ B := by have := E2.out.le; omega
  replace hB := hid hB
  replace z3 := hid z3
  replace hb0 := hid hb0
  replace E3 := hid (E2.out.trans E3)
  go_wp2
  go_loopw [20] (fun i wr => ∃ k : Nat, k ≤ n ∧ i = .int .i64 k ∧ Hid (Ext W0 wr) ∧ Hid (Blk wr B (gcells (clipG (l.take k) box)) 109)) (fun i _ => n - (intOf i).toNat)
  case atStart => exact ⟨0, by omega, rfl, E3, hb0⟩
  case round =>
    clear hb0 E3 z3 E2 W3 E1 hB
    obtain ⟨k, hk, rfl, hE, hb⟩ := hrel
    by_cases hlt : k < n
    · have hltI : (k : Int) < (n : Int) := by omega
      obtain ⟨b2, off2, x, rfl, hbn2, hx, c0, c1, c2, c3⟩ := (h.ext (E0.out.trans hE.out)).four hlt
      have hsx := hid (clip_snoc (box := box) hx.out)
      have hvx := hid (hv.out x (List.mem_of_getElem? hx.out))
      have hvc := hid (com_near hvx.out hbn.out)
      go_upto_region 7 with (fail)
      generalize hW : wr.alloc _ = W4
      obtain ⟨E4, sz4, b4⟩ := boxes1 hW
      clear hW
      have hX : Blk W4 wr.heap.size [.int .i64 x.a, .int .i64 x.b, .int .i64 x.c, .int .i64 x.d] 50 := b4
      have hE4 := hid (hE.out.trans E4)
      have hb4 := hid (hb.out.ext E4)
      obtain ⟨p9, p0, p1, p2, p3⟩ := (bx.out.ext hE4.out).quad
      obtain ⟨r9, r0, r1, r2, r3⟩ := hX.quad
      obtain ⟨Y, hY⟩ : ∃ Y, Y = wr.heap.size := ⟨_, rfl⟩
      rw [← hY] at r9 r0 r1 r2 r3 ⊢
      clear hX hY b4 sz4 E4 c0 c1 c2 c3 hbn2 hE hb
      go_wp2_with fail
      refine (common_any x box _).mono ?_
      rintro e w5 ⟨rfl, E5⟩
      clear p0 p1 p2 p3 p9 r0 r1 r2 r3 r9
      have hb5 := hid (hb4.out.ext E5)
      have hE5 := hid (hE4.out.trans E5)
      clear E5 hE4 hb4
      obtain ⟨C, hC⟩ : ∃ C, C = comQ x box := ⟨_, rfl⟩
      rw [← hC] at hvc hsx ⊢
      clear hC
      go_wp2_with fail
      refine (put_any B _ C _ hb5.out hvc.out).mono ?_
      rintro e w6 ⟨rfl, hb6, hM⟩
      rw [hsx.out] at hb6
      have hE6 := hid (hE5.out.then hM (by intro k hk; simp at hk; rw [hk]; exact hBw))
      replace hb6 := hid hb6
      clear hM
      go_wp2_with fail
      go_roundw
      case rel => exact ⟨k + 1, by omega, by go_num, hE6, hb6⟩
      case measure => simp [intOf]; omega
    · have hltI : ¬ (k : Int) < (n : Int) := by omega
      rw [take_all hl.out (by omega)] at hb
      go_wp2_with fail
      refine (region_any B _ _ hb.out).mono ?_
      rintro e w7 ⟨q1, c1, rfl, o1, E1⟩
      have hE1 := hid ((E0.out.trans hE.out).trans E1)
      have o1 := hid (owns_lowM o1 (E0.out.trans hE.out).le)
      clear E1
      go_wp2_with fail
      go_ret
      exact ⟨q1, c1, rfl, o1.out, hE1.out⟩
end Go.Proofs.Ytaigndaabmelhaa

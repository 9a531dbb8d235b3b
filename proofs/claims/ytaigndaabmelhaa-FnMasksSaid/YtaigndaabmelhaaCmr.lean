/- Contracts of cmp.Compare, cmp.Or, compareRects and the comparison of parts. No condition on the rectangles. -/
import Derived.Test.YtaigndaabmelhaaRws
import Derived.Sort.Grow
import Derived.StillTailTactics
import Derived.Deep.RegionHeld3
namespace Go.Proofs.Ytaigndaabmelhaa
open Go.RowKit Go.Sort

def cmpI (a b : Int) : Int := if a < b then -1 else if a > b then 1 else 0
theorem isNaN_any (a : Int) (w : World) : Calls Try.prog 158 #[.int .i64 a] w fun e w' => e = .returned (.bool false) ∧ w = w' := by
  go_enter Try.func158, Try.ntmps158
  go_wp2
  go_ret
  exact ⟨by simp, rfl⟩
theorem compare_any (a b : Int) (w : World) : Calls Try.prog 146 #[.int .i64 a, .int .i64 b] w fun e w' => e = .returned (.int .i64 (cmpI a b)) ∧ w = w' := by
  go_enter Try.func146, Try.ntmps146
  by_cases h : a < b
  · have hr : Hid (-1 = cmpI a b) := by show _ = _; rw [cmpI, if_pos h]
    go_wp2
    go_ret
    exact ⟨ret_int hr.out, rfl⟩
  · by_cases h2 : b < a
    · have hr : Hid (1 = cmpI a b) := by show _ = _; rw [cmpI, if_neg h, if_pos h2]
      go_wp2
      go_ret
      exact ⟨ret_int hr.out, rfl⟩
    · have hr : Hid (0 = cmpI a b) := by show _ = _; rw [cmpI, if_neg h, if_neg h2]
      go_wp2
      go_ret
      exact ⟨ret_int hr.out, rfl⟩
def orL : List Int → Int
  | [] => 0
  | a :: l => if a = 0 then orL l else a
theorem orL_zero {l : List Int} {k : Nat} (h : l[k]? = some 0) : orL (l.drop k) = orL (l.drop (k + 1)) := by
  obtain ⟨h1, h2⟩ := List.getElem?_eq_some_iff.1 h
  rw [List.drop_eq_getElem_cons h1, h2, orL, if_pos rfl]
theorem orL_hit {l : List Int} {k : Nat} {a : Int} (h : l[k]? = some a) (ha : a ≠ 0) : orL (l.drop k) = a := by
  obtain ⟨h1, h2⟩ := List.getElem?_eq_some_iff.1 h
  rw [List.drop_eq_getElem_cons h1, h2, orL, if_neg ha]
set_option maxHeartbeats 1000000 in
theorem cmpOr_any (B : Nat) (vs : List Int) (w : World) (t : TypeId) (hb : Blk w B (vs.map (Value.int .i64)) t) (hn : vs.length ≤ 100) :
    Calls Try.prog 145 #[.slice (some ⟨B, 0, none⟩) vs.length vs.length] w fun e w' => e = .returned (.int .i64 (orL vs)) ∧ w = w' := by
  have g := hb.cells
  have hlt := hb.lt
  obtain ⟨n, hN⟩ : ∃ n, n = vs.length := ⟨_, rfl⟩
  rw [← hN] at hn ⊢
  replace hN := hid hN
  clear hb
  go_enter Try.func145, Try.ntmps145
  go_wp2
  go_loop [5, 8] (fun _ i => ∃ k : Nat, k ≤ n ∧ i = .int .i64 k ∧ Hid (orL vs = orL (vs.drop k))) (fun _ i => n - (intOf i).toNat)
  case atStart => exact ⟨0, by omega, rfl, rfl⟩
  case round =>
    obtain ⟨k, hk, rfl, hI⟩ := hrel
    by_cases hlt : k < n
    · obtain ⟨a, ha⟩ : ∃ a, Hid (vs[k]? = some a) := ⟨_, List.getElem?_eq_getElem (by rw [← hN.out]; exact hlt)⟩
      have gk := g k
      rw [List.getElem?_map, ha.out] at gk
      simp only [Option.map_some] at gk
      by_cases h0 : a = 0
      · subst h0
        have hI2 : Hid (orL vs = orL (vs.drop (k + 1))) := hI.out.trans (orL_zero ha.out)
        clear g
        go_wp2
        go_round
        case rel => exact ⟨k + 1, by omega, by go_num, hI2⟩
        case measure => simp [intOf]; omega
      · have hr : Hid (a = orL vs) := (hI.out.trans (orL_hit ha.out h0)).symm
        clear g
        go_wp2
        go_ret
        exact ⟨ret_int hr.out, rfl⟩
    · have hr : Hid (0 = orL vs) := by
        show _ = _
        rw [hI.out, List.drop_of_length_le (by have := hN.out; omega)]; rfl
      clear g
      go_wp2
      go_ret
      exact ⟨ret_int hr.out, rfl⟩
/-- Rectangles in order: by lower side, by left side, by the other two. -/
def crI (x y : Q4) : Int := orL [cmpI x.b y.b, cmpI x.a y.a, cmpI x.d y.d, cmpI x.c y.c]
theorem crI_lt {x y : Q4} (h : x.b < y.b ∨ (x.b = y.b ∧ x.a < y.a)) : crI x y = -1 ∧ crI y x = 1 := by
  simp only [crI, orL, cmpI]
  constructor <;> (repeat' split) <;> omega
theorem cmpOr4_any (B : Nat) (a b c d : Int) (w : World) (t : TypeId) (hb : Blk w B [.int .i64 a, .int .i64 b, .int .i64 c, .int .i64 d] t) :
    Calls Try.prog 145 #[.slice (some ⟨B, 0, none⟩) 4 4] w fun e w' => e = .returned (.int .i64 (orL [a, b, c, d])) ∧ w = w' := cmpOr_any B [a, b, c, d] w t hb (by simp)
/-- w' is w with draws made and new blocks. -/
def Gw (w w' : World) : Prop := ∃ q os', w' = grow (w.drewN q) os'
theorem Gw.refl (w : World) : Gw w w := ⟨0, #[], by rw [grow_empty]; rfl⟩
theorem Gw.drew {a w : World} (h : Gw a w) : Gw a w.drew := by
  obtain ⟨q, os, rfl⟩ := h
  exact ⟨q + 1, os, rfl⟩
theorem Gw.alloc {a w : World} (h : Gw a w) (o : Obj) : Gw a (w.alloc o) := by
  obtain ⟨q, os, rfl⟩ := h
  exact ⟨q, os ++ #[o], by rw [alloc_eq_grow, grow_grow]⟩
theorem Gw.trans {a b c : World} (h : Gw a b) (k : Gw b c) : Gw a c := by
  obtain ⟨q, os, rfl⟩ := h
  obtain ⟨q', os', rfl⟩ := k
  exact ⟨q + q', os ++ os', by simp only [grow, World.drewN, Nat.add_assoc, Array.append_assoc]⟩
theorem Gw.ext {a b : World} (h : Gw a b) : Ext a b := by
  obtain ⟨q, os, rfl⟩ := h
  exact ⟨rfl, rfl, rfl, by simp [World.drewN], fun k hk => heap_grow_old _ _ hk⟩
set_option maxRecDepth 100000 in
set_option maxHeartbeats 4000000 in
theorem compareRects_any (x y : Q4) (W : World) : Calls Try.prog 138 #[.agg (enc4 x).toArray, .agg (enc4 y).toArray] W fun e w' => e = .returned (.int .i64 (crI x y)) ∧ Gw W w' := by
  have hr : Hid (orL [cmpI x.b y.b, cmpI x.a y.a, cmpI x.d y.d, cmpI x.c y.c] = crI x y) := rfl
  go_enter Try.func138, Try.ntmps138
  go_wp2_with fail
  generalize hW0 : (W.alloc (.cells (enc4 x).toArray 50)).alloc (.cells (enc4 y).toArray 50) = W0
  obtain ⟨E0, hz, hb1, hb2⟩ := boxes2 hW0
  have G0 : Gw W W0 := by rw [← hW0]; exact ((Gw.refl W).alloc _).alloc _
  have z1 : Blk W0 W.heap.size [.int .i64 x.a, .int .i64 x.b, .int .i64 x.c, .int .i64 x.d] 50 := hb1
  have z2 : Blk W0 (W.heap.size + 1) [.int .i64 y.a, .int .i64 y.b, .int .i64 y.c, .int .i64 y.d] 50 := hb2
  have hk : Hid (∀ V, Ext W0 V → V.cell? ⟨W.heap.size, 0, none⟩ = some (.int .i64 x.a) ∧ V.cell? ⟨W.heap.size, 1, none⟩ = some (.int .i64 x.b) ∧ V.cell? ⟨W.heap.size, 2, none⟩ = some (.int .i64 x.c) ∧ V.cell? ⟨W.heap.size, 3, none⟩ = some (.int .i64 x.d) ∧
      V.cell? ⟨W.heap.size + 1, 0, none⟩ = some (.int .i64 y.a) ∧ V.cell? ⟨W.heap.size + 1, 1, none⟩ = some (.int .i64 y.b) ∧ V.cell? ⟨W.heap.size + 1, 2, none⟩ = some (.int .i64 y.c) ∧ V.cell? ⟨W.heap.size + 1, 3, none⟩ = some (.int .i64 y.d)) := fun V hV => by
    have k1 := (z1.ext hV).cells
    have k2 := (z2.ext hV).cells
    exact ⟨k1 0, k1 1, k1 2, k1 3, k2 0, k2 1, k2 2, k2 3⟩
  have zb := hid (show ∀ V : World, Blk (V.alloc (.cells #[.int .i64 (cmpI x.b y.b), .int .i64 (cmpI x.a y.a), .int .i64 (cmpI x.d y.d), .int .i64 (cmpI x.c y.c)] 3)).drew V.heap.size [.int .i64 (cmpI x.b y.b), .int .i64 (cmpI x.a y.a), .int .i64 (cmpI x.d y.d), .int .i64 (cmpI x.c y.c)] 3 from fun V => (Blk.new V _ _).drew)
  have G0 := hid G0
  clear hb1 hb2 z1 z2 hW0 E0 hz
  go_region_held3 (fun V => V.cell? ⟨W.heap.size, 0, none⟩ = some (.int .i64 x.a) ∧ V.cell? ⟨W.heap.size, 1, none⟩ = some (.int .i64 x.b) ∧ V.cell? ⟨W.heap.size, 2, none⟩ = some (.int .i64 x.c) ∧ V.cell? ⟨W.heap.size, 3, none⟩ = some (.int .i64 x.d) ∧
      V.cell? ⟨W.heap.size + 1, 0, none⟩ = some (.int .i64 y.a) ∧ V.cell? ⟨W.heap.size + 1, 1, none⟩ = some (.int .i64 y.b) ∧ V.cell? ⟨W.heap.size + 1, 2, none⟩ = some (.int .i64 y.c) ∧ V.cell? ⟨W.heap.size + 1, 3, none⟩ = some (.int .i64 y.d))
    (exact hk.out _ (by first | exact (Ext.refl _).drew | exact ((Ext.refl _).alloc _).drew))
    (first
      | (go_at_call 146; refine (compare_any _ _ _).mono ?_; rintro e w' ⟨rfl, rfl⟩)
      | (go_at_call 145; ((with_reducible refine (cmpOr4_any W0.heap.size _ _ _ _ _ _ (zb.out W0)).mono ?_); rintro e w' ⟨rfl, rfl⟩)))
  go_wp2_with fail
  go_ret
  exact ⟨ret_int hr.out, (G0.out.alloc _).drew⟩
theorem compareRects4_any (x y : Q4) (W : World) : Calls Try.prog 138 #[.agg #[.int .i64 x.a, .int .i64 x.b, .int .i64 x.c, .int .i64 x.d], .agg #[.int .i64 y.a, .int .i64 y.b, .int .i64 y.c, .int .i64 y.d]] W fun e w' => e = .returned (.int .i64 (crI x y)) ∧ Gw W w' := compareRects_any x y W
theorem SlT.head4 {w : World} {q : Option Addr} {n : Nat} {f : Q4} {t : List Q4} (h : SlT enc4 4 w q n (f :: t)) : 0 < n ∧ ∃ b off, q = some ⟨b, off, none⟩ ∧ b < w.heap.size ∧ w.cell? ⟨b, off, none⟩ = some (.int .i64 f.a) ∧ w.cell? ⟨b, off + 1, none⟩ = some (.int .i64 f.b) ∧ w.cell? ⟨b, off + 2, none⟩ = some (.int .i64 f.c) ∧ w.cell? ⟨b, off + 3, none⟩ = some (.int .i64 f.d) := by
  have hl := h.length
  rw [List.length_cons] at hl
  obtain ⟨b, off, x, rfl, hb, hx, z0, z1, z2, z3⟩ := h.four (k := 0) (by omega)
  have e : f = x := by have := hx.out; simpa using this
  subst e
  simp only [Nat.zero_mul, Nat.add_zero] at z0 z1 z2 z3
  exact ⟨by omega, b, off, rfl, hb, z0, z1, z2, z3⟩
set_option maxRecDepth 100000 in
set_option maxHeartbeats 4000000 in
theorem parts1_any (x1 x2 : Hd) (f1 f2 : Q4) (t1 t2 : List Q4) (W : World) (r1 : SlT enc4 4 W x1.1 x1.2.1 (f1 :: t1)) (r2 : SlT enc4 4 W x2.1 x2.2.1 (f2 :: t2)) :
    Calls Try.prog 137 #[hdV x1, hdV x2] W fun e w' => e = .returned (.int .i64 (crI f1 f2)) ∧ Gw W w' := by
  obtain ⟨q1, n1, c1⟩ := x1
  obtain ⟨q2, n2, c2⟩ := x2
  obtain ⟨h1, b1, o1, hq1, hb1, z0, z1, z2, z3⟩ := r1.head4
  obtain ⟨h2, b2, o2, hq2, hb2, y0, y1, y2, y3⟩ := r2.head4
  simp only at hq1 hq2 h1 h2
  subst hq1 hq2
  clear r1 r2
  have hk : Hid (∀ V, Gw W.drew V → V.cell? ⟨b1, o1, none⟩ = some (.int .i64 f1.a) ∧ V.cell? ⟨b1, o1 + 1, none⟩ = some (.int .i64 f1.b) ∧ V.cell? ⟨b1, o1 + 2, none⟩ = some (.int .i64 f1.c) ∧ V.cell? ⟨b1, o1 + 3, none⟩ = some (.int .i64 f1.d) ∧
      V.cell? ⟨b2, o2, none⟩ = some (.int .i64 f2.a) ∧ V.cell? ⟨b2, o2 + 1, none⟩ = some (.int .i64 f2.b) ∧ V.cell? ⟨b2, o2 + 2, none⟩ = some (.int .i64 f2.c) ∧ V.cell? ⟨b2, o2 + 3, none⟩ = some (.int .i64 f2.d)) := fun V hV => by
    have k := ((Gw.refl W).drew.trans hV).ext.cells
    exact ⟨(k _ _ hb1).trans z0, (k _ _ hb1).trans z1, (k _ _ hb1).trans z2, (k _ _ hb1).trans z3, (k _ _ hb2).trans y0, (k _ _ hb2).trans y1, (k _ _ hb2).trans y2, (k _ _ hb2).trans y3⟩
  unfold hdV
  simp only
  go_enter Try.func137, Try.ntmps137
  go_wp2_with fail
  go_region_held3 (fun V => V.cell? ⟨b1, o1, none⟩ = some (.int .i64 f1.a) ∧ V.cell? ⟨b1, o1 + 1, none⟩ = some (.int .i64 f1.b) ∧ V.cell? ⟨b1, o1 + 2, none⟩ = some (.int .i64 f1.c) ∧ V.cell? ⟨b1, o1 + 3, none⟩ = some (.int .i64 f1.d) ∧
      V.cell? ⟨b2, o2, none⟩ = some (.int .i64 f2.a) ∧ V.cell? ⟨b2, o2 + 1, none⟩ = some (.int .i64 f2.b) ∧ V.cell? ⟨b2, o2 + 2, none⟩ = some (.int .i64 f2.c) ∧ V.cell? ⟨b2, o2 + 3, none⟩ = some (.int .i64 f2.d))
    (first | exact ⟨z0, z1, z2, z3, y0, y1, y2, y3⟩ | exact hk.out _ g1)
    ((go_at_call 138; ((with_reducible refine (compareRects4_any f1 f2 _).mono ?_); rintro e w1 ⟨rfl, g1⟩)))
  go_wp2_with fail
  go_ret
  exact ⟨rfl, (Gw.refl W).drew.trans g1⟩
end Go.Proofs.Ytaigndaabmelhaa

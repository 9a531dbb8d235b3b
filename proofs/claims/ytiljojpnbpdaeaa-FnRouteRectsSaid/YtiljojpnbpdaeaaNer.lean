/- Contracts of the neighbors of a unit cell (program and reference), of slices.Index and Contains at points, of l32Adjacent. Condition: coordinates within 1000. -/
import Derived.Test.YtiljojpnbpdaeaaRg3
import Derived.Test.YtiljojpnbpdaeaaSp4
import Derived.Laws.StructEq
namespace Go.Proofs.Ytiljojpnbpdaeaa
open Go.RowKit

instance decQ2 : DecidableEq Q2 := fun x y => decidable_of_iff (x.a = y.a ∧ x.b = y.b) ⟨fun h => by cases x; cases y; simp_all, fun h => by subst h; simp⟩
def all4 (p : Q2) : List Q2 := [⟨p.a + 1, p.b⟩, ⟨p.a, p.b + 1⟩, ⟨p.a - 1, p.b⟩, ⟨p.a, p.b - 1⟩]
/-- The neighbors of p on the chip. -/
def nearL (p : Q2) : List Q2 := (all4 p).filter fun q => onC q.a q.b
def NearP (p : Q2) : Prop := (-1000 ≤ p.a ∧ p.a ≤ 1000) ∧ (-1000 ≤ p.b ∧ p.b ≤ 1000)
theorem onC_near {p : Q2} (h : onC p.a p.b = true) : NearP p := by rw [onC_iff] at h; unfold NearP; omega
theorem nearL_len (p : Q2) : (nearL p).length ≤ 4 := by unfold nearL; exact List.length_filter_le _ _
theorem SlT.of_blk {α : Type} {enc : α → List Value} {sz : Nat} (hsz : ∀ x, (enc x).length = sz) {w : World} {B : Nat} {l : List α} {t : TypeId} (h : Blk w B (l.flatMap enc) t) : SlT enc sz w (some ⟨B, 0, none⟩) l.length l :=
  ⟨rfl, Or.inr ⟨B, 0, rfl, h.lt, fun k x hx j v hv => by rw [Nat.zero_add, h.cells, flatMap_at hsz hx hv]⟩⟩
/-- A list of points in a row of the call's own. -/
def PtsB (l : List Q2) (w : World) (e : Ending) (w' : World) : Prop := ∃ q c, e = .returned (.slice q l.length c) ∧ w'.ownsRow w.heap.size 47 2 (.slice q l.length c) l.length (l.flatMap enc2) ∧ Ext w w'
theorem info_Pt : (Try.prog.info? 47).map (fun i => (i.zero, i.size, i.bytes)) = some (some (.agg #[.int .i64 0, .int .i64 0]), 2, 16) := by kernel_rfl
theorem one_int2 (a b : Int) : ∀ u ∈ [Value.int .i64 a, .int .i64 b], u.oneCell' = true := fun u hu => by simp at hu; rcases hu with rfl | rfl <;> rfl
theorem ne_new {v v' : Value} {N B : Nat} (hne : v.ownBlock ≠ some B) (h : v'.ownBlock = v.ownBlock ∨ v'.ownBlock = some N) (hB : B < N) : v'.ownBlock ≠ some B := by
  rcases h with h | h
  · rw [h]; exact hne
  · rw [h]; intro e; cases e; omega
theorem owns_empty {w : World} {base B size : Nat} {e : TypeId} (h : Blk w B [] e) (hb : base ≤ B) : w.ownsRow base e size (.slice (some ⟨B, 0, none⟩) 0 0) 0 [] :=
  ⟨by simp, .inr ⟨B, 0, #[], rfl, hb, h, Nat.le_refl _, Nat.zero_le _, by simp, by simp⟩⟩
theorem filter_snoc {α : Type} {l : List α} {k : Nat} {x : α} {p : α → Bool} (h : l[k]? = some x) : (l.take (k + 1)).filter p = (l.take k).filter p ++ if p x = true then [x] else [] := by
  rw [take_snoc h, List.filter_append]
  cases hp : p x <;> simp [hp]
set_option maxRecDepth 100000 in
set_option maxHeartbeats 4000000 in
theorem near_any (p : Q2) (w : World) (hp : NearP p) :
    Calls Try.prog 87 #[.agg #[.int .i64 p.a, .int .i64 p.b]] w (PtsB (nearL p) w) := by
  obtain ⟨i0, hi, hz0, hz1, hz2⟩ := info_parts info_Pt
  obtain ⟨⟨p0, p1⟩, p2, p3⟩ := hp
  go_enter Try.func87, Try.ntmps87
  go_wp2_with fail
  generalize hW : ((w.alloc _).alloc _).alloc _ = W0
  obtain ⟨E0, z0, b1, b2, b3⟩ := boxes3 hW
  clear hW
  
  have s4 : SlT enc2 2 W0 (some ⟨w.heap.size + 1 + 1, 0, none⟩) 4 (all4 p) := SlT.of_blk (l := all4 p) enc2_len b3
  have ho0 : W0.ownsRow w.heap.size 47 2 (.slice (some ⟨w.heap.size + 1, 0, none⟩) 0 0) 0 [] := owns_empty b2 (by omega)
  replace b1 := hid b1
  replace b3 := hid b3
  clear b2
  replace z0 := hid z0
  obtain ⟨B4, hB4⟩ : ∃ B4, B4 = w.heap.size + 1 + 1 := ⟨_, rfl⟩
  rw [← hB4] at s4 ⊢
  replace hB4 := hid hB4
  go_loopw [3, 33] (fun v i wr => ∃ (k : Nat) (q : Option Addr) (c : Nat) (l : List Q2), k ≤ 4 ∧ i = .int .i64 k ∧ Hid (l = ((all4 p).take k).filter fun q => onC q.a q.b) ∧ v = .slice q l.length c ∧ wr.ownsRow w.heap.size 47 2 (.slice q l.length c) l.length (l.flatMap enc2) ∧ SlT enc2 2 wr (some ⟨B4, 0, none⟩) 4 (all4 p) ∧ Value.ownBlock (.slice q l.length c) ≠ some B4 ∧ Ext w wr) (fun _ i _ => 4 - (intOf i).toNat)
  case atStart => exact ⟨0, _, _, [], by omega, rfl, (by show _ = _; rfl), rfl, ho0, s4, (by rw [hB4.out]; simp [Value.ownBlock]), E0⟩
  case round =>
    clear s4 ho0 E0
    obtain ⟨k, q, c, l, hk, rfl, hl, rfl, ho, hs, hne, hE⟩ := hrel
    have hll : l.length ≤ 4 := by rw [hl.out]; have h1 := List.length_filter_le (fun q : Q2 => onC q.a q.b) ((all4 p).take k); have h2 := List.length_take_le k (all4 p); omega
    by_cases hlt : k < 4
    · obtain ⟨b, off, x, hpb, hb, hx, c0, c1⟩ := hs.two hlt
      cases hpb
      simp only [Nat.zero_add] at c0 c1
      have hkI : (k : Int) < 4 := by omega
      have hsn := hid (filter_snoc (p := fun q : Q2 => onC q.a q.b) hx.out)
      cases hc : onC x.a x.b with
      | true =>
        have hcall := fun W => isUnitCell_any x.a x.b W
        rw [hc] at hcall
        have hl2 : Hid (l ++ [x] = ((all4 p).take (k + 1)).filter fun q => onC q.a q.b) := by show _ = _; rw [hsn.out, if_pos hc, hl.out]
        clear hc hsn
        go_wp2_with fail
        refine (hcall _).mono ?_
        rintro e w1 ⟨rfl, E1⟩
        have hE1 := hid ((hE.alloc _).trans E1)
        replace ho := owns_ext (ho.alloc _) E1
        replace hs := (hs.ext ((Ext.refl _).alloc _)).ext E1
        have hkk : wr.heap.size < w1.heap.size := by have := E1.le; simp at this; omega
        have m0 := E1.cells wr.heap.size 0 (by simp)
        have m1 := E1.cells wr.heap.size 1 (by simp)
        
        
        
        clear hcall E1 
        have hNl := hE1.out.le
        have hB4l : B4 < (w1.alloc (.cells #[.int .i64 x.a, .int .i64 x.b] 47)).heap.size := by have := (hs.two (k := 0) (by omega)); obtain ⟨b', off', x', hp', hb', -⟩ := this; cases hp'; simp; omega
        replace hs := hid hs
        replace hne := hid hne
        go_wp2_with (at_builtin; refine wpList_append_own_at _ rfl _ _ 40 rfl w.heap.size 47 i0 (.agg #[.int .i64 0, .int .i64 0]) 2 16 Try.underlying40 hi hz0 hz1 hz2 rfl (by omega) _ _ _ rfl (ho.alloc _) ⟨_, 0, none⟩ 1 1 [.int .i64 x.a, .int .i64 x.b] rfl rfl (cells_new _ [_, _] _) (one_int2 _ _) (len_le (by omega) (by omega)) (by omega) (by simp; omega) ?_; intro v' w2 ho' hg' _ hb'; obtain ⟨qa, ca, rfl⟩ := owns_forms ho'; have hE2 := hid (((hE1.out).alloc _).grown hg' (fun k hk => (ho.lt k hk).1)); have hs2 := hid ((hs.out.ext ((Ext.refl _).alloc _)).grown hg' (fun a ha => by cases ha; exact hne.out)); have hne2 := hid (ne_new hne.out hb' hB4l); replace ho' := hid ho'; clear hg' hb')
        go_roundw
        case rel => exact ⟨k + 1, qa, ca, l ++ [x], by omega, by go_num, hl2, by rw [List.length_append]; rfl, by rw [List.length_append, List.flatMap_append]; exact ho'.out, hs2.out, by rw [List.length_append]; exact hne2.out, hE2.out⟩
        case measure => simp [intOf]; omega
      | false =>
        have hcall := fun W => isUnitCell_any x.a x.b W
        rw [hc] at hcall
        have hl2 : Hid (l = ((all4 p).take (k + 1)).filter fun q => onC q.a q.b) := by show _ = _; rw [hsn.out, if_neg (by rw [hc]; simp), List.append_nil, hl.out]
        clear hc hsn
        go_wp2_with fail
        refine (hcall _).mono ?_
        rintro e w1 ⟨rfl, E1⟩
        have hE1 := hid ((hE.alloc _).trans E1)
        replace ho := hid (owns_ext (ho.alloc _) E1)
        replace hs := hid ((hs.ext ((Ext.refl _).alloc _)).ext E1)
        clear hcall E1 c0 c1
        replace hne := hid hne
        go_wp2_with fail
        go_roundw
        case rel => exact ⟨k + 1, q, c, l, by omega, by go_num, hl2, rfl, ho.out, hs.out, hne.out, hE1.out⟩
        case measure => simp [intOf]; omega
    · have hkI : ¬ (k : Int) < 4 := by omega
      have hl2 : Hid (l = nearL p) := by show _ = _; rw [hl.out, List.take_of_length_le (by simp [all4]; omega)]; rfl
      clear hs hne
      go_wp2_with fail
      go_ret
      rw [← hl2.out]
      exact ⟨q, c, rfl, ho, hE⟩
set_option maxRecDepth 100000 in
set_option maxHeartbeats 4000000 in
theorem l32Neighbors_any (p : Q2) (w : World) (hp : NearP p) :
    Calls Try.prog 117 #[.agg #[.int .i64 p.a, .int .i64 p.b]] w (PtsB (nearL p) w) := by
  obtain ⟨i0, hi, hz0, hz1, hz2⟩ := info_parts info_Pt
  obtain ⟨⟨p0, p1⟩, p2, p3⟩ := hp
  go_enter Try.func117, Try.ntmps117
  go_wp2_with fail
  generalize hW : ((w.alloc _).alloc _).alloc _ = W0
  obtain ⟨E0, z0, b1, b3, b2⟩ := boxes3 hW
  clear hW
  -- the row is made behind the four
  have s4 : SlT enc2 2 W0 (some ⟨w.heap.size + 1, 0, none⟩) 4 (all4 p) := SlT.of_blk (l := all4 p) enc2_len b3
  have ho0 : W0.ownsRow w.heap.size 47 2 (.slice (some ⟨w.heap.size + 1 + 1, 0, none⟩) 0 0) 0 [] := owns_empty b2 (by omega)
  replace b1 := hid b1
  replace b3 := hid b3
  clear b2
  replace z0 := hid z0
  obtain ⟨B4, hB4⟩ : ∃ B4, B4 = w.heap.size + 1 := ⟨_, rfl⟩
  rw [← hB4] at s4 ho0 ⊢
  replace hB4 := hid hB4
  go_loopw [4, 5] (fun v i wr => ∃ (k : Nat) (q : Option Addr) (c : Nat) (l : List Q2), k ≤ 4 ∧ i = .int .i64 k ∧ Hid (l = ((all4 p).take k).filter fun q => onC q.a q.b) ∧ v = .slice q l.length c ∧ wr.ownsRow w.heap.size 47 2 (.slice q l.length c) l.length (l.flatMap enc2) ∧ SlT enc2 2 wr (some ⟨B4, 0, none⟩) 4 (all4 p) ∧ Value.ownBlock (.slice q l.length c) ≠ some B4 ∧ Ext w wr) (fun _ i _ => 4 - (intOf i).toNat)
  case atStart => exact ⟨0, _, _, [], by omega, rfl, (by show _ = _; rfl), rfl, ho0, s4, (by rw [hB4.out]; simp [Value.ownBlock]), E0⟩
  case round =>
    clear s4 ho0 E0
    obtain ⟨k, q, c, l, hk, rfl, hl, rfl, ho, hs, hne, hE⟩ := hrel
    have hll : l.length ≤ 4 := by rw [hl.out]; have h1 := List.length_filter_le (fun q : Q2 => onC q.a q.b) ((all4 p).take k); have h2 := List.length_take_le k (all4 p); omega
    by_cases hlt : k < 4
    · obtain ⟨b, off, x, hpb, hb, hx, c0, c1⟩ := hs.two hlt
      cases hpb
      simp only [Nat.zero_add] at c0 c1
      have hkI : (k : Int) < 4 := by omega
      have hsn := hid (filter_snoc (p := fun q : Q2 => onC q.a q.b) hx.out)
      cases hc : onC x.a x.b with
      | true =>
        have hcall := fun W => l09Unit_any x.a x.b W
        rw [hc] at hcall
        have hl2 : Hid (l ++ [x] = ((all4 p).take (k + 1)).filter fun q => onC q.a q.b) := by show _ = _; rw [hsn.out, if_pos hc, hl.out]
        clear hc hsn
        go_wp2_with fail
        refine (hcall _).mono ?_
        rintro e w1 ⟨rfl, E1⟩
        have hE1 := hid (hE.trans E1)
        replace ho := owns_ext ho E1
        replace hs := hs.ext E1
        
        have m0 := E1.cells _ (k * 2) hb
        have m1 := E1.cells _ (k * 2 + 1) hb
        rw [c0] at m0
        rw [c1] at m1
        have hb1 := Nat.lt_of_lt_of_le hb E1.le
        clear hcall E1 c0 c1
        have hNl := hE1.out.le
        have hB4l : B4 < (w1.alloc (.cells #[.int .i64 x.a, .int .i64 x.b] 47)).heap.size := by have := (hs.two (k := 0) (by omega)); obtain ⟨b', off', x', hp', hb', -⟩ := this; cases hp'; simp; omega
        replace hs := hid hs
        replace hne := hid hne
        go_wp2_with (at_builtin; refine wpList_append_own_at _ rfl _ _ 40 rfl w.heap.size 47 i0 (.agg #[.int .i64 0, .int .i64 0]) 2 16 Try.underlying40 hi hz0 hz1 hz2 rfl (by omega) _ _ _ rfl (ho.alloc _) ⟨_, 0, none⟩ 1 1 [.int .i64 x.a, .int .i64 x.b] rfl rfl (cells_new _ [_, _] _) (one_int2 _ _) (len_le (by omega) (by omega)) (by omega) (by simp; omega) ?_; intro v' w2 ho' hg' _ hb'; obtain ⟨qa, ca, rfl⟩ := owns_forms ho'; have hE2 := hid (((hE1.out).alloc _).grown hg' (fun k hk => (ho.lt k hk).1)); have hs2 := hid ((hs.out.ext ((Ext.refl _).alloc _)).grown hg' (fun a ha => by cases ha; exact hne.out)); have hne2 := hid (ne_new hne.out hb' hB4l); replace ho' := hid ho'; clear hg' hb')
        go_roundw
        case rel => exact ⟨k + 1, qa, ca, l ++ [x], by omega, by go_num, hl2, by rw [List.length_append]; rfl, by rw [List.length_append, List.flatMap_append]; exact ho'.out, hs2.out, by rw [List.length_append]; exact hne2.out, hE2.out⟩
        case measure => simp [intOf]; omega
      | false =>
        have hcall := fun W => l09Unit_any x.a x.b W
        rw [hc] at hcall
        have hl2 : Hid (l = ((all4 p).take (k + 1)).filter fun q => onC q.a q.b) := by show _ = _; rw [hsn.out, if_neg (by rw [hc]; simp), List.append_nil, hl.out]
        clear hc hsn
        go_wp2_with fail
        refine (hcall _).mono ?_
        rintro e w1 ⟨rfl, E1⟩
        have hE1 := hid (hE.trans E1)
        replace ho := hid (owns_ext ho E1)
        replace hs := hid (hs.ext E1)
        clear hcall E1 c0 c1
        replace hne := hid hne
        go_wp2_with fail
        go_roundw
        case rel => exact ⟨k + 1, q, c, l, by omega, by go_num, hl2, rfl, ho.out, hs.out, hne.out, hE1.out⟩
        case measure => simp [intOf]; omega
    · have hkI : ¬ (k : Int) < 4 := by omega
      have hl2 : Hid (l = nearL p) := by show _ = _; rw [hl.out, List.take_of_length_le (by simp [all4]; omega)]; rfl
      clear hs hne
      go_wp2_with fail
      go_ret
      rw [← hl2.out]
      exact ⟨q, c, rfl, ho, hE⟩
end Go.Proofs.Ytiljojpnbpdaeaa

/- Contracts of slices.Grow of a nil slice and slices.Concat of three slices, of rows of rectangles. Condition: at most 2^20 rows each. -/
import Derived.Test.YtaigndaabmelhaaGnr
import Derived.Lib.AppendZeros
import Derived.Test.YtaigndaabmelhaaStj
namespace Go.Proofs.Ytaigndaabmelhaa
open Go.RowKit

theorem info_SR : (Try.prog.info? 27).map (fun i => (i.zero, i.size, i.bytes)) = some (some (.slice none 0 0), 1, 24) := by kernel_rfl
set_option maxRecDepth 100000 in
set_option maxHeartbeats 400000 in
theorem GrowH_nil (n : Nat) (w : World) (hn : n ≤ 4194304) :
    Calls Try.prog 118 #[.slice none 0 0, .int .i64 n] w fun e w' => ∃ v, e = .returned v ∧ w'.ownsRow w.heap.size 27 1 v 0 [] ∧ Ext w w' := by
  obtain ⟨i0, hi, hz0, hz1, hz2⟩ := info_parts info_SR
  by_cases h0 : n = 0
  · subst h0
    go_enter Try.func118, Try.ntmps118
    go_wp2
    go_ret
    exact ⟨_, rfl, World.ownsRow_nil _ _ _ _, Ext.refl _⟩
  · have hr := fun ty => Lib.run_append_nil_zeros (P := Try.prog) w 24 3 ty 27 i0 (.slice none 0 0) .i64 .i64 Try.underlying24 Try.underlying3 hi hz0 n (by omega) (by omega) (by omega) (by rw [hz2]; omega)
    have hp : (0 : Int) < n := by omega
    go_enter Try.func118, Try.ntmps118
    go_wp2_with (refine Lib.wpList_append_run _ rfl _ _ 24 3 rfl _ _ rfl rfl _ _ (hr _) ?_)
    go_ret
    have hge := grownCap_ge w n 0 27
    have hle := grownCap_le_maxLen w n 0 27 (by unfold maxLen; omega)
    refine ⟨_, rfl, World.ownsRow_made (w := w.drew) _ _ (Nat.le_refl _) hle ?_, ((Ext.refl _).drew).alloc _⟩
    simp [Builtin.zeroCells]
    omega
theorem flatH (l : List Hd) : l.flatMap encH = l.map hdV := by
  induction l with
  | nil => rfl
  | cons x l ih => rw [List.flatMap_cons, ih]; rfl
theorem SlT.newsH {w : World} {ad : Addr} {n : Nat} {l : List Hd} (h : SlT encH 1 w (some ad) n l) : ∀ j u, (l.flatMap encH)[j]? = some u → w.cell? (ad.add j) = some u := by
  intro j u hj
  rw [flatH, List.getElem?_map] at hj
  obtain ⟨x, hx, rfl⟩ := Option.map_eq_some_iff.1 hj
  obtain ⟨h1, h2⟩ := h
  rcases h2 with h2 | ⟨b', off', hp, _, hc⟩
  · subst h2
    rw [List.eq_nil_of_length_eq_zero h1] at hx
    cases hx
  · cases hp
    have := hc j x hx 0 _ rfl
    rw [Addr.add_lit]
    simpa using this
theorem one_flatH (l : List Hd) : ∀ u ∈ l.flatMap encH, u.oneCell' = true := by
  intro u hu
  rw [flatH, List.mem_map] at hu
  obtain ⟨x, _, rfl⟩ := hu
  rfl
set_option maxRecDepth 100000 in
set_option maxHeartbeats 400000 in
/-- Concat of three slices. -/
theorem Concat3 (B : Nat) (a1 a2 a3 : Addr) (n1 n2 n3 c1 c2 c3 : Nat) (l1 l2 l3 : List Hd) (w : World) (hB : B < w.heap.size) (e1 : w.cell? ⟨B, 0, none⟩ = some (.slice (some a1) n1 c1)) (e2 : w.cell? ⟨B, 1, none⟩ = some (.slice (some a2) n2 c2)) (e3 : w.cell? ⟨B, 2, none⟩ = some (.slice (some a3) n3 c3))
    (h1 : SlT encH 1 w (some a1) n1 l1) (h2 : SlT encH 1 w (some a2) n2 l2) (h3 : SlT encH 1 w (some a3) n3 l3) (hn1 : n1 ≤ 1048576) (hn2 : n2 ≤ 1048576) (hn3 : n3 ≤ 1048576) :
    Calls Try.prog 72 #[.slice (some ⟨B, 0, none⟩) 3 3] w fun e w' => ∃ q c, e = .returned (.slice q (n1 + n2 + n3) c) ∧ w'.ownsRow w.heap.size 27 1 (.slice q (n1 + n2 + n3) c) (n1 + n2 + n3) ((l1 ++ l2 ++ l3).flatMap encH) ∧ Ext w w' := by
  obtain ⟨i0, hi, hz0, hz1, hz2⟩ := info_parts info_SR
  have L1 := hid h1.length
  have L2 := hid h2.length
  have L3 := hid h3.length
  go_enter Try.func72, Try.ntmps72
  go_wp2
  go_loop [3, 5, 11] (fun s r i => (i = .int .i64 0 ∧ s = .int .i64 0) ∨ (i = .int .i64 1 ∧ s = .int .i64 n1) ∨ (i = .int .i64 2 ∧ s = .int .i64 ((n1 : Int) + n2)) ∨ (i = .int .i64 3 ∧ s = .int .i64 ((n1 : Int) + n2 + n3))) (fun _ _ i => 3 - (intOf i).toNat)
  case atStart => exact Or.inl ⟨rfl, rfl⟩
  case round =>
    rcases hrel with ⟨rfl, rfl⟩ | ⟨rfl, rfl⟩ | ⟨rfl, rfl⟩ | ⟨rfl, rfl⟩
    · go_wp2
      go_round
      case rel => exact Or.inr (Or.inl ⟨rfl, rfl⟩)
      case measure => simp [intOf]
    · go_wp2
      go_round
      case rel => exact Or.inr (Or.inr (Or.inl ⟨rfl, rfl⟩))
      case measure => simp [intOf]
    · go_wp2
      go_round
      case rel => exact Or.inr (Or.inr (Or.inr ⟨rfl, rfl⟩))
      case measure => simp [intOf]
    · go_wp2_with fail
      have := GrowH_nil (n1 + n2 + n3) w (by omega)
      rw [Int.natCast_add, Int.natCast_add] at this
      refine this.mono ?_
      rintro e wg ⟨v, rfl, ho, hE⟩
      go_wp2
      go_loopw [6, 8, 27] (fun s _ i wr => Ext w wr ∧ ((i = .int .i64 0 ∧ wr.ownsRow w.heap.size 27 1 s 0 []) ∨ (i = .int .i64 1 ∧ wr.ownsRow w.heap.size 27 1 s n1 (l1.flatMap encH)) ∨ (i = .int .i64 2 ∧ wr.ownsRow w.heap.size 27 1 s (n1 + n2) ((l1 ++ l2).flatMap encH)) ∨ (i = .int .i64 3 ∧ wr.ownsRow w.heap.size 27 1 s (n1 + n2 + n3) ((l1 ++ l2 ++ l3).flatMap encH)))) (fun _ _ i _ => 3 - (intOf i).toNat)
      case atStart => exact ⟨hE, Or.inl ⟨rfl, ho⟩⟩
      case round =>
        clear ho hE
        obtain ⟨hE, ⟨rfl, ho⟩ | ⟨rfl, ho⟩ | ⟨rfl, ho⟩ | ⟨rfl, ho⟩⟩ := hrel
        · have g1 := (hE.cells _ _ hB).trans e1
          clear e1 e2 e3
          have hnw := (h1.ext hE).newsH
          go_wp2_with (at_builtin; refine wpList_append_own _ rfl _ _ 24 rfl w.heap.size 27 i0 (.slice none 0 0) 1 24 Try.underlying24 hi hz0 hz1 hz2 rfl (by omega) u6 _ _ rfl ho a1 n1 c1 (l1.flatMap encH) rfl (by rw [flatMap_len encH_len, L1.out]) hnw (one_flatH _) (by unfold maxLen; omega) (by omega) hE.le ?_; intro v' w1 ho' hg _)
          go_roundw
          case rel => exact ⟨hE.grown hg (fun k hk => (ho.lt k hk).1), Or.inr (Or.inl ⟨rfl, by simpa using ho'⟩)⟩
          case measure => simp [intOf]
        · have g1 := (hE.cells _ _ hB).trans e2
          clear e1 e2 e3
          have hnw := (h2.ext hE).newsH
          go_wp2_with (at_builtin; refine wpList_append_own _ rfl _ _ 24 rfl w.heap.size 27 i0 (.slice none 0 0) 1 24 Try.underlying24 hi hz0 hz1 hz2 rfl (by omega) u6 _ _ rfl ho a2 n2 c2 (l2.flatMap encH) rfl (by rw [flatMap_len encH_len, L2.out]) hnw (one_flatH _) (by unfold maxLen; omega) (by omega) hE.le ?_; intro v' w1 ho' hg _)
          go_roundw
          case rel => exact ⟨hE.grown hg (fun k hk => (ho.lt k hk).1), Or.inr (Or.inr (Or.inl ⟨rfl, by rw [List.flatMap_append]; exact ho'⟩))⟩
          case measure => simp [intOf]
        · have g1 := (hE.cells _ _ hB).trans e3
          clear e1 e2 e3
          have hnw := (h3.ext hE).newsH
          go_wp2_with (at_builtin; refine wpList_append_own _ rfl _ _ 24 rfl w.heap.size 27 i0 (.slice none 0 0) 1 24 Try.underlying24 hi hz0 hz1 hz2 rfl (by omega) u6 _ _ rfl ho a3 n3 c3 (l3.flatMap encH) rfl (by rw [flatMap_len encH_len, L3.out]) hnw (one_flatH _) (by unfold maxLen; omega) (by omega) hE.le ?_; intro v' w1 ho' hg _)
          go_roundw
          case rel => exact ⟨hE.grown hg (fun k hk => (ho.lt k hk).1), Or.inr (Or.inr (Or.inr ⟨rfl, by rw [List.flatMap_append]; exact ho'⟩))⟩
          case measure => simp [intOf]
        · obtain ⟨q, c, rfl⟩ := owns_forms ho
          go_wp2
          go_ret
          exact ⟨_, _, rfl, ho, hE⟩
end Go.Proofs.Ytaigndaabmelhaa
/- Rows of pieces, the table of two halves in memory: what FirstStitch lays and writes. Condition: at most 2^20 rows. -/
namespace Go.Proofs.Ytaigndaabmelhaa
open Go.RowKit

/-- The pieces' row, read. -/
theorem SlR.pieces {w : World} {qp : Option Addr} {n : Nat} {L : List (List Q4)} {H : List Hd} {A B : List Q4} {k : Nat} {hA hB : Hd} (hk : k < L.length) (hl : L.length = H.length) (hr : ∀ (j : Nat) (h : Hd) (l : List Q4), H[j]? = some h → L[j]? = some l → SlT enc4 4 w h.1 h.2.1 l)
    (tA : SlT enc4 4 w hA.1 hA.2.1 A) (tB : SlT enc4 4 w hB.1 hB.2.1 B) (hH : SlT encH 1 w qp n (H.take k ++ H.drop (k + 1) ++ [hA, hB])) : SlR enc4 4 w qp n (piL L k A B) := by
  refine ⟨_, hH, ?_, fun j h l h1 h2 => ?_⟩
  · rw [← hH.length, piL_len A B hk]; simp only [List.length_append, List.length_take, List.length_drop, List.length_cons, List.length_nil]; omega
  · have e1 : (H.take k).length = k := by rw [List.length_take]; omega
    have e2 : (L.take k).length = k := by rw [List.length_take]; omega
    have e3 : (H.take k ++ H.drop (k + 1)).length = L.length - 1 := by rw [List.length_append, List.length_drop, e1]; omega
    have e4 : (L.take k ++ L.drop (k + 1)).length = L.length - 1 := by rw [List.length_append, List.length_drop, e2]; omega
    rw [piL] at h2
    rcases Nat.lt_or_ge j (L.length - 1) with h5 | h5
    · rw [List.getElem?_append_left (by omega)] at h1 h2
      rcases Nat.lt_or_ge j k with h6 | h6
      · rw [List.getElem?_append_left (by omega), List.getElem?_take_of_lt h6] at h1 h2
        exact hr j h l h1 h2
      · rw [List.getElem?_append_right (by omega), List.getElem?_drop] at h1 h2
        rw [e1] at h1
        rw [e2] at h2
        exact hr _ h l h1 h2
    · rw [List.getElem?_append_right (by omega)] at h1 h2
      rw [e3] at h1
      rw [e4] at h2
      generalize j - (L.length - 1) = t at h1 h2
      match t with
      | 0 => simp at h1 h2; subst h1; subst h2; exact tA
      | 1 => simp at h1 h2; subst h1; subst h2; exact tB
      | t + 2 => simp at h1
/-- Concat of two slices and two rows of their own, as its caller lays them. -/
theorem Concat_at (q1 q2 : Option Addr) (n1 n2 c1 c2 : Nat) (l1 l2 : List Hd) (hA hB : Hd) (w : World) (hq1 : ∃ a, q1 = some a) (hq2 : ∃ a, q2 = some a) (h1 : SlT encH 1 w q1 n1 l1) (h2 : SlT encH 1 w q2 n2 l2) (hn1 : n1 ≤ 1048576) (hn2 : n2 ≤ 1048576) :
    Calls Try.prog 72 #[.slice (some ⟨w.heap.size + 1, 0, none⟩) 3 3] ((w.alloc (.cells #[.slice hA.1 hA.2.1 hA.2.2, .slice hB.1 hB.2.1 hB.2.2] 27)).alloc (.cells #[.slice q1 n1 c1, .slice q2 n2 c2, .slice (some ⟨w.heap.size, 0, none⟩) 2 2] 24)).drew
      fun e w' => ∃ q c, e = .returned (.slice q (n1 + n2 + 2) c) ∧ SlT encH 1 w' q (n1 + n2 + 2) (l1 ++ l2 ++ [hA, hB]) ∧ Ext w w' := by
  obtain ⟨a1, rfl⟩ := hq1
  obtain ⟨a2, rfl⟩ := hq2
  obtain ⟨W, hW⟩ : ∃ W, W = (w.alloc (.cells #[.slice hA.1 hA.2.1 hA.2.2, .slice hB.1 hB.2.1 hB.2.2] 27)).alloc (.cells #[.slice (some a1) n1 c1, .slice (some a2) n2 c2, .slice (some ⟨w.heap.size, 0, none⟩) 2 2] 24) := ⟨_, rfl⟩
  rw [← hW]
  obtain ⟨E, z, b1, b2⟩ := boxes2 hW.symm
  have E1 : Ext W W.drew := (Ext.refl W).drew
  have B1 : Blk W.drew w.heap.size [hdV hA, hdV hB] 27 := (show Blk W w.heap.size [hdV hA, hdV hB] 27 from b1).ext E1
  have B2 : Blk W.drew (w.heap.size + 1) [.slice (some a1) n1 c1, .slice (some a2) n2 c2, .slice (some ⟨w.heap.size, 0, none⟩) 2 2] 24 := (show Blk W (w.heap.size + 1) [.slice (some a1) n1 c1, .slice (some a2) n2 c2, .slice (some ⟨w.heap.size, 0, none⟩) 2 2] 24 from b2).ext E1
  replace E := E.trans E1
  generalize W.drew = V at *
  have h3 : SlT encH 1 V (some ⟨w.heap.size, 0, none⟩) 2 [hA, hB] := by
    refine ⟨rfl, Or.inr ⟨w.heap.size, 0, rfl, B1.lt, fun k x hx j v hv => ?_⟩⟩
    have hj : j = 0 := by
      have := (List.getElem?_eq_some_iff.1 hv).1; rw [encH_len] at this; omega
    subst hj
    simp only [encH, List.getElem?_cons_zero, Option.some.injEq] at hv
    subst hv
    have := B1.cells k
    rw [show 0 + k * 1 + 0 = k by omega, this]
    match k with
    | 0 => simp at hx; subst hx; rfl
    | 1 => simp at hx; subst hx; rfl
    | k + 2 => simp at hx
  refine (Concat3 (w.heap.size + 1) a1 a2 ⟨w.heap.size, 0, none⟩ n1 n2 2 c1 c2 2 l1 l2 [hA, hB] V B2.lt (B2.cells 0) (B2.cells 1) (B2.cells 2) (h1.ext E) (h2.ext E) h3 hn1 hn2 (by omega)).mono ?_
  rintro e w' ⟨q, c, rfl, ho, hE⟩
  have hl1 := h1.length
  have hl2 := h2.length
  exact ⟨q, c, rfl, SlT.of_owns encH_len (by simp only [List.length_append, List.length_cons, List.length_nil]; omega) ho, E.trans hE⟩
/-- s[k:] of headers, whatever the capacity. -/
theorem from_H {w : World} {b off m c k : Nat} {H : List Hd} (h : SlT encH 1 w (some ⟨b, off, none⟩) m H) (hk : k + 1 ≤ m) (hc : m ≤ c) : SlT encH 1 w (if c = k + 1 then some ⟨b, off, none⟩ else some ⟨b, off + (k + 1), none⟩) (m - (k + 1)) (H.drop (k + 1)) := by
  split
  · exact ⟨by rw [List.length_drop, h.length], Or.inl (by omega)⟩
  · have := h.drop (k + 1); rw [Nat.mul_one] at this; exact this
theorem to_H {w : World} {b off m k : Nat} {H : List Hd} (h : SlT encH 1 w (some ⟨b, off, none⟩) m H) (hk : k ≤ m) : SlT encH 1 w (some ⟨b, off, none⟩) k (H.take k) := by
  refine ⟨by rw [List.length_take, h.length]; omega, ?_⟩
  rcases h.2 with h0 | ⟨b', off', hp, hb, hc⟩
  · exact Or.inl (by omega)
  · refine Or.inr ⟨b', off', hp, hb, fun i x hx j v hv => hc i x ?_ j v hv⟩
    by_cases hi : i < k
    · rw [List.getElem?_take_of_lt hi] at hx; exact hx
    · rw [List.getElem?_eq_none (by rw [List.length_take]; omega)] at hx; cases hx
theorem flatb (l : List Bool) : l.flatMap encb = l.map Value.bool := by
  induction l with
  | nil => rfl
  | cons x l ih => rw [List.flatMap_cons, ih]; rfl
theorem flB_set (T : List (List Bool)) (j : Nat) (r : List Bool) : (flB T).set j (r.flatMap encb) = flB (T.set j r) := by simp [flB, List.map_set]
theorem flatb_set (r : List Bool) (j : Nat) (v : Bool) : (r.flatMap encb).set j (.bool v) = (r.set j v).flatMap encb := by simp [flatb, List.map_set]
theorem row_some {w : World} {base sz n c : Nat} {e : TypeId} {p : Option Addr} {xs : List Value} (h : w.ownsRow base e sz (.slice p n c) n xs) (h0 : 0 < n) : ∃ g, p = some ⟨g, 0, none⟩ := by
  rcases h.2 with ⟨_, hn⟩ | ⟨g, cap, cur, hv, _⟩
  · omega
  · cases hv; exact ⟨g, rfl⟩
/-- One entry of a table of its own, written. -/
theorem OwnG.setAt {tr te : TypeId} {base n c m' : Nat} {w : World} {q : Option Addr} {H : List Hd} {T : List (List Bool)} (o : OwnG tr te 1 base w q n c H (flB T)) {i k : Nat} (hi : i < n) (hrow : ∀ r ∈ T, r.length = m') (hk : k < m') :
    ∃ gt g ci, q = some ⟨gt, 0, none⟩ ∧ w.cell? ⟨gt, i, none⟩ = some (.slice (some ⟨g, 0, none⟩) m' ci) ∧ gt < w.heap.size ∧ g < w.heap.size ∧ base ≤ g ∧ H[i]? = some (some ⟨g, 0, none⟩, m', ci) ∧ w.cell? ⟨g, k, none⟩ = some (.bool (edg T i k)) ∧ (∀ j, w.frozen? ⟨g, j, none⟩ = false) ∧
      ∀ v, OwnG tr te 1 base (w.setCell ⟨g, k, none⟩ (.bool v)) q n c H (flB (T.set i ((T.getD i []).set k v))) := by
  have hTn : T.length = n := by have := o.lenV; rw [flB, List.length_map] at this; exact this
  obtain ⟨⟨p, m, ci⟩, hx⟩ : ∃ x, H[i]? = some x := ⟨_, List.getElem?_eq_getElem (by rw [o.len]; exact hi)⟩
  have hr : T[i]? = some T[i] := List.getElem?_eq_getElem (by omega)
  have hV : (flB T)[i]? = some (T[i].flatMap encb) := by rw [flB, List.getElem?_map, hr]; rfl
  have ho := o.row i _ _ hx hV
  have hTi := hrow _ (List.getElem_mem (h := (by omega : i < T.length)))
  have hm : m = m' := by
    have h1 := o.hd (enc := encb) (L := T) (by omega) encb_len hx hr
    rw [hTi] at h1; exact h1.symm
  subst hm
  simp only [hdV] at ho
  obtain ⟨g, rfl⟩ := row_some ho (by omega)
  obtain ⟨gt, rfl⟩ := row_some o.top (by omega)
  have hv0 := ho.cellAt k (by omega)
  rw [flatb, List.getElem?_map, List.getElem?_eq_getElem (by omega : k < T[i].length)] at hv0
  have htc := o.top.cellAt i (by omega)
  have htc2 : (H.flatMap encH)[i]? = some (hdV (some ⟨g, 0, none⟩, m, ci)) := by
    have := flatMap_at encH_len (l := H) (k := i) hx (j := 0) (v := hdV (some ⟨g, 0, none⟩, m, ci)) rfl
    simpa using this
  rw [htc2] at htc
  have hed : edg T i k = T[i][k]'(by omega) := by
    rw [edg, getD_of hr, getD_of (List.getElem?_eq_getElem (by omega : k < T[i].length))]
  refine ⟨gt, g, ci, rfl, htc, (owns_lt o.top).2, (owns_lt ho).2, (owns_lt ho).1, hx, by rw [hed]; exact hv0, fun j => owns_free ho j, fun v => ?_⟩
  have M : Mut w (w.setCell ⟨g, k, none⟩ (.bool v)) (blkOf (some ⟨g, 0, none⟩)) := (Mut.refl w _).setCell (p := ⟨g, k, none⟩) (mem_blkOf.2 ⟨_, rfl, rfl⟩) _
  have := o.setRow hx M (owns_set ho k (.bool v))
  rw [flatb_set, flB_set] at this
  rw [getD_of hr]
  exact this
end Go.Proofs.Ytaigndaabmelhaa

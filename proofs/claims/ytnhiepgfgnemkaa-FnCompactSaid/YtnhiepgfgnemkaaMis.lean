/- CompactMirror (reference): the distances to the axis, by enough rounds. Condition: valid blocks and gap. -/
import Derived.Test.YtnhiepgfgnemkaaMir
namespace Go.Proofs.Ytnhiepgfgnemkaa
open Go.RowKit

theorem cells_newd (w : World) (cs : List Value) (t : TypeId) : ∀ j u, cs[j]? = some u → (w.alloc (.cells cs.toArray t)).drew.cell? ((⟨w.heap.size, 0, none⟩ : Addr).add j) = some u := cells_new w cs t
theorem one_int3 (a b c : Int) : ∀ u ∈ [Value.int .i64 a, .int .i64 b, .int .i64 c], u.oneCell' = true := fun u hu => by simp at hu; rcases hu with rfl | rfl | rfl <;> rfl
set_option maxRecDepth 100000 in
set_option maxHeartbeats 16000000 in
theorem specCompactMirror_ok (q : Option Addr) (n c : Nat) (l : List Q4) (g : Int) (w : World) (h : SlT enc4 4 w q n l) (hl : isBL l = true) (hg : wit g 0 8 = true) :
    Calls Try.prog 32 #[.slice q n c, .int .i64 g] w fun e w' => ∃ p d p' d', e = .returned (.tuple #[.slice p n d, .slice p' n d', .int .i64 0]) ∧ w'.ownsRow w.heap.size 2 1 (.slice p n d) n (ints (tab n (leftF l g))) ∧ w'.ownsRow w.heap.size 2 1 (.slice p' n d') n (ints (tab n (rightF l g))) ∧ (∀ x y, p = some x → p' = some y → x.block ≠ y.block) ∧ Ext w w' := by
  obtain ⟨i0, hi, hz0, hz1, hz2⟩ := info_parts info_Int64
  obtain ⟨j0, hj0, hy0, hy1, hy2⟩ := info_parts info_Constraint
  have hc := codeB_ok hl hg
  have l1 := hid h.length
  have hn : n ≤ 12 := by have := (isBL_parts hl).1; rw [h.length] at this; exact this
  have hnI : (n : Int) ≤ 12 := by omega
  have hcode := l31Code_any q n c l g w h (by omega)
  rw [hc] at hcode
  clear hc
  have hEd := hid (csL_edges hl hg)
  have hEr := hid (revW_edges (n := n) l1.out hl hg)
  rw [l1.out] at hEd
  have hcl : (csL l g).length ≤ 144 := by have := csL_len l g; rw [h.length] at this; have := Nat.mul_le_mul hn hn; omega
  have hgb := wit_iff.1 hg
  obtain ⟨hg0, hg1⟩ := hgb
  replace hl := hid hl
  replace hg := hid hg
  go_enter Try.func32, Try.ntmps32
  go_wp2_with fail
  refine hcode.mono ?_
  clear hcode
  rintro e w1 ⟨rfl, E1⟩
  go_wp2_with fail
  refine (l31Constraints_any q n c l g _ (h.ext E1) hl.out hg.out).mono ?_
  rintro e w2 ⟨qe, ce, rfl, oe, E2⟩
  have sE := hid (SlT.of_owns enc3_len rfl oe)
  have E02 := hid (E1.trans E2)
  have hs2 := hid (h.ext E02.out)
  clear E1 E2 oe
  obtain ⟨E, hEq⟩ : ∃ E, E = csL l g := ⟨_, rfl⟩
  rw [← hEq] at hcl hEd hEr sE ⊢
  replace hEq := hid hEq
  go_wp2_with fail
  have hb0 : (w2.alloc (.cells #[] 71)).ownsRow w2.heap.size 71 3 (.slice (some ⟨w2.heap.size, 0, none⟩) 0 0) 0 [] := by
    have := World.ownsRow_made (base := w2.heap.size) (e := 71) (size := 3) w2 #[] 0 (by simp) (by simp [maxLen]) (by simp)
    exact this
  go_loopw [9, 10] (fun v i wr => ∃ k : Nat, k ≤ E.length ∧ i = .int .i64 k ∧ Ext w2 wr ∧ wr.ownsRow w2.heap.size 71 3 v k (((revW l g E).take k).flatMap enc3)) (fun _ i _ => E.length - (intOf i).toNat)
  case atStart => exact ⟨0, by omega, rfl, (Ext.refl _).alloc _, hb0⟩
  case round =>
    clear hb0
    obtain ⟨k, hk, rfl, hX, ho⟩ := hrel
    by_cases hkE : k < E.length
    · have hkI : (k : Int) < E.length := by omega
      obtain ⟨bc, oc, e, rfl, hbc8, he, e0, e1, e2⟩ := sE.out.three hkE
      obtain ⟨⟨D, hD, hDk⟩, ⟨A, hA, hAk⟩, hc0, hc1⟩ := hEd.out e (List.mem_of_getElem? he.out)
      obtain ⟨bl, ol, xk, rfl, hbl8, hxk, m0, m1, m2, m3⟩ := hs2.out.four hAk
      have hwA := wid_bd hl.out (by rw [l1.out]; exact hAk)
      rw [bA_at hxk.out] at hwA
      obtain ⟨hwA0, hwA1⟩ := hwA
      have hAI : (A : Int) < n := by omega
      have hsn : Hid (((revW l g E).take (k + 1)).flatMap enc3 = ((revW l g E).take k).flatMap enc3 ++ [.int .i64 (A : Int), .int .i64 (D : Int), .int .i64 (xk.c + g)]) := by
        show _ = _
        rw [take_snoc (revW_at (l := l) (g := g) he.out), List.flatMap_append]
        rw [hA, hD, bA_at hxk.out]
        simp [enc3]
      rw [hD] at e0
      rw [hA] at e1
      replace e0 := (hX.cells _ _ hbc8).trans e0
      replace e1 := (hX.cells _ _ hbc8).trans e1
      replace m2 := (hX.cells _ _ hbl8).trans m2
      have hbc : bc < wr.heap.size := by have := hX.le; omega
      have hbl : bl < wr.heap.size := by have := hX.le; omega
      have hbase : w2.heap.size ≤ (wr.alloc (.cells #[.int .i64 (A : Int), .int .i64 (D : Int), .int .i64 (xk.c + g)] 71)).heap.size := (hX.alloc _).le
      have A0 := ((Ext.refl wr).alloc (.cells #[.int .i64 (A : Int), .int .i64 (D : Int), .int .i64 (xk.c + g)] 71)).drew
      have q0 := (A0.cells _ _ hbc).trans e0
      have q1 := (A0.cells _ _ hbc).trans e1
      have q2 := (A0.cells _ _ hbl).trans m2
      have nb1 := hid (Nat.lt_of_lt_of_le hbc A0.le)
      have nb2 := hid (Nat.lt_of_lt_of_le hbl A0.le)
      have ne1 := hid (show ∀ b, b < w2.heap.size → Value.ownBlock u9 ≠ some b from fun b hb hh => by have := (ho.lt b hh).1; omega)
      have hwr1 : IntKind.i64.wrap (xk.c + g) = xk.c + g := IntWalk.i64_in _ (by omega)
      replace hD := hid hD
      replace hA := hid hA
      clear A0 e2 m0 m1 m3
      go_wp2_with fail
      go_region_held3 (fun w' => w'.cell? ⟨bc, oc + k * 3, none⟩ = some (.int .i64 (D : Int)) ∧ w'.cell? ⟨bc, oc + k * 3 + 1, none⟩ = some (.int .i64 (A : Int)) ∧ w'.cell? ⟨bl, ol + A * 4 + 2, none⟩ = some (.int .i64 xk.c)) (first | exact ⟨e0, e1, m2⟩ | exact ⟨q0, q1, q2⟩ | exact ⟨(grown_cell hgA nb1.out (ne1.out _ hbc8) _).trans q0, (grown_cell hgA nb1.out (ne1.out _ hbc8) _).trans q1, (grown_cell hgA nb2.out (ne1.out _ hbl8) _).trans q2⟩) ((refine step_append_lies _ rfl _ _ 37 rfl w2.heap.size 71 j0 _ 3 24 Try.underlying37 hj0 hy0 hy1 hy2 rfl (by omega) _ _ _ rfl (ho.alloc _).drew ⟨wr.heap.size, 0, none⟩ 1 1 [.int .i64 (A : Int), .int .i64 (D : Int), .int .i64 (xk.c + g)] rfl rfl (cells_newd _ _ _) (one_int3 _ _ _) (by omega) (len_le (by omega) (by omega)) (by omega) hbase _ rfl ?_; intro gL cL wA hoA hgA hbA hlA))
      go_wp2_with fail
      go_roundw
      case rel =>
        refine ⟨k + 1, by omega, by go_num, (hX.alloc (.cells #[.int .i64 (A : Int), .int .i64 (D : Int), .int .i64 (xk.c + g)] 71)).drew.grown hgA (fun b hb => (ho.lt b hb).1), ?_⟩
        rw [hsn.out]; exact hoA
      case measure => simp [intOf]; omega
    · have hkk : k = E.length := by omega
      have hrl : Hid ((revW l g E).take k = revW l g E) := take_all (revW_len l g E) (by omega)
      rw [hrl.out, hkk] at ho
      obtain ⟨qb, cb, rfl⟩ := owns_forms ho
      have sB := SlT.of_owns (l := revW l g E) enc3_len (revW_len l g E) ho
      have hEr2 := hEr.out
      clear ho
      go_wp2_with fail
      refine (l31Least_any n E.length cb ((g + 1) / 2) qb (revW l g E) _ sB hn (by omega) hEr2 (by omega) (by omega)).mono ?_
      rw [hEq.out, mir_rnds l1.out, ← hEq.out]
      rintro e w7 ⟨qd, cd, rfl, od, E7⟩
      have sD0 := tab_SlT od
      have E0r := (E02.out.trans hX).trans E7
      clear sB hEr2 od
      go_wp2_with fail
      refine (l31Width_any q qd n c cd l (tab n (mirF l g)) _ (h.ext E0r) sD0 (by omega) (hid (isBL_vblk hl.out)) (hid (mirF_ok hl.out hg.out n))).mono ?_
      rintro e w8 ⟨rfl, E8⟩
      obtain ⟨Ax, hAx0⟩ : ∃ Ax, Ax = widB l (tab n (mirF l g)) := ⟨_, rfl⟩
      have hAx : Hid (axisF l g = Ax) := by show _ = _; rw [axisF, l1.out, hAx0]
      have hAb := axisF_bd hl.out hg.out
      rw [hAx.out] at hAb
      obtain ⟨hA0, hA1⟩ := hAb
      rw [← hAx0]
      replace hAx0 := hid hAx0
      have E08 := hid (E0r.trans E8)
      have sD := hid (sD0.ext E8)
      have hs := hid (h.ext E08.out)
      have hww : w.heap.size ≤ w8.heap.size := E08.out.le
      have hkE' : (k : Int) = E.length := by omega
      replace hkE' := hid hkE'
      subst hkk
      clear sD0 E0r E8 E7 hX hEd sE hcl hEr hkE hk
      go_wp2_with fail
      have hl0 : ((w8.alloc (.cells #[] 2)).alloc (.cells #[] 2)).ownsRow w8.heap.size 2 1 (.slice (some ⟨w8.heap.size, 0, none⟩) 0 0) 0 [] := by
        have := World.ownsRow_made (base := w8.heap.size) (e := 2) (size := 1) w8 #[] 0 (by simp) (by simp [maxLen]) (by simp)
        exact this.alloc _
      have hr0 : ((w8.alloc (.cells #[] 2)).alloc (.cells #[] 2)).ownsRow w8.heap.size 2 1 (.slice (some ⟨w8.heap.size + 1, 0, none⟩) 0 0) 0 [] := by
        have := World.ownsRow_made (base := w8.heap.size) (e := 2) (size := 1) (w8.alloc (.cells #[] 2)) #[] 0 (by simp) (by simp [maxLen]) (by simp)
        simpa using this
      go_loopw [13, 14, 15] (fun v u i wr => ∃ k : Nat, k ≤ n ∧ i = .int .i64 k ∧ Ext w8 wr ∧ v ≠ .slice none 0 0 ∧ u ≠ .slice none 0 0 ∧ u.ownBlock ≠ v.ownBlock ∧ wr.ownsRow w8.heap.size 2 1 v k (ints (tab k (leftF l g))) ∧ wr.ownsRow w8.heap.size 2 1 u k (ints (tab k (rightF l g)))) (fun _ _ i _ => n - (intOf i).toNat)
      case atStart => exact ⟨0, by omega, rfl, ((Ext.refl _).alloc _).alloc _, by simp, by simp, by simp [Value.ownBlock], hl0, hr0⟩
      case round =>
        clear hl0 hr0
        obtain ⟨k, hk, rfl, hX, hv, hu, hvu, hoL, hoR⟩ := hrel
        by_cases hkn : k < n
        · have hkI : (k : Int) < n := by omega
          obtain ⟨bl, ol, xi, rfl, hbl8, hxi, l0, l1', l2, l3⟩ := hs.out.four hkn
          obtain ⟨bd, od, rfl, hbd8, d0⟩ := sD.out.tab hkn
          have hwi := wid_bd hl.out (by rw [l1.out]; exact hkn)
          rw [bA_at hxi.out] at hwi
          obtain ⟨hwi0, hwi1⟩ := hwi
          obtain ⟨Dk, hDk⟩ : ∃ v, v = mirF l g k := ⟨_, rfl⟩
          rw [← hDk] at d0
          replace d0 := (hX.cells _ _ hbd8).trans d0
          replace l0 := (hX.cells _ _ hbl8).trans l0
          replace l1' := (hX.cells _ _ hbl8).trans l1'
          replace l2 := (hX.cells _ _ hbl8).trans l2
          replace l3 := (hX.cells _ _ hbl8).trans l3
          have hbl : bl < wr.heap.size := by have := hX.le; omega
          have hbd : bd < wr.heap.size := by have := hX.le; omega
          have ne1 : ∀ b, b < w8.heap.size → Value.ownBlock u13 ≠ some b := fun b hb hh => by have := (hoL.lt b hh).1; omega
          have ne2 : Value.ownBlock u13 ≠ some wr.heap.size := fun hh => by have := (hoL.lt _ hh).2; omega
          replace ne1 := hid ne1
          replace ne2 := hid ne2
          have hDb := mirF_btw hl.out hg.out k
          rw [← hDk] at hDb
          obtain ⟨hD0, hD1⟩ := hDb
          have hrL : Hid (ints (tab (k + 1) (leftF l g)) = ints (tab k (leftF l g)) ++ [.int .i64 (Ax - Dk - xi.c)]) := by
            have e : leftF l g k = Ax - Dk - xi.c := by rw [leftF, bA_at hxi.out, hAx.out, hDk]
            show _ = _; rw [tab_snoc, ints, List.map_append, e]; rfl
          have hrR : Hid (ints (tab (k + 1) (rightF l g)) = ints (tab k (rightF l g)) ++ [.int .i64 (Ax + Dk)]) := by
            have e : rightF l g k = Ax + Dk := by rw [rightF, hAx.out, hDk]
            show _ = _; rw [tab_snoc, ints, List.map_append, e]; rfl
          replace hDk := hid hDk
          replace hvu := hid hvu
          clear l0 l1' l3
          go_wp2_with fail
          have hbase : w8.heap.size ≤ (wr.alloc (.cells #[.int .i64 (Ax - Dk - xi.c)] 2)).heap.size := (hX.alloc _).le
          have q1 : (wr.alloc (.cells #[.int .i64 (Ax - Dk - xi.c)] 2)).drew.cell? ⟨bd, od + k, none⟩ = some (.int .i64 Dk) := (((Ext.refl wr).alloc (.cells #[.int .i64 (Ax - Dk - xi.c)] 2)).drew.cells _ _ hbd).trans d0
          have q2 : (wr.alloc (.cells #[.int .i64 (Ax - Dk - xi.c)] 2)).drew.cell? ⟨bl, ol + k * 4 + 2, none⟩ = some (.int .i64 xi.c) := (((Ext.refl wr).alloc (.cells #[.int .i64 (Ax - Dk - xi.c)] 2)).drew.cells _ _ hbl).trans l2
          have nb1 := Nat.lt_of_lt_of_le hbd ((Ext.refl wr).alloc (.cells #[.int .i64 (Ax - Dk - xi.c)] 2)).drew.le
          have nb2 := Nat.lt_of_lt_of_le hbl ((Ext.refl wr).alloc (.cells #[.int .i64 (Ax - Dk - xi.c)] 2)).drew.le
          replace nb1 := hid nb1
          replace nb2 := hid nb2
          have hwr1 : IntKind.i64.wrap (Ax - Dk) = Ax - Dk := IntWalk.i64_in _ (by omega)
          have hwr2 : IntKind.i64.wrap (Ax - Dk - xi.c) = Ax - Dk - xi.c := IntWalk.i64_in _ (by omega)
          go_region_held3 (fun w' => w'.cell? ⟨bd, od + k, none⟩ = some (.int .i64 Dk) ∧ w'.cell? ⟨bl, ol + k * 4 + 2, none⟩ = some (.int .i64 xi.c)) (first | exact ⟨d0, l2⟩ | exact ⟨q1, q2⟩ | exact ⟨(grown_cell hgA nb1.out (ne1.out _ hbd8) _).trans q1, (grown_cell hgA nb2.out (ne1.out _ hbl8) _).trans q2⟩) ((refine step_append_lies _ rfl _ _ 23 rfl w8.heap.size 2 i0 _ 1 8 Try.underlying23 hi hz0 hz1 hz2 rfl (by omega) _ _ _ rfl (hoL.alloc _).drew ⟨wr.heap.size, 0, none⟩ 1 1 [.int .i64 (Ax - Dk - xi.c)] rfl rfl (cells_new1d _ _ _) (one_int1 _) (by omega) (len_le (by omega) (by omega)) (by omega) hbase _ rfl ?_; intro gL cL wA hoA hgA hbA hlA))
          have hXA := (hX.alloc (.cells #[.int .i64 (Ax - Dk - xi.c)] 2)).drew.grown hgA (fun b hb => (hoL.lt b hb).1)
          have hoRA := (hoR.alloc (.cells #[.int .i64 (Ax - Dk - xi.c)] 2)).drew.kept hgA (Or.inr hvu.out)
          have hvu2 := hid (ne_append2 (m := k + 1) (c := cL) hvu.out hoR hbA)
          obtain ⟨bd', od', e', hbdA, dA⟩ := (sD.out.ext hXA).tab hkn
          cases e'
          rw [← hDk.out] at dA
          have hbA2 : w8.heap.size ≤ (wA.alloc (.cells #[.int .i64 (Ax + Dk)] 2)).heap.size := (hXA.alloc _).le
          clear hgA hbA hoL hoR hX hvu hv q1 q2 nb1 nb2 ne1 ne2 hwr1 hwr2 hbase d0 l2
          go_wp2_with (at_builtin; refine wpList_append_own_at (o := ⟨some 98, _, _, _, _, _⟩) _ rfl _ _ 23 rfl w8.heap.size 2 i0 _ 1 8 Try.underlying23 hi hz0 hz1 hz2 rfl (by omega) _ _ _ rfl (hoRA.alloc _) ⟨wA.heap.size, 0, none⟩ 1 1 [.int .i64 (Ax + Dk)] rfl rfl (cells_new1 _ _ _) (one_int1 _) (len_le (by omega) (by omega)) (by omega) hbA2 ?_; intro v2' wB hoB hgB hnB hbB)
          go_roundw
          case rel =>
            refine ⟨k + 1, by omega, by go_num, (hXA.alloc (.cells #[.int .i64 (Ax + Dk)] 2)).grown hgB (fun k hk => (hoRA.lt k hk).1), by simp, fun hh => hu (hnB.1 hh).1, fun hh => ?_, ?_, ?_⟩
            · exact ne_append (fun e => hvu2.out e.symm) hoA hbB hh.symm
            · rw [hrL.out]; exact (hoA.alloc (.cells #[.int .i64 (Ax + Dk)] 2)).kept hgB (Or.inr (fun hh => hvu2.out hh.symm))
            · rw [hrR.out]; exact hoB
          case measure => simp [intOf]; omega
        · have hkn' : k = n := by omega
          rw [hkn'] at hoL hoR
          obtain ⟨qL, cL, rfl⟩ := owns_forms hoL
          obtain ⟨qR, cR, rfl⟩ := owns_forms hoR
          go_wp2_with fail
          go_ret3
          refine ⟨qL, cL, qR, cR, rfl, Joins.ownsRow_le hoL hww, Joins.ownsRow_le hoR hww, fun x y hx hy hxy => ?_, E08.out.trans hX⟩
          rw [hx, hy] at hvu
          exact hvu (by simp [Value.ownBlock, hxy])
      
end Go.Proofs.Ytnhiepgfgnemkaa

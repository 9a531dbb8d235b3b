/- CompactMirror (program): the distances to the axis, by a pass from right to left. Condition: valid blocks and gap. -/
import Derived.Test.YtnhiepgfgnemkaaSls
import Derived.Deep.RegionWith
import Derived.Deep.RegionHeld3
import Derived.Deep.AppendLies
namespace Go.Proofs.Ytnhiepgfgnemkaa
open Go.RowKit

theorem ne_append2 {wd : World} {o : Obj} {u v : Value} {base sz n g m c : Nat} {e : TypeId} {xs : List Value} (hne : u.ownBlock ≠ v.ownBlock) (hR : wd.ownsRow base e sz u n xs) (hb : v.ownBlock = some g ∨ g = (wd.alloc o).drew.heap.size) : u.ownBlock ≠ (Value.slice (some ⟨g, 0, none⟩) m c).ownBlock := fun hh => by
  rcases hb with h1 | h1
  · exact hne (hh.trans h1.symm)
  · have h2 := (hR.lt _ hh).2; rw [h1] at h2; simp at h2; omega
theorem grown_cell {w w' : World} {row : Option Nat} (hg : w.grownBy w' row) {b : Nat} (hb : b < w.heap.size) (hne : row ≠ some b) (o : Nat) : w'.cell? ⟨b, o, none⟩ = w.cell? ⟨b, o, none⟩ := World.cell?_of_block (w := w) (a := ⟨b, o, none⟩) (hg.block b hb (fun h => hne h.symm))
theorem cells_new1d (w : World) (v : Value) (t : TypeId) : ∀ j u, [v][j]? = some u → (w.alloc (.cells #[v] t)).drew.cell? ((⟨w.heap.size, 0, none⟩ : Addr).add j) = some u := cells_new1 w v t
theorem ne_append {wd : World} {o : Obj} {u v v' : Value} {base sz n : Nat} {e : TypeId} {xs : List Value} (hne : u.ownBlock ≠ v.ownBlock) (hR : wd.ownsRow base e sz u n xs) (hb : v'.ownBlock = v.ownBlock ∨ v'.ownBlock = some (wd.alloc o).heap.size) : u.ownBlock ≠ v'.ownBlock := fun hh => by
  rcases hb with h1 | h1
  · rw [h1] at hh; exact hne hh
  · rw [h1] at hh; have h2 := (hR.lt _ hh).2; rw [World.size_alloc] at h2; omega
set_option maxRecDepth 100000 in
set_option maxHeartbeats 16000000 in
theorem CompactMirror_ok (q : Option Addr) (n c : Nat) (l : List Q4) (g : Int) (w : World) (h : SlT enc4 4 w q n l) (hl : isBL l = true) (hg : wit g 0 8 = true) :
    Calls Try.prog 33 #[.slice q n c, .int .i64 g] w fun e w' => ∃ p d p' d', e = .returned (.tuple #[.slice p n d, .slice p' n d', .int .i64 0]) ∧ w'.ownsRow w.heap.size 2 1 (.slice p n d) n (ints (tab n (leftF l g))) ∧ w'.ownsRow w.heap.size 2 1 (.slice p' n d') n (ints (tab n (rightF l g))) ∧ (∀ x y, p = some x → p' = some y → x.block ≠ y.block) ∧ Ext w w' := by
  have hc := codeB_ok hl hg
  have l1 := hid h.length
  have hn : n ≤ 12 := by have := (isBL_parts hl).1; rw [h.length] at this; exact this
  have hnI : (n : Int) ≤ 12 := by omega
  have hcode := blocksCode_any q n c l g w h (by omega)
  rw [hc] at hcode
  clear hc
  have hEd := hid (csL_edges hl hg)
  rw [l1.out] at hEd
  have hol := hid (ltr_len l)
  rw [l1.out] at hol
  have hom : Hid (∀ x ∈ ltr l, ∃ i : Nat, x = i ∧ i < n) := fun x hx => by
    have := (ltr_is l).perm.mem_iff.1 hx
    rw [l1.out] at this; exact upto_mem this
  have hmk := made_run n (by omega)
  have hcl : (csL l g).length ≤ 144 := by have := csL_len l g; rw [h.length] at this; have := Nat.mul_le_mul hn hn; omega
  have hgb := wit_iff.1 hg
  obtain ⟨hg0, hg1⟩ := hgb
  replace hl := hid hl
  replace hg := hid hg
  obtain ⟨i0, hi, hz0, hz1, hz2⟩ := info_parts info_Int64
  go_enter Try.func33, Try.ntmps33
  go_wp2_with fail
  refine hcode.mono ?_
  clear hcode
  rintro e w1 ⟨rfl, E1⟩
  have hw1 : w.heap.size ≤ w1.heap.size := E1.le
  have hord : ∀ (W W' : World) (q2 : Option Addr) (c2 : Nat), W.ownsRow W'.heap.size 3 1 (.slice q2 n c2) n (ints (ltr l)) → SlT enc1 1 W q2 n (ltr l) := fun W W' q2 c2 ho => by rw [ints, ← flat1] at ho; exact SlT.of_owns enc1_len hol.out ho
  replace hord := hid hord
  go_wp2_with fail
  refine wp_cut (fun a0 a' w' => ∃ (gx : Nat) (q1 : Option Addr) (c1 : Nat) (q2 : Option Addr) (c2 : Nat), (w.heap.size ≤ gx ∧ gx < w'.heap.size ∧ Ext w1 w' ∧ w'.ownsRow w.heap.size 2 1 (.slice (some ⟨gx, 0, none⟩) n n) n (ints (tab n fun _ => 0)) ∧ SlT enc3 3 w' q1 (csL l g).length (csL l g) ∧ SlT enc1 1 w' q2 n (ltr l) ∧ (∀ a, q1 = some a → a.block ∉ [gx]) ∧ (∀ a, q2 = some a → a.block ∉ [gx])) ∧
    a' = ((((((((((a0.put (some 26) (.slice q n c)).put (some 27) (.int .i64 n)).put (some 28) (.slice (some ⟨gx, 0, none⟩) n n)).put (some 29) (.slice q n c)).put (some 30) (.int .i64 g)).put (some 31) (.slice q1 (csL l g).length c1)).put (some 32) (.slice q n c)).put (some 33) (.slice q2 n c2)).put (some 8) (.slice (some ⟨gx, 0, none⟩) n n)).put (some 9) (.slice q1 (csL l g).length c1)).put (some 10) (.slice q2 n c2)) ?_ ?_
  · go_region_with (first | (go_at_call 61; refine (constraints_any q n c l g _ (h.ext (E1.trans (by first | (with_reducible exact (Ext.refl w1).drew) | (with_reducible exact ((Ext.refl w1).alloc _).drew)))) hl.out hg.out).mono ?_; rintro e w2 ⟨q1, c1, rfl, o1, E2⟩) | (go_at_call 68; refine (leftToRight_any q n c l _ (h.ext (E1.trans (by first | (with_reducible exact (Ext.refl w1).drew.trans E2) | (with_reducible exact ((Ext.refl w1).alloc _).drew.trans E2) | (with_reducible exact ((Ext.refl w1).drew.trans E2).alloc _)))) hn).mono ?_; rintro e w3 ⟨q2, c2, rfl, o2, E3⟩))
    · have z2 := E2.le; have z3 := E3.le; simp at z2 z3
      refine ⟨w1.heap.size, q1, c1, q2, c2, ⟨hw1, by omega, (((Ext.refl w1).alloc _).drew.trans E2).trans E3, owns_ext (owns_ext (made_owns n w.heap.size (by omega) w1 hw1).drew E2) E3, (SlT.of_owns enc3_len rfl o1).ext E3, hord.out _ _ _ _ o2, fun a ha => ?_, fun a ha => ?_⟩, ?_⟩
      · subst ha; have := (o1.lt a.block rfl).1; simp at this ⊢; omega
      · subst ha; have := (o2.lt a.block rfl).1; simp at this ⊢; omega
      · kernel_rfl
    · have z2 := E2.le; have z3 := E3.le; simp at z2 z3
      refine ⟨w2.heap.size, q1, c1, q2, c2, ⟨by omega, by omega, (((Ext.refl w1).drew.trans E2).alloc _).trans E3, owns_ext (made_owns n w.heap.size (by omega) w2 (by omega)) E3, ((SlT.of_owns enc3_len rfl o1).ext ((Ext.refl w2).alloc _)).ext E3, hord.out _ _ _ _ o2, fun a ha => ?_, fun a ha => ?_⟩, ?_⟩
      · subst ha; have := (o1.lt a.block rfl).2; simp; omega
      · subst ha; have := (o2.lt a.block rfl).1; simp at this ⊢; omega
      · kernel_rfl
    · have z2 := E2.le; have z3 := E3.le; simp at z2 z3
      refine ⟨w3.heap.size, q1, c1, q2, c2, ⟨by omega, by simp, (((Ext.refl w1).drew.trans E2).trans E3).alloc _, made_owns n w.heap.size (by omega) w3 (by omega), ((SlT.of_owns enc3_len rfl o1).ext E3).ext ((Ext.refl w3).alloc _), (hord.out _ _ _ _ o2).ext ((Ext.refl w3).alloc _), fun a ha => ?_, fun a ha => ?_⟩, ?_⟩
      · subst ha; have := (o1.lt a.block rfl).2; simp; omega
      · subst ha; have := (o2.lt a.block rfl).2; simp; omega
      · kernel_rfl
  rintro a' w5 ⟨gx, qe, ce, qo, co, ⟨hgw, hgl, E5, hox, sE, sO, hneE, hneO⟩, rfl⟩
  simp only [Act.put, List.setIfInBounds_toArray, List.set_cons_zero, List.set_cons_succ]
  clear hmk hord
  replace sE := hid sE
  replace sO := hid sO
  replace hneE := hid hneE
  replace hneO := hid hneO
  have hEw := hid (E1.trans E5)
  replace hgw := hid hgw
  replace hgl := hid hgl
  clear E5 E1 hw1
  obtain ⟨E, hEq⟩ : ∃ E, E = csL l g := ⟨_, rfl⟩
  rw [← hEq] at hcl hEd sE ⊢
  replace hEq := hid hEq
  have hz : (fun _ => (0 : Int)) = passB (revW l g E) (fun _ => (g + 1) / 2) ((ltrR l).take (n - n)) (fun _ => 0) := by rw [Nat.sub_self]; rfl
  rw [hz] at hox
  have hb0 : Hid (Btw (passB (revW l g E) (fun _ => (g + 1) / 2) ((ltrR l).take (n - n)) (fun _ => 0)) 0 (4 + 48 * (144 * ((n : Int) - n)))) := fun i => by
    rw [Nat.sub_self]; show 0 ≤ (0 : Int) ∧ (0 : Int) ≤ _; omega
  clear hz
  go_wp2_with fail
  go_loopw [11] (fun z wr => ∃ (y : Int) (j : Nat), z = .int .i64 y ∧ Hid (y = (j : Int) - 1) ∧ j ≤ n ∧ Mut w5 wr [gx] ∧ wr.ownsRow w.heap.size 2 1 (.slice (some ⟨gx, 0, none⟩) n n) n (ints (tab n (passB (revW l g E) (fun _ => (g + 1) / 2) ((ltrR l).take (n - j)) (fun _ => 0)))) ∧ Hid (Btw (passB (revW l g E) (fun _ => (g + 1) / 2) ((ltrR l).take (n - j)) (fun _ => 0)) 0 (4 + 48 * (144 * ((n : Int) - j))))) (fun z _ => (intOf z + 1).toNat)
  case atStart => exact ⟨_, n, rfl, rfl, Nat.le_refl _, Mut.refl _ _, hox, hb0⟩
  case round =>
    clear hox hb0
    obtain ⟨y, j, rfl, hy, hj, hM, ho, hb⟩ := hrel
    by_cases hj0 : 0 < j
    · obtain ⟨k, rfl⟩ : ∃ k, j = k + 1 := ⟨j - 1, by omega⟩
      obtain rfl : y = (k : Int) := by have := hy.out; omega
      clear hy hj0
      have hkn : k < n := by omega
      obtain ⟨bo, oo, x, rfl, hbo, hx, x0⟩ := (sO.out.mut hM hneO.out).int hkn
      have hxr := ltrR_at l1.out hkn hx.out
      obtain ⟨i, hxi, hiN⟩ := hom.out x (List.mem_of_getElem? hx.out)
      subst hxi
      have hkI : (k : Int) < n := by omega
      have hk0 : (0 : Int) ≤ k := by omega
      have hiI : (i : Int) < n := by omega
      obtain ⟨F, hF⟩ : ∃ F, F = (passB (revW l g E) (fun _ => (g + 1) / 2) ((ltrR l).take (n - (k + 1))) (fun _ => 0)) := ⟨_, rfl⟩
      have hFn := hid (foldl_snoc (fun f i => (revW l g E).foldl (vst i) (updI f i ((fun _ => (g + 1) / 2) i))) (fun _ => 0) hxr)
      rw [show n - (k + 1) + 1 = n - k by omega] at hFn
      rw [← hF] at ho hb
      replace hF := hid hF
      obtain ⟨bl, ol, xi, rfl, hbl, hxi, l0, l1', l2, l3⟩ := (h.ext (hEw.out.then hM (by intro k hk; simp at hk; have := hgw.out; omega))).four hiN
      have hwi := wid_bd hl.out (by rw [l1.out]; exact hiN)
      rw [bA_at hxi.out] at hwi
      obtain ⟨hwi0, hwi1⟩ := hwi
      have hb1 := hid (hb.out.upd (i := i) (v := (g + 1) / 2) (by omega) (by omega))
      have r0 := tab_cell ho hiN
      have fz := owns_free ho
      go_wp2_with fail
      generalize hWq : World.setCell _ _ _ = wq
      have hM1 : Mut w5 wq [gx] := by rw [← hWq]; exact (hM.setCell (p := ⟨gx, i, none⟩) (by simp) _)
      have ho1 : wq.ownsRow w.heap.size 2 1 (.slice (some ⟨gx, 0, none⟩) n n) n (ints (tab n (updI F i ((g + 1) / 2)))) := by rw [← hWq]; exact (tab_put ho i _ rfl)
      clear hWq r0 fz ho hM hb
      obtain ⟨F1, hF1'⟩ : ∃ F1, F1 = (updI F i ((g + 1) / 2)) := ⟨_, rfl⟩
      rw [← hF1'] at ho1 hb1
      replace hF1' := hid hF1'
      clear x0 l0 l1' l2 l3 
      go_loopw [53] (fun r wr => ∃ t : Nat, t ≤ E.length ∧ r = .int .i64 t ∧ Mut w5 wr [gx] ∧ wr.ownsRow w.heap.size 2 1 (.slice (some ⟨gx, 0, none⟩) n n) n (ints (tab n (((revW l g E).take t).foldl (vst i) F1))) ∧ Hid (Btw (((revW l g E).take t).foldl (vst i) F1) 0 (4 + 48 * (144 * ((n : Int) - ((k : Int) + 1)) + t)))) (fun r _ => E.length - (intOf r).toNat)
      case atStart => exact ⟨0, by omega, rfl, hM1, ho1, hb1.out.mono (by omega)⟩
      case round =>
        clear ho1 hb1 hM1
        obtain ⟨t, ht, rfl, hM, ho, hb⟩ := hrel
        by_cases htE : t < E.length
        · obtain ⟨bc, oc, e, rfl, hbc, he, e0, e1, e2⟩ := (sE.out.mut hM hneE.out).three htE
          obtain ⟨G, hG⟩ : ∃ G, G = (((revW l g E).take t).foldl (vst i) F1) := ⟨_, rfl⟩
          have hnx := hid (foldl_snoc (vst i) F1 (revW_at (l := l) (g := g) he.out))
          rw [← hG] at ho hb hnx
          replace hG := hid hG
          obtain ⟨⟨D, hD, hDk⟩, ⟨A, hA, hAk⟩, hc0, hc1⟩ := hEd.out e (List.mem_of_getElem? he.out)
          have htI : (t : Int) < E.length := by omega
          have hglr : gx < wr.heap.size := by have := hM.size; have := hgl.out; omega
          by_cases hDi : D = i
          · subst hDi
            have hnx' : Hid (((revW l g E).take (t + 1)).foldl (vst D) F1 = rlx G ⟨e.b, e.a, (bA l e.b).c + g⟩) := by show _ = _; rw [hnx.out, vst_hit hD]
            rw [hD] at e0
            rw [hA] at e1
            have hAI : (A : Int) < n := by omega
            clear hnx
            have hwA := wid_bd hl.out (by rw [l1.out]; exact hAk)
            obtain ⟨bl2, ol2, xk, hq2, hbl2, hxk, m0, m1, m2, m3⟩ := (h.ext (hEw.out.then hM (by intro k hk; simp at hk; have := hgw.out; omega))).four hAk
            cases hq2
            rw [bA_at hxk.out] at hwA
            obtain ⟨hwA0, hwA1⟩ := hwA
            have hek : Hid ((bA l e.b).c = xk.c) := by show _ = _; rw [hA, bA_at hxk.out]
            have hbx := hid (hb.out.rlx (e := ⟨e.b, e.a, (bA l e.b).c + g⟩) (by show 0 ≤ _ + g; rw [hek.out]; omega) (by show _ + g ≤ 48; rw [hek.out]; omega))
            have r1 := tab_cell ho hDk
            have r0 := tab_cell ho hAk
            obtain ⟨oD, hoD⟩ : ∃ v, v = G D := ⟨_, rfl⟩
            obtain ⟨oA, hoA⟩ : ∃ v, v = G A := ⟨_, rfl⟩
            have hGD := hb.out D
            have hGA := hb.out A
            rw [← hoD] at r1 hGD
            rw [← hoA] at r0 hGA
            obtain ⟨hGD0, hGD1⟩ := hGD
            obtain ⟨hGA0, hGA1⟩ := hGA
            have hput : Hid (∀ v, (v = if oD < oA + xk.c + g then oA + xk.c + g else oD) → updI G D v = rlx G ⟨e.b, e.a, (bA l e.b).c + g⟩) := fun v hv => by
              rw [Go.Proofs.Ytnhiepgfgnemkaa.rlx]
              simp only [hD, hA] at hek ⊢
              refine updI_congr ?_
              rw [hv, hek.out, ← hoD, ← hoA]
              split <;> omega
            clear m0 m1 m3
            replace hoD := hid hoD
            replace hoA := hid hoA
            replace hA := hid hA
            replace hD := hid hD
            go_wp2_with fail
            generalize hWx : wr.alloc _ = W0
            obtain ⟨E0, z0, b0⟩ := boxes1 hWx
            clear hWx
            have M0 := hM.ext E0
            have ho0 := owns_ext ho E0
            have hgl0 : gx < W0.heap.size := by omega
            have gb := (show Blk W0 _ [_, _, _] _ from b0).cells
            have k0 := gb 0
            have k1 := gb 1
            have k2 := gb 2
            simp only [List.getElem?_cons_zero, List.getElem?_cons_succ] at k0 k1 k2
            have y1 := (E0.cells gx D hglr).trans r1
            have y0 := (E0.cells gx A hglr).trans r0
            have fz := owns_free ho0
            have y2 := (E0.cells bl (ol + A * 4 + 2) hbl2).trans m2
            have hbl0 : bl < W0.heap.size := by omega
            clear m2
            replace z0 := hid z0
            clear gb b0 e0 e1 e2 r0 r1
            go_wp2_with fail
            refine wp_region_still_tail 22 (by kernel_rfl) (by kernel_rfl) ?_
            simp only [List.take_succ_cons, List.take_zero, List.drop_succ_cons, List.drop_zero]
            iterate 22 still_step
            refine wpStill_nil ?_
            change wpList _ _ _ _ _ W0.drew
            go_wp2_with fail
            go_roundw
            case rel =>
              refine ⟨t + 1, by omega, by go_num, (M0.setCell (p := ⟨gx, D, none⟩) (by simp) _).drew, ?_, ?_⟩
              · rw [hnx'.out]; exact (tab_put ho0 D _ (hput.out _ (by first | rfl | (split <;> omega) | omega))).drew
              · rw [hnx'.out]; exact hbx.out.mono (by omega)
            case measure => simp [intOf]; omega
          · have hnx' : Hid (((revW l g E).take (t + 1)).foldl (vst i) F1 = G) := by show _ = _; rw [hnx.out, vst_miss (show e.a ≠ i by omega)]
            have hne1 : (e.a == (i : Int)) = false := by simp; omega
            clear hnx hA hD
            go_wp2_with fail
            go_roundw
            case rel =>
              refine ⟨t + 1, by omega, by go_num, hM.alloc _, ?_, ?_⟩
              · rw [hnx'.out]; exact ho.alloc _
              · rw [hnx'.out]; exact hb.out.mono (by omega)
            case measure => simp [intOf]; omega
        · have htt : (revW l g E).take t = revW l g E := take_all (revW_len l g E) (by omega)
          rw [htt] at ho hb
          have hFk : Hid ((passB (revW l g E) (fun _ => (g + 1) / 2) ((ltrR l).take (n - k)) (fun _ => 0)) = (revW l g E).foldl (vst i) F1) := by show _ = _; rw [passB, hFn.out, hF1'.out, hF.out]; rfl
          go_wp2_with fail
          refine ⟨⟨(k : Int) - 1, k, rfl, rfl, by omega, hM, ?_, ?_⟩, ?_⟩
          · rw [hFk.out]; exact ho
          · rw [hFk.out]; exact hb.out.mono (by omega)
          · simp [intOf]
    · obtain rfl : j = 0 := by omega
      have hym : y = -1 := by have := hy.out; omega
      subst hym
      have hall : (ltrR l).take (n - 0) = ltrR l := take_all (ltrR_len l) (by rw [l1.out]; omega)
      rw [hall] at ho
      clear hy hb
      have hDq : Hid (passB (revW l g E) (fun _ => (g + 1) / 2) (ltrR l) (fun _ => 0) = mirF l g) := by show _ = _; rw [mirF, hEq.out]
      rw [hDq.out] at ho
      have sD0 := tab_SlT ho
      have E0r := hEw.out.then hM (by intro k hk; simp at hk; have := hgw.out; omega)
      go_wp2_with fail
      refine (widthOf_any q (some ⟨gx, 0, none⟩) n c n l (tab n (mirF l g)) _ (h.ext E0r) sD0 (by omega) (hid (isBL_vblk hl.out)) (hid (mirF_ok hl.out hg.out n))).mono ?_
      rintro e w8 ⟨rfl, E8⟩
      obtain ⟨Ax, hAx0⟩ : ∃ Ax, Ax = widB l (tab n (mirF l g)) := ⟨_, rfl⟩
      have hAx : Hid (axisF l g = Ax) := by show _ = _; rw [axisF, l1.out, hAx0]
      have hAb := axisF_bd hl.out hg.out
      rw [hAx.out] at hAb
      obtain ⟨hA0, hA1⟩ := hAb
      rw [← hAx0]
      replace hAx0 := hid hAx0
      have E08 := hid (E0r.trans E8)
      have sD := hid (sD0.ext E8)
      have hs := hid (h.ext E08.out)
      have hww : w.heap.size ≤ w8.heap.size := E08.out.le
      clear ho hM sD0 E0r E8 hEd sE sO hneE hneO hcl
      go_wp2_with fail
      have hl0 : ((w8.alloc (.cells #[] 2)).alloc (.cells #[] 2)).ownsRow w8.heap.size 2 1 (.slice (some ⟨w8.heap.size, 0, none⟩) 0 0) 0 [] := by
        have := World.ownsRow_made (base := w8.heap.size) (e := 2) (size := 1) w8 #[] 0 (by simp) (by simp [maxLen]) (by simp)
        exact this.alloc _
      have hr0 : ((w8.alloc (.cells #[] 2)).alloc (.cells #[] 2)).ownsRow w8.heap.size 2 1 (.slice (some ⟨w8.heap.size + 1, 0, none⟩) 0 0) 0 [] := by
        have := World.ownsRow_made (base := w8.heap.size) (e := 2) (size := 1) (w8.alloc (.cells #[] 2)) #[] 0 (by simp) (by simp [maxLen]) (by simp)
        simpa using this
      go_loopw [16, 17, 91] (fun v u i wr => ∃ k : Nat, k ≤ n ∧ i = .int .i64 k ∧ Ext w8 wr ∧ v ≠ .slice none 0 0 ∧ u ≠ .slice none 0 0 ∧ u.ownBlock ≠ v.ownBlock ∧ wr.ownsRow w8.heap.size 2 1 v k (ints (tab k (leftF l g))) ∧ wr.ownsRow w8.heap.size 2 1 u k (ints (tab k (rightF l g)))) (fun _ _ i _ => n - (intOf i).toNat)
      case atStart => exact ⟨0, by omega, rfl, ((Ext.refl _).alloc _).alloc _, by simp, by simp, by simp [Value.ownBlock], hl0, hr0⟩
      case round =>
        clear hl0 hr0
        obtain ⟨k, hk, rfl, hX, hv, hu, hvu, hoL, hoR⟩ := hrel
        by_cases hkn : k < n
        · have hkI : (k : Int) < n := by omega
          obtain ⟨bl, ol, xi, rfl, hbl8, hxi, l0, l1', l2, l3⟩ := hs.out.four hkn
          obtain ⟨bd, od, e0, hbd8, d0⟩ := sD.out.tab hkn
          obtain ⟨rfl, rfl⟩ : gx = bd ∧ 0 = od := by simpa using e0
          rw [Nat.zero_add] at d0
          have hwi := wid_bd hl.out (by rw [l1.out]; exact hkn)
          rw [bA_at hxi.out] at hwi
          obtain ⟨hwi0, hwi1⟩ := hwi
          obtain ⟨Dk, hDk⟩ : ∃ v, v = mirF l g k := ⟨_, rfl⟩
          rw [← hDk] at d0
          replace d0 := (hX.cells _ _ hbd8).trans d0
          replace l0 := (hX.cells _ _ hbl8).trans l0
          replace l1' := (hX.cells _ _ hbl8).trans l1'
          replace l2 := (hX.cells _ _ hbl8).trans l2
          replace l3 := (hX.cells _ _ hbl8).trans l3
          have hbl : bl < wr.heap.size := by have := hX.le; omega
          have hbd : gx < wr.heap.size := by have := hX.le; omega
          have ne1 : ∀ b, b < w8.heap.size → Value.ownBlock u16 ≠ some b := fun b hb hh => by have := (hoL.lt b hh).1; omega
          have ne2 : Value.ownBlock u16 ≠ some wr.heap.size := fun hh => by have := (hoL.lt _ hh).2; omega
          replace ne1 := hid ne1
          replace ne2 := hid ne2
          have hDb := mirF_btw hl.out hg.out k
          rw [← hDk] at hDb
          obtain ⟨hD0, hD1⟩ := hDb
          have hrL : Hid (ints (tab (k + 1) (leftF l g)) = ints (tab k (leftF l g)) ++ [.int .i64 (Ax - Dk - xi.c)]) := by
            have e : leftF l g k = Ax - Dk - xi.c := by rw [leftF, bA_at hxi.out, hAx.out, hDk]
            show _ = _; rw [tab_snoc, ints, List.map_append, e]; rfl
          have hrR : Hid (ints (tab (k + 1) (rightF l g)) = ints (tab k (rightF l g)) ++ [.int .i64 (Ax + Dk)]) := by
            have e : rightF l g k = Ax + Dk := by rw [rightF, hAx.out, hDk]
            show _ = _; rw [tab_snoc, ints, List.map_append, e]; rfl
          replace hDk := hid hDk
          replace hvu := hid hvu
          go_wp2_with fail
          generalize hWx : wr.alloc _ = W0
          obtain ⟨E0, z0, b0⟩ := boxes1 hWx
          clear hWx
          have gb := (show Blk W0 _ [_, _, _, _] _ from b0).cells
          have k2 := gb 2
          simp only [List.getElem?_cons_zero, List.getElem?_cons_succ] at k2
          have y0 := (E0.cells gx k hbd).trans d0
          have hbd0 : gx < W0.heap.size := by omega
          replace hX := hX.trans E0
          replace hoL := owns_ext hoL E0
          replace hoR := owns_ext hoR E0
          have hz0' : wr.heap.size < W0.heap.size := by omega
          replace z0 := hid z0
          clear gb b0 l0 l1' l2 l3 d0
          have hbase : w8.heap.size ≤ (W0.alloc (.cells #[.int .i64 (Ax - Dk - xi.c)] 2)).heap.size := (hX.alloc _).le
          have q1 : (W0.alloc (.cells #[.int .i64 (Ax - Dk - xi.c)] 2)).drew.cell? ⟨gx, k, none⟩ = some (.int .i64 Dk) := (((Ext.refl W0).alloc (.cells #[.int .i64 (Ax - Dk - xi.c)] 2)).drew.cells _ _ hbd0).trans y0
          have q2 : (W0.alloc (.cells #[.int .i64 (Ax - Dk - xi.c)] 2)).drew.cell? ⟨wr.heap.size, 2, none⟩ = some (.int .i64 xi.c) := (((Ext.refl W0).alloc (.cells #[.int .i64 (Ax - Dk - xi.c)] 2)).drew.cells _ _ hz0').trans k2
          have nb1 := Nat.lt_of_lt_of_le hbd0 ((Ext.refl W0).alloc (.cells #[.int .i64 (Ax - Dk - xi.c)] 2)).drew.le
          have nb2 := Nat.lt_of_lt_of_le hz0' ((Ext.refl W0).alloc (.cells #[.int .i64 (Ax - Dk - xi.c)] 2)).drew.le
          replace nb1 := hid nb1
          replace nb2 := hid nb2
          have hwr1 : IntKind.i64.wrap (Ax - Dk) = Ax - Dk := IntWalk.i64_in _ (by omega)
          have hwr2 : IntKind.i64.wrap (Ax - Dk - xi.c) = Ax - Dk - xi.c := IntWalk.i64_in _ (by omega)
          go_region_held3 (fun w' => w'.cell? ⟨gx, k, none⟩ = some (.int .i64 Dk) ∧ w'.cell? ⟨wr.heap.size, 2, none⟩ = some (.int .i64 xi.c)) (first | exact ⟨y0, k2⟩ | exact ⟨q1, q2⟩ | exact ⟨(grown_cell hgA nb1.out (ne1.out _ hbd8) _).trans q1, (grown_cell hgA nb2.out ne2.out _).trans q2⟩) ((refine step_append_lies _ rfl _ _ 23 rfl w8.heap.size 2 i0 _ 1 8 Try.underlying23 hi hz0 hz1 hz2 rfl (by omega) _ _ _ rfl (hoL.alloc _).drew ⟨W0.heap.size, 0, none⟩ 1 1 [.int .i64 (Ax - Dk - xi.c)] rfl rfl (cells_new1d _ _ _) (one_int1 _) (by omega) (len_le (by omega) (by omega)) (by omega) hbase _ rfl ?_; intro gL cL wA hoA hgA hbA hlA))
          have hXA := (hX.alloc (.cells #[.int .i64 (Ax - Dk - xi.c)] 2)).drew.grown hgA (fun b hb => (hoL.lt b hb).1)
          have hoRA := (hoR.alloc (.cells #[.int .i64 (Ax - Dk - xi.c)] 2)).drew.kept hgA (Or.inr hvu.out)
          have hvu2 := hid (ne_append2 (m := k + 1) (c := cL) hvu.out hoR hbA)
          obtain ⟨bd', od', e', hbdA, dA⟩ := (sD.out.ext hXA).tab hkn
          obtain ⟨rfl, rfl⟩ : gx = bd' ∧ 0 = od' := by simpa using e'
          rw [Nat.zero_add] at dA
          rw [← hDk.out] at dA
          have hbA2 : w8.heap.size ≤ (wA.alloc (.cells #[.int .i64 (Ax + Dk)] 2)).heap.size := (hXA.alloc _).le
          clear hgA hbA hoL hoR hX hvu hv q1 q2 nb1 nb2 ne1 ne2 hwr1 hwr2 hbase y0 k2
          go_wp2_with (at_builtin; refine wpList_append_own_at (o := ⟨some 116, _, _, _, _, _⟩) _ rfl _ _ 23 rfl w8.heap.size 2 i0 _ 1 8 Try.underlying23 hi hz0 hz1 hz2 rfl (by omega) _ _ _ rfl (hoRA.alloc _) ⟨wA.heap.size, 0, none⟩ 1 1 [.int .i64 (Ax + Dk)] rfl rfl (cells_new1 _ _ _) (one_int1 _) (len_le (by omega) (by omega)) (by omega) hbA2 ?_; intro v2' wB hoB hgB hnB hbB)
          go_roundw
          case rel =>
            refine ⟨k + 1, by omega, by go_num, (hXA.alloc (.cells #[.int .i64 (Ax + Dk)] 2)).grown hgB (fun k hk => (hoRA.lt k hk).1), by simp, fun hh => hu (hnB.1 hh).1, fun hh => ?_, ?_, ?_⟩
            · exact ne_append (fun e => hvu2.out e.symm) hoA hbB hh.symm
            · rw [hrL.out]; exact (hoA.alloc (.cells #[.int .i64 (Ax + Dk)] 2)).kept hgB (Or.inr (fun hh => hvu2.out hh.symm))
            · rw [hrR.out]; exact hoB
          case measure => simp [intOf]; omega
        · have hkn' : k = n := by omega
          rw [hkn'] at hoL hoR
          obtain ⟨qL, cL, rfl⟩ := owns_forms hoL
          obtain ⟨qR, cR, rfl⟩ := owns_forms hoR
          go_wp2_with fail
          go_ret3
          refine ⟨qL, cL, qR, cR, rfl, Joins.ownsRow_le hoL hww, Joins.ownsRow_le hoR hww, fun x y hx hy hxy => ?_, E08.out.trans hX⟩
          rw [hx, hy] at hvu
          exact hvu (by simp [Value.ownBlock, hxy])
      
end Go.Proofs.Ytnhiepgfgnemkaa

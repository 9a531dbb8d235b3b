/- SlackOf (program): the latest positions, by a pass from right to left. Condition: valid blocks and gap. -/
import Derived.Test.YtnhiepgfgnemkaaStq
import Derived.Deep.RegionWith
namespace Go.Proofs.Ytnhiepgfgnemkaa
open Go.RowKit

set_option maxRecDepth 100000 in
set_option maxHeartbeats 16000000 in
theorem SlackOf_ok (q : Option Addr) (n c : Nat) (l : List Q4) (g : Int) (w : World) (h : SlT enc4 4 w q n l) (hl : isBL l = true) (hg : wit g 0 8 = true) :
    Calls Try.prog 35 #[.slice q n c, .int .i64 g] w fun e w' => ∃ p d, e = .returned (.tuple #[.slice p n d, .int .i64 0]) ∧ w'.ownsRow w.heap.size 2 1 (.slice p n d) n (ints (tab n (slackF l g))) ∧ Ext w w' := by
  have hc := codeB_ok hl hg
  have l1 := hid h.length
  have hn : n ≤ 12 := by have := (isBL_parts hl).1; rw [h.length] at this; exact this
  have hnI : (n : Int) ≤ 12 := by omega
  have hcode := blocksCode_any q n c l g w h (by omega)
  rw [hc] at hcode
  clear hc
  have hEd := hid (csL_edges hl hg)
  rw [l1.out] at hEd
  have hol := hid (ltr_len l)
  rw [l1.out] at hol
  have hom : Hid (∀ x ∈ ltr l, ∃ i : Nat, x = i ∧ i < n) := fun x hx => by
    have := (ltr_is l).perm.mem_iff.1 hx
    rw [l1.out] at this; exact upto_mem this
  have hmk := made_run n (by omega)
  have hcl : (csL l g).length ≤ 144 := by have := csL_len l g; rw [h.length] at this; have := Nat.mul_le_mul hn hn; omega
  have hgb := wit_iff.1 hg
  obtain ⟨hg0, hg1⟩ := hgb
  replace hl := hid hl
  replace hg := hid hg
  go_enter Try.func35, Try.ntmps35
  go_wp2_with fail
  refine hcode.mono ?_
  clear hcode
  rintro e w1 ⟨rfl, E1⟩
  go_wp2_with fail
  refine (compacted_any q n c l g _ w1.heap.size (Nat.le_refl _) (h.ext E1) hl.out hg.out).mono ?_
  rintro e w2 ⟨qx, cx, rfl, ox, E2⟩
  go_wp2_with fail
  refine (constraints_any q n c l g _ (h.ext (E1.trans E2)) hl.out hg.out).mono ?_
  rintro e w3 ⟨qe, ce, rfl, oe, E3⟩
  go_wp2_with fail
  refine (leftToRight_any q n c l _ (h.ext (E1.trans (E2.trans E3))) hn).mono ?_
  rintro e w4 ⟨qo, co, rfl, oo, E4⟩
  have sX : Hid (SlT enc1 1 w4 qx n (tab n (posF l g))) := hid ((tab_SlT ox).ext (E3.trans E4))
  have sE := hid ((SlT.of_owns enc3_len rfl oe).ext E4)
  have sO : Hid (SlT enc1 1 w4 qo n (ltr l)) := by rw [ints, ← flat1] at oo; exact SlT.of_owns enc1_len hol.out oo
  have hqX : Hid (∀ a, qx = some a → a.block < w4.heap.size) := fun a ha => by subst ha; have := (ox.lt a.block rfl).2; have := E3.le; have := E4.le; omega
  have hqE : Hid (∀ a, qe = some a → a.block < w4.heap.size) := fun a ha => by subst ha; have := (oe.lt a.block rfl).2; have := E4.le; omega
  have hqO : Hid (∀ a, qo = some a → a.block < w4.heap.size) := fun a ha => by subst ha; have := (oo.lt a.block rfl).2; omega
  have hE4 := hid (E1.trans (E2.trans (E3.trans E4)))
  clear ox oe oo E1 E2 E3 E4
  have hox0 := hid (posF_ok hl.out hg.out n)
  have hvb := hid (isBL_vblk hl.out)
  have hw4 : w.heap.size ≤ w4.heap.size := hE4.out.le
  go_wp2_with fail
  refine wp_cut (fun a0 a' w' => ∃ gx : Nat, (w4.heap.size ≤ gx ∧ gx < w'.heap.size ∧ Ext w4 w' ∧ w'.ownsRow w.heap.size 2 1 (.slice (some ⟨gx, 0, none⟩) n n) n (ints (tab n fun _ => 0))) ∧
    a' = (((((((a0.put (some 30) (.slice q n c)).put (some 31) (.slice qx n cx)).put (some 32) (.int .i64 (widB l (tab n (posF l g))))).put (some 33) (.slice q n c)).put (some 34) (.int .i64 n)).put (some 35) (.slice (some ⟨gx, 0, none⟩) n n)).put (some 10) (.int .i64 (widB l (tab n (posF l g))))).put (some 11) (.slice (some ⟨gx, 0, none⟩) n n)) ?_ ?_
  · go_region_with (go_at_call 69; refine (widthOf_any q qx n c cx l (tab n (posF l g)) _ (h.ext (hE4.out.trans (by first | exact (Ext.refl _).drew | exact ((Ext.refl _).alloc _).drew))) (sX.out.ext (by first | exact (Ext.refl _).drew | exact ((Ext.refl _).alloc _).drew)) (by omega) hvb hox0).mono ?_; rintro e w5 ⟨rfl, E5⟩)
    all_goals first
      | exact ⟨w4.heap.size, ⟨Nat.le_refl _, by have := E5.le; simp at this; omega, ((Ext.refl w4).alloc _).drew.trans E5, owns_ext (made_owns n w.heap.size (by omega) w4 hw4).drew E5⟩, rfl⟩
      | exact ⟨w5.heap.size, ⟨by have := E5.le; simp at this; omega, by simp, ((Ext.refl w4).drew.trans E5).alloc _, made_owns n w.heap.size (by omega) w5 (by have := E5.le; simp at this; omega)⟩, rfl⟩
  rintro a' w5 ⟨gx, ⟨hgx, hgl, E5, hox⟩, rfl⟩
  simp only [Act.put, List.setIfInBounds_toArray, List.set_cons_zero, List.set_cons_succ]
  clear hmk
  replace sX := hid (sX.out.ext E5)
  replace sE := hid (sE.out.ext E5)
  replace sO := hid (sO.out.ext E5)
  have hneX : Hid (∀ a, qx = some a → a.block ∉ [gx]) := fun a ha => by have := hqX.out a ha; simp; omega
  have hneE : Hid (∀ a, qe = some a → a.block ∉ [gx]) := fun a ha => by have := hqE.out a ha; simp; omega
  have hneO : Hid (∀ a, qo = some a → a.block ∉ [gx]) := fun a ha => by have := hqO.out a ha; simp; omega
  have hEw := hid (hE4.out.trans E5)
  have hgw : Hid (w.heap.size ≤ gx) := by have := hE4.out.le; show _ ≤ _; omega
  replace hgl := hid hgl
  clear E5 hE4 hqX hqE hqO hgx hw4
  obtain ⟨E, hEq⟩ : ∃ E, E = csL l g := ⟨_, rfl⟩
  rw [← hEq] at hcl hEd sE ⊢
  replace hEq := hid hEq
  obtain ⟨W, hWd⟩ : ∃ W, W = widB l (tab n (posF l g)) := ⟨_, rfl⟩
  have hW : Hid (widF l g = W) := by show _ = _; rw [widF, l1.out, hWd]
  have hWb := widF_bd hl.out hg.out
  rw [hW.out] at hWb
  obtain ⟨hW0, hW1⟩ := hWb
  rw [← hWd]
  replace hWd := hid hWd
  have hslk0 : (fun _ => (0 : Int)) = slk (posF l g) (passB (rev E) (latB l g) ((ltrR l).take (n - n)) (fun i => - posF l g i)) := by
    funext i; rw [Nat.sub_self]; show 0 = - - posF l g i - posF l g i; omega
  rw [hslk0] at hox
  have hb0 : Hid (Btw (passB (rev E) (latB l g) ((ltrR l).take (n - n)) (fun i => - posF l g i)) (-1000) (40 + 48 * (144 * ((n : Int) - n)))) := fun i => by
    rw [Nat.sub_self]; have := posF_btw hl.out hg.out i
    show -1000 ≤ - posF l g i ∧ - posF l g i ≤ _; omega
  clear hslk0
  go_wp2_with fail
  go_loopw [12] (fun z wr => ∃ (y : Int) (j : Nat), z = .int .i64 y ∧ Hid (y = (j : Int) - 1) ∧ j ≤ n ∧ Mut w5 wr [gx] ∧ wr.ownsRow w.heap.size 2 1 (.slice (some ⟨gx, 0, none⟩) n n) n (ints (tab n (slk (posF l g) (passB (rev E) (latB l g) ((ltrR l).take (n - j)) (fun i => - posF l g i))))) ∧ Hid (Btw (passB (rev E) (latB l g) ((ltrR l).take (n - j)) (fun i => - posF l g i)) (-1000) (40 + 48 * (144 * ((n : Int) - j))))) (fun z _ => (intOf z + 1).toNat)
  case atStart => exact ⟨_, n, rfl, rfl, Nat.le_refl _, Mut.refl _ _, hox, hb0⟩
  case round =>
    clear hox hb0
    obtain ⟨y, j, rfl, hy, hj, hM, ho, hb⟩ := hrel
    by_cases hj0 : 0 < j
    · obtain ⟨k, rfl⟩ : ∃ k, j = k + 1 := ⟨j - 1, by omega⟩
      obtain rfl : y = (k : Int) := by have := hy.out; omega
      clear hy hj0
      have hkn : k < n := by omega
      obtain ⟨bo, oo, x, rfl, hbo, hx, x0⟩ := (sO.out.mut hM hneO.out).int hkn
      have hxr := ltrR_at l1.out hkn hx.out
      obtain ⟨i, hxi, hiN⟩ := hom.out x (List.mem_of_getElem? hx.out)
      subst hxi
      have hkI : (k : Int) < n := by omega
      have hk0 : (0 : Int) ≤ k := by omega
      have hiI : (i : Int) < n := by omega
      obtain ⟨F, hF⟩ : ∃ F, F = (passB (rev E) (latB l g) ((ltrR l).take (n - (k + 1))) (fun i => - posF l g i)) := ⟨_, rfl⟩
      have hFn := hid (foldl_snoc (fun f i => (rev E).foldl (vst i) (updI f i ((latB l g) i))) (fun i => - posF l g i) hxr)
      rw [show n - (k + 1) + 1 = n - k by omega] at hFn
      rw [← hF] at ho hb
      replace hF := hid hF
      obtain ⟨bl, ol, xi, rfl, hbl, hxi, l0, l1', l2, l3⟩ := (h.ext (hEw.out.then hM (by intro k hk; simp at hk; have := hgw.out; omega))).four hiN
      have hwi := wid_bd hl.out (by rw [l1.out]; exact hiN)
      rw [bA_at hxi.out] at hwi
      obtain ⟨hwi0, hwi1⟩ := hwi
      obtain ⟨bx, ox, rfl, hbx, p0⟩ := (sX.out.mut hM hneX.out).tab hiN
      obtain ⟨P, hP⟩ : ∃ P, P = posF l g i := ⟨_, rfl⟩
      rw [← hP] at p0
      have hPb := posF_btw hl.out hg.out i
      rw [← hP] at hPb
      obtain ⟨hP0, hP1⟩ := hPb
      have hbi : latB l g i = xi.c - W := by rw [latB, bA_at hxi.out, hW.out]
      have hF1 : Hid (updI (slk (posF l g) F) i (W - xi.c - P) = slk (posF l g) (updI F i (latB l g i))) := slk_upd (by rw [hbi, hP]; omega)
      have hb1 := hid (hb.out.upd (i := i) (v := latB l g i) (by rw [hbi]; omega) (by rw [hbi]; omega))
      replace hP := hid hP
      clear hbi
      have r0 := tab_cell ho hiN
      have fz := owns_free ho
      go_wp2_with fail
      refine wp_region_still_tail 15 (by kernel_rfl) (by kernel_rfl) ?_
      simp only [List.take_succ_cons, List.take_zero, List.drop_succ_cons, List.drop_zero]
      iterate 15 still_step
      refine wpStill_nil ?_
      change wpList _ _ _ _ _ wr.drew
      go_wp2_with fail
      generalize hWq : World.drew _ = wq
      have hM1 : Mut w5 wq [gx] := by rw [← hWq]; exact (hM.setCell (p := ⟨gx, i, none⟩) (by simp) _).drew
      have ho1 : wq.ownsRow w.heap.size 2 1 (.slice (some ⟨gx, 0, none⟩) n n) n (ints (tab n (slk (posF l g) (updI F i (latB l g i))))) := by rw [← hWq]; exact (tab_put ho i _ hF1.out).drew
      clear hWq r0 fz ho hM hb
      obtain ⟨F1, hF1'⟩ : ∃ F1, F1 = (updI F i (latB l g i)) := ⟨_, rfl⟩
      rw [← hF1'] at ho1 hb1
      replace hF1' := hid hF1'
      clear x0 l0 l1' l2 l3 p0
      go_loopw [64] (fun r wr => ∃ t : Nat, t ≤ E.length ∧ r = .int .i64 t ∧ Mut w5 wr [gx] ∧ wr.ownsRow w.heap.size 2 1 (.slice (some ⟨gx, 0, none⟩) n n) n (ints (tab n (slk (posF l g) (((rev E).take t).foldl (vst i) F1)))) ∧ Hid (Btw (((rev E).take t).foldl (vst i) F1) (-1000) (40 + 48 * (144 * ((n : Int) - ((k : Int) + 1)) + t)))) (fun r _ => E.length - (intOf r).toNat)
      case atStart => exact ⟨0, by omega, rfl, hM1, ho1, hb1.out.mono (by omega)⟩
      case round =>
        clear ho1 hb1 hM1
        obtain ⟨t, ht, rfl, hM, ho, hb⟩ := hrel
        by_cases htE : t < E.length
        · obtain ⟨bc, oc, e, rfl, hbc, he, e0, e1, e2⟩ := (sE.out.mut hM hneE.out).three htE
          obtain ⟨G, hG⟩ : ∃ G, G = (((rev E).take t).foldl (vst i) F1) := ⟨_, rfl⟩
          have hnx := hid (foldl_snoc (vst i) F1 (rev_at he.out))
          rw [← hG] at ho hb hnx
          replace hG := hid hG
          obtain ⟨⟨D, hD, hDk⟩, ⟨A, hA, hAk⟩, hc0, hc1⟩ := hEd.out e (List.mem_of_getElem? he.out)
          have htI : (t : Int) < E.length := by omega
          have hglr : gx < wr.heap.size := by have := hM.size; have := hgl.out; omega
          by_cases hDi : D = i
          · subst hDi
            have hnx' : Hid (((rev E).take (t + 1)).foldl (vst D) F1 = rlx G ⟨e.b, e.a, e.c⟩) := by show _ = _; rw [hnx.out, vst_hit hD]
            rw [hD] at e0
            rw [hA] at e1
            have hAI : (A : Int) < n := by omega
            clear hnx
            have hbx := hid (hb.out.rlx (e := ⟨e.b, e.a, e.c⟩) hc0 hc1)
            obtain ⟨oD, hoD⟩ : ∃ v, v = slk (posF l g) G D := ⟨_, rfl⟩
            obtain ⟨oA, hoA⟩ : ∃ v, v = slk (posF l g) G A := ⟨_, rfl⟩
            have r1 := tab_cell ho hDk
            have r0 := tab_cell ho hAk
            rw [← hoD] at r1
            rw [← hoA] at r0
            obtain ⟨bx, ox, hqx, hbx', p1⟩ := (sX.out.mut hM hneX.out).tab hDk
            obtain ⟨bx', ox', e', hbx'', p2⟩ := (sX.out.mut hM hneX.out).tab hAk
            cases hqx
            cases e'
            rw [← hP.out] at p1
            obtain ⟨PA, hPA⟩ : ∃ P, P = posF l g A := ⟨_, rfl⟩
            rw [← hPA] at p2
            have hPb := posF_btw hl.out hg.out A
            rw [← hPA] at hPb
            obtain ⟨hA0, hA1⟩ := hPb
            have hGD := hb.out D
            have hGA := hb.out A
            have hput : Hid (∀ v, (v = if oA + PA - e.c - P < oD then oA + PA - e.c - P else oD) → updI (slk (posF l g) G) D v = slk (posF l g) (rlx G ⟨e.b, e.a, e.c⟩)) := fun v hv => by
              rw [Go.Proofs.Ytnhiepgfgnemkaa.rlx]
              simp only [hD, hA]
              refine slk_upd ?_
              rw [hv]
              rw [slk] at hoD hoA
              rw [← hPA] at hoA
              rw [← hP.out] at hoD
              rw [← hP.out]
              split <;> omega
            have hoD0 : -100000 ≤ oD ∧ oD ≤ 2000 := by rw [slk, ← hP.out] at hoD; omega
            have hoA0 : -100000 ≤ oA ∧ oA ≤ 2000 := by rw [slk, ← hPA] at hoA; omega
            obtain ⟨hoD0, hoD1⟩ := hoD0
            obtain ⟨hoA0, hoA1⟩ := hoA0
            clear hGD hGA
            replace hoD := hid hoD
            replace hoA := hid hoA
            replace hPA := hid hPA
            replace hA := hid hA
            replace hD := hid hD
            go_wp2_with fail
            generalize hWx : wr.alloc _ = W0
            obtain ⟨E0, z0, b0⟩ := boxes1 hWx
            clear hWx
            have M0 := hM.ext E0
            have ho0 := owns_ext ho E0
            have hgl0 : gx < W0.heap.size := by omega
            have gb := (show Blk W0 _ [_, _, _] _ from b0).cells
            have k0 := gb 0
            have k1 := gb 1
            have k2 := gb 2
            simp only [List.getElem?_cons_zero, List.getElem?_cons_succ] at k0 k1 k2
            have y1 := (E0.cells gx D hglr).trans r1
            have y0 := (E0.cells gx A hglr).trans r0
            have fz := owns_free ho0
            have y2 := (E0.cells bx (ox + D) hbx').trans p1
            have y3 := (E0.cells bx (ox + A) hbx').trans p2
            have hbx0 : bx < W0.heap.size := by omega
            clear p1 p2
            replace z0 := hid z0
            clear gb b0 e0 e1 e2 r0 r1
            go_wp2_with fail
            refine wp_region_still_tail 27 (by kernel_rfl) (by kernel_rfl) ?_
            simp only [List.take_succ_cons, List.take_zero, List.drop_succ_cons, List.drop_zero]
            iterate 27 still_step
            refine wpStill_nil ?_
            change wpList _ _ _ _ _ W0.drew
            go_wp2_with fail
            go_roundw
            case rel =>
              refine ⟨t + 1, by omega, by go_num, (M0.setCell (p := ⟨gx, D, none⟩) (by simp) _).drew, ?_, ?_⟩
              · rw [hnx'.out]; exact (tab_put ho0 D _ (hput.out _ (by first | rfl | (split <;> omega) | omega))).drew
              · rw [hnx'.out]; exact hbx.out.mono (by omega)
            case measure => simp [intOf]; omega
          · have hnx' : Hid (((rev E).take (t + 1)).foldl (vst i) F1 = G) := by show _ = _; rw [hnx.out, vst_miss (show e.a ≠ i by omega)]
            have hne1 : (e.a == (i : Int)) = false := by simp; omega
            clear hnx hA hD
            go_wp2_with fail
            go_roundw
            case rel =>
              refine ⟨t + 1, by omega, by go_num, hM.alloc _, ?_, ?_⟩
              · rw [hnx'.out]; exact ho.alloc _
              · rw [hnx'.out]; exact hb.out.mono (by omega)
            case measure => simp [intOf]; omega
        · have htt : (rev E).take t = rev E := take_all (rev_len E) (by omega)
          rw [htt] at ho hb
          have hFk : Hid ((passB (rev E) (latB l g) ((ltrR l).take (n - k)) (fun i => - posF l g i)) = (rev E).foldl (vst i) F1) := by show _ = _; rw [passB, hFn.out, hF1'.out, hF.out]; rfl
          go_wp2_with fail
          refine ⟨⟨(k : Int) - 1, k, rfl, rfl, by omega, hM, ?_, ?_⟩, ?_⟩
          · rw [hFk.out]; exact ho
          · rw [hFk.out]; exact hb.out.mono (by omega)
          · simp [intOf]
    · obtain rfl : j = 0 := by omega
      have hym : y = -1 := by have := hy.out; omega
      subst hym
      have hall : (ltrR l).take (n - 0) = ltrR l := take_all (ltrR_len l) (by rw [l1.out]; omega)
      rw [hall] at ho
      clear hy hb
      go_wp2_with fail
      go_ret2
      refine ⟨_, _, rfl, ?_, hEw.out.then hM (by intro k hk; simp at hk; have := hgw.out; omega)⟩
      rw [hEq.out] at ho; exact ho
end Go.Proofs.Ytnhiepgfgnemkaa

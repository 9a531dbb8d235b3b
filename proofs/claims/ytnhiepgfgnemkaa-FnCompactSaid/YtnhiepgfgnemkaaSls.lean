/- SlackOf (reference): the latest positions, by enough rounds. Condition: valid blocks and gap. -/
import Derived.Test.YtnhiepgfgnemkaaStq
namespace Go.Proofs.Ytnhiepgfgnemkaa
open Go.RowKit

theorem specCompact_ok (q : Option Addr) (n c : Nat) (l : List Q4) (g : Int) (w : World) (h : SlT enc4 4 w q n l) (hl : isBL l = true) (hg : wit g 0 8 = true) :
    Calls Try.prog 22 #[.slice q n c, .int .i64 g] w fun e w' => ∃ p d, e = .returned (.tuple #[.slice p n d, .int .i64 0]) ∧ w'.ownsRow w.heap.size 2 1 (.slice p n d) n (ints (tab n (posF l g))) ∧ Ext w w' := by
  have hc := codeB_ok hl hg
  have hn : n ≤ 12 := by have := (isBL_parts hl).1; rw [h.length] at this; exact this
  refine (specCompact_any q n c l g w h (by omega)).mono ?_
  rintro e w' ⟨p, d, rfl, ho, hE⟩
  have hR : posR l g = tab n (posF l g) := by rw [posR, if_pos hc, h.length]
  rw [hR, tab_len, flat1] at ho
  refine ⟨p, d, ?_, ho, hE⟩
  rw [hR, tab_len, hc]
theorem specCompact_bad (q : Option Addr) (n c : Nat) (l : List Q4) (g : Int) (w : World) (h : SlT enc4 4 w q n l) (hn : n ≤ 1048576) (hk : codeB l g ≠ 0) :
    Calls Try.prog 22 #[.slice q n c, .int .i64 g] w fun e w' => ∃ p d, e = .returned (.tuple #[.slice p 0 d, .int .i64 (codeB l g)]) ∧ Ext w w' := by
  refine (specCompact_any q n c l g w h hn).mono ?_
  rintro e w' ⟨p, d, rfl, ho, hE⟩
  have hR : posR l g = [] := by rw [posR, if_neg hk]
  refine ⟨p, d, ?_, hE⟩
  rw [hR]; rfl
theorem bA_btw {l : List Q4} (hl : isBL l = true) (i : Int) : 0 ≤ (bA l i).c ∧ (bA l i).c ≤ 40 := by
  by_cases h : i.toNat < l.length
  · have hx : l[i.toNat]? = some l[i.toNat] := List.getElem?_eq_getElem h
    have hv := vblk_iff.1 ((isBL_parts hl).2 _ (List.mem_of_getElem? hx))
    rw [bA, getD_of hx]; omega
  · rw [bA, List.getD_eq_getElem?_getD, List.getElem?_eq_none (by omega)]; simp
theorem latB_btw {l : List Q4} {g : Int} (hl : isBL l = true) (hg : wit g 0 8 = true) : Btw (latB l g) (-840) 40 := fun i => by
  have h1 := bA_btw hl i; have h2 := widF_bd hl hg; rw [latB]; omega
def neg (F : Int → Int) (i : Int) : Int := - F i
/-- What stands after k elements of the last loop. -/
def mixK (x F : Int → Int) (k : Nat) (i : Int) : Int := if i < k then slk x F i else - F i
theorem mixK_upd {x F : Int → Int} {k : Nat} {v : Int} (h : v = - F k - x k) : updI (mixK x F k) k v = mixK x F (k + 1) := by
  funext j
  rw [updI, mixK, mixK]
  by_cases h1 : j = k
  · subst h1; rw [if_pos rfl, if_pos (by omega), h]; rfl
  · rw [if_neg h1]
    by_cases h2 : j < (k : Int)
    · rw [if_pos h2, if_pos (by omega)]
    · rw [if_neg h2, if_neg (by omega)]
theorem tab_mixK {x F : Int → Int} {n : Nat} : tab n (mixK x F n) = tab n (slk x F) := tab_congr fun i hi => by
  obtain ⟨j, rfl, hj⟩ := upto_mem hi
  rw [mixK, if_pos (by omega)]
theorem mixK_zero {x F : Int → Int} {n : Nat} : tab n (mixK x F 0) = tab n (neg F) := tab_congr fun i hi => by
  obtain ⟨j, rfl, hj⟩ := upto_mem hi
  rw [mixK, if_neg (by omega)]; rfl
theorem tab_snoc (k : Nat) (f : Int → Int) : tab (k + 1) f = tab k f ++ [f k] := by rw [tab, upto_snoc, List.map_append]; rfl
set_option maxRecDepth 100000 in
set_option maxHeartbeats 16000000 in
theorem specSlackOf_ok (q : Option Addr) (n c : Nat) (l : List Q4) (g : Int) (w : World) (h : SlT enc4 4 w q n l) (hl : isBL l = true) (hg : wit g 0 8 = true) :
    Calls Try.prog 34 #[.slice q n c, .int .i64 g] w fun e w' => ∃ p d, e = .returned (.tuple #[.slice p n d, .int .i64 0]) ∧ w'.ownsRow w.heap.size 2 1 (.slice p n d) n (ints (tab n (slackF l g))) ∧ Ext w w' := by
  obtain ⟨i0, hi, hz0, hz1, hz2⟩ := info_parts info_Int64
  have l1 := hid h.length
  have hn : n ≤ 12 := by have := (isBL_parts hl).1; rw [h.length] at this; exact this
  have hnI : (n : Int) ≤ 12 := by omega
  have hEd := hid (csL_edges hl hg)
  rw [l1.out] at hEd
  have hcl : (csL l g).length ≤ 144 := by have := csL_len l g; rw [h.length] at this; have := Nat.mul_le_mul hn hn; omega
  have hgb := wit_iff.1 hg
  obtain ⟨hg0, hg1⟩ := hgb
  have hwb := widF_bd hl hg
  obtain ⟨W, hWd⟩ : ∃ W, W = widB l (tab n (posF l g)) := ⟨_, rfl⟩
  have hW : Hid (widF l g = W) := by show _ = _; rw [widF, l1.out, hWd]
  rw [hW.out] at hwb
  obtain ⟨hW0, hW1⟩ := hwb
  have hox0 := hid (posF_ok hl hg n)
  have hvb := hid (isBL_vblk hl)
  replace hl := hid hl
  replace hg := hid hg
  go_enter Try.func34, Try.ntmps34
  go_wp2_with fail
  refine (specCompact_ok q n c l g w h hl.out hg.out).mono ?_
  rintro e w1 ⟨qx, cx, rfl, ox, E1⟩
  go_wp2_with fail
  refine (l31Constraints_any q n c l g _ (h.ext E1) hl.out hg.out).mono ?_
  rintro e w2 ⟨qe, ce, rfl, oe, E2⟩
  have sX := hid ((tab_SlT ox).ext E2)
  go_wp2_with fail
  refine (l31Width_any q qx n c cx l (tab n (posF l g)) _ (h.ext (E1.trans E2)) sX.out (by omega) hvb hox0).mono ?_
  rw [← hWd]
  replace hWd := hid hWd
  rintro e w3 ⟨rfl, E3⟩
  have E03 := hid (E1.trans (E2.trans E3))
  replace sX := hid (sX.out.ext E3)
  have sE := hid ((SlT.of_owns enc3_len rfl oe).ext E3)
  have hs := hid (h.ext E03.out)
  have hww : w.heap.size ≤ w3.heap.size := E03.out.le
  clear ox oe E1 E2 E3
  obtain ⟨E, hEq⟩ : ∃ E, E = csL l g := ⟨_, rfl⟩
  rw [← hEq] at hcl hEd sE ⊢
  replace hEq := hid hEq
  go_wp2_with fail
  have ho0 : (w3.alloc (.cells #[] 2)).ownsRow w3.heap.size 2 1 (.slice (some ⟨w3.heap.size, 0, none⟩) 0 0) 0 [] := by
    have := World.ownsRow_made (base := w3.heap.size) (e := 2) (size := 1) w3 #[] 0 (by simp) (by simp [maxLen]) (by simp)
    exact this
  go_loopw [10, 11] (fun v i wr => ∃ k : Nat, k ≤ n ∧ i = .int .i64 k ∧ Ext w3 wr ∧ v ≠ .slice none 0 0 ∧ wr.ownsRow w3.heap.size 2 1 v k (ints (tab k (neg (latB l g))))) (fun _ i _ => n - (intOf i).toNat)
  case atStart => exact ⟨0, by omega, rfl, (Ext.refl _).alloc _, by simp, ho0⟩
  case round =>
    clear ho0
    obtain ⟨k, hk, rfl, hX, hv, ho⟩ := hrel
    by_cases hkn : k < n
    · have hkI : (k : Int) < n := by omega
      obtain ⟨bl, ol, xi, rfl, hbl, hxi, l0, l1', l2, l3⟩ := (hs.out.ext hX).four hkn
      have hwi := wid_bd hl.out (by rw [l1.out]; exact hkn)
      rw [bA_at hxi.out] at hwi
      obtain ⟨hwi0, hwi1⟩ := hwi
      have hr : Hid (ints (tab (k + 1) (neg (latB l g))) = ints (tab k (neg (latB l g))) ++ [.int .i64 (W - xi.c)]) := by
        have e : neg (latB l g) k = W - xi.c := by rw [neg, latB, bA_at hxi.out, hW.out]; omega
        show _ = _; rw [tab_snoc, ints, List.map_append, e]; rfl
      clear l0 l1' l3
      go_wp2_with (at_builtin; refine wpList_append_own _ rfl _ _ 23 rfl w3.heap.size 2 i0 _ 1 8 Try.underlying23 hi hz0 hz1 hz2 rfl (by omega) _ _ _ rfl (ho.alloc _) ⟨wr.heap.size, 0, none⟩ 1 1 [.int .i64 (W - xi.c)] rfl rfl (cells_new1 _ _ _) (one_int1 _) (len_le (by omega) (by omega)) (by omega) ?c5 ?_; rotate_left 1; intro v' w1 ho' hg hnil)
      case c5 => have := hX.le; simp; omega
      go_roundw
      case rel =>
        refine ⟨k + 1, by omega, by go_num, (hX.alloc _).grown hg (fun k hk => (ho.lt k hk).1), fun hh => ?_, ?_⟩
        · have := (hnil.1 hh).2; omega
        · rw [hr.out]; exact ho'
      case measure => simp [intOf]; omega
    · have hkn' : k = n := by omega
      subst hkn'
      clear hkn
      obtain ⟨gx, c', rfl⟩ := owns_some2 ho hv
      clear hv
      have hgl := hid (owns_lt ho)
      have hb0 : Hid (Btw (rnds (rev E) (latB l g) 0) (-1000) (40 + 48 * (144 * (0 : Nat)))) := fun i => by
        show -1000 ≤ latB l g i ∧ latB l g i ≤ _
        have := latB_btw hl.out hg.out i; omega
      go_wp2_with fail
      go_loopw [12] (fun r wr => ∃ t : Nat, t ≤ k + 1 ∧ r = .int .i64 t ∧ Ext w3 wr ∧ wr.ownsRow w3.heap.size 2 1 (.slice (some ⟨gx, 0, none⟩) k c') k (ints (tab k (neg (rnds (rev E) (latB l g) t)))) ∧ Hid (Btw (rnds (rev E) (latB l g) t) (-1000) (40 + 48 * (144 * t)))) (fun r _ => k + 1 - (intOf r).toNat)
      case atStart => exact ⟨0, by omega, rfl, hX, ho, hb0⟩
      case round =>
        clear ho hb0 hX
        obtain ⟨t, ht, rfl, hX, ho, hb⟩ := hrel
        by_cases htk : t ≤ k
        · obtain ⟨F, hF⟩ : ∃ F, F = rnds (rev E) (latB l g) t := ⟨_, rfl⟩
          rw [← hF] at ho hb
          replace hF := hid hF
          go_wp2_with fail
          go_loopw [13] (fun r wr => ∃ j : Nat, j ≤ E.length ∧ r = .int .i64 j ∧ Ext w3 wr ∧ wr.ownsRow w3.heap.size 2 1 (.slice (some ⟨gx, 0, none⟩) k c') k (ints (tab k (neg (((rev E).take j).foldl rlx F)))) ∧ Hid (Btw (((rev E).take j).foldl rlx F) (-1000) (40 + 48 * (144 * t + j)))) (fun r _ => E.length - (intOf r).toNat)
          case atStart => exact ⟨0, by omega, rfl, hX, ho, hb⟩
          case round =>
            clear ho hb hX
            obtain ⟨j, hj, rfl, hX, ho, hb⟩ := hrel
            by_cases hjm : j < E.length
            · obtain ⟨b, off, x, rfl, hbl, hx, x0, x1, x2⟩ := (sE.out.ext hX).three hjm
              obtain ⟨G, hG⟩ : ∃ G, G = ((rev E).take j).foldl rlx F := ⟨_, rfl⟩
              have hnx := hid (foldl_snoc rlx F (rev_at hx.out))
              rw [← hG] at ho hb hnx
              replace hG := hid hG
              obtain ⟨⟨D, hD, hDk⟩, ⟨A, hA, hAk⟩, hc0, hc1⟩ := hEd.out x (List.mem_of_getElem? hx.out)
              rw [hD] at x0
              rw [hA] at x1
              have hbx := hid (hb.out.rlx (e := ⟨x.b, x.a, x.c⟩) hc0 hc1)
              have r0 := tab_cell ho hAk
              have r1 := tab_cell ho hDk
              have hAI : (A : Int) < k := by omega
              have hDI : (D : Int) < k := by omega
              have hjI : (j : Int) < E.length := by omega
              have hGA := hb.out A
              have hGD := hb.out D
              obtain ⟨oD, hoD⟩ : ∃ v, v = neg G D := ⟨_, rfl⟩
              obtain ⟨oA, hoA⟩ : ∃ v, v = neg G A := ⟨_, rfl⟩
              rw [← hoD] at r1
              rw [← hoA] at r0
              have hput : Hid (∀ v, (v = if oA - x.c < oD then oA - x.c else oD) → updI (neg G) D v = neg (rlx G ⟨x.b, x.a, x.c⟩)) := fun v hv => by
                rw [Go.Proofs.Ytnhiepgfgnemkaa.rlx]
                simp only [hD, hA]
                funext i
                rw [neg] at hoD hoA
                rw [updI, neg, neg, updI]
                split
                · rw [hv]; split <;> omega
                · rfl
              have hoD0 : -100000 ≤ oD ∧ oD ≤ 2000 := by rw [neg] at hoD; omega
              have hoA0 : -100000 ≤ oA ∧ oA ≤ 2000 := by rw [neg] at hoA; omega
              obtain ⟨hoD0, hoD1⟩ := hoD0
              obtain ⟨hoA0, hoA1⟩ := hoA0
              replace hoD := hid hoD
              replace hoA := hid hoA
              replace hA := hid hA
              replace hD := hid hD
              clear hGA hGD
              have fz := owns_free ho
              go_wp2_with fail
              refine wp_region_still_tail 30 (by kernel_rfl) (by kernel_rfl) ?_
              simp only [List.take_succ_cons, List.take_zero, List.drop_succ_cons, List.drop_zero]
              iterate 30 still_step
              refine wpStill_nil ?_
              change wpList _ _ _ _ _ wr.drew
              go_wp2_with fail
              go_roundw
              case rel =>
                refine ⟨j + 1, by omega, by go_num, (hX.setCell (p := ⟨gx, D, none⟩) hgl.out.1 _).drew, ?_, ?_⟩
                · rw [hnx.out]; exact (tab_put ho D _ (hput.out _ (by first | rfl | (split <;> omega) | omega))).drew
                · rw [hnx.out]; exact hbx.out.mono (by omega)
              case measure => simp [intOf]; omega
            · have hlast : Hid (((rev E).take j).foldl rlx F = rnds (rev E) (latB l g) (t + 1)) := by show _ = _; rw [take_all (rev_len E) (by omega), rnds, hF.out]
              rw [hlast.out] at ho hb
              go_wp2_with fail
              refine ⟨⟨t + 1, by omega, by go_num, hX, ho, hb.out.mono (by omega)⟩, ?_⟩
              simp [intOf]; omega
        · have htt : t = k + 1 := by omega
          subst htt
          clear htk
          obtain ⟨F, hF⟩ : ∃ F, F = rnds (rev E) (latB l g) (k + 1) := ⟨_, rfl⟩
          rw [← hF, ← mixK_zero (x := posF l g)] at ho
          rw [← hF] at hb
          replace hF := hid hF
          have hdk : ¬ ((k : Int) + 1 ≤ k) := by omega
          go_wp2_with fail
          go_loopw [14] (fun r wr => ∃ j : Nat, j ≤ k ∧ r = .int .i64 j ∧ Ext w3 wr ∧ wr.ownsRow w3.heap.size 2 1 (.slice (some ⟨gx, 0, none⟩) k c') k (ints (tab k (mixK (posF l g) F j)))) (fun r _ => k - (intOf r).toNat)
          case atStart => exact ⟨0, by omega, rfl, hX, ho⟩
          case round =>
            clear ho hX
            obtain ⟨j, hj, rfl, hX, ho⟩ := hrel
            by_cases hjk : j < k
            · have r0 := tab_cell ho hjk
              obtain ⟨bx, ox, rfl, hbx, p0⟩ := (sX.out.ext hX).tab hjk
              have hjI : (j : Int) < k := by omega
              obtain ⟨oJ, hoJ⟩ : ∃ v, v = mixK (posF l g) F j j := ⟨_, rfl⟩
              obtain ⟨P, hP⟩ : ∃ P, P = posF l g j := ⟨_, rfl⟩
              rw [← hoJ] at r0
              rw [← hP] at p0
              have hPb := posF_btw hl.out hg.out j
              rw [← hP] at hPb
              obtain ⟨hP0, hP1⟩ := hPb
              have hoJ' : oJ = - F j := by rw [hoJ, mixK, if_neg (by omega)]
              have hFj := hb.out j
              have hoJ0 : -100000 ≤ oJ ∧ oJ ≤ 2000 := by rw [hoJ']; omega
              obtain ⟨hoJ0, hoJ1⟩ := hoJ0
              have hput : Hid (updI (mixK (posF l g) F j) j (oJ - P) = mixK (posF l g) F (j + 1)) := mixK_upd (by rw [hoJ', hP])
              replace hoJ := hid hoJ
              replace hP := hid hP
              clear hoJ' hFj
              have fz := owns_free ho
              go_wp2_with fail
              refine wp_region_still_tail 12 (by kernel_rfl) (by kernel_rfl) ?_
              simp only [List.take_succ_cons, List.take_zero, List.drop_succ_cons, List.drop_zero]
              iterate 12 still_step
              refine wpStill_nil ?_
              change wpList _ _ _ _ _ wr.drew
              go_wp2_with fail
              go_roundw
              case rel =>
                exact ⟨j + 1, by omega, by go_num, (hX.setCell (p := ⟨gx, j, none⟩) hgl.out.1 _).drew, (tab_put ho j _ hput.out).drew⟩
              case measure => simp [intOf]; omega
            · have hjj : j = k := by omega
              rw [hjj, tab_mixK] at ho
              have hfin : Hid (tab k (slk (posF l g) F) = tab k (slackF l g)) := tab_congr fun i hi => by
                have := lat_rnds (l := l) (g := g) (i := i) (by rw [l1.out]; exact hi)
                rw [slk, slackF, hF.out, hEq.out, ← this, l1.out]
              rw [hfin.out] at ho
              go_wp2_with fail
              go_ret2
              exact ⟨_, _, rfl, Joins.ownsRow_le ho hww, E03.out.trans hX⟩
end Go.Proofs.Ytnhiepgfgnemkaa

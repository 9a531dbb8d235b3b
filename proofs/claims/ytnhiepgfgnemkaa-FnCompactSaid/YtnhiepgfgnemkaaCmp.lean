/- Contract of compacted (program): a pass over the constraints from left to right. Condition: valid blocks and gap. -/
import Derived.Test.YtnhiepgfgnemkaaCon
import Derived.Test.YtnhiepgfgnemkaaLst
import Derived.Deep.RegionWith
namespace Go.Proofs.Ytnhiepgfgnemkaa
open Go.RowKit

theorem made_run (n : Nat) (hn : n ≤ 1048576) (W : World) : (Instr.makeSlice 23 (.int .i64 n) (.int .i64 n)).run Try.prog W = .ok (.slice (some ⟨W.heap.size, 0, none⟩) n n) (W.alloc (.cells (ints (tab n fun _ => 0)).toArray 2)) := by
  obtain ⟨i0, hi, hz0, hz1, hz2⟩ := info_parts info_Int64
  have h := run_make (P := Try.prog) W 23 2 i0 (.int .i64 0) Try.underlying23 hi hz0 .i64 .i64 n n (by omega) (by omega) (by rw [hz2]; omega) (by omega)
  rw [h, hz1]
  have e : madeCells (Value.int .i64 0).cells ((n : Int).toNat * 1) = (ints (tab n fun _ => 0)).toArray := by
    apply Array.toList_inj.1
    rw [made_const _ (.int .i64 0) _ (by simp [Value.cells]) (by intro j hj; simp [Value.cells] at hj; subst hj; rfl), tab_const, ints]; simp
  rw [e]; simp
theorem made_owns (n base : Nat) (hn : n ≤ 1048576) (W : World) (hb : base ≤ W.heap.size) : (W.alloc (.cells (ints (tab n fun _ => 0)).toArray 2)).ownsRow base 2 1 (.slice (some ⟨W.heap.size, 0, none⟩) n n) n (ints (tab n fun _ => 0)) :=
  ⟨by rw [ints_len, tab_len]; omega, Or.inr ⟨_, _, _, rfl, hb, heap_new _ _, Nat.le_refl _, by unfold maxLen; omega, by simp [ints_len, tab_len], by rw [List.take_of_length_le (by simp [ints_len, tab_len])]⟩⟩
theorem csL_edges {l : List Q4} {g : Int} (hl : isBL l = true) (hg : wit g 0 8 = true) : EdgesOk (csL l g) l.length := fun e he => by
  obtain ⟨i, hi, k, hk, -, he⟩ := csL_mem.1 he
  obtain ⟨i, rfl, hi'⟩ := upto_mem hi
  obtain ⟨k, rfl, hk'⟩ := upto_mem hk
  have he' := one_mem he
  subst he'
  have hx : l[i]? = some l[i] := List.getElem?_eq_getElem hi'
  have hv := vblk_iff.1 ((isBL_parts hl).2 _ (List.mem_of_getElem? hx))
  have hg' := wit_iff.1 hg
  rw [bA_at hx]
  exact ⟨⟨i, rfl, hi'⟩, ⟨k, rfl, hk'⟩, by show 0 ≤ _ + g; omega, by show _ + g ≤ 48; omega⟩
theorem csL_topo (l : List Q4) (g : Int) : Topo (Lft l) (csL l g) (ltr l) where
  asym := fun h h' => h.asymm h'
  pair := (ltr_is l).pair
  edge := fun e he => by obtain ⟨i, hi, k, hk, hl, he⟩ := csL_mem.1 he; rw [one_mem he]; exact hl
  memA := fun e he => by obtain ⟨i, hi, k, hk, hl, he⟩ := csL_mem.1 he; rw [one_mem he]; exact (ltr_is l).perm.mem_iff.2 hi
  memB := fun e he => by obtain ⟨i, hi, k, hk, hl, he⟩ := csL_mem.1 he; rw [one_mem he]; exact (ltr_is l).perm.mem_iff.2 hk
/-- The least positions. -/
def posF (l : List Q4) (g : Int) : Int → Int := pass (csL l g) (ltr l) (fun _ => 0)

theorem vst_hit {f : Int → Int} {e : Q3} {i : Int} (h : e.b = i) : vst i f e = rlx f e := if_pos h
theorem vst_miss {f : Int → Int} {e : Q3} {i : Int} (h : e.b ≠ i) : vst i f e = f := if_neg h
set_option maxRecDepth 100000 in
set_option maxHeartbeats 8000000 in
theorem compacted_any (q : Option Addr) (n c : Nat) (l : List Q4) (g : Int) (w : World) (B : Nat) (hB : B ≤ w.heap.size) (h : SlT enc4 4 w q n l) (hl : isBL l = true) (hg : wit g 0 8 = true) :
    Calls Try.prog 65 #[.slice q n c, .int .i64 g] w fun e w' => ∃ q c, e = .returned (.slice q n c) ∧ w'.ownsRow B 2 1 (.slice q n c) n (ints (tab n (posF l g))) ∧ Ext w w' := by
  have hn : n ≤ 12 := by have := (isBL_parts hl).1; rw [h.length] at this; exact this
  have l1 := hid h.length
  have hnI : (n : Int) ≤ 12 := by omega
  have hEd := hid (csL_edges hl hg)
  rw [l1.out] at hEd
  have hol := hid (ltr_len l)
  rw [l1.out] at hol
  have hom : Hid (∀ x ∈ ltr l, ∃ i : Nat, x = i ∧ i < n) := fun x hx => by
    have := (ltr_is l).perm.mem_iff.1 hx
    rw [l1.out] at this; exact upto_mem this
  have hmk := made_run n (by omega)
  have hcl : (csL l g).length ≤ 144 := by have := csL_len l g; rw [h.length] at this; have := Nat.mul_le_mul hn hn; omega
  go_enter Try.func65, Try.ntmps65
  go_wp2_with fail
  go_region_with (go_at_call 61; refine (constraints_any q n c l g _ (h.ext (by first | exact (Ext.refl _).drew | exact ((Ext.refl _).alloc _).drew | exact ((Ext.refl _).drew.alloc _))) hl hg).mono ?_; rintro e w1 ⟨q1, c1, rfl, ho1, hE1⟩)
  have hox := owns_ext (made_owns n B (by omega) w hB).drew hE1
  have hE := hid ((((Ext.refl w).alloc (.cells (ints (tab n fun _ => 0)).toArray 2)).drew).trans hE1)
  have hgl := hid (owns_lt hox)
  have hsA := hid (SlT.of_owns enc3_len rfl ho1)
  have hne : Hid (∀ a, q1 = some a → a.block ∉ [w.heap.size]) := fun a ha => by subst ha; have := (ho1.lt a.block rfl).1; simp at this ⊢; omega
  clear ho1 hE1
  generalize hgx : w.heap.size = gx at hox hgl hne ⊢
  have hgw := hid (show w.heap.size ≤ gx by omega)
  clear hgx
  obtain ⟨W1, rfl⟩ : ∃ W, W = w1 := ⟨_, rfl⟩
  rotate_left 1
  have hE := hid (((Ext.refl w).drew.trans hE1).alloc (.cells (ints (tab n fun _ => 0)).toArray 2))
  have hox := made_owns n B (by omega) w1 (by have := hE1.le; simp at this; omega)
  have hgl := hid (owns_lt hox)
  have hsA := hid ((SlT.of_owns enc3_len rfl ho1).ext ((Ext.refl w1).alloc (.cells (ints (tab n fun _ => 0)).toArray 2)))
  have hne : Hid (∀ a, q1 = some a → a.block ∉ [w1.heap.size]) := fun a ha => by subst ha; have := (ho1.lt a.block rfl).2; simp; omega
  have hww := hE1.le
  simp only [World.size_drew] at hww
  clear ho1 hE1
  generalize hgx : w1.heap.size = gx at hox hgl hne ⊢
  have hgw := hid (show w.heap.size ≤ gx by omega)
  clear hww
  generalize hWx : w1.alloc _ = W1 at hE hox hgl hsA ⊢
  clear hgx hWx
  clear w1
  rotate_left 1
  all_goals
    clear hmk
    obtain ⟨E, hEq⟩ : ∃ E, E = csL l g := ⟨_, rfl⟩
    rw [← hEq] at hcl hEd hsA ⊢
    replace hEq := hid hEq
    go_wp2_with (go_at_call 68; refine (leftToRight_any q n c l _ (h.ext hE.out) hn).mono ?_; rintro e w2 ⟨q2, c2, rfl, ho2, hE2⟩)
    have hox2 := owns_ext hox hE2
    have hs2 := hid (hsA.out.ext hE2)
    have hoS : SlT enc1 1 w2 q2 n (ltr l) := by
      rw [ints, ← flat1] at ho2
      exact SlT.of_owns enc1_len hol.out ho2
    have hne2 : Hid (∀ a, q2 = some a → a.block ∉ [gx]) := fun a ha => by subst ha; have := (ho2.lt a.block rfl).1; have := hgl.out.2; simp; omega
    have hEw := hid (hE.out.trans hE2)
    have hBgx : B ≤ gx := hgl.out.1
    have hgl2 : gx < w2.heap.size := by have := hE2.le; have := hgl.out.2; omega
    clear ho2 hox hsA hE hgl hE2
    have hb0 : Hid (Btw (pass E ((ltr l).take 0) (fun _ => 0)) 0 (48 * (144 * (0 : Nat)))) := fun i => by show 0 ≤ (0 : Int) ∧ (0 : Int) ≤ _; omega
    go_loopw [20] (fun r wr => ∃ j : Nat, j ≤ n ∧ r = .int .i64 j ∧ Mut w2 wr [gx] ∧ wr.ownsRow B 2 1 (.slice (some ⟨gx, 0, none⟩) n n) n (ints (tab n (pass E ((ltr l).take j) (fun _ => 0)))) ∧ Hid (Btw (pass E ((ltr l).take j) (fun _ => 0)) 0 (48 * (144 * j)))) (fun r _ => n - (intOf r).toNat)
    case atStart => exact ⟨0, by omega, rfl, Mut.refl _ _, hox2, hb0⟩
    case round =>
      clear hox2 hb0
      obtain ⟨j, hj, rfl, hM, ho, hb⟩ := hrel
      by_cases hjn : j < n
      · obtain ⟨b, off, x, rfl, hbl, hx, x0⟩ := (hoS.mut hM hne2.out).int hjn
        obtain ⟨i, hxi, hiN⟩ := hom.out x (List.mem_of_getElem? hx.out)
        subst hxi
        have hjI : (j : Int) < n := by omega
        obtain ⟨F, hF⟩ : ∃ F, F = pass E ((ltr l).take j) (fun _ => 0) := ⟨_, rfl⟩
        have hFn := hid (foldl_snoc (fun f i => E.foldl (vst i) f) (fun _ => 0) hx.out)
        rw [← hF] at ho hb
        replace hF := hid hF
        go_wp2
        go_loopw [26] (fun r wr => ∃ t : Nat, t ≤ E.length ∧ r = .int .i64 t ∧ Mut w2 wr [gx] ∧ wr.ownsRow B 2 1 (.slice (some ⟨gx, 0, none⟩) n n) n (ints (tab n ((E.take t).foldl (vst i) F))) ∧ Hid (Btw ((E.take t).foldl (vst i) F) 0 (48 * (144 * j + t)))) (fun r _ => E.length - (intOf r).toNat)
        case atStart => exact ⟨0, by omega, rfl, hM, ho, hb⟩
        case round =>
          clear ho hb hM
          obtain ⟨t, ht, rfl, hM, ho, hb⟩ := hrel
          by_cases htE : t < E.length
          · obtain ⟨bc, oc, e, rfl, hbc, he, e0, e1, e2⟩ := (hs2.out.mut hM hne.out).three htE
            obtain ⟨G, hG⟩ : ∃ G, G = (E.take t).foldl (vst i) F := ⟨_, rfl⟩
            have hnx := hid (foldl_snoc (vst i) F he.out)
            rw [← hG] at ho hb hnx
            replace hG := hid hG
            obtain ⟨⟨A, hA, hAk⟩, ⟨D, hD, hDk⟩, hc0, hc1⟩ := hEd.out e (List.mem_of_getElem? he.out)
            have htI : (t : Int) < E.length := by omega
            have hglr : gx < wr.heap.size := by have := hM.size; omega
            by_cases hDi : D = i
            · subst hDi
              have hnx' : Hid ((E.take (t + 1)).foldl (vst D) F = rlx G e) := by show _ = _; rw [hnx.out, vst_hit hD]
              have hbx := hid (hb.out.rlx hc0 hc1)
              rw [hA] at e0
              rw [hD] at e1
              have hGA0 : 0 ≤ G A := (hb.out A).1
              have hGA1 : G A ≤ 48 * (144 * j + t) := (hb.out A).2
              have hGB0 : 0 ≤ G D := (hb.out D).1
              have hGB1 : G D ≤ 48 * (144 * j + t) := (hb.out D).2
              have hA := hid hA
              have hD := hid hD
              have hAI : (A : Int) < n := by omega
              have hDI : (D : Int) < n := by omega
              clear hnx
              go_wp2_with fail
              generalize hW : wr.alloc _ = W0
              obtain ⟨E0, z0, b0⟩ := boxes1 hW
              clear hW
              have M0 := hM.ext E0
              have ho0 := owns_ext ho E0
              have hgl0 : gx < W0.heap.size := by omega
              have r0 := tab_cell ho0 hAk
              have r1 := tab_cell ho0 hDk
              have fz := owns_free ho0
              have gb := (show Blk W0 _ [_, _, _] _ from b0).cells
              have k0 := gb 0
              have k1 := gb 1
              have k2 := gb 2
              simp only [List.getElem?_cons_zero, List.getElem?_cons_succ] at k0 k1 k2
              replace z0 := hid z0
              clear gb b0 e0 e1 e2
              go_wp2_with fail
              refine wp_region_still_tail 16 (by kernel_rfl) (by kernel_rfl) ?_
              simp only [List.take_succ_cons, List.take_zero, List.drop_succ_cons, List.drop_zero]
              iterate 16 still_step
              refine wpStill_nil ?_
              change wpList _ _ _ _ _ W0.drew
              go_wp2
              go_roundw
              case rel =>
                refine ⟨t + 1, by omega, by go_num, (M0.setCell (p := ⟨gx, D, none⟩) (by simp) _).drew, ?_, ?_⟩
                · rw [hnx'.out, Go.Proofs.Ytnhiepgfgnemkaa.rlx, hA.out, hD.out]; exact (tab_store ho0 D _).drew
                · rw [hnx'.out]; exact hbx.out.mono (by omega)
              case measure => simp [intOf]; omega
            · have hnx' : Hid ((E.take (t + 1)).foldl (vst i) F = G) := by show _ = _; rw [hnx.out, vst_miss (by omega)]
              have hne1 : (e.b == (i : Int)) = false := by simp; omega
              clear hnx hA hD
              go_wp2
              go_roundw
              case rel =>
                refine ⟨t + 1, by omega, by go_num, hM.alloc _, ?_, ?_⟩
                · rw [hnx'.out]; exact ho.alloc _
                · rw [hnx'.out]; exact hb.out.mono (by omega)
              case measure => simp [intOf]; omega
          · have htt : E.take t = E := take_all rfl (by omega)
            rw [htt] at ho hb
            go_wp2
            refine ⟨⟨j + 1, by omega, by go_num, hM, ?_, ?_⟩, ?_⟩
            · rw [pass, hFn.out]; rw [hF.out] at ho; exact ho
            · rw [pass, hFn.out]; rw [hF.out] at hb; exact hb.out.mono (by omega)
            · simp [intOf]; omega
      · have hjj : (ltr l).take j = ltr l := take_all hol.out (by omega)
        rw [hjj] at ho
        go_wp2
        go_ret
        refine ⟨_, _, rfl, ?_, hEw.out.then hM (by intro k hk; simp at hk; have := hgw.out; omega)⟩
        rw [posF, ← hEq.out]; exact ho
end Go.Proofs.Ytnhiepgfgnemkaa

/- Contract of l33Color (reference). Condition: a table of at most 1000 rows, each as long as it has rows. -/
import Derived.Test.YtaigndaabmelhaaCld
namespace Go.Proofs.Ytaigndaabmelhaa
open Go.RowKit

set_option maxRecDepth 100000 in
set_option maxHeartbeats 8000000 in
theorem l33Color_any (q : Option Addr) (n c : Nat) (T : List (List Bool)) (w : World) (h : SlR encb 1 w q n T) (hn : n ≤ 1000) (hrows : ∀ r ∈ T, r.length = n) :
    Calls Try.prog 86 #[.slice q n c] w (ColB T n w) := by
  have hl := hid h.length
  replace hrows := hid hrows
  obtain ⟨i0, hi, hz0, hz1, hz2⟩ := info_parts info_I64
  obtain ⟨j0, hji, hy0, hy1, hy2⟩ := info_parts info_IntT
  go_enter Try.func86, Try.ntmps86
  go_upto_region 2 with (fail)
  have ho0 : (w.alloc (.cells #[] 2)).ownsRow w.heap.size 2 1 (.slice (some ⟨w.heap.size, 0, none⟩) 0 0) 0 [] := by
    have := World.ownsRow_made (base := w.heap.size) (e := 2) (size := 1) w #[] 0 (by simp) (by simp [maxLen]) (by simp)
    exact this
  generalize hW : w.alloc _ = W0 at ho0 ⊢
  have E0 : Ext w W0 := by rw [← hW]; exact (Ext.refl _).alloc _
  clear hW
  replace ho0 := hid (show W0.ownsRow w.heap.size 2 1 (.slice (some ⟨w.heap.size, 0, none⟩) 0 0) 0 (cI (ccol T n 0) 0) from ho0)
  replace E0 := hid E0
  go_wp2
  go_loopw [4, 5] (fun vo ik wr => ∃ (k : Nat) (qo : Option Addr) (co : Nat), k ≤ n ∧ ik = .int .i64 k ∧ vo = .slice qo k co ∧ Hid (wr.ownsRow w.heap.size 2 1 (.slice qo k co) k (cI (ccol T n 0) k)) ∧ Hid (Ext w wr)) (fun _ i _ => n - (intOf i).toNat)
  case atStart => exact ⟨0, _, _, by omega, rfl, rfl, ho0, E0⟩
  case round =>
    clear ho0 E0
    obtain ⟨k, qo, co, hk, rfl, rfl, ho, hE⟩ := hrel
    by_cases hlt : k < n
    · have hltI : (k : Int) < (n : Int) := by omega
      have hsz := hE.out.le
      have hval : Hid (cI (ccol T n 0) (k + 1) = cI (ccol T n 0) k ++ [.int .i64 (-1)]) := by show _ = _; rw [cI, cI, List.range_succ, List.map_append]; rfl
      go_wp2_with (at_builtin; refine wpList_append_own_at _ rfl _ _ 41 rfl w.heap.size 2 i0 (.int .i64 0) 1 8 Try.underlying41 hi hz0 hz1 hz2 rfl (by omega) _ _ _ rfl (ho.out.alloc _) ⟨_, 0, none⟩ 1 1 [.int .i64 (-1)] rfl rfl (cells_new1 _ _ _) (one_int1 _) (len_le (by omega) (by omega)) (by omega) (by simp; omega) ?_; intro v' w9 ho' hg' _ hb'; obtain ⟨qa, ca, rfl⟩ := owns_forms ho'; replace ho' := hid ho'; replace hg' := hid hg')
      go_roundw
      case rel => exact ⟨k + 1, qa, ca, by omega, by go_num, rfl, by rw [hval.out]; exact ho'.out, (hE.out.alloc _).grown hg'.out (fun g hg => (ho.out.lt g hg).1)⟩
      case measure => simp [intOf]; omega
    · have hltI : ¬ (k : Int) < (n : Int) := by omega
      obtain rfl : k = n := by omega
      obtain ⟨n, hn9⟩ : ∃ n, n = k := ⟨_, rfl⟩
      rw [← hn9] at h hn hrows hl ho ⊢
      replace hn9 := hid hn9
      clear hltI hk hlt
      go_wp2
      go_loopw [6] (fun i wr => ∃ m : Nat, m ≤ n ∧ i = .int .i64 m ∧ Hid (wr.ownsRow w.heap.size 2 1 (.slice qo n co) n (cI (ccol T n m) n)) ∧ Hid (Ext w wr)) (fun i _ => n - (intOf i).toNat)
      case atStart => exact ⟨0, by omega, rfl, ho, hE⟩
      case round =>
        clear ho hE
        obtain ⟨m, hm, rfl, ho, hE⟩ := hrel
        by_cases hltm : m < n
        · have hltmI : (m : Int) < (n : Int) := by omega
          obtain ⟨O, rfl⟩ := owns_some ho.out (by omega)
          have z0 := ho.out.cellAt m (by omega)
          rw [cI_get _ hltm] at z0
          have hOl := (owns_lt ho.out).2
          have hOw := (owns_lt ho.out).1
          have hf := owns_free ho.out
          by_cases hc : 0 ≤ ccol T n m m
          · have he : Hid (ccol T n (m + 1) = ccol T n m) := by show _ = _; rw [ccol, if_pos hc]
            go_wp2
            go_roundw
            case rel => exact ⟨m + 1, by omega, by go_num, by rw [he.out]; exact ho, hE⟩
            case measure => simp [intOf]; omega
          · have hbd := ccol_ok (T := T) (n := n) m hm
            have hcl : ccol T n m m < 0 := by omega
            obtain ⟨s0, hs0⟩ : ∃ s0 : CS, s0 = (updN (ccol T n m) m 0, [m]) := ⟨_, rfl⟩
            have hiv : CInv n s0 := by rw [hs0]; exact CInv.start hbd hltm hcl
            obtain ⟨W2, hW2⟩ : ∃ W2, W2 = wr.setCell ⟨O, m, none⟩ (.int .i64 0) := ⟨_, rfl⟩
            have ho2 : W2.ownsRow w.heap.size 2 1 (.slice (some ⟨O, 0, none⟩) n co) n (cI s0.1 n) := by
              rw [hs0, hW2]
              have h9 := owns_set ho.out m (.int .i64 0)
              rw [cI_set _ _ hltm] at h9
              exact h9
            have hEs : Ext w W2 := by rw [hW2]; exact hE.out.setCell (p := ⟨O, m, none⟩) hOw _
            have hq0 : (W2.alloc (.cells #[.int .i64 m] 3)).ownsRow w.heap.size 3 1 (.slice (some ⟨W2.heap.size, 0, none⟩) 1 1) 1 ([m].flatMap encN) := by
              have := heap_new W2 (.cells #[.int .i64 m] 3)
              exact owns_blk (n := 1) (size := 1) (cs := [.int .i64 m]) this hEs.le rfl (by simp [maxLen])
            have hOl2 := (owns_lt ho2).2
            have hst : Hid (FcW n w O co s0 (some ⟨W2.heap.size, 0, none⟩) 1 (W2.alloc (.cells #[.int .i64 m] 3))) := by
              have e1 : s0.2 = [m] := by rw [hs0]
              exact ⟨hiv, owns_ext ho2 ((Ext.refl _).alloc _), by rw [e1]; exact hq0, by simp [Value.ownBlock]; omega, hEs.alloc _⟩
            have hlen0 : s0.2.length = 1 := by rw [hs0]; rfl
            replace hs0 := hid hs0
            replace hW2 := hid hW2.symm
            replace hcl := hid hcl
            have hc2 := hid hc
            have hbd := hid hbd
            clear hiv ho2 hEs hq0 hc hcl
            go_upto_region 11 with (fail)
            rw [hW2.out]
            go_wp2
            go_loopw [7, 8] (fun vq ik wr => ∃ (k : Nat) (s : CS) (qq : Option Addr) (cq : Nat), k ≤ s.2.length ∧ vq = .slice qq s.2.length cq ∧ ik = .int .i64 k ∧ Hid (s = cbfs T n k s0) ∧ Hid (FcW n w O co s qq cq wr)) (fun _ i _ => n + 1 - (intOf i).toNat)
            case atStart => exact ⟨0, s0, _, 1, by omega, by rw [hlen0], rfl, rfl, hst⟩
            case round =>
              clear hst hlen0 hOl2 z0 hOl hf ho hE
              obtain ⟨k', s, qq, cq, hk', rfl, rfl, hs, hw⟩ := hrel
              have hcn := hw.out.inv.cnt
              have hsl : s.2.length ≤ n := by omega
              by_cases hlk : k' < s.2.length
              · have hlkI : (k' : Int) < (s.2.length : Int) := by omega
                obtain ⟨i, hii⟩ : ∃ i, Hid (s.2[k']? = some i) := ⟨_, List.getElem?_eq_getElem hlk⟩
                have him := hw.out.inv.mem i (List.mem_of_getElem? hii.out)
                obtain ⟨hin, hi0⟩ := him
                have hinI : (i : Int) < (n : Int) := by omega
                obtain ⟨b, off, q3, n3, c3, row, rfl, hb, hrow, z3, t3⟩ := h.get hin
                have hn3 : n3 = n := by rw [← t3.length]; exact hrows.out row (List.mem_of_getElem? hrow.out)
                subst hn3
                have hK : Hid (∀ V, Ext w V → b < V.heap.size ∧ V.cell? ⟨b, off + i, none⟩ = some (.slice q3 n3 c3) ∧ SlT encb 1 V q3 n3 row) := fun V hV => ⟨Nat.lt_of_lt_of_le hb hV.le, (hV.cells _ _ hb).trans z3, t3.ext hV⟩
                have hpre := hid (pre_crow (T := T) i s)
                have hgo : Hid (cbfs T n3 (k' + 1) s0 = crow T i n3 s) := by
                  show _ = _
                  rw [cbfs_go (by rw [← hs.out]; exact hii.out), ← hs.out]
                have hia := hid (fun j => crow_at (T := T) i s j hi0)
                have hi0 := hid hi0
                clear hb z3 t3
                go_wp2
                go_loopw [7, 9] (fun vq ij wr => ∃ (j : Nat) (s' : CS) (qq : Option Addr) (cq : Nat), j ≤ n3 ∧ vq = .slice qq s'.2.length cq ∧ ij = .int .i64 j ∧ Hid (s' = crow T i j s) ∧ Hid (FcW n3 w O co s' qq cq wr)) (fun _ i _ => n3 - (intOf i).toNat)
                case atStart => exact ⟨0, s, _, _, by omega, rfl, rfl, rfl, hw⟩
                case round =>
                  clear hw
                  obtain ⟨j, s', qq, cq, hj, rfl, rfl, hs', hw⟩ := hrel
                  have hcn' := hw.out.inv.cnt
                  have hsl' : s'.2.length ≤ n3 := by omega
                  have hii' : s'.2[k']? = some i := by
                    obtain ⟨t, ht⟩ := hpre.out j
                    rw [hs'.out, ht, List.getElem?_append_left hlk]; exact hii.out
                  have hlk' : k' < s'.2.length := (List.getElem?_eq_some_iff.1 hii').1
                  have hlkI' : (k' : Int) < (s'.2.length : Int) := by omega
                  by_cases hjl : j < n3
                  · have hjI : (j : Int) < (n3 : Int) := by omega
                    have hsq := SlT.of_owns (l := s'.2) encN_len rfl hw.out.own
                    obtain ⟨bq, oq, i', e9, hbq, hii2, zq⟩ := hsq.nat hlk'
                    subst e9
                    obtain rfl : i' = i := by have := hii2.out; rw [hii'] at this; exact (Option.some.inj this).symm
                    obtain ⟨hb', z3', t4⟩ := hK.out _ hw.out.ext
                    obtain ⟨b4, o4, fb, rfl, hb4, hfb, z4⟩ := t4.flag hjl
                    have hed := hid (edg_of hrow.out hfb.out)
                    have hii' := hid hii'
                    clear t4 hsq
                    cases fb with
                    | false =>
                      have hs2 : Hid (s' = crow T i' (j + 1) s) := by show _ = _; rw [crow, ← hs'.out, cst_miss (Or.inl hed.out)]
                      go_wp2
                      go_roundw
                      case rel => exact ⟨j + 1, s', _, _, by omega, rfl, by go_num, hs2, hw⟩
                      case measure => simp [intOf]; omega
                    | true =>
                      have zi := hw.out.out.cellAt i' (by omega)
                      rw [cI_get _ hin] at zi
                      have zj := hw.out.out.cellAt j (by omega)
                      rw [cI_get _ hjl] at zj
                      have hOl := (owns_lt hw.out.out).2
                      have hf := owns_free hw.out.out
                      have hbi := hw.out.inv.bd i'
                      have hbj := hw.out.inv.bd j
                      have hic : s'.1 i' = s.1 i' := by rw [hs'.out]; exact hia.out j
                      obtain ⟨ci, hci⟩ : ∃ ci, ci = s'.1 i' := ⟨_, rfl⟩
                      obtain ⟨cj, hcj⟩ : ∃ cj, cj = s'.1 j := ⟨_, rfl⟩
                      have hci0 : 0 ≤ ci := by rw [hci, hic]; exact hi0.out
                      rw [← hci] at zi hbi
                      rw [← hcj] at zj hbj
                      replace hci := hid hci
                      replace hcj := hid hcj
                      clear hic
                      by_cases hcn : cj < 0
                      · have hjc : s'.1 j < 0 := by rw [← hcj.out]; exact hcn
                        have hcst := cst_hit (T := T) (s := s') hed.out hjc
                        rw [← hci.out] at hcst
                        have hs2 : Hid ((updN s'.1 j (1 - ci), s'.2 ++ [j]) = crow T i' (j + 1) s) := by show _ = _; rw [crow, ← hs'.out, hcst]
                        have hinv2 := hid (hw.out.inv.cst (T := T) (i := i') (j := j) (by rw [← hci.out]; exact hci0) hjl)
                        rw [hcst] at hinv2
                        obtain ⟨W5, hW5⟩ : ∃ W5, W5 = wr.setCell ⟨O, j, none⟩ (.int .i64 (1 - ci)) := ⟨_, rfl⟩
                        have r1 : W5.ownsRow w.heap.size 2 1 (.slice (some ⟨O, 0, none⟩) n3 co) n3 (cI (updN s'.1 j (1 - ci)) n3) := by
                          rw [hW5]
                          have h9 := owns_set hw.out.out j (.int .i64 (1 - ci))
                          rw [cI_set _ _ hjl] at h9
                          exact h9
                        have r2 := hid (show W5.ownsRow w.heap.size 3 1 (.slice (some ⟨bq, oq, none⟩) s'.2.length cq) s'.2.length (s'.2.flatMap encN) from by rw [hW5]; exact owns_other hw.out.own hw.out.ne j _)
                        have r4 := hid (show Ext w W5 from by rw [hW5]; exact hw.out.ext.setCell (p := ⟨O, j, none⟩) hOw _)
                        have hOl5 := (owns_lt r1).2
                        have r1 := hid r1
                        have hne9 := hid hw.out.ne
                        have hsz := r4.out.le
                        replace hW5 := hid hW5.symm
                        clear hcst hjc
                        go_upto_region 20 with (fail)
                        rw [hW5.out]
                        go_wp2_with (at_builtin; refine wpList_append_own_at _ rfl _ _ 124 rfl w.heap.size 3 j0 (.int .i64 0) 1 8 Try.underlying124 hji hy0 hy1 hy2 rfl (by omega) _ _ _ rfl (r2.out.alloc _) ⟨_, 0, none⟩ 1 1 [.int .i64 j] rfl rfl (cells_new1 _ _ _) (one_int1 _) (len_le (by omega) (by omega)) (by omega) (by simp; omega) ?_; intro v' w6 ho' hg' _ hb'; obtain ⟨qa, ca, rfl⟩ := owns_forms ho'; replace ho' := hid ho'; have t4 := hid ((r4.out.alloc (.cells #[.int .i64 j] 3)).grown hg' (fun k hk => (r2.out.lt k hk).1)); have t5 := hid (ne_new hne9.out hb' (by simp; omega)); have t1 := hid ((r1.out.alloc (.cells #[.int .i64 j] 3)).kept hg' (Or.inr (fun e9 => hne9.out e9.symm))); clear hg' hb')
                        go_roundw
                        case rel => exact ⟨j + 1, (updN s'.1 j (1 - ci), s'.2 ++ [j]), qa, ca, by omega, by show _ = Value.slice _ (s'.2 ++ [_]).length _; rw [List.length_append]; rfl, by go_num, hs2, ⟨hinv2.out, t1.out, by show World.ownsRow _ _ _ _ (Value.slice _ (s'.2 ++ [_]).length _) (s'.2 ++ [_]).length ((s'.2 ++ [_]).flatMap encN); rw [List.length_append, List.flatMap_append]; simpa [encN] using ho'.out, by show Value.ownBlock (.slice _ (s'.2 ++ [_]).length _) ≠ _; rw [List.length_append]; exact t5.out, t4.out⟩⟩
                        case measure => simp [intOf]; omega
                      · have hjc : 0 ≤ s'.1 j := by rw [← hcj.out]; omega
                        have hs2 : Hid (s' = crow T i' (j + 1) s) := by show _ = _; rw [crow, ← hs'.out, cst_miss (Or.inr hjc)]
                        clear hjc
                        go_wp2
                        go_roundw
                        case rel => exact ⟨j + 1, s', _, _, by omega, rfl, by go_num, hs2, hw⟩
                        case measure => simp [intOf]; omega
                  · have hjI : ¬ (j : Int) < (n3 : Int) := by omega
                    obtain rfl : j = n3 := by omega
                    have hs2 : Hid (s' = cbfs T j (k' + 1) s0) := hs'.out.trans hgo.out.symm
                    have hlen : k' + 1 ≤ s'.2.length := hlk'
                    replace hii' := hid hii'
                    go_wp2
                    go_roundw
                    case rel => exact ⟨k' + 1, s', _, _, hlen, rfl, by go_num, hs2, hw⟩
                    case measure => simp [intOf]; omega
              · have hlkI : ¬ (k' : Int) < (s.2.length : Int) := by omega
                have hce : Hid (ccol T n (m + 1) = s.1) := bfs_end (by rw [← hs0.out]; exact hs.out) (by omega) (by omega) (by have := hc2.out; omega)
                have ho9 : Hid (wr.ownsRow w.heap.size 2 1 (.slice (some ⟨O, 0, none⟩) n co) n (cI (ccol T n (m + 1)) n)) := by
                  show World.ownsRow _ _ _ _ _ _ _
                  rw [hce.out]; exact hw.out.out
                have hE9 := hid hw.out.ext
                go_wp2
                go_roundw
                case rel => exact ⟨m + 1, by omega, by go_num, ho9, hE9⟩
                case measure => simp [intOf]; omega
        · have hltmI : ¬ (m : Int) < (n : Int) := by omega
          obtain rfl : m = n := by omega
          obtain ⟨C, hC⟩ : ∃ C, C = ccol T m m := ⟨_, rfl⟩
          rw [← hC] at ho
          obtain ⟨V0, hV0⟩ : ∃ V0, V0 = wr := ⟨_, rfl⟩
          have hEx : Hid (Ext V0 wr) := by show Ext V0 wr; rw [hV0]; exact Ext.refl _
          rw [← hV0] at ho hE
          replace hV0 := hid hV0
          replace hC := hid hC
          have hd0 : Hid (∀ x, x < 0 → Done T m x) := fun x hx => by omega
          go_wp2
          go_loopw [10] (fun ia wr => ∃ a : Nat, a ≤ m ∧ ia = .int .i64 a ∧ Hid (Ext V0 wr) ∧ Hid (∀ x, x < a → Done T m x)) (fun i _ => m - (intOf i).toNat)
          case atStart => exact ⟨0, by omega, rfl, hEx, hd0⟩
          case round =>
            clear hEx hd0
            obtain ⟨a, ha, rfl, hEx, hd⟩ := hrel
            by_cases hal : a < m
            · have haI : (a : Int) < (m : Int) := by omega
              obtain ⟨b, off, q3, n3, c3, row, rfl, hb, hrow, z3, t3⟩ := h.get hal
              have hn3 : n3 = m := by rw [← t3.length]; exact hrows.out row (List.mem_of_getElem? hrow.out)
              subst hn3
              have hK : Hid (∀ V, Ext w V → b < V.heap.size ∧ V.cell? ⟨b, off + a, none⟩ = some (.slice q3 n3 c3) ∧ SlT encb 1 V q3 n3 row) := fun V hV => ⟨Nat.lt_of_lt_of_le hb hV.le, (hV.cells _ _ hb).trans z3, t3.ext hV⟩
              obtain ⟨O, rfl⟩ := owns_some ho.out (by omega)
              clear hb z3 t3
              have hr0 : Hid (∀ k, k < 0 → edg T a k = true → ccol T n3 n3 k ≠ ccol T n3 n3 a) := fun k hk => by omega
              go_wp2
              go_loopw [11] (fun ib wr => ∃ j : Nat, j ≤ n3 ∧ ib = .int .i64 j ∧ Hid (Ext V0 wr) ∧ Hid (∀ k, k < j → edg T a k = true → ccol T n3 n3 k ≠ ccol T n3 n3 a)) (fun i _ => n3 - (intOf i).toNat)
              case atStart => exact ⟨0, by omega, rfl, hEx, hr0⟩
              case round =>
                clear hEx hr0
                obtain ⟨j, hj, rfl, hEx, hr⟩ := hrel
                by_cases hjl : j < n3
                · have hjI : (j : Int) < (n3 : Int) := by omega
                  obtain ⟨hb', z3', t4⟩ := hK.out _ (hE.out.trans hEx.out)
                  obtain ⟨b4, o4, fb, rfl, hb4, hfb, z4⟩ := t4.flag hjl
                  have hed := hid (edg_of hrow.out hfb.out)
                  have hox := owns_ext ho.out hEx.out
                  have za := hox.cellAt a (by omega)
                  rw [cI_get _ hal] at za
                  have zj := hox.cellAt j (by omega)
                  rw [cI_get _ hjl] at zj
                  have hOl := (owns_lt hox).2
                  have hca : Hid (C a = ccol T n3 n3 a) := by show _ = _; rw [hC.out]
                  have hcj : Hid (C j = ccol T n3 n3 j) := by show _ = _; rw [hC.out]
                  obtain ⟨ca, hca2⟩ : ∃ ca, ca = C a := ⟨_, rfl⟩
                  obtain ⟨cj, hcj2⟩ : ∃ cj, cj = C j := ⟨_, rfl⟩
                  rw [← hca2] at za hca
                  rw [← hcj2] at zj hcj
                  clear t4 hox hca2 hcj2
                  cases fb with
                  | false =>
                    have hr2 : Hid (∀ k, k < j + 1 → edg T a k = true → ccol T n3 n3 k ≠ ccol T n3 n3 a) := fun k hk he => by
                      by_cases e : k = j
                      · subst e; rw [hed.out] at he; cases he
                      · exact hr.out k (by omega) he
                    go_wp2
                    refine wp_region_later (by kernel_rfl) (by kernel_rfl) ?_
                    repeat (go_big_quiet_step (fail))
                    refine wpQuiet_nil ?_
                    rintro w4 ⟨⟨_, E4⟩, rfl⟩
                    have hE9 := hid (hEx.out.trans E4)
                    clear E4
                    go_wp2
                    go_roundw
                    case rel => exact ⟨j + 1, by omega, by go_num, hE9, hr2⟩
                    case measure => simp [intOf]; omega
                  | true =>
                    by_cases heq : ca = cj
                    · have hB1 : (ca == cj) = true := by simpa using heq
                      have hB2 : decide (ca = cj) = true := decide_eq_true heq
                      have hno := hid (okC_not hal hjl hed.out (by rw [← hca.out, ← hcj.out]; exact heq.symm))
                      replace heq := hid heq
                      go_wp2
                      refine wp_region_later (by kernel_rfl) (by kernel_rfl) ?_
                      repeat (go_big_quiet_step (fail))
                      refine wpQuiet_nil ?_
                      rintro w4 ⟨⟨_, E4⟩, rfl⟩
                      have hE9 := hid (hE.out.trans (hEx.out.trans E4))
                      clear E4
                      go_wp2
                      go_ret2
                      have hcl0 : clL T n3 = [] := by rw [clL, hno.out]; rfl
                      rw [ColB, ← hn9.out, hcl0, hno.out]
                      exact ⟨none, 0, rfl, World.ownsRow_nil _ _ _ _, hE9.out⟩
                    · have hB1 : (ca == cj) = false := by simpa using heq
                      have hB2 : decide (ca = cj) = false := decide_eq_false heq
                      have hr2 : Hid (∀ k, k < j + 1 → edg T a k = true → ccol T n3 n3 k ≠ ccol T n3 n3 a) := fun k hk he => by
                        by_cases e : k = j
                        · subst e; rw [← hca.out, ← hcj.out]; exact fun e9 => heq e9.symm
                        · exact hr.out k (by omega) he
                      go_wp2
                      refine wp_region_later (by kernel_rfl) (by kernel_rfl) ?_
                      repeat (go_big_quiet_step (fail))
                      refine wpQuiet_nil ?_
                      rintro w4 ⟨⟨_, E4⟩, rfl⟩
                      have hE9 := hid (hEx.out.trans E4)
                      clear E4
                      go_wp2
                      go_roundw
                      case rel => exact ⟨j + 1, by omega, by go_num, hE9, hr2⟩
                      case measure => simp [intOf]; omega
                · have hjI : ¬ (j : Int) < (n3 : Int) := by omega
                  obtain rfl : j = n3 := by omega
                  have hd2 : Hid (∀ x, x < a + 1 → Done T j x) := fun x hx => by
                    by_cases e : x = a
                    · subst e; exact hr.out
                    · exact hd.out x (by omega)
                  go_wp2
                  go_roundw
                  case rel => exact ⟨a + 1, by omega, by go_num, hEx, hd2⟩
                  case measure => simp [intOf]; omega
            · have haI : ¬ (a : Int) < (m : Int) := by omega
              obtain rfl : a = m := by omega
              have hok : okC T a = true := okC_of hd.out
              have hcl0 : clL T a = (List.range a).map (ccol T a a) := by rw [clL, if_pos hok]
              have hlen : (clL T a).length = a := by rw [hcl0]; simp
              have hok := hid hok
              have hcl0 := hid hcl0
              have hlen := hid hlen
              go_wp2
              go_ret2
              rw [ColB, ← hn9.out, hok.out, hlen.out]
              refine ⟨_, _, rfl, ?_, hE.out.trans hEx.out⟩
              rw [hcl0.out, ← cI_enc, ← hC.out]
              exact owns_ext ho.out hEx.out
end Go.Proofs.Ytaigndaabmelhaa


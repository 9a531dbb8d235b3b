/- Contract of SplitMasks (reference); the law FnExactSplitMasks. Condition: at most 2^20 rectangles. -/
import Derived.Test.YtaigndaabmelhaaSpm
namespace Go.Proofs.Ytaigndaabmelhaa
open Go.RowKit

theorem SlT.news4 {w : World} {b off n : Nat} {l : List Q4} (h : SlT enc4 4 w (some ⟨b, off, none⟩) n l) : ∀ j u, (l.flatMap enc4)[j]? = some u → w.cell? ((⟨b, off, none⟩ : Addr).add j) = some u := by
  intro j u hu
  have hj : j < l.length * 4 := by
    have := (List.getElem?_eq_some_iff.1 hu).1
    rwa [flatMap_len enc4_len] at this
  obtain ⟨b', off', x, e1, _, hx, z⟩ := h.get (k := j / 4) (by rw [← h.length]; omega)
  cases e1
  obtain ⟨v, hv⟩ : ∃ v, (enc4 x)[j % 4]? = some v := ⟨_, List.getElem?_eq_getElem (by rw [enc4_len]; omega)⟩
  have h2 := flatMap_at enc4_len hx.out hv
  rw [show j / 4 * 4 + j % 4 = j by omega, hu] at h2
  cases h2
  rw [add_plain, show off + j = off + j / 4 * 4 + j % 4 by omega]
  exact z _ _ hv
theorem one_enc4 (l : List Q4) : ∀ u ∈ l.flatMap enc4, u.oneCell' = true := by
  intro u hu
  rw [List.mem_flatMap] at hu
  obtain ⟨x, _, hx⟩ := hu
  simp only [enc4, List.mem_cons, List.not_mem_nil, or_false] at hx
  rcases hx with rfl | rfl | rfl | rfl <;> rfl
theorem ptL_ne (l : List Q4) (s : Int) : ∀ x ∈ ptL l s, x ≠ [] := by
  intro x hx
  by_cases h : ptC l s = 0
  · rw [(ptC_parts h).1, List.mem_map] at hx
    obtain ⟨g, hg, rfl⟩ := hx
    obtain ⟨k, hk⟩ := (partsG_ok (gL l)).1 g hg
    obtain ⟨r, rs, hr, _⟩ := canon_first hk.1
    rw [hr]; simp
  · rw [ptL, if_neg h] at hx; cases hx
/-- The rectangles of one color. -/
def selF (c : Nat → Int) (b : Bool) (L : List (List Q4)) (k : Nat) : List Q4 := (selL c b L k).flatten
theorem selL_flat {c : Nat → Int} {b : Bool} {L : List (List Q4)} (hL : ∀ x ∈ L, x.length ≤ 3200) : ∀ k, (selF c b L k).length ≤ 3200 * k
  | 0 => by simp [selF, selL]
  | k + 1 => by
    have ih := selL_flat hL k (c := c) (b := b)
    rw [selF] at ih ⊢
    rw [selL]; split
    · rename_i x hx
      have := hL x (List.mem_of_getElem? hx)
      split
      · rw [List.flatten_append, List.length_append, List.flatten_cons, List.flatten_nil, List.append_nil]; omega
      · omega
    · omega
theorem selL_flat_hit {c : Nat → Int} {b : Bool} {L : List (List Q4)} {k : Nat} {x : List Q4} (h : L[k]? = some x) (hc : decide (c k = 0) = b) : selF c b L (k + 1) = selF c b L k ++ x := by rw [selF, selF, selL_hit h hc, List.flatten_append]; simp
theorem selL_flat_miss {c : Nat → Int} {b : Bool} {L : List (List Q4)} {k : Nat} (hc : decide (c k = 0) ≠ b) : selF c b L (k + 1) = selF c b L k := by rw [selF, selF, selL_miss hc]
theorem smG_eqF (l : List Q4) (s : Int) (b : Bool) : smG l s b = selF (ccol (tabL (ptL l s) s) (ptL l s).length (ptL l s).length) b (ptL l s) (ptL l s).length := rfl
/-- Two owned rows of rectangles. -/
structure TwoAt (base : Nat) (A B : List Q4) (qa : Option Addr) (ca : Nat) (qb : Option Addr) (cb : Nat) (w : World) : Prop where
  own0 : w.ownsRow base 50 4 (.slice qa A.length ca) A.length (A.flatMap enc4)
  own1 : w.ownsRow base 50 4 (.slice qb B.length cb) B.length (B.flatMap enc4)
  ne : ∀ a b, qa = some a → qb = some b → a.block ≠ b.block
theorem two_ne {q p q' : Option Addr} {n1 n2 c1 c2 H : Nat} (hne : ∀ a b, q = some a → p = some b → a.block ≠ b.block) (hat : (Value.slice q' n2 c2).ownBlock = (Value.slice q n1 c1).ownBlock ∨ (Value.slice q' n2 c2).ownBlock = some H) (hp : ∀ b, p = some b → b.block < H) : ∀ a b, q' = some a → p = some b → a.block ≠ b.block := by
  intro a b ha hb
  rw [own_of, own_of, ha] at hat
  rcases hat with hat | hat
  · cases hq : q with
    | none => rw [hq] at hat; cases hat
    | some a0 =>
      rw [hq] at hat
      simp only [Option.map_some, Option.some.injEq] at hat
      rw [hat]; exact hne a0 b hq hb
  · simp only [Option.map_some, Option.some.injEq] at hat
    have := hp b hb
    omega
theorem TwoAt.app0 {base : Nat} {A B x : List Q4} {qa qb q' : Option Addr} {ca cb c' : Nat} {w w9 : World} (h : TwoAt base A B qa ca qb cb w) (ho : w9.ownsRow base 50 4 (.slice q' (A.length + x.length) c') (A.length + x.length) (A.flatMap enc4 ++ x.flatMap enc4)) (hg : w.grownBy w9 (Value.slice qa A.length ca).ownBlock)
    (hat : (Value.slice q' (A.length + x.length) c').ownBlock = (Value.slice qa A.length ca).ownBlock ∨ (Value.slice q' (A.length + x.length) c').ownBlock = some w.heap.size) : TwoAt base (A ++ x) B q' c' qb cb w9 :=
  ⟨by rw [List.length_append, List.flatMap_append]; exact ho, keep_other h.own1 hg h.ne, two_ne h.ne hat (fun b hb => (h.own1.lt b.block (by rw [own_of, hb]; rfl)).2)⟩
theorem TwoAt.app1 {base : Nat} {A B x : List Q4} {qa qb q' : Option Addr} {ca cb c' : Nat} {w w9 : World} (h : TwoAt base A B qa ca qb cb w) (ho : w9.ownsRow base 50 4 (.slice q' (B.length + x.length) c') (B.length + x.length) (B.flatMap enc4 ++ x.flatMap enc4)) (hg : w.grownBy w9 (Value.slice qb B.length cb).ownBlock)
    (hat : (Value.slice q' (B.length + x.length) c').ownBlock = (Value.slice qb B.length cb).ownBlock ∨ (Value.slice q' (B.length + x.length) c').ownBlock = some w.heap.size) : TwoAt base A (B ++ x) qa ca q' c' w9 :=
  ⟨keep_other h.own0 hg (fun a b h1 h2 => (h.ne b a h2 h1).symm), by rw [List.length_append, List.flatMap_append]; exact ho, fun a b h1 h2 => (two_ne (p := qa) (fun a b h1 h2 => (h.ne b a h2 h1).symm) hat (fun b hb => (h.own0.lt b.block (by rw [own_of, hb]; rfl)).2) b a h2 h1).symm⟩
set_option maxRecDepth 100000 in
set_option maxHeartbeats 8000000 in
theorem specSplitMasks_any (q : Option Addr) (n c : Nat) (l : List Q4) (s : Int) (w : World) (h : SlT enc4 4 w q n l) (hn : n ≤ 1048576) :
    Calls Try.prog 48 #[.slice q n c, .int .i64 s] w (TwoB (smL l s true) (smL l s false) (cpC l s) w) := by
  have hp := hid (l33Parts_any q n c l s w h hn)
  have hpl := ptL_len l s
  by_cases h0 : ptC l s = 0
  · have hrows := hid (tabL_rows2 (ptL l s) s)
    have hLok := hid (ptL_ok l s)
    have hc01 : ∀ i, i < (ptL l s).length → ccol (tabL (ptL l s) s) (ptL l s).length (ptL l s).length i = 0 ∨ ccol (tabL (ptL l s) s) (ptL l s).length (ptL l s).length i = 1 := fun i hi => by
      have h1 := ccol_ok (T := tabL (ptL l s) s) (n := (ptL l s).length) (ptL l s).length (Nat.le_refl _) i
      have h2 := ccol_has (T := tabL (ptL l s) s) (n := (ptL l s).length) (ptL l s).length i hi
      omega
    have hg0 := hid (smG_eqF l s true)
    have hg1 := hid (smG_eqF l s false)
    obtain ⟨T, hT⟩ : ∃ T, T = tabL (ptL l s) s := ⟨_, rfl⟩
    rw [← hT] at hrows hc01 hg0 hg1
    obtain ⟨F, hF⟩ : ∃ F, F = ccol T (ptL l s).length (ptL l s).length := ⟨_, rfl⟩
    rw [← hF] at hc01 hg0 hg1
    obtain ⟨L, hLL⟩ : ∃ L, L = ptL l s := ⟨_, rfl⟩
    rw [← hLL] at hrows hLok hc01 hg0 hg1 hF hT hpl
    obtain ⟨m, hm⟩ : ∃ m, m = L.length := ⟨_, rfl⟩
    rw [← hm] at hrows hc01 hg0 hg1 hF hpl
    replace hc01 := hid hc01
    cases hb : cpO l s with
    | true =>
      have hcc := hid (cpC_ok h0 hb)
      have hbb : Hid (okC T m = true) := by show _ = _; rw [hT, hm, hLL]; exact hb
      have hR : Hid (smL l s true = canon (gL (smG l s true))) := if_pos hcc.out.1
      have hS : Hid (smL l s false = canon (gL (smG l s false))) := if_pos hcc.out.1
      have hcl : Hid (clL T m = (List.range m).map F) := by show _ = _; rw [clL, if_pos hbb.out, hF]
      go_enter Try.func48, Try.ntmps48
      go_wp2_with fail
      refine hp.out.mono ?_
      rintro e w1 ⟨q1, c1, q2, c2, rfl, r1, r2, E1⟩
      rw [h0]
      rw [← hLL] at r1 r2 ⊢
      rw [← hT] at r2
      rw [← hm] at r1 r2 ⊢
      replace r1 := hid r1
      replace r2 := hid r2
      replace E1 := hid E1
      replace hT := hid hT
      replace hm := hid hm
      replace hF := hid hF
      replace hLL := hid hLL
      replace h0 := hid h0
      replace hb := hid hb
      go_wp2_with fail
      refine (l33Color_any q2 m c2 T _ r2.out (by omega) hrows.out).mono ?_
      rintro e w2 ⟨q5, c5, rfl, o5, E2⟩
      rw [hbb.out]
      have sk := SlT.of_owns (l := clL T m) enc1_len rfl o5
      rw [hcl.out, List.length_map, List.length_range] at sk
      have hll : (clL T m).length = m := by rw [hcl.out, List.length_map, List.length_range]
      rw [hll]
      replace sk := hid sk
      replace hll := hid hll
      have r1 := hid (r1.out.ext E2)
      replace E1 := hid (E1.out.trans E2)
      clear o5 E2 r2
      obtain ⟨i0, hi, hz0, hz1, hz2⟩ := info_parts info_Rect
      have hne := hid (ptL_ne l s)
      rw [← hLL.out] at hne
      go_upto_region 9 with (fail)
      generalize hW : (w2.alloc _).alloc _ = W3
      obtain ⟨E3, z3, ba, bb⟩ := boxes2 hW
      clear hW
      have htw : Hid (TwoAt w2.heap.size (selF F true L 0) (selF F false L 0) (some ⟨w2.heap.size, 0, none⟩) 0 (some ⟨w2.heap.size + 1, 0, none⟩) 0 W3) :=
        ⟨owns_blk (n := 0) (size := 4) (cs := []) ba (Nat.le_refl _) rfl (by simp [maxLen]), owns_blk (n := 0) (size := 4) (cs := []) bb (by omega) rfl (by simp [maxLen]), fun a b h1 h2 => by cases h1; cases h2; simp⟩
      have hE3 := hid E3
      clear ba bb z3 E3
      go_wp2_with fail
      go_loopw [12, 13, 14] (fun va vb iv wr => ∃ (k : Nat) (qa : Option Addr) (ca : Nat) (qb : Option Addr) (cb : Nat), va = .slice qa (selF F true L k).length ca ∧ vb = .slice qb (selF F false L k).length cb ∧ iv = .int .i64 k ∧ k ≤ m ∧ Hid (TwoAt w2.heap.size (selF F true L k) (selF F false L k) qa ca qb cb wr) ∧ Hid (Ext w2 wr)) (fun _ _ i _ => m - (intOf i).toNat)
      case atStart => exact ⟨0, _, _, _, _, rfl, rfl, by go_num, by omega, htw, hE3⟩
      case round =>
        clear htw hE3
        obtain ⟨k, qa, ca, qb, cb, rfl, rfl, rfl, hk, htw, hE⟩ := hrel
        by_cases hlt : k < m
        · have hltI : (k : Int) < (m : Int) := by omega
          obtain ⟨b, off, px, nx, cx, x, e9, hbw, hx, z0, t1⟩ := (r1.out.ext hE.out).get hlt
          subst e9
          obtain ⟨b2, off2, y, e9, hb2w, hy, zk⟩ := (sk.out.ext hE.out).int hlt
          subst e9
          have hyF : Hid (y = F k) := by have := hy.out; rw [List.getElem?_map, List.getElem?_range hlt] at this; exact (Option.some.inj this).symm
          have hnx := t1.length
          subst hnx
          have hxn := List.length_pos_iff.2 (hne.out x (List.mem_of_getElem? hx.out))
          obtain ⟨b1, off1, x0, e9, _, _⟩ := t1.get hxn
          subst e9
          have hwl := hE.out.le
          by_cases hy0 : y = 0
          · subst hy0
            have hsel := hid (selL_flat_hit (c := F) (b := true) hx.out (by rw [← hyF.out]; rfl))
            have hmis := hid (selL_flat_miss (c := F) (b := false) (L := L) (k := k) (by rw [← hyF.out]; decide))
            have hAl := selL_flat (c := F) (b := true) (fun x hx => (hLok.out x hx).1) k
            have hfl : Hid ((x.flatMap enc4).length = x.length * 4) := flatMap_len enc4_len _
            have hnw := hid t1.news4
            have hxl := (hLok.out x (List.mem_of_getElem? hx.out)).1
            replace t1 := hid t1
            go_wp2_with (at_builtin; refine wpList_append_own_at _ rfl _ _ 27 rfl w2.heap.size 50 i0 (.agg #[.int .i64 0, .int .i64 0, .int .i64 0, .int .i64 0]) 4 32 Try.underlying27 hi hz0 hz1 hz2 rfl (by omega) _ _ _ rfl htw.out.own0 ⟨b1, off1, none⟩ x.length cx (x.flatMap enc4) rfl hfl.out hnw.out (one_enc4 x) (by unfold maxLen; omega) (by omega) hwl ?_; intro v' w9 ho' hg' _ hb'; obtain ⟨q9, c9, rfl⟩ := owns_forms ho'; have hT9 := hid (htw.out.app0 ho' hg' hb'); have hE9 := hid (hE.out.grown hg' (fun g hg => (htw.out.own0.lt g hg).1)); clear ho' hg' hb')
            go_roundw
            case rel => exact ⟨k + 1, q9, c9, qb, cb, by rw [hsel.out, List.length_append], by rw [hmis.out], by go_num, by omega, by rw [hsel.out, hmis.out]; exact hT9, hE9⟩
            case measure => simp [intOf]; omega
          · have hyb : (y == 0) = false := by simpa using hy0
            have hyd : decide (y = 0) = false := decide_eq_false hy0
            have hsel := hid (selL_flat_hit (c := F) (b := false) hx.out (by rw [← hyF.out]; exact decide_eq_false hy0))
            have hmis := hid (selL_flat_miss (c := F) (b := true) (L := L) (k := k) (by rw [← hyF.out]; rw [decide_eq_false hy0]; decide))
            have hAl := selL_flat (c := F) (b := false) (fun x hx => (hLok.out x hx).1) k
            have hfl : Hid ((x.flatMap enc4).length = x.length * 4) := flatMap_len enc4_len _
            have hnw := hid t1.news4
            have hxl := (hLok.out x (List.mem_of_getElem? hx.out)).1
            replace t1 := hid t1
            go_wp2_with (at_builtin; refine wpList_append_own_at _ rfl _ _ 27 rfl w2.heap.size 50 i0 (.agg #[.int .i64 0, .int .i64 0, .int .i64 0, .int .i64 0]) 4 32 Try.underlying27 hi hz0 hz1 hz2 rfl (by omega) _ _ _ rfl htw.out.own1 ⟨b1, off1, none⟩ x.length cx (x.flatMap enc4) rfl hfl.out hnw.out (one_enc4 x) (by unfold maxLen; omega) (by omega) hwl ?_; intro v' w9 ho' hg' _ hb'; obtain ⟨q9, c9, rfl⟩ := owns_forms ho'; have hT9 := hid (htw.out.app1 ho' hg' hb'); have hE9 := hid (hE.out.grown hg' (fun g hg => (htw.out.own1.lt g hg).1)); clear ho' hg' hb')
            go_roundw
            case rel => exact ⟨k + 1, qa, ca, q9, c9, by rw [hmis.out], by rw [hsel.out, List.length_append], by go_num, by omega, by rw [hsel.out, hmis.out]; exact hT9, hE9⟩
            case measure => simp [intOf]; omega
        · have hltI : ¬ (k : Int) < (m : Int) := by omega
          obtain rfl : k = m := by omega
          rw [← hg0.out, ← hg1.out] at htw
          rw [← hg0.out, ← hg1.out]
          have hva : ∀ b, ∀ r ∈ (selF F b L k), vR r = true := fun b r hr => by
            rw [selF, List.mem_flatten] at hr
            obtain ⟨x, hx, hr⟩ := hr
            exact (hLok.out x (selL_mem k hx)).2 r hr
          have hvA := hid (hva true)
          have hvB := hid (hva false)
          have hlA := selL_flat (c := F) (b := true) (fun x hx => (hLok.out x hx).1) k
          have hlB := selL_flat (c := F) (b := false) (fun x hx => (hLok.out x hx).1) k
          rw [← hg0.out] at hvA hlA
          rw [← hg1.out] at hvB hlB
          have sA := hid (SlT.of_owns enc4_len rfl htw.out.own0)
          have sB := hid (SlT.of_owns enc4_len rfl htw.out.own1)
          have hEw := hid (E1.out.trans hE.out)
          clear hva htw hE
          go_wp2_with fail
          refine (l03Bits_any qa _ ca (smG l s true) _ sA.out (by omega) hvA.out).mono ?_
          rintro e w5 ⟨B5, rfl, o5, E5⟩
          have b5 := Bits.of o5
          replace sB := hid (sB.out.ext E5)
          replace hEw := hid (hEw.out.trans E5)
          clear o5 E5
          go_wp2_with fail
          refine (l03Canon_any B5 6400 _ _ b5).mono ?_
          rw [← hR.out]
          rintro e w6 ⟨q6, c6, rfl, o6, E6⟩
          have o6 := hid (owns_lowP o6 hEw.out.le)
          replace sB := hid (sB.out.ext E6)
          replace hEw := hid (hEw.out.trans E6)
          clear E6 b5
          go_wp2_with fail
          refine (l03Bits_any qb _ cb (smG l s false) _ sB.out (by omega) hvB.out).mono ?_
          rintro e w7 ⟨B7, rfl, o7, E7⟩
          have b7 := Bits.of o7
          replace o6 := hid (owns_ext o6.out E7)
          replace hEw := hid (hEw.out.trans E7)
          clear o7 E7
          go_wp2_with fail
          refine (l03Canon_any B7 6400 _ _ b7).mono ?_
          rw [← hS.out]
          rintro e w8 ⟨q8, c8, rfl, o8, E8⟩
          have hd := hid (new_ne o6.out o8)
          replace o6 := hid (owns_ext o6.out E8)
          have o8 := hid (owns_lowP o8 hEw.out.le)
          replace hEw := hid (hEw.out.trans E8)
          clear E8 b7
          go_wp2_with fail
          refine bodyPost_ret (results_tmp3 rfl _ _ _) rfl ?_
          rw [TwoB, hcc.out.1]
          exact ⟨q6, c6, q8, c8, rfl, o6.out, o8.out, hd.out, hEw.out⟩
    | false =>
      have hcc := hid (cpC_bad h0 hb)
      have hbb : Hid (okC T m = false) := by show _ = _; rw [hT, hm, hLL]; exact hb
      have hR : Hid (smL l s true = []) := if_neg (by rw [hcc.out.1]; omega)
      have hS : Hid (smL l s false = []) := if_neg (by rw [hcc.out.1]; omega)
      go_enter Try.func48, Try.ntmps48
      go_wp2_with fail
      refine hp.out.mono ?_
      rintro e w1 ⟨q1, c1, q2, c2, rfl, r1, r2, E1⟩
      rw [h0]
      rw [← hLL] at r1 r2 ⊢
      rw [← hT] at r2
      rw [← hm] at r1 r2 ⊢
      replace r1 := hid r1
      replace r2 := hid r2
      replace E1 := hid E1
      replace hT := hid hT
      replace hm := hid hm
      replace hF := hid hF
      replace hLL := hid hLL
      replace h0 := hid h0
      replace hb := hid hb
      go_wp2_with fail
      refine (l33Color_any q2 m c2 T _ r2.out (by omega) hrows.out).mono ?_
      rintro e w2 ⟨q5, c5, rfl, o5, E2⟩
      rw [hbb.out]
      replace o5 := hid o5
      replace E1 := hid (E1.out.trans E2)
      clear E2
      go_wp2_with fail
      refine bodyPost_ret (results_tmp3 rfl _ _ _) rfl ?_
      rw [hR.out, hS.out, hcc.out.1]
      exact ⟨none, 0, none, 0, rfl, World.ownsRow_nil _ _ _ _, World.ownsRow_nil _ _ _ _, fun x y hx => by (cases hx), E1.out⟩
  · have hcc := hid (cpC_no h0)
    have hcc0 : ¬ cpC l s = 0 := by rw [hcc.out.1]; exact h0
    have hB3 : (ptC l s != 0) = true := by simpa using h0
    have hR : Hid (smL l s true = []) := if_neg hcc0
    have hS : Hid (smL l s false = []) := if_neg hcc0
    obtain ⟨C, hC⟩ : ∃ C, C = ptC l s := ⟨_, rfl⟩
    rw [← hC] at hB3 h0
    replace hcc0 := hid hcc0
    go_enter Try.func48, Try.ntmps48
    go_wp2_with fail
    refine hp.out.mono ?_
    rintro e w1 ⟨q1, c1, q2, c2, rfl, r1, r2, E1⟩
    rw [← hC]
    replace hC := hid hC
    replace r1 := hid r1
    replace r2 := hid r2
    go_wp2_with fail
    refine bodyPost_ret (results_tmp3 rfl _ _ _) rfl ?_
    rw [hR.out, hS.out, hcc.out.1, ← hC.out]
    exact ⟨none, 0, none, 0, rfl, World.ownsRow_nil _ _ _ _, World.ownsRow_nil _ _ _ _, fun x y hx => by (cases hx), E1⟩
set_option maxRecDepth 100000 in
set_option maxHeartbeats 4000000 in
theorem lawSplitMasks (q0 : Option Addr) (n0 c0 : Nat) (l0 : List Q4) (a1 : Int) (R0 : List Q4) (N0 : Nat) (R1 : List Q4) (N1 : Nat) (s2 : Int) (w : World) (h0 : SlT enc4 4 w q0 n0 l0) (m0 : n0 ≤ maxLen) (hR0 : R0.length = N0) (hN0 : N0 ≤ 1048576) (hR1 : R1.length = N1) (hN1 : N1 ≤ 1048576)
    (hS : Hid (n0 ≤ 1048576 → ∀ (W : World) (q0 : Option Addr) (c0 : Nat), SlT enc4 4 W q0 n0 l0 → Calls Try.prog 48 #[.slice q0 n0 c0, .int .i64 a1] W fun e w' => ∃ p0 d0 p1 d1, e = .returned (.tuple #[.slice p0 N0 d0, .slice p1 N1 d1, .int .i64 s2]) ∧ w'.ownsRow W.heap.size 50 4 (.slice p0 N0 d0) N0 (R0.flatMap enc4) ∧ w'.ownsRow W.heap.size 50 4 (.slice p1 N1 d1) N1 (R1.flatMap enc4) ∧ Ext W w'))
    (hI : Hid (n0 ≤ 1048576 → ∀ (W : World) (q0 : Option Addr) (c0 : Nat), SlT enc4 4 W q0 n0 l0 → Calls Try.prog 35 #[.slice q0 n0 c0, .int .i64 a1] W fun e w' => ∃ p0 d0 p1 d1, e = .returned (.tuple #[.slice p0 N0 d0, .slice p1 N1 d1, .int .i64 s2]) ∧ w'.ownsRow W.heap.size 50 4 (.slice p0 N0 d0) N0 (R0.flatMap enc4) ∧ w'.ownsRow W.heap.size 50 4 (.slice p1 N1 d1) N1 (R1.flatMap enc4) ∧ (∀ x y, p0 = some x → p1 = some y → x.block ≠ y.block) ∧ Ext W w')) :
    Calls Try.prog 11 #[.slice q0 n0 c0, .int .i64 a1] w fun e w' => e = .returned (.bool true) ∧ Ext w w' := by
  have e0 := hid h0.length
  unfold maxLen at m0
  replace hR0 := hid hR0
  replace hR1 := hid hR1
  by_cases x0 : 1048576 < (n0 : Int)
  · go_enter Try.func11, Try.ntmps11
    go_wp2_with fail
    refine (szRectS_any q0 n0 c0 _ _ (by omega) (by omega) (by omega)).mono ?_
    rintro e w' ⟨rfl, rfl⟩
    rw [if_pos (by omega)]
    go_wp2_with fail
    go_ret
    exact ⟨rfl, Ext.refl _⟩
  go_enter Try.func11, Try.ntmps11
  go_wp2_with fail
  refine (szRectS_any q0 n0 c0 _ _ (by omega) (by omega) (by omega)).mono ?_
  rintro e w' ⟨rfl, rfl⟩
  rw [if_neg (by omega)]
  have y0 := x0
  replace x0 : n0 ≤ 1048576 := by omega
  clear y0
  have F := Ext.refl w
  go_wp2_with fail
  refine (toRectS_any _ n0 _ l0 _ (h0.ext F) (by omega)).mono ?_
  rintro e w1 ⟨t0, rfl, ot0, E⟩
  replace F := F.trans E
  clear E
  go_wp2_with fail
  refine (hS.out x0 _ _ _ (SlT.of_owns enc4_len e0.out ot0)).mono ?_
  rintro e w2 ⟨u0, v0, u1, v1, rfl, os0, os1, E⟩
  replace F := F.trans E
  clear E ot0
  have ss0 := SlT.of_owns (l := R0) enc4_len hR0.out os0
  clear os0
  have ss1 := SlT.of_owns (l := R1) enc4_len hR1.out os1
  clear os1
  have F0 := F
  have S := Ext.refl w2
  go_wp2_with fail
  refine (toRectS_any _ n0 _ l0 _ (h0.ext F) (by omega)).mono ?_
  rintro e w3 ⟨x0q, rfl, ox0, E⟩
  replace F := F.trans E
  replace S := S.trans E
  have zx0 := E.le
  clear E
  go_wp2_with fail
  refine (hI.out x0 _ _ _ (SlT.of_owns enc4_len e0.out ox0)).mono ?_
  rintro e w4 ⟨g0, k0, g1, k1, rfl, og0, og1, hdj, E⟩
  have zI := E.le
  have zo0 := owns_ge ox0
  replace F := F.trans E
  replace S := S.trans E
  replace ox0 := owns_ext ox0 E
  clear E
  have zg0 := owns_ge og0
  have zg1 := owns_ge og1
  go_wp2_with fail
  refine (eqRectS_same _ _ _ _ _ R0 _ (SlT.of_owns (l := R0) enc4_len hR0.out og0) (ss0.ext S) (by omega)).mono ?_
  rintro e w5 ⟨rfl, E⟩
  replace F := F.trans E
  replace S := S.trans E
  replace ox0 := owns_ext ox0 E
  replace og0 := owns_ext og0 E
  replace og1 := owns_ext og1 E
  clear E
  go_wp2_with fail
  refine (eqRectS_same _ _ _ _ _ R1 _ (SlT.of_owns (l := R1) enc4_len hR1.out og1) (ss1.ext S) (by omega)).mono ?_
  rintro e w6 ⟨rfl, E⟩
  replace F := F.trans E
  replace S := S.trans E
  replace ox0 := owns_ext ox0 E
  replace og0 := owns_ext og0 E
  replace og1 := owns_ext og1 E
  clear E
  go_wp2_with fail
  refine (toRectS_any _ n0 _ l0 _ (h0.ext F) (by omega)).mono ?_
  rintro e w7 ⟨y0q, rfl, oy0, E⟩
  replace F := F.trans E
  replace S := S.trans E
  replace ox0 := owns_ext ox0 E
  replace og0 := owns_ext og0 E
  replace og1 := owns_ext og1 E
  clear E
  go_wp2_with fail
  refine (eqRectS_same _ _ _ _ _ l0 _ (SlT.of_owns enc4_len e0.out ox0) (SlT.of_owns enc4_len e0.out oy0) (by omega)).mono ?_
  rintro e w8 ⟨rfl, E⟩
  replace F := F.trans E
  replace S := S.trans E
  replace ox0 := owns_ext ox0 E
  replace og0 := owns_ext og0 E
  replace og1 := owns_ext og1 E
  clear E oy0
  go_wp2_with fail
  refine (markRectS_any x0q n0 n0 _ _ _ _ _ ox0 (by omega) (by omega) (by omega)).mono ?_
  rintro e w9 ⟨rfl, ox0m, M⟩
  clear ox0 ox0m
  have S2 := S.then M (fun k hk => by have := (zo0 k hk).1; omega)
  replace F := F0.trans S2
  replace og0 := M.grownBy (fun g hg hh => by have h5 := (og0.lt g hg).1; have h6 := (zo0 g hh).2; omega) og0
  replace og1 := M.grownBy (fun g hg hh => by have h5 := (og1.lt g hg).1; have h6 := (zo0 g hh).2; omega) og1
  replace S := S2
  clear S2 M
  have hkp : ¬ ((1 : Int) + n0 * 4 < 0) := by omega
  go_wp2_with fail
  refine (eqRectS_same _ _ _ _ _ R0 _ (SlT.of_owns (l := R0) enc4_len hR0.out og0) (ss0.ext S) (by omega)).mono ?_
  rintro e w10 ⟨rfl, E⟩
  replace F := F.trans E
  replace S := S.trans E
  replace og0 := owns_ext og0 E
  replace og1 := owns_ext og1 E
  clear E
  go_wp2_with fail
  refine (eqRectS_same _ _ _ _ _ R1 _ (SlT.of_owns (l := R1) enc4_len hR1.out og1) (ss1.ext S) (by omega)).mono ?_
  rintro e w11 ⟨rfl, E⟩
  replace F := F.trans E
  replace S := S.trans E
  replace og0 := owns_ext og0 E
  replace og1 := owns_ext og1 E
  clear E
  go_wp2_with fail
  refine (markRectS_any g0 N0 k0 _ _ _ _ _ og0 (by omega) (by omega) (by omega)).mono ?_
  rintro e w12 ⟨rfl, om0, M⟩
  have S2 := S.then M (fun k hk => by have := (zg0 k hk).1; omega)
  replace F := F0.trans S2
  replace og1 := M.grownBy (fun g hg hh => by rw [own_blkOf] at hg; obtain ⟨b1, hb1, rfl⟩ := mem_blkOf.1 hh; cases hq : g1 with | none => rw [hq] at hg; cases hg | some a => rw [hq] at hg; exact hdj b1 a hb1 hq (Option.some.inj hg).symm) og1
  replace S := S2
  clear S2 M
  go_wp2_with fail
  refine (markRectS_any g1 N1 k1 _ _ _ _ _ og1 (by omega) (by omega) (by omega)).mono ?_
  rintro e w13 ⟨rfl, om1, M⟩
  have S2 := S.then M (fun k hk => by have := (zg1 k hk).1; omega)
  replace F := F0.trans S2
  replace om0 := M.grownBy (fun g hg hh => by rw [own_blkOf] at hg; obtain ⟨b1, hb1, rfl⟩ := mem_blkOf.1 hh; cases hq : g0 with | none => rw [hq] at hg; cases hg | some a => rw [hq] at hg; exact hdj a b1 hq hb1 (Option.some.inj hg)) om0
  replace S := S2
  clear S2 M
  have hq0 : ¬ ((1 : Int) + (N0 : Int) * 4 < 0) := by omega
  have hq1 : ¬ ((1 : Int) + (N0 : Int) * 4 + (N1 : Int) * 4 < 0) := by omega
  go_wp2_with fail
  refine (heldRectS_any g0 N0 k0 _ _ _ _ om0 (by omega) (by omega) (by omega)).mono ?_
  rintro e w' ⟨rfl, rfl⟩
  go_wp2_with fail
  refine (heldRectS_any g1 N1 k1 _ _ _ _ om1 (by omega) (by omega) (by omega)).mono ?_
  rintro e w' ⟨rfl, rfl⟩
  go_wp2_with fail
  refine (toRectS_any _ n0 _ l0 _ (h0.ext F) (by omega)).mono ?_
  rintro e w14 ⟨r0, rfl, or0, E⟩
  replace F := F.trans E
  replace S := S.trans E
  replace om0 := owns_ext om0 E
  replace om1 := owns_ext om1 E
  clear E
  go_wp2_with fail
  refine (hI.out x0 _ _ _ (SlT.of_owns enc4_len e0.out or0)).mono ?_
  rintro e w15 ⟨b0, j0, b1, j1, rfl, oh0, oh1, _, E⟩
  replace F := F.trans E
  replace S := S.trans E
  replace om0 := owns_ext om0 E
  replace om1 := owns_ext om1 E
  clear E or0
  go_wp2_with fail
  refine (eqRectS_same _ _ _ _ _ R0 _ (SlT.of_owns (l := R0) enc4_len hR0.out oh0) (ss0.ext S) (by omega)).mono ?_
  rintro e w16 ⟨rfl, E⟩
  replace F := F.trans E
  replace S := S.trans E
  replace om0 := owns_ext om0 E
  replace om1 := owns_ext om1 E
  replace oh0 := owns_ext oh0 E
  replace oh1 := owns_ext oh1 E
  clear E
  go_wp2_with fail
  refine (eqRectS_same _ _ _ _ _ R1 _ (SlT.of_owns (l := R1) enc4_len hR1.out oh1) (ss1.ext S) (by omega)).mono ?_
  rintro e w17 ⟨rfl, E⟩
  replace F := F.trans E
  replace S := S.trans E
  replace om0 := owns_ext om0 E
  replace om1 := owns_ext om1 E
  replace oh0 := owns_ext oh0 E
  replace oh1 := owns_ext oh1 E
  clear E
  go_wp2_with fail
  refine (heldRectS_any g0 N0 k0 _ _ _ _ om0 (by omega) (by omega) (by omega)).mono ?_
  rintro e w' ⟨rfl, rfl⟩
  go_wp2_with fail
  refine (heldRectS_any g1 N1 k1 _ _ _ _ om1 (by omega) (by omega) (by omega)).mono ?_
  rintro e w' ⟨rfl, rfl⟩
  go_wp2_with fail
  go_ret
  exact ⟨rfl, F⟩
theorem exactSplitMasks_any (q : Option Addr) (n c : Nat) (l : List Q4) (s : Int) (w : World) (h : SlT enc4 4 w q n l) (hm : n ≤ maxLen) :
    Calls Try.prog 11 #[.slice q n c, .int .i64 s] w fun e w' => e = .returned (.bool true) ∧ Ext w w' :=
  lawSplitMasks q n c l s (smL l s true) (smL l s true).length (smL l s false) (smL l s false).length (cpC l s) w h hm rfl (by have := smL_len l s true; omega) rfl (by have := smL_len l s false; omega) (hid fun hn W q c hW => (specSplitMasks_any q n c l s W hW hn).mono fun _ _ ⟨p0, d0, p1, d1, h1, h2, h3, _, h5⟩ => ⟨p0, d0, p1, d1, h1, h2, h3, h5⟩) (hid fun hn W q c hW => (SplitMasks_any q n c l s W hW hn).mono fun _ _ ⟨p0, d0, p1, d1, h1, h2, h3, h4, h5⟩ => ⟨p0, d0, p1, d1, h1, h2, h3, h4, h5⟩)
end Go.Proofs.Ytaigndaabmelhaa

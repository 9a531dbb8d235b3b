/- Contract of distances (program): the search from a unit cell that is not blocked. Condition: the unit cell is on the chip. -/
import Derived.Test.YthdilndfcdpeiaaBfs
namespace Go.Proofs.Ythdilndfcdpeiaa
open Go.RowKit Go.Maps

abbrev MapPI (w : World) (M n : Nat) (f : Q2 → Option Int) : Prop := MapI Try.prog 26 2 kP okP w M n f
theorem zeroI (w : World) : (zeroValue 2).run Try.prog w = .ok (.int .i64 0) w := Try.zeroValue2 w
theorem MapPI.run_put {w : World} {M n : Nat} {f : Q2 → Option Int} (h : MapPI w M n f) (hn : n < maxLen) {p : Q2} (hp : okP p) {c : Int} (hc : (Lit.int .i64 c).wf = true) :
    ∃ w', (Instr.mapUpdate 72 (.map (some M)) (.agg #[.int .i64 p.a, .int .i64 p.b]) (.int .i64 c)).run Try.prog w = .ok () w' ∧ MapPI w' M (n + 1) (upd f p c) ∧ w.grownBy w' (some M) := by
  obtain ⟨D, h1, h2⟩ := h
  obtain ⟨w', hr, h3, hg⟩ := h1.update lawP Try.underlying72 hn (keyP hp) (plainElem_int Try.underlying2 hc)
  refine ⟨w', hr, ⟨_, h3, fun y hy => ?_⟩, hg⟩
  by_cases hyk : y = p
  · subst hyk
    rw [has_put_same h1.isMap (kP_key y hy), atKey_put_same h1.isMap (kP_key y hy), upd_same]
    exact ⟨rfl, rfl⟩
  · have hne : kP y ≠ kP p := fun e => hyk (kP_inj y p hy hp e)
    rw [has_put_other hne, atKey_put_other hne, upd_other _ _ hyk]
    exact h2 y hy
theorem MapPI.run_getok {w : World} {M n : Nat} {f : Q2 → Option Int} (h : MapPI w M n f) {p : Q2} (hp : okP p) :
    (Instr.lookup 72 (.map (some M)) (.agg #[.int .i64 p.a, .int .i64 p.b]) true).run Try.prog w = .ok (.tuple #[.int .i64 ((f p).getD 0), .bool (f p).isSome]) w := by
  obtain ⟨D, h1, h2⟩ := h
  obtain ⟨v, ps, hr, hv⟩ := h1.look_ok lawP Try.underlying72 (zeroI _) (plainElem_int Try.underlying2 rfl) (keyP hp)
  obtain ⟨c, rfl, hc, _⟩ := plainElem_int_inv Try.underlying2 hv
  rw [(h2 p hp).2] at hc
  simp only [Prod.mk.injEq] at hc
  have hc1 := hc.1
  simp at hc1
  rw [(h2 p hp).1, ← hc1] at hr
  exact hr
theorem MapPI.run_get1 {w : World} {M n : Nat} {f : Q2 → Option Int} (h : MapPI w M n f) {p : Q2} (hp : okP p) :
    (Instr.lookup 72 (.map (some M)) (.agg #[.int .i64 p.a, .int .i64 p.b]) false).run Try.prog w = .ok (.int .i64 ((f p).getD 0)) w :=
  MapI.run_get h lawP Try.underlying72 Try.underlying2 (zeroI _) hp (keyP hp)
theorem mapF0 (p : Q2) : upd (fun _ => none) p 0 = mapF (bfs0 p).1 := by
  funext x
  rw [upd, mapF, bfs0]
  by_cases e : x = p <;> simp [e]
theorem owns_cells {w : World} {B base : Nat} {cs : List Value} {e : TypeId} {n size : Nat} (h : w.heap[B]? = some (.cells cs.toArray e (0, 0))) (hb : base ≤ B) (hl : cs.length = n * size) (hn : n ≤ maxLen) : w.ownsRow base e size (.slice (some ⟨B, 0, none⟩) n n) n cs :=
  ⟨hl, .inr ⟨B, n, cs.toArray, rfl, hb, h, Nat.le_refl _, hn, by simp [hl], by simp [← hl]⟩⟩
/-- What the search leaves. -/
def DistB (g : Grid) (p : Q2) (w : World) (e : Ending) (w' : World) : Prop := ∃ M, e = .returned (.map (some M)) ∧ MapPI w' M 6400 (mapF (bfs g p).1) ∧ Ext w w'
set_option maxRecDepth 100000 in
set_option maxHeartbeats 8000000 in
theorem distances_any (B : Nat) (g : Grid) (p : Q2) (w : World) (hb : Blk w B (gcells g) 99) (hp : onC p.a p.b = true) :
    Calls Try.prog 58 #[.pointer (some ⟨B, 0, none⟩), .agg #[.int .i64 p.a, .int .i64 p.b]] w (DistB g p w) := by
  obtain ⟨i0, hi, hz0, hz1, hz2⟩ := info_parts info_Pt
  have hbl := hb.lt
  replace hb := hid hb
  have hpp := hid hp
  have hok := hid (okP_on hp)
  clear hp
  go_enter Try.func58, Try.ntmps58
  go_wp2_with fail
  generalize hW : w.alloc _ = W0
  obtain ⟨E0, z0, b0⟩ := boxes1 hW
  clear hW
  have g := (show Blk W0 w.heap.size [_, _] _ from b0).cells
  have g0 := g 0
  have g1 := g 1
  simp only [List.getElem?_cons_zero, List.getElem?_cons_succ] at g0 g1
  have hBl0 : w.heap.size < W0.heap.size := by omega
  clear g b0
  have hmm := @run_makeMap Try.prog
  have made : ∀ W : World, MapPI (W.alloc (.map #[] 0)) W.heap.size 0 (fun _ => none) := fun W => MapI.made W
  have wf0 : (Lit.int .i64 0).wf = true := rfl
  obtain ⟨wa, ra, ma, ga⟩ := MapPI.run_put (made (W0.alloc (.cells #[.int .i64 p.a, .int .i64 p.b] 26))).drew (by simp [maxLen]) hok.out wf0
  obtain ⟨wb, rb, mb, gb⟩ := MapPI.run_put ((made W0).ext ((Ext.refl _).alloc (.cells #[.int .i64 p.a, .int .i64 p.b] 26))).drew (by simp [maxLen]) hok.out wf0
  obtain ⟨wc, rc, mc, gc⟩ := MapPI.run_put (made W0).drew (by simp [maxLen]) hok.out wf0
  rw [mapF0] at ma mb mc
  clear made
  simp only [World.size_alloc] at ra
  have Ea := hid (((Ext.refl W0).alloc (.cells #[.int .i64 p.a, .int .i64 p.b] 26)).alloc (.map #[] 0)).drew
  have Eb := hid (((Ext.refl W0).alloc (.map #[] 0)).alloc (.cells #[.int .i64 p.a, .int .i64 p.b] 26)).drew
  have Ec := hid ((Ext.refl W0).alloc (.map #[] 0)).drew
  have a0 := ((grown_cell ga (Nat.lt_of_lt_of_le hBl0 Ea.out.le) (by simp; omega) 0).trans (Ea.out.cells _ 0 hBl0)).trans g0
  have a1 := ((grown_cell ga (Nat.lt_of_lt_of_le hBl0 Ea.out.le) (by simp; omega) 1).trans (Ea.out.cells _ 1 hBl0)).trans g1
  have b0 := ((grown_cell gb (Nat.lt_of_lt_of_le hBl0 Eb.out.le) (by simp; omega) 0).trans (Eb.out.cells _ 0 hBl0)).trans g0
  have b1 := ((grown_cell gb (Nat.lt_of_lt_of_le hBl0 Eb.out.le) (by simp; omega) 1).trans (Eb.out.cells _ 1 hBl0)).trans g1
  have c0 := ((grown_cell gc (Nat.lt_of_lt_of_le hBl0 Ec.out.le) (by simp; omega) 0).trans (Ec.out.cells _ 0 hBl0)).trans g0
  have c1 := ((grown_cell gc (Nat.lt_of_lt_of_le hBl0 Ec.out.le) (by simp; omega) 1).trans (Ec.out.cells _ 1 hBl0)).trans g1
  have la := hid (Ea.out.grown ga (fun k hk => by cases hk; simp))
  have lb := hid (Eb.out.grown gb (fun k hk => by cases hk; simp))
  have lc := hid (Ec.out.grown gc (fun k hk => by cases hk; simp))
  have oa := hid (owns_cells (w := wa) (B := W0.heap.size) (base := w.heap.size) (cs := [.int .i64 p.a, .int .i64 p.b]) (e := 26) (n := 1) (size := 2) ((ga.block W0.heap.size (by simp; omega) (by simp)).trans (heap_old (.map #[] 0) (heap_new W0 _))) (by omega) rfl (by simp [maxLen]))
  have ob := hid (owns_cells (w := wb) (B := W0.heap.size + 1) (base := w.heap.size) (cs := [.int .i64 p.a, .int .i64 p.b]) (e := 26) (n := 1) (size := 2) ((gb.block (W0.heap.size + 1) (by simp) (by simp)).trans (by have := heap_new (W0.alloc (.map #[] 0)) (.cells #[.int .i64 p.a, .int .i64 p.b] 26); rw [World.size_alloc] at this; exact this)) (by omega) rfl (by simp [maxLen]))
  have hcl := hid mc.lt
  have oc := hid (owns_cells (w := wc.alloc (.cells #[.int .i64 p.a, .int .i64 p.b] 26)) (B := wc.heap.size) (base := w.heap.size) (cs := [.int .i64 p.a, .int .i64 p.b]) (e := 26) (n := 1) (size := 2) (heap_new wc _) (by have := mc.lt; omega) rfl (by simp [maxLen]))
  rw [World.size_alloc] at ma
  replace ma := hid ma
  replace mb := hid mb
  replace mc := hid mc
  replace ga := hid ga
  replace gb := hid gb
  replace gc := hid gc
  have hW0z : w.heap.size ≤ W0.heap.size := by omega
  replace z0 := hid z0
  refine wp_cut (fun a0 a' w' => ∃ M S : Nat, (w.heap.size ≤ M ∧ S ≠ M ∧ MapPI w' M 1 (mapF (bfs0 p).1) ∧ w'.ownsRow w.heap.size 26 2 (.slice (some ⟨S, 0, none⟩) 1 1) 1 [.int .i64 p.a, .int .i64 p.b] ∧ Ext W0 w') ∧
    a' = ((((((a0.put (some 12) (.map (some M))).put (some 13) (.agg #[.int .i64 p.a, .int .i64 p.b])).put (some 14) (.map (some M))).put (some 15) (.agg #[.int .i64 p.a, .int .i64 p.b])).put (some 16) (.slice (some ⟨S, 0, none⟩) 1 1)).put (some 5) (.map (some M))).put (some 6) (.slice (some ⟨S, 0, none⟩) 1 1)) ?_ ?_
  · go_region
    all_goals first
      | exact ⟨W0.heap.size + 1, W0.heap.size, ⟨by omega, by omega, ma.out, oa.out, la.out⟩, rfl⟩
      | exact ⟨W0.heap.size, W0.heap.size + 1, ⟨by omega, by omega, mb.out, ob.out, lb.out⟩, rfl⟩
      | exact ⟨W0.heap.size, wc.heap.size, ⟨by omega, by have := hcl.out; omega, mc.out.ext ((Ext.refl _).alloc _), oc.out, lc.out.alloc _⟩, rfl⟩
  rintro a' w1 ⟨M, S, ⟨hM0, hSM, hm, ho, hE1⟩, rfl⟩
  simp only [Act.put, List.setIfInBounds_toArray, List.set_cons_zero, List.set_cons_succ]
  clear ma mb mc ga gb gc ra rb rc a0 a1 b0 b1 c0 c1 la lb lc oa ob oc hcl Ea Eb Ec g0 g1 hmm
  have hE01 := hid (E0.trans hE1)
  clear E0 hE1
  replace hm := hid hm
  replace ho := hid ho
  go_wp2_with fail
  go_loopw [6, 7] (fun v i wr => ∃ (k : Nat) (s : St) (q : Option Addr) (c : Nat), k ≤ s.2.length ∧ v = .slice q s.2.length c ∧ i = .int .i64 k ∧ Hid (Inv s ∧ outr g (6401 - k) k s = bfs g p) ∧ MapPI wr M s.2.length (mapF s.1) ∧ wr.ownsRow w.heap.size 26 2 (.slice q s.2.length c) s.2.length (s.2.flatMap enc2) ∧ Value.ownBlock (.slice q s.2.length c) ≠ some M ∧ Ext w wr) (fun _ i _ => 6401 - (intOf i).toNat)
  case atStart => exact ⟨0, bfs0 p, _, _, by omega, rfl, rfl, hid ⟨inv0 hpp.out, rfl⟩, hm.out, ho.out, (by simp [Value.ownBlock]; omega), hE01.out⟩
  case round =>
    clear hm ho hE01
    obtain ⟨k, s, q, c, hk, rfl, rfl, hI, hm, ho, hqM, hE⟩ := hrel
    have hsl := hI.out.1.len
    by_cases hlt : k < s.2.length
    · have hs2 := SlT.of_owns (l := s.2) enc2_len rfl ho
      obtain ⟨bp, op, pt, hq, hbp, hpt, p0, p1⟩ := hs2.two hlt
      subst hq
      have hkI : (k : Int) < (s.2.length : Int) := by omega
      have hptm := (List.mem_of_getElem? hpt.out)
      have hpn := hid (onC_near (hI.out.1.on pt hptm))
      have hD0 := (hI.out.1.mem pt).1 hptm
      have hDb := (hI.out.1.bd pt).2
      have hnl := nearL_len pt
      have hT : Hid (outr g (6401 - (k + 1)) (k + 1) (inn g (s.1 pt + 1) (nearL pt) s) = bfs g p) := by
        show _ = _
        rw [← hI.out.2, show 6401 - k = (6401 - (k + 1)) + 1 by omega, outr_go hpt.out]
      replace hm := hid hm
      replace ho := hid ho
      replace hqM := hid hqM
      replace hptm := hid hptm
      clear hs2
      go_wp2_with fail
      refine (near_any pt _ hpn.out).mono ?_
      rintro e w2 ⟨qn, cn, rfl, on, E2⟩
      have sn := hid (SlT.of_owns (l := nearL pt) enc2_len rfl on)
      have hneN : Hid (∀ a, qn = some a → a.block ≠ M ∧ Value.ownBlock (.slice (some ⟨bp, op, none⟩) s.2.length c) ≠ some a.block) := fun a ha => by
        have h1 := (on.lt a.block (by rw [ha]; rfl)).1
        exact ⟨by have := hm.out.lt; omega, fun hh => by have := (ho.out.lt _ hh).2; omega⟩
      have hm2 := hid (hm.out.ext E2)
      have ho2 := hid (owns_ext ho.out E2)
      have hE2 := hid (hE.trans E2)
      obtain ⟨v, hv⟩ : ∃ v, v = s.1 pt + 1 := ⟨_, rfl⟩
      have hvb : 1 ≤ v ∧ v ≤ s.2.length := by omega
      obtain ⟨nl, hnlE⟩ : ∃ nl, nl = nearL pt := ⟨_, rfl⟩
      have hon : Hid (∀ x ∈ nl, onC x.a x.b = true) := fun x hx => nearL_on (hnlE ▸ hx)
      rw [← hnlE] at sn hT hnl ⊢
      rw [← hv] at hT
      have hvD : Hid (s.1 pt = v - 1) := by show _ = _; omega
      replace hv := hid hv
      replace hnlE := hid hnlE
      obtain ⟨T, hTT⟩ : ∃ T, T = inn g v nl s := ⟨_, rfl⟩
      rw [← hTT] at hT
      have hT0 := hid hTT.symm
      have hInv := hid hI.out.1
      clear on hm ho hE E2 hI hTT p0 p1 hbp hptm hD0 hDb
      replace hqM := hqM.out
      go_wp2_with fail
      go_loopw [6, 29] (fun vq j wr => ∃ (m : Nat) (s' : St) (q' : Option Addr) (c' : Nat), m ≤ nl.length ∧ vq = .slice q' s'.2.length c' ∧ j = .int .i64 m ∧ Hid (Inv s' ∧ inn g v (nl.drop m) s' = T ∧ s'.2[k]? = some pt ∧ s'.1 pt = v - 1) ∧ MapPI wr M s'.2.length (mapF s'.1) ∧ wr.ownsRow w.heap.size 26 2 (.slice q' s'.2.length c') s'.2.length (s'.2.flatMap enc2) ∧ Value.ownBlock (.slice q' s'.2.length c') ≠ some M ∧ SlT enc2 2 wr qn nl.length nl ∧ Hid (∀ a, qn = some a → a.block ≠ M ∧ Value.ownBlock (.slice q' s'.2.length c') ≠ some a.block) ∧ Ext w wr) (fun _ j _ => 4 - (intOf j).toNat)
      case atStart => exact ⟨0, s, _, _, by omega, rfl, rfl, hid ⟨hInv.out, hT0.out, hpt.out, hvD.out⟩, hm2.out, ho2.out, hqM, sn.out, hneN, hE2.out⟩
      case round =>
        clear hInv hT0 hm2 ho2 hqM sn hneN hE2 hvD hpt
        obtain ⟨m, s', q', c', hmN, rfl, rfl, hI, hm, ho, hqM, sn, hneN, hE⟩ := hrel
        have hsl' := hI.out.1.len
        have hkl : k < s'.2.length := (List.getElem?_eq_some_iff.1 hI.out.2.2.1).1
        have hvl : v ≤ s'.2.length := by have := (hI.out.1.bd pt).2; have := hI.out.2.2.2; omega
        by_cases hmlt : m < nl.length
        · obtain ⟨bx, ox, x, rfl, hbx, hx, x0, x1⟩ := sn.two hmlt
          have hmI : (m : Int) < (nl.length : Int) := by omega
          have hxon := hid (hon.out x (List.mem_of_getElem? hx.out))
          have hokx := hid (okP_on hxon.out)
          have hdx := hid (drop_get hx.out)
          have hxb := hI.out.1.bd x
          have hh := fun W (hW : Blk W B (gcells g) 99) => has_any B g x.a x.b W hW
          have hbr := hid (hb.out.ext hE)
          have hox := hid ho
          have hmx := hid hm
          have hsn := hid sn
          have hqMx := hid hqM
          clear ho hm sn hqM
          by_cases hDx : s'.1 x < 0
          · have hf : Hid (mapF s'.1 x = none) := mapF_none hDx
            cases hg : gh g x.a x.b with
            | true =>
              have hnx : Hid (inn g v (nl.drop (m + 1)) s' = T) := by
                show _ = _
                rw [← hI.out.2.1, hdx.out, inn_miss (by rw [opn, hg]; rfl)]
              rw [hg] at hh
              replace hh := hid hh
              clear hg
              have rk := MapPI.run_getok (hmx.out.ext ((Ext.refl wr).alloc (.cells #[.int .i64 x.a, .int .i64 x.b] 26))) hokx.out
              rw [hf.out] at rk
              simp only [Option.getD_none, Option.isSome_none] at rk
              go_wp2_with fail
              clear rk
              generalize hW : wr.alloc _ = W3
              obtain ⟨E3, z3, b3⟩ := boxes1 hW
              clear hW
              have hgc := (show Blk W3 wr.heap.size [_, _] _ from b3).cells
              have g0 := hgc 0
              have g1 := hgc 1
              simp only [List.getElem?_cons_zero, List.getElem?_cons_succ] at g0 g1
              have hBl3 : wr.heap.size < W3.heap.size := by omega
              clear hgc b3 x0 x1
              replace z3 := hid z3
              refine (hh.out _ (hbr.out.ext E3)).mono ?_
              rintro e w4 ⟨rfl, E4⟩
              have E34 := E3.trans E4
              have r1 := hid (hmx.out.ext E34)
              have r2 := hid (owns_ext hox.out E34)
              have r3 := hid (hsn.out.ext E34)
              have r4 := hid (hE.trans E34)
              clear E3 E4 E34 hE g0 g1
              go_wp2_with fail
              go_roundw
              case rel => exact ⟨m + 1, s', q', c', by omega, rfl, by go_num, hid ⟨hI.out.1, hnx.out, hI.out.2.2⟩, r1.out, r2.out, hqMx.out, r3.out, hneN, r4.out⟩
              case measure => simp [intOf]; omega
            | false =>
              have hop : opn g s'.1 x = true := by rw [opn, hg]; simpa using hDx
              have hnx : Hid (inn g v (nl.drop (m + 1)) (updD s'.1 x v, s'.2 ++ [x]) = T) := by
                show _ = _
                rw [← hI.out.2.1, hdx.out, inn_hit hop]
              have hInv2 := hid (hI.out.1.add hop hxon.out (by omega) hvl)
              have hxp : x ≠ pt := fun e => by have := hI.out.2.2.2; rw [e] at hDx; omega
              have hk2 : Hid ((s'.2 ++ [x])[k]? = some pt) := by show _ = _; rw [List.getElem?_append_left hkl]; exact hI.out.2.2.1
              have hd2 : Hid (updD s'.1 x v pt = v - 1) := by show _ = _; rw [updD, if_neg (fun e => hxp e.symm)]; exact hI.out.2.2.2
              have hfp : Hid (mapF s'.1 pt = some (v - 1)) := by show _ = _; rw [mapF_some (by have := hI.out.2.2.2; omega), hI.out.2.2.2]
              have hptok := hid (okP_on (hI.out.1.on pt (List.mem_of_getElem? hI.out.2.2.1)))
              have hmu := hid (mapF_upd (D := s'.1) (q := x) (v := v) (by omega))
              rw [hg] at hh
              replace hh := hid hh
              replace hop := hid hop
              replace hxp := hid hxp
              clear hg
              have rk := MapPI.run_getok (hmx.out.ext ((Ext.refl wr).alloc (.cells #[.int .i64 x.a, .int .i64 x.b] 26))) hokx.out
              rw [hf.out] at rk
              simp only [Option.getD_none, Option.isSome_none] at rk
              go_wp2_with fail
              clear rk
              generalize hW : wr.alloc _ = W3
              obtain ⟨E3, z3, b3⟩ := boxes1 hW
              clear hW
              have hgc := (show Blk W3 wr.heap.size [_, _] _ from b3).cells
              have g0 := hgc 0
              have g1 := hgc 1
              simp only [List.getElem?_cons_zero, List.getElem?_cons_succ] at g0 g1
              have hBl3 : wr.heap.size < W3.heap.size := by omega
              clear hgc b3 x0 x1
              replace z3 := hid z3
              refine (hh.out _ (hbr.out.ext E3)).mono ?_
              rintro e w4 ⟨rfl, E4⟩
              have E34 := E3.trans E4
              have r1 := hid (hmx.out.ext E34)
              have r2 := hid (owns_ext hox.out E34)
              have r3 := hid (hsn.out.ext E34)
              have r4 := hid (hE.trans E34)
              have l0 := (E4.cells _ 0 hBl3).trans g0
              have l1 := (E4.cells _ 1 hBl3).trans g1
              have hBl4 : wr.heap.size < w4.heap.size := by have := E4.le; omega
              have hs2 := SlT.of_owns (l := s'.2) enc2_len rfl r2.out
              obtain ⟨bq, oq, y, hq', hbq, hy, y0, y1⟩ := hs2.two hkl
              obtain rfl : y = pt := Option.some.inj (hy.out.symm.trans hI.out.2.2.1)
              subst hq'
              have hkI2 : (k : Int) < (s'.2.length : Int) := by omega
              clear E3 E4 E34 hE g0 g1 hs2 hk
              have hws1 : IntKind.i64.wrap (v - 1 + 1) = v := by rw [Int.sub_add_cancel]; exact IntWalk.i64_in _ (by omega)
              have hws2 : IntKind.i64.wrap v = v := IntWalk.i64_in _ (by omega)
              have rk4 := MapPI.run_get1 r1.out.drew hptok.out
              rw [hfp.out] at rk4
              simp only [Option.getD_some] at rk4
              go_wp2_with fail
              refine wp_region_still_tail 9 (by kernel_rfl) (by kernel_rfl) ?_
              simp only [List.take_succ_cons, List.take_zero, List.drop_succ_cons, List.drop_zero]
              iterate 9 still_step
              refine wpStill_nil ?_
              change wpList _ _ _ _ _ w4.drew
              have hwfv : (Lit.int .i64 v).wf = true := WalkArith.wf_i64 (by constructor <;> omega)
              have hMl := hmx.out.lt
              refine wpList_put _ rfl _ _ _ 72 rfl lawP Try.underlying72 Try.underlying2 kP_inj kP_key rfl r1.out.drew (by unfold maxLen; omega) x hokx.out (V2 x) rfl (keyP hokx.out) v rfl hwfv ?_
              intro w5 hm5 hg5
              rw [hmu.out] at hm5
              have r25 := hid ((World.ownsRow.drew r2.out).kept hg5 (Or.inr hqMx.out))
              have r35 := hid ((r3.out.ext (Ext.refl _).drew).grown hg5 (fun a ha hh => (hneN.out a ha).1 (by cases hh; rfl)))
              have r45 := hid (grown_ext r4.out.drew hg5 hM0)
              replace l0 := (grown_cell hg5 (b := wr.heap.size) (by show _ < w4.heap.size; omega) (by simp; omega) 0).trans l0
              replace l1 := (grown_cell hg5 (b := wr.heap.size) (by show _ < w4.heap.size; omega) (by simp; omega) 1).trans l1
              have hBl5 : wr.heap.size < w5.heap.size := by have h1 := hg5.size; have h2 : w4.heap.size ≤ w5.heap.size := h1; omega
              have hm5M := hm5.lt
              have hbx5 : bx < w5.heap.size := by
                rcases r35.out.2 with h | ⟨b', o', hp', hb', -⟩
                · omega
                · cases hp'; exact hb'
              replace hm5 := hid hm5
              have hNl := r45.out.le
              clear hws1 hws2 hg5 y0 y1 rk4 r1 r2 r3 r4 hbq hbx
              go_wp2_with (at_builtin; refine wpList_append_own_at _ rfl _ _ 29 rfl w.heap.size 26 i0 (.agg #[.int .i64 0, .int .i64 0]) 2 16 Try.underlying29 hi hz0 hz1 hz2 rfl (by omega) _ _ _ rfl (r25.out.alloc _) ⟨_, 0, none⟩ 1 1 [.int .i64 x.a, .int .i64 x.b] rfl rfl (cells_new _ [_, _] _) (one_int2 _ _) (len_le (by omega) (by omega)) (by omega) (by simp; omega) ?_; intro v' w6 ho' hg' _ hb'; obtain ⟨qa, ca, rfl⟩ := owns_forms ho'; have t4 := hid ((r45.out.alloc _).grown hg' (fun k hk => (r25.out.lt k hk).1)); have t3 := hid ((r35.out.ext ((Ext.refl _).alloc _)).grown hg' (fun a ha hh => (hneN.out a ha).2 hh)); have t5 := hid (ne_new hqMx.out hb' (by simp; omega)); have t6 := hid (ne_new (hneN.out _ rfl).2 hb' (by simp; omega)); have t1 := hid ((hm5.out.ext ((Ext.refl _).alloc _)).kept hg' (fun e => hqMx.out e.symm)); replace ho' := hid ho'; clear hg' hb')
              go_roundw
              case rel => exact ⟨m + 1, (updD s'.1 x v, s'.2 ++ [x]), qa, ca, by omega, by show _ = Value.slice _ (s'.2 ++ [x]).length _; rw [List.length_append]; rfl, by go_num, hid ⟨hInv2.out, hnx.out, hk2.out, hd2.out⟩, by show MapPI _ _ (s'.2 ++ [x]).length _; rw [List.length_append]; exact t1.out, by show World.ownsRow _ _ _ _ (Value.slice _ (s'.2 ++ [x]).length _) (s'.2 ++ [x]).length ((s'.2 ++ [x]).flatMap enc2); rw [List.length_append, List.flatMap_append]; exact ho'.out, by show Value.ownBlock (.slice _ (s'.2 ++ [x]).length _) ≠ _; rw [List.length_append]; exact t5.out, t3.out, (fun a ha => by cases ha; exact ⟨(hneN.out _ rfl).1, by show Value.ownBlock (.slice _ (s'.2 ++ [x]).length _) ≠ _; rw [List.length_append]; exact t6.out⟩), t4.out⟩
              case measure => simp [intOf]; omega
          · have hf : Hid (mapF s'.1 x = some (s'.1 x)) := mapF_some (by omega)
            have hnx : Hid (inn g v (nl.drop (m + 1)) s' = T) := by
              show _ = _
              rw [← hI.out.2.1, hdx.out, inn_miss (by rw [opn]; simp; intro _; omega)]
            have rk := MapPI.run_getok (hmx.out.ext ((Ext.refl wr).alloc (.cells #[.int .i64 x.a, .int .i64 x.b] 26))) hokx.out
            rw [hf.out] at rk
            simp only [Option.getD_some, Option.isSome_some] at rk
            have r1 := hid (hmx.out.ext ((Ext.refl wr).alloc (.cells #[.int .i64 x.a, .int .i64 x.b] 26)))
            have r2 := hid (owns_ext hox.out ((Ext.refl wr).alloc (.cells #[.int .i64 x.a, .int .i64 x.b] 26)))
            have r3 := hid (hsn.out.ext ((Ext.refl wr).alloc (.cells #[.int .i64 x.a, .int .i64 x.b] 26)))
            have r4 := hid (hE.alloc (.cells #[.int .i64 x.a, .int .i64 x.b] 26))
            clear hE
            go_wp2_with fail
            clear rk
            go_roundw
            case rel => exact ⟨m + 1, s', q', c', by omega, rfl, by go_num, hid ⟨hI.out.1, hnx.out, hI.out.2.2⟩, r1.out, r2.out, hqMx.out, r3.out, hneN, r4.out⟩
            case measure => simp [intOf]; omega
        · have hmI : ¬ (m : Int) < (nl.length : Int) := by omega
          have hfin : Hid (s' = T) := by
            show _ = _
            rw [← hI.out.2.1, List.drop_eq_nil_of_le (by omega), inn_nil]
          have hO : Hid (Inv s' ∧ outr g (6401 - (k + 1)) (k + 1) s' = bfs g p) := ⟨hI.out.1, by rw [hfin.out]; exact hT.out⟩
          replace hm := hid hm
          replace ho := hid ho
          replace hqM := hid hqM
          replace sn := hid sn
          go_wp2_with fail
          go_roundw
          case rel => exact ⟨k + 1, s', q', c', by omega, rfl, by go_num, hO, hm.out, ho.out, hqM.out, hE⟩
          case measure => simp [intOf]; omega
    · have hkI : ¬ (k : Int) < (s.2.length : Int) := by omega
      have hfin : Hid (s = bfs g p) := by show _ = _; rw [← hI.out.2, outr_stop (by omega)]
      replace ho := hid ho
      replace hm := hid hm
      go_wp2_with fail
      go_ret
      exact ⟨M, rfl, by rw [← hfin.out]; exact hm.out.mono hsl, hE⟩
end Go.Proofs.Ythdilndfcdpeiaa

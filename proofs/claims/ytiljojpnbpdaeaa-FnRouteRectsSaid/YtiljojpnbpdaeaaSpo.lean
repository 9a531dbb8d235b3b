/- Contract of ShortestRoute (reference). Condition: at most 2^20 rectangles. -/
import Derived.Test.YtiljojpnbpdaeaaSho
import Derived.Test.YtiljojpnbpdaeaaSpd
namespace Go.Proofs.Ytiljojpnbpdaeaa
open Go.RowKit Go.Maps

theorem Mut.ownM {w w' : World} {B base n size : Nat} {e : TypeId} {v : Value} {xs : List Value} (M : Mut w w' [B]) (hB : v.ownBlock ≠ some B) (ho : w.ownsRow base e size v n xs) : w'.ownsRow base e size v n xs :=
  M.grownBy (fun g hg hh => by simp at hh; subst hh; exact hB hg) ho
/-- What holds while the route is built. -/
def Going2 (D : Q2 → Int) (P : List Q2) (w7 : World) (v u : Value) (wr : World) : Prop := ∃ (pa m : Nat) (cur : Q2) (out : List Q2) (q : Option Addr) (c : Nat), v = .slice q out.length c ∧ u = .pointer (some ⟨pa, 0, none⟩) ∧ Blk wr pa [.int .i64 cur.a, .int .i64 cur.b] 47 ∧ Hid (onC cur.a cur.b = true ∧ D cur = m ∧ out ++ (pathN D m cur).tail = P ∧ 0 < out.length ∧ out[out.length - 1]? = some cur) ∧
  wr.ownsRow w7.heap.size 47 2 (.slice q out.length c) out.length (out.flatMap enc2) ∧ Value.ownBlock (.slice q out.length c) ≠ some pa ∧ w7.heap.size ≤ pa ∧ Ext w7 wr
theorem last_snoc {α : Type} (l : List α) (x : α) : (l ++ [x])[(l ++ [x]).length - 1]? = some x := by simp
theorem find_drop {α : Type} {f : α → Bool} {l : List α} {k : Nat} {x d : α} (h : l[k]? = some x) : ((l.drop k).find? f).getD d = if f x = true then x else ((l.drop (k + 1)).find? f).getD d := by
  rw [drop_get h, List.find?_cons]
  cases f x <;> simp
set_option maxRecDepth 100000 in
set_option maxHeartbeats 40000000 in
theorem spec_sr_ok (q : Option Addr) (n c : Nat) (l : List Q4) (a b : Q2) (w : World) (h : SlT enc4 4 w q n l) (hn : n ≤ 1048576) (h1 : isReg l = true) (h2 : onC a.a a.b = true) (h3 : onC b.a b.b = true) (h4 : gh (gL l) a.a a.b = false) (h5 : gh (gL l) b.a b.b = false) (h6 : ¬ (bfs (gL l) b).1 a < 0) :
    Calls Try.prog 80 #[.slice q n c, .agg #[.int .i64 a.a, .int .i64 a.b], .agg #[.int .i64 b.a, .int .i64 b.b]] w (RouteR l a b w) := by
  obtain ⟨i0, hi, hz0, hz1, hz2⟩ := info_parts info_Pt
  have hc1 := fun W (hW : Ext w W) => l03Ok_any q n c l W (h.ext hW) hn
  have hua := fun W => l09Unit_any a.a a.b W
  have hub := fun W => l09Unit_any b.a b.b W
  have hvs := hid (vRs_parts (isReg_iff.1 h1).1).2
  rw [h1] at hc1
  rw [h2] at hua
  rw [h3] at hub
  have hoa := hid h2
  have hob := hid h3
  have hga := hid h4
  have hgb := hid h5
  have hr : Hid (srC l a b = 0) := by show _ = _; rw [srC, h1, h2, h3, h4, h5, if_neg (by simp), if_neg (by simp), if_neg h6]
  have hDa : Hid (0 ≤ (bfs (gL l) b).1 a) := by show _ ≤ _; omega
  replace hc1 := hid hc1
  replace hua := hid hua
  replace hub := hid hub
  clear h1 h2 h3 h4 h5 h6
  go_enter Try.func80, Try.ntmps80
  go_wp2_with fail
  generalize hW : (w.alloc _).alloc _ = W0
  obtain ⟨E0, z0, bA, bB⟩ := boxes2 hW
  clear hW
  have hA := hid (show Blk W0 w.heap.size [.int .i64 a.a, .int .i64 a.b] _ from bA)
  have hB := hid (show Blk W0 (w.heap.size + 1) [.int .i64 b.a, .int .i64 b.b] _ from bB)
  clear bA bB
  replace z0 := hid z0
  refine (hc1.out _ E0).mono ?_
  rintro e w1 ⟨rfl, E1⟩
  have gA := (hA.out.ext (E1)).cells
  have gB := (hB.out.ext (E1)).cells
  have a0 := gA 0
  have a1 := gA 1
  have b0 := gB 0
  have b1 := gB 1
  simp only [List.getElem?_cons_zero, List.getElem?_cons_succ] at a0 a1 b0 b1
  have hlA := (hA.out.ext (E1)).lt
  have hlB := (hB.out.ext (E1)).lt
  clear gA gB
  go_wp2_with fail
  refine (hua.out _).mono ?_
  rintro e w2 ⟨rfl, E2⟩
  replace E2 := E1.trans E2
  clear a0 a1 b0 b1 hlA hlB
  have gA := (hA.out.ext (E2)).cells
  have gB := (hB.out.ext (E2)).cells
  have a0 := gA 0
  have a1 := gA 1
  have b0 := gB 0
  have b1 := gB 1
  simp only [List.getElem?_cons_zero, List.getElem?_cons_succ] at a0 a1 b0 b1
  have hlA := (hA.out.ext (E2)).lt
  have hlB := (hB.out.ext (E2)).lt
  clear gA gB
  go_wp2_with fail
  refine (hub.out _).mono ?_
  rintro e w3 ⟨rfl, E3⟩
  replace E3 := E2.trans E3
  clear a0 a1 b0 b1 hlA hlB
  go_wp2_with fail
  refine (l03Bits_any q n c l _ (h.ext (E0.trans E3)) hn hvs.out).mono ?_
  rintro e w4 ⟨B, rfl, ob, E4⟩
  have hbk := hid (Bits.of ob)
  replace E4 := E3.trans E4
  clear ob
  have za := hbk.out.2 _ (atG_lt hoa.out)
  have zb := hbk.out.2 _ (atG_lt hob.out)
  rw [← gh_on (g := gL l) hoa.out] at za
  rw [← gh_on (g := gL l) hob.out] at zb
  rw [hga.out] at za
  have hBlk := hbk.out.1
  have hta := atG_lt hoa.out
  have htb := atG_lt hob.out
  have htaI : (atG a.a a.b : Int) < 6400 := by omega
  have htbI : (atG b.a b.b : Int) < 6400 := by omega
  have gA := (hA.out.ext (E4)).cells
  have gB := (hB.out.ext (E4)).cells
  have a0 := gA 0
  have a1 := gA 1
  have b0 := gB 0
  have b1 := gB 1
  simp only [List.getElem?_cons_zero, List.getElem?_cons_succ] at a0 a1 b0 b1
  have hlA := (hA.out.ext (E4)).lt
  have hlB := (hB.out.ext (E4)).lt
  clear gA gB
  rw [hgb.out] at zb
  go_wp2_with (go_at_call 54; (first | (refine (l03At_any a.a a.b _ hoa.out).mono ?_) | (refine (l03At_any b.a b.b _ hob.out).mono ?_)); rintro e w' ⟨rfl, rfl⟩)
  refine (l32Distances_any B _ (gL l) b _ hbk.out hob.out).mono ?_
  rintro e w7 ⟨DB, rfl, od, E7⟩
  rw [distF, if_neg (by rw [hgb.out]; simp)] at od
  have zd := od.cellAt (atG a.a a.b) (by omega)
  rw [dcells_get _ hoa.out] at zd
  have hDBl := (owns_lt od).2
  replace od := hid od
  replace E7 := E4.trans E7
  clear za zb hBlk
  clear a0 a1 b0 b1 hlA hlB
  have hEBw := E7
  have hEw7 := hid (E0.trans E7)
  obtain ⟨D, hD⟩ : ∃ D, D = (bfs (gL l) b).1 := ⟨_, rfl⟩
  obtain ⟨P, hP⟩ : ∃ P, P = pathN D (D a).toNat a := ⟨_, rfl⟩
  have hsrl : Hid (srL l a b = P) := by show _ = _; rw [srL, hr.out, if_pos rfl, hP, hD]
  have hbd := hid (fun x => (inv_bfs (g := gL l) hob.out).bd x)
  have hln := hid (inv_bfs (g := gL l) hob.out).len
  have hzero := hid (down_bfs (g := gL l) hob.out).zero
  have hnext := hid (fun x (hx : 0 < (bfs (gL l) b).1 x) => next_ok (g := gL l) hob.out hx)
  have hPl := srL_len l a b
  rw [hsrl.out] at hPl
  rw [← hD] at od hDa zd hbd hzero hnext
  replace hD := hid hD
  replace hP := hid hP
  have hBw := hid (hB.out.ext hEBw)
  have hbda := (hbd.out a).1
  have hDaI : 0 ≤ D a := hDa.out
  have gA := (hA.out.ext (E7)).cells
  have gB := (hB.out.ext (E7)).cells
  have a0 := gA 0
  have a1 := gA 1
  have b0 := gB 0
  have b1 := gB 1
  simp only [List.getElem?_cons_zero, List.getElem?_cons_succ] at a0 a1 b0 b1
  have hlA := (hA.out.ext (E7)).lt
  have hlB := (hB.out.ext (E7)).lt
  clear gA gB
  go_wp2_with (go_at_call 54; (first | (refine (l03At_any a.a a.b _ hoa.out).mono ?_) | (refine (l03At_any b.a b.b _ hob.out).mono ?_)); rintro e w' ⟨rfl, rfl⟩)
  clear a0 a1 b0 b1 hlA hlB zd
  clear E0 E1 E2 E3 E4 E7 hEBw
  have hg2 := guard2
  go_loopw [10, 11] (Going2 D P w7) (fun v _ _ => 7000 - lenOf v)
  case atStart =>
    refine ⟨w7.heap.size + 1, (D a).toNat, a, [a], _, _, rfl, rfl, ?_, hid ⟨hoa.out, by omega, ?_, by simp, rfl⟩, ?_, ?_, by omega, ?_⟩
    · have := heap_new (w7.alloc (.cells #[.int .i64 a.a, .int .i64 a.b] 47)) (.cells #[.int .i64 a.a, .int .i64 a.b] 47)
      rw [World.size_alloc] at this; exact this
    · rw [hP.out, pathN_head D (D a).toNat a]; rfl
    · exact owns_cells (n := 1) (size := 2) (cs := [.int .i64 a.a, .int .i64 a.b]) (heap_old _ (heap_new w7 _)) (Nat.le_refl _) rfl (by simp [maxLen])
    · simp [Value.ownBlock]
    · exact ((Ext.refl _).alloc _).alloc _
  case round =>
    obtain ⟨pa, m, cur, out, q', c', rfl, rfl, hpa, hI, ho, hqp, hpa7, hE⟩ := hrel
    have hol : out.length ≤ 6401 := by
      have := congrArg List.length hI.out.2.2.1
      rw [List.length_append] at this
      omega
    have gP := hpa.cells
    have gB := (hBw.out.ext hE).cells
    have p0 := gP 0
    have p1 := gP 1
    have b0 := gB 0
    have b1 := gB 1
    simp only [List.getElem?_cons_zero, List.getElem?_cons_succ] at p0 p1 b0 b1
    have hlP := hpa.lt
    have hlB := (hBw.out.ext hE).lt
    clear gP gB
    have he := fun W => eq2 cur b W
    simp only [V2] at he
    by_cases hm0 : m = 0
    · have hcb : cur = b := (hzero.out cur).1 (by rw [hI.out.2.1, hm0]; rfl)
      have hfin : Hid (out = P) := by
        show _ = _
        have := hI.out.2.2.1
        rw [hm0, pathN, List.tail_cons, List.append_nil] at this; exact this
      have hdec : decide (cur = b) = true := decide_eq_true hcb
      rw [hdec] at he
      replace hcb := hid hcb
      replace hm0 := hid hm0
      clear hdec
      replace ho := hid ho
      replace hpa := hid hpa
      go_wp2_with fail
      go_ret2
      refine ⟨q', c', ?_, ?_, hEw7.out.trans hE⟩
      · rw [hr.out, hsrl.out, ← hfin.out]; rfl
      · rw [hsrl.out, ← hfin.out]; exact Joins.ownsRow_le ho.out hEw7.out.le
    · obtain ⟨k, rfl⟩ : ∃ k, m = k + 1 := ⟨m - 1, by omega⟩
      have hDc : D cur = k + 1 := by have := hI.out.2.1; omega
      have hcb : cur ≠ b := fun e => by have := (hzero.out cur).2 e; omega
      have hdec : decide (cur = b) = false := decide_eq_false hcb
      rw [hdec] at he
      have hnx := hnext.out cur
      have hnx := hid (hnx (by omega))
      have hkb : (k : Int) + 1 < 6401 := by have h1 := (hbd.out cur).2; have h2 := hln.out; omega
      have hcurn := hid (onC_near hI.out.1)
      have hnl := nearL_len cur
      have hbDc := hid hDc
      replace hcb := hid hcb
      replace hm0 := hid hm0
      clear hdec hDc
      replace ho := hid ho
      replace hpa := hid hpa
      replace hqp := hid hqp
      go_wp2_with fail
      refine (l32Neighbors_any cur _ hcurn.out).mono ?_
      rintro e w9 ⟨qn, cn, rfl, on, E9⟩
      have sn := hid (SlT.of_owns (l := nearL cur) enc2_len rfl on)
      have hnp : Hid (∀ x, qn = some x → x.block ∉ [pa]) := fun x hx => by have := (on.lt x.block (by rw [hx]; rfl)).1; have := hpa.out.lt; simp; omega
      have hE9 := hid E9
      have hp9 := hid (hpa.out.ext E9)
      have ho9 := hid (owns_ext ho.out E9)
      have hd9 := hid (owns_ext od.out (hE.trans E9))
      have hDBp : Hid (DB ∉ [pa]) := by show ¬ _; have := (owns_lt od.out).2; simp; omega
      clear on E9 p0 p1 b0 b1 hlP hlB he
      obtain ⟨nl, hnlE⟩ : ∃ nl, nl = nearL cur := ⟨_, rfl⟩
      rw [← hnlE] at sn hnl ⊢
      replace hnlE := hid hnlE
      go_wp2_with fail
      go_loopw [13] (fun j wr => ∃ (t : Nat) (z : Int), t ≤ nl.length ∧ j = .int .i64 z ∧ z = (t : Int) - 1 ∧ Blk wr pa [.int .i64 (((nl.drop t).find? (fun x => decide (D x = D cur - 1))).getD cur).a, .int .i64 (((nl.drop t).find? (fun x => decide (D x = D cur - 1))).getD cur).b] 47 ∧ Mut w9 wr [pa]) (fun j _ => (intOf j + 1).toNat)
      case atStart => exact ⟨nl.length, _, by omega, rfl, by omega, by rw [List.drop_eq_nil_of_le (Nat.le_refl _)]; exact hp9.out, Mut.refl _ _⟩
      case round =>
        clear hp9
        obtain ⟨t, z, ht, rfl, hz, hpt, hMu⟩ := hrel
        by_cases ht0 : 0 < t
        · obtain ⟨i, rfl⟩ : ∃ i, t = i + 1 := ⟨t - 1, by omega⟩
          obtain rfl : z = (i : Int) := by omega
          have hil : i < nl.length := by omega
          obtain ⟨bx, ox, x, rfl, hbx, hx, x0, x1⟩ := (sn.out.mut hMu hnp.out).two hil
          have hiI : (i : Int) < (nl.length : Int) := by omega
          have hxon := hid (nearL_on (hnlE.out ▸ List.mem_of_getElem? hx.out : x ∈ nearL cur))
          have hfd := hid (find_drop (f := fun x => decide (D x = D cur - 1)) (d := cur) hx.out)
          have hd := Mut.ownM hMu (fun e => hDBp.out (by simp [Value.ownBlock] at e; simp [e])) hd9.out
          have zx := hd.cellAt (atG x.a x.b) (by have := atG_lt hxon.out; omega)
          have zc := hd.cellAt (atG cur.a cur.b) (by have := atG_lt hI.out.1; omega)
          rw [dcells_get _ hxon.out] at zx
          rw [dcells_get _ hI.out.1, hbDc.out] at zc
          have hDl := (owns_lt hd).2
          have htx := atG_lt hxon.out
          have htc := atG_lt hI.out.1
          have htxI : (atG x.a x.b : Int) < 6400 := by omega
          have htcI : (atG cur.a cur.b : Int) < 6400 := by omega
          have hcon := hid hI.out.1
          have hoo := Mut.ownM hMu hqp.out ho9.out
          have so := SlT.of_owns (l := out) enc2_len rfl hoo
          have hol0 : 0 < out.length := hI.out.2.2.2.1
          obtain ⟨bq, oq, y, hq', hbq, hy, y0, y1⟩ := so.two (k := out.length - 1) (by omega)
          obtain rfl : y = cur := Option.some.inj (hy.out.symm.trans hI.out.2.2.2.2)
          subst hq'
          have hwm : IntKind.i64.wrap ((out.length : Int) - 1) = (out.length : Int) - 1 := IntWalk.i64_in _ (by omega)
          have hwt : ((out.length : Int) - 1).toNat = out.length - 1 := by omega
          have hw0 : (0 : Int) ≤ (out.length : Int) - 1 := by omega
          have hw1 : (out.length : Int) - 1 < (out.length : Int) := by omega
          have hw2 : (1 : Int) ≤ (out.length : Int) := by omega
          have hwk : IntKind.i64.wrap ((k : Int) + 1 - 1) = (k : Int) := by rw [Int.add_sub_cancel]; exact IntWalk.i64_in _ (by omega)
          have hwk2 : IntKind.i64.wrap (k : Int) = (k : Int) := IntWalk.i64_in _ (by omega)
          have hbx1 := hDl
          replace hd := hid hd
          replace hoo := hid hoo
          clear so
          obtain ⟨V, hV⟩ : ∃ V, V = D x := ⟨_, rfl⟩
          rw [← hV] at zx
          replace hV := hid hV
          have hwi : IntKind.i64.wrap ((i : Int) - 1) = (i : Int) - 1 := IntWalk.i64_in _ (by omega)
          have hbqw := hbq
          clear hz
          go_wp2_with fail
          clear hg2 hbda hPl hDaI hta htb htaI htbI hDBl hkb hnl hol ht ht0 
          refine wp_region_later (by kernel_rfl) (by kernel_rfl) ?_
          repeat (go_big_quiet_step ((go_at_call 54; (first | exact later_same (l03At_any x.a x.b _ hxon.out) | exact later_same (l03At_any y.a y.b _ hcon.out)))))
          refine wpQuiet_nil ?_
          rintro w8 ⟨⟨_, h8⟩, rfl⟩
          have hp8 := hpt.ext h8
          have hMu8 := hid (hMu.ext h8)
          clear y0 y1 zx zc
          by_cases hDk : V = k
          · have hnw : Hid (((nl.drop i).find? (fun x => decide (D x = D y - 1))).getD y = x) := by show _ = _; rw [hfd.out, if_pos (by have := hbDc.out; rw [hV.out] at hDk; simp; omega)]
            subst hDk
            have gP := hp8.cells
            have p0 := gP 0
            have p1 := gP 1
            simp only [List.getElem?_cons_zero, List.getElem?_cons_succ] at p0 p1
            have hlP := hp8.lt
            have hff := hp8.free
            have x0' := (h8.cells _ _ hbx).trans x0
            have x1' := (h8.cells _ _ hbx).trans x1
            have hbx' := Nat.lt_of_lt_of_le hbx h8.le
            have hMu9 := hid ((hMu8.out.setCell (p := ⟨pa, 0, none⟩) (by simp) (.int .i64 x.a)).setCell (p := ⟨pa, 1, none⟩) (by simp) (.int .i64 x.b))
            have hp9' := hid ((hp8.set 0 (.int .i64 x.a)).set 1 (.int .i64 x.b))
            clear gP x0 x1 hbx
            replace hp8 := hid hp8
            go_wp2_with fail
            clear p0 p1 hff x0' x1'
            go_roundw
            case rel => exact ⟨i, (i : Int) - 1, by omega, by first | rfl | rw [hwi], rfl, by rw [hnw.out]; exact hp9'.out, hMu9.out⟩
            case measure => first | done | (simp [intOf]; done) | (simp [intOf]; omega)
          · have hnw : Hid (((nl.drop i).find? (fun x => decide (D x = D y - 1))).getD y = ((nl.drop (i + 1)).find? (fun x => decide (D x = D y - 1))).getD y) := by show _ = _; rw [hfd.out, if_neg (by have := hbDc.out; rw [hV.out] at hDk; simp; omega)]
            have hne1 : (V == (k : Int)) = false := by simpa using hDk
            clear x0 x1
            replace hp8 := hid hp8
            go_wp2_with fail
            go_roundw
            case rel => exact ⟨i, (i : Int) - 1, by omega, by first | rfl | rw [hwi], rfl, by rw [hnw.out]; exact hp8.out, hMu8.out⟩
            case measure => first | done | (simp [intOf]; done) | (simp [intOf]; omega)
        · obtain rfl : t = 0 := by omega
          obtain rfl : z = -1 := by omega
          obtain ⟨x, hX⟩ : ∃ x, x = nextP D cur := ⟨_, rfl⟩
          have hfx : (((nl.drop 0).find? (fun x => decide (D x = D cur - 1))).getD cur) = x := by rw [hX, nextP, ← hnlE.out]; rfl
          rw [hfx] at hpt
          clear hfx hz
          have hxon := hid (nearL_on (show x ∈ nearL cur from hX ▸ hnx.out.1))
          have hDk' : Hid (D x = k) := by have h1 := hnx.out.2; have h2 := hbDc.out; show _ = _; rw [hX, h1]; omega
          have hgo := hid (path_go hI.out.2.2.1 hX.symm)
          clear hX
          have rO := hid ((Mut.ownM hMu hqp.out ho9.out).alloc (.cells #[.int .i64 x.a, .int .i64 x.b] 47))
          have rE := hid (((hE.trans hE9.out).then hMu (by simp; omega)).alloc (.cells #[.int .i64 x.a, .int .i64 x.b] 47))
          have rP := hid (hpt.alloc (.cells #[.int .i64 x.a, .int .i64 x.b] 47))
          have gP := hpt.cells
          have p0 := gP 0
          have p1 := gP 1
          have rP0 := rP.out.cells 0
          have rP1 := rP.out.cells 1
          simp only [List.getElem?_cons_zero, List.getElem?_cons_succ] at p0 p1 rP0 rP1
          replace rP0 := hid rP0
          replace rP1 := hid rP1
          have hlP := hpt.lt
          have hx1 := hid rP.out.lt
          have hx2 := hid rE.out.le
          clear gP
          replace hpt := hid hpt
          go_wp2_with (at_builtin; refine wpList_append_own _ rfl _ _ 40 rfl w7.heap.size 47 i0 (.agg #[.int .i64 0, .int .i64 0]) 2 16 Try.underlying40 hi hz0 hz1 hz2 rfl (by omega) _ _ _ rfl rO.out ⟨_, 0, none⟩ 1 1 [.int .i64 x.a, .int .i64 x.b] rfl rfl (cells_new wr [.int .i64 x.a, .int .i64 x.b] 47) (one_int2 _ _) (len_le (by omega) (by omega)) (by omega) hx2.out ?_; intro v' w10 ho' hg' _; obtain ⟨qa, ca, rfl⟩ := owns_forms ho'; have t4 := hid (rE.out.grown hg' (fun k hk => (rO.out.lt k hk).1)); have t5 := (grown_cell hg' hx1.out hqp.out 0).trans rP0.out; have t6 := (grown_cell hg' hx1.out hqp.out 1).trans rP1.out; have t7 : pa < w10.heap.size := Nat.lt_of_lt_of_le hx1.out hg'.size; replace ho' := hid ho'; clear hg')
          have hlq := hid (fun kk hk => (ho'.out.lt kk hk).2)
          go_roundw
          case rel => exact ⟨w10.heap.size, k, x, out ++ [x], qa, ca, by rw [List.length_append]; rfl, rfl, Blk.new _ [_, _] _, hid ⟨hxon.out, hDk'.out, hgo.out, by simp, last_snoc _ _⟩, by rw [List.length_append, List.flatMap_append]; exact ho'.out.alloc _, by rw [List.length_append]; exact (fun e => by have := hlq.out _ e; omega), t4.out.le, t4.out.alloc _⟩
          case measure => simp [lenOf]; omega
end Go.Proofs.Ytiljojpnbpdaeaa

/- Contract of l32Distances (reference): the search from a unit cell, told as a row of 6400 numbers. Condition: the unit cell is on the chip. -/
import Derived.Test.YtiljojpnbpdaeaaRch
namespace Go.Proofs.Ytiljojpnbpdaeaa
open Go.RowKit

def dcells (D : Q2 → Int) : List Value := (List.range 6400).map fun i => .int .i64 (D ⟨xOf i, yOf i⟩)
theorem dcells_len (D : Q2 → Int) : (dcells D).length = 6400 := by simp [dcells]
theorem dcells_get (D : Q2 → Int) {q : Q2} (h : onC q.a q.b = true) : (dcells D)[atG q.a q.b]? = some (.int .i64 (D q)) := by
  rw [dcells, List.getElem?_map, List.getElem?_range (atG_lt h)]
  simp only [Option.map_some]
  rw [xOf_at h, yOf_at h]
theorem dcells_set (D : Q2 → Int) {q : Q2} (v : Int) (h : onC q.a q.b = true) : (dcells D).set (atG q.a q.b) (.int .i64 v) = dcells (updD D q v) := by
  apply List.ext_getElem?
  intro i
  rw [List.getElem?_set, dcells_len]
  by_cases hi : i < 6400
  · by_cases he : atG q.a q.b = i
    · subst he
      rw [if_pos rfl, if_pos hi, dcells_get _ h, updD, if_pos rfl]
    · rw [if_neg he, dcells, dcells, List.getElem?_map, List.getElem?_map, List.getElem?_range hi]
      simp only [Option.map_some]
      rw [updD, if_neg]
      intro e
      apply he
      rw [← e]
      exact at_of i
  · rw [List.getElem?_eq_none (by rw [dcells_len]; omega), List.getElem?_eq_none (by rw [dcells_len]; omega)]
    split
    · rename_i he; exfalso; have h6 : atG q.a q.b < 6400 := atG_lt h; omega
    · rfl
def minit (k : Nat) : List Value := (List.range 6400).map fun i => .int .i64 (if i < k then -1 else 0)
theorem minit_zero : List.replicate 6400 (Value.int .i64 0) = minit 0 := by
  apply List.ext_getElem?
  intro i
  by_cases hi : i < 6400
  · rw [List.getElem?_replicate, if_pos hi, minit, List.getElem?_map, List.getElem?_range hi]; simp
  · rw [List.getElem?_eq_none (by rw [List.length_replicate]; omega), List.getElem?_eq_none (by simp [minit]; omega)]
theorem minit_all : minit 6400 = dcells (fun _ => -1) := List.map_congr_left fun i hi => by rw [if_pos (List.mem_range.1 hi)]
theorem minit_set {k : Nat} (h : k < 6400) : (minit k).set k (.int .i64 (-1)) = minit (k + 1) := by
  apply List.ext_getElem?
  intro i
  rw [List.getElem?_set, show (minit k).length = 6400 by simp [minit]]
  by_cases hi : i < 6400
  · by_cases he : k = i
    · subst he
      rw [if_pos rfl, if_pos hi, minit, List.getElem?_map, List.getElem?_range hi]; simp
    · rw [if_neg he, minit, minit, List.getElem?_map, List.getElem?_map, List.getElem?_range hi]
      simp only [Option.map_some]
      by_cases h1 : i < k
      · rw [if_pos h1, if_pos (by omega)]
      · rw [if_neg h1, if_neg (by omega)]
  · rw [List.getElem?_eq_none (by simp [minit]; omega), List.getElem?_eq_none (by simp [minit]; omega)]
    split
    · rename_i he; exfalso; have h6 : k < 6400 := h; omega
    · rfl
/-- What the search leaves: a row of 6400 numbers. -/
def DistR (D : Q2 → Int) (w : World) (e : Ending) (w' : World) : Prop := ∃ B, e = .returned (.slice (some ⟨B, 0, none⟩) 6400 6400) ∧ w'.ownsRow w.heap.size 2 1 (.slice (some ⟨B, 0, none⟩) 6400 6400) 6400 (dcells D) ∧ Ext w w'
theorem owns_blk {w : World} {B base : Nat} {cs : List Value} {e : TypeId} {n size : Nat} (h : w.heap[B]? = some (.cells cs.toArray e (0, 0))) (hb : base ≤ B) (hl : cs.length = n * size) (hn : n ≤ maxLen) : w.ownsRow base e size (.slice (some ⟨B, 0, none⟩) n n) n cs :=
  ⟨hl, .inr ⟨B, n, cs.toArray, rfl, hb, h, Nat.le_refl _, hn, by simp [hl], by simp [← hl]⟩⟩
theorem updD_neg (p : Q2) : updD (fun _ => -1) p 0 = (bfs0 p).1 := rfl
set_option maxRecDepth 100000 in
set_option maxHeartbeats 8000000 in
theorem l32Distances_any (B c : Nat) (g : Grid) (p : Q2) (w : World) (h : Bits w B g) (hp : onC p.a p.b = true) :
    Calls Try.prog 116 #[.slice (some ⟨B, 0, none⟩) 6400 c, .agg #[.int .i64 p.a, .int .i64 p.b]] w (DistR (distF g p) w) := by
  obtain ⟨i0, hi, hz0, hz1, hz2⟩ := info_parts info_Pt
  obtain ⟨j0, hj, hy0, hy1, hy2⟩ := info_parts info_Int
  have hpp := hid hp
  have hpt := atG_lt hp
  have hptI : (atG p.a p.b : Int) < 6400 := by omega
  have hbits := hid h
  clear hp h
  go_enter Try.func116, Try.ntmps116
  go_wp2_with (refine wpList_make_full _ rfl _ _ 22 rfl w.heap.size 2 j0 _ 1 Try.underlying22 hj hy0 hy1 .i64 .i64 6400 6400 6400 rfl rfl rfl rfl (by rw [hy2]; omega) (by unfold maxLen; omega) (by simp) ?_; intro w1 ho hg)
  rw [made_const _ (.int .i64 0) _ (by simp [Value.cells]) (by intro j hj; simp [Value.cells] at hj ⊢; subst hj; rfl)] at ho
  have hE : Ext w w1 := ((Ext.refl _).alloc _).grown hg (fun _ h => by cases h)
  have hD : w1.ownsRow w.heap.size 2 1 (.slice (some ⟨w.heap.size + 1, 0, none⟩) 6400 6400) 6400 (minit 0) := by
    have := ho
    rw [minit_zero, World.size_alloc] at this
    exact this
  have hbx : Blk w1 w.heap.size [.int .i64 p.a, .int .i64 p.b] 47 := (hg.block w.heap.size (by simp) (by simp)).trans (heap_new _ _)
  clear ho hg
  obtain ⟨N, hN⟩ : ∃ N, N = w.heap.size := ⟨_, rfl⟩
  have hbxN : Blk w1 N [.int .i64 p.a, .int .i64 p.b] 47 := by rw [hN]; exact hbx
  clear hbx
  obtain ⟨DB, hDB⟩ : ∃ DB, DB = w.heap.size + 1 := ⟨_, rfl⟩
  rw [← hDB] at hD ⊢
  rw [← hN] at hD ⊢
  have hND : N < DB := by omega
  replace hN := hid hN
  replace hDB := hid hDB
  go_loopw [6] (fun i wr => ∃ k : Nat, k ≤ 6400 ∧ i = .int .i64 k ∧ wr.ownsRow N 2 1 (.slice (some ⟨DB, 0, none⟩) 6400 6400) 6400 (minit k) ∧ Blk wr N [.int .i64 p.a, .int .i64 p.b] 47 ∧ Ext w wr) (fun i _ => 6400 - (intOf i).toNat)
  case atStart => exact ⟨0, by omega, rfl, hD, hbxN, hE⟩
  case round =>
    clear hD hbxN hE
    obtain ⟨k, hk, rfl, ho, hbx, hE⟩ := hrel
    by_cases hlt : k < 6400
    · have hkI : (k : Int) < 6400 := by omega
      obtain ⟨v0, e0⟩ := owns_cell ho k (by omega)
      have hf := owns_free ho
      have hst := hid (minit_set hlt)
      have ho2 := hid ho
      have hbx2 := hid hbx
      clear ho hbx
      go_wp2_with fail
      go_roundw
      case rel => exact ⟨k + 1, by omega, by go_num, by rw [← hst.out]; exact owns_set ho2.out _ _, hbx2.out.other _ _ (by omega), hE.setCell (p := ⟨DB, k, none⟩) (by have := hDB.out; show _ ≤ DB; omega) _⟩
      case measure => simp [intOf]; omega
    · have hk0 : k = 6400 := by omega
      subst hk0
      rw [minit_all] at ho
      have g := hbx.cells
      have g0 := g 0
      have g1 := g 1
      simp only [List.getElem?_cons_zero, List.getElem?_cons_succ] at g0 g1
      have hNl := hbx.lt
      have hbt := hbits.out.ext hE
      have z0 := hbt.2 _ hpt
      have hBl := hbt.1
      clear g
      replace hbx := hid hbx
      cases hg : g (atG p.a p.b) with
      | true =>
        have hr : Hid (distF g p = fun _ => -1) := by show _ = _; rw [distF, gh_on hpp.out, hg]; rfl
        rw [hg] at z0
        clear hg
        replace ho := hid ho
        go_wp2_with (go_at_call 54; refine (l03At_any _ _ _ hpp.out).mono ?_; rintro e w' ⟨rfl, rfl⟩)
        go_ret
        rw [hr.out]
        exact ⟨DB, rfl, by have := hN.out; rw [this] at ho; exact ho.out, hE⟩
      | false =>
        have hr : Hid (distF g p = (bfs g p).1) := by show _ = _; rw [distF, gh_on hpp.out, hg]; rfl
        rw [hg] at z0
        clear hg
        obtain ⟨v0, e0⟩ := owns_cell ho (atG p.a p.b) (by omega)
        have hf := owns_free ho
        have hst := hid (dcells_set (fun _ => -1) 0 hpp.out)
        replace ho := hid ho
        have hneN : N ≠ DB := by omega
        go_wp2_with (go_at_call 54; refine (l03At_any _ _ _ hpp.out).mono ?_; rintro e w' ⟨rfl, rfl⟩)
        have hq0 : ((wr.setCell ⟨DB, atG p.a p.b, none⟩ (.int .i64 0)).alloc (.cells #[.int .i64 p.a, .int .i64 p.b] 47)).ownsRow N 47 2 (.slice (some ⟨wr.heap.size, 0, none⟩) 1 1) 1 [.int .i64 p.a, .int .i64 p.b] := by
          have := heap_new (wr.setCell ⟨DB, atG p.a p.b, none⟩ (.int .i64 0)) (.cells #[.int .i64 p.a, .int .i64 p.b] 47)
          exact owns_blk (n := 1) (size := 2) (cs := [.int .i64 p.a, .int .i64 p.b]) (by simpa [World.setCell] using this) (by omega) rfl (by simp [maxLen])
        have hd0 : ((wr.setCell ⟨DB, atG p.a p.b, none⟩ (.int .i64 0)).alloc (.cells #[.int .i64 p.a, .int .i64 p.b] 47)).ownsRow N 2 1 (.slice (some ⟨DB, 0, none⟩) 6400 6400) 6400 (dcells (bfs0 p).1) := by
          have := owns_set ho.out (atG p.a p.b) (.int .i64 0)
          rw [hst.out, updD_neg] at this
          exact this.alloc _
        have hDBl := (owns_lt ho.out).2
        have hE0 : Ext w ((wr.setCell ⟨DB, atG p.a p.b, none⟩ (.int .i64 0)).alloc (.cells #[.int .i64 p.a, .int .i64 p.b] 47)) := (hE.setCell (p := ⟨DB, _, none⟩) (by have := hDB.out; show _ ≤ DB; omega) _).alloc _
        clear e0 hf z0 g0 g1 hE
        replace hst := hid hst
        go_loopw [7, 8] (fun v i wr => ∃ (k : Nat) (s : St) (q : Option Addr) (c : Nat), k ≤ s.2.length ∧ v = .slice q s.2.length c ∧ i = .int .i64 k ∧ Hid (Inv s ∧ outr g (6401 - k) k s = bfs g p) ∧ wr.ownsRow N 2 1 (.slice (some ⟨DB, 0, none⟩) 6400 6400) 6400 (dcells s.1) ∧ wr.ownsRow N 47 2 (.slice q s.2.length c) s.2.length (s.2.flatMap enc2) ∧ Value.ownBlock (.slice q s.2.length c) ≠ some DB ∧ Ext w wr) (fun _ i _ => 6401 - (intOf i).toNat)
        case atStart => exact ⟨0, bfs0 p, _, _, by omega, rfl, rfl, hid ⟨inv0 hpp.out, rfl⟩, hd0, hq0, (by simp [Value.ownBlock]; omega), hE0⟩
        case round =>
          clear hq0 hd0 hE0
          obtain ⟨k, s, q, c', hk, rfl, rfl, hI, hd, ho, hqM, hE⟩ := hrel
          have hsl := hI.out.1.len
          by_cases hlt : k < s.2.length
          · have hs2 := SlT.of_owns (l := s.2) enc2_len rfl ho
            obtain ⟨bp, op, pt, hq, hbp, hpt, p0, p1⟩ := hs2.two hlt
            subst hq
            have hkI : (k : Int) < (s.2.length : Int) := by omega
            have hptm := (List.mem_of_getElem? hpt.out)
            have hpn := hid (onC_near (hI.out.1.on pt hptm))
            have hD0 := (hI.out.1.mem pt).1 hptm
            have hDb := (hI.out.1.bd pt).2
            have hnl := nearL_len pt
            have hT : Hid (outr g (6401 - (k + 1)) (k + 1) (inn g (s.1 pt + 1) (nearL pt) s) = bfs g p) := by
              show _ = _
              rw [← hI.out.2, show 6401 - k = (6401 - (k + 1)) + 1 by omega, outr_go hpt.out]
            replace hd := hid hd
            replace ho := hid ho
            replace hqM := hid hqM
            replace hptm := hid hptm
            clear hs2
            go_wp2_with fail
            refine (l32Neighbors_any pt _ hpn.out).mono ?_
            rintro e w2 ⟨qn, cn, rfl, on, E2⟩
            have sn := hid (SlT.of_owns (l := nearL pt) enc2_len rfl on)
            have hneN : Hid (∀ a, qn = some a → a.block ≠ DB ∧ Value.ownBlock (.slice (some ⟨bp, op, none⟩) s.2.length c') ≠ some a.block) := fun a ha => by
              have h1 := (on.lt a.block (by rw [ha]; rfl)).1
              exact ⟨by have := (owns_lt hd.out).2; omega, fun hh => by have := (ho.out.lt _ hh).2; omega⟩
            have hd2 := hid (owns_ext hd.out E2)
            have ho2 := hid (owns_ext ho.out E2)
            have hE2 := hid (hE.trans E2)
            obtain ⟨v, hv⟩ : ∃ v, v = s.1 pt + 1 := ⟨_, rfl⟩
            have hvb : 1 ≤ v ∧ v ≤ s.2.length := by omega
            obtain ⟨nl, hnlE⟩ : ∃ nl, nl = nearL pt := ⟨_, rfl⟩
            have hon : Hid (∀ x ∈ nl, onC x.a x.b = true) := fun x hx => nearL_on (hnlE ▸ hx)
            rw [← hnlE] at sn hT hnl ⊢
            rw [← hv] at hT
            have hvD : Hid (s.1 pt = v - 1) := by show _ = _; omega
            replace hv := hid hv
            replace hnlE := hid hnlE
            obtain ⟨T, hTT⟩ : ∃ T, T = inn g v nl s := ⟨_, rfl⟩
            rw [← hTT] at hT
            have hT0 := hid hTT.symm
            have hInv := hid hI.out.1
            clear on hd ho hE E2 hI hTT p0 p1 hbp hptm hD0 hDb
            replace hqM := hqM.out
            go_wp2_with fail
            go_loopw [7, 10] (fun vq j wr => ∃ (m : Nat) (s' : St) (q' : Option Addr) (c' : Nat), m ≤ nl.length ∧ vq = .slice q' s'.2.length c' ∧ j = .int .i64 m ∧ Hid (Inv s' ∧ inn g v (nl.drop m) s' = T ∧ s'.2[k]? = some pt ∧ s'.1 pt = v - 1) ∧ wr.ownsRow N 2 1 (.slice (some ⟨DB, 0, none⟩) 6400 6400) 6400 (dcells s'.1) ∧ wr.ownsRow N 47 2 (.slice q' s'.2.length c') s'.2.length (s'.2.flatMap enc2) ∧ Value.ownBlock (.slice q' s'.2.length c') ≠ some DB ∧ SlT enc2 2 wr qn nl.length nl ∧ Hid (∀ a, qn = some a → a.block ≠ DB ∧ Value.ownBlock (.slice q' s'.2.length c') ≠ some a.block) ∧ Ext w wr) (fun _ j _ => 4 - (intOf j).toNat)
            case atStart => exact ⟨0, s, _, _, by omega, rfl, rfl, hid ⟨hInv.out, hT0.out, hpt.out, hvD.out⟩, hd2.out, ho2.out, hqM, sn.out, hneN, hE2.out⟩
            case round =>
              clear hInv hT0 hd2 ho2 hqM sn hneN hE2 hvD hpt
              obtain ⟨m, s', q', c'', hmN, rfl, rfl, hI, hd, ho, hqM, sn, hneN, hE⟩ := hrel
              have hsl' := hI.out.1.len
              have hkl : k < s'.2.length := (List.getElem?_eq_some_iff.1 hI.out.2.2.1).1
              have hvl : v ≤ s'.2.length := by have := (hI.out.1.bd pt).2; have := hI.out.2.2.2; omega
              by_cases hmlt : m < nl.length
              · obtain ⟨bx, ox, x, rfl, hbx, hx, x0, x1⟩ := sn.two hmlt
                have hmI : (m : Int) < (nl.length : Int) := by omega
                have hxon := hid (hon.out x (List.mem_of_getElem? hx.out))
                have hdx := hid (drop_get hx.out)
                have hxb := hI.out.1.bd x
                have hxt := atG_lt hxon.out
                have hxtI : (atG x.a x.b : Int) < 6400 := by omega
                have hbt := hbits.out.ext hE
                have zb := hbt.2 _ hxt
                have hBl := hbt.1
                have zd := hd.cellAt (atG x.a x.b) (by omega)
                rw [dcells_get _ hxon.out] at zd
                have hDl := (owns_lt hd).2
                have hox := hid ho
                have hdd := hid hd
                have hsn := hid sn
                have hqMx := hid hqM
                have hghx := hid (gh_on (g := g) hxon.out)
                clear ho hd sn hqM hbt
                go_wp2_with fail
                refine wp_region_later (by kernel_rfl) (by kernel_rfl) ?_
                repeat (go_big_quiet_step ((go_at_call 54; exact later_same (l03At_any _ _ _ hxon.out))))
                refine wpQuiet_nil ?_
                rintro w4 ⟨⟨_, E4⟩, rfl⟩
                replace zb := (E4.cells _ _ hBl).trans zb
                replace zd := (E4.cells _ _ hDl).trans zd
                replace x0 := (E4.cells _ _ hbx).trans x0
                replace x1 := (E4.cells _ _ hbx).trans x1
                have hbx4 := Nat.lt_of_lt_of_le hbx E4.le
                have hBl4 := Nat.lt_of_lt_of_le hBl E4.le
                have hDl4 := Nat.lt_of_lt_of_le hDl E4.le
                have r1 := hid (owns_ext hdd.out E4)
                have r2 := hid (owns_ext hox.out E4)
                have r3 := hid (hsn.out.ext E4)
                have r4 := hid (hE.trans E4)
                clear E4 hE hBl hDl hbx
                cases hg : g (atG x.a x.b) with
                | true =>
                  have hnx : Hid (inn g v (nl.drop (m + 1)) s' = T) := by
                    show _ = _
                    rw [← hI.out.2.1, hdx.out, inn_miss (by rw [opn, hghx.out, hg]; rfl)]
                  rw [hg] at zb
                  clear hg
                  go_wp2_with fail
                  go_roundw
                  case rel => exact ⟨m + 1, s', q', c'', by omega, rfl, by go_num, hid ⟨hI.out.1, hnx.out, hI.out.2.2⟩, r1.out, r2.out, hqMx.out, r3.out, hneN, r4.out⟩
                  case measure => simp [intOf]; omega
                | false =>
                  rw [hg] at zb
                  by_cases hDx : s'.1 x < 0
                  · have hop : opn g s'.1 x = true := by rw [opn, hghx.out, hg]; simpa using hDx
                    have hnx : Hid (inn g v (nl.drop (m + 1)) (updD s'.1 x v, s'.2 ++ [x]) = T) := by
                      show _ = _
                      rw [← hI.out.2.1, hdx.out, inn_hit hop]
                    have hInv2 := hid (hI.out.1.add hop hxon.out (by omega) hvl)
                    have hxp : x ≠ pt := fun e => by have := hI.out.2.2.2; rw [e] at hDx; omega
                    have hk2 : Hid ((s'.2 ++ [x])[k]? = some pt) := by show _ = _; rw [List.getElem?_append_left hkl]; exact hI.out.2.2.1
                    have hd2 : Hid (updD s'.1 x v pt = v - 1) := by show _ = _; rw [updD, if_neg (fun e => hxp e.symm)]; exact hI.out.2.2.2
                    have hpton := hid (hI.out.1.on pt (List.mem_of_getElem? hI.out.2.2.1))
                    have hpt4 := atG_lt hpton.out
                    have hptI4 : (atG pt.a pt.b : Int) < 6400 := by omega
                    have zp := r1.out.cellAt (atG pt.a pt.b) (by omega)
                    rw [dcells_get _ hpton.out, hI.out.2.2.2] at zp
                    have hst2 := hid (dcells_set s'.1 v hxon.out)
                    have hs2 := SlT.of_owns (l := s'.2) enc2_len rfl r2.out
                    obtain ⟨bq, oq, y, hq', hbq, hy, y0, y1⟩ := hs2.two hkl
                    obtain rfl : y = pt := Option.some.inj (hy.out.symm.trans hI.out.2.2.1)
                    subst hq'
                    have hkI2 : (k : Int) < (s'.2.length : Int) := by omega
                    have hws1 : IntKind.i64.wrap (v - 1 + 1) = v := by rw [Int.sub_add_cancel]; exact IntWalk.i64_in _ (by omega)
                    have hws2 : IntKind.i64.wrap v = v := IntWalk.i64_in _ (by omega)
                    have hf := owns_free r1.out
                    replace hop := hid hop
                    replace hxp := hid hxp
                    clear hg hs2 hk
                    go_wp2_with fail
                    refine wp_region_still_tail 18 (by kernel_rfl) (by kernel_rfl) ?_
                    simp only [List.take_succ_cons, List.take_zero, List.drop_succ_cons, List.drop_zero]
                    iterate 13 still_step
                    still_call ((l03At_any _ _ _ hpton.out).mono fun _ _ h => ⟨h.1, h.2.symm⟩)
                    iterate 4 still_step
                    refine wpStill_nil ?_
                    change wpList _ _ _ _ _ w4.drew
                    have hDBN : w.heap.size ≤ DB := by have := hDB.out; omega
                    have r15 := hid (show (w4.drew.setCell ⟨DB, atG x.a x.b, none⟩ (.int .i64 v)).ownsRow N 2 1 (.slice (some ⟨DB, 0, none⟩) 6400 6400) 6400 (dcells (updD s'.1 x v)) from hst2.out ▸ owns_set (World.ownsRow.drew r1.out) _ _)
                    have r25 := hid (owns_other (World.ownsRow.drew r2.out) hqMx.out (atG x.a x.b) (.int .i64 v))
                    have r35 := hid (SlT.other (r3.out.ext (Ext.refl _).drew) (B := DB) (atG x.a x.b) (.int .i64 v) (fun a ha => (hneN.out a ha).1))
                    have r45 := hid (r4.out.drew.setCell (p := ⟨DB, atG x.a x.b, none⟩) hDBN (.int .i64 v))
                    have hDBx := hid (owns_lt r15.out)
                    have hne1 : bx ≠ DB := (hneN.out _ rfl).1
                    have hbxN : bx < w4.heap.size := hbx4
                    have hNl := r45.out.le
                    have hsz9 : Hid ((w4.setCell ⟨DB, atG x.a x.b, none⟩ (.int .i64 v)).heap.size = w4.heap.size) := by show _ = _; simp [World.setCell]
                    clear hws1 hws2 zb y0 y1 hbq
                    go_wp2_with (at_builtin; refine wpList_append_own_at _ rfl _ _ 40 rfl N 47 i0 (.agg #[.int .i64 0, .int .i64 0]) 2 16 Try.underlying40 hi hz0 hz1 hz2 rfl (by omega) _ _ _ rfl (r25.out.alloc _) ⟨_, 0, none⟩ 1 1 [.int .i64 x.a, .int .i64 x.b] rfl rfl (by have h9 := cells_newd (w4.setCell ⟨DB, atG x.a x.b, none⟩ (.int .i64 v)) [.int .i64 x.a, .int .i64 x.b] 47; rw [hsz9.out] at h9; exact h9) (one_int2 _ _) (len_le (by omega) (by omega)) (by omega) (by simp; have := hN.out; have := r4.out.le; omega) ?_; intro v' w6 ho' hg' _ hb'; obtain ⟨qa, ca, rfl⟩ := owns_forms ho'; have t4 := hid ((r45.out.alloc _).grown hg' (fun k hk => by have := (r25.out.lt k hk).1; have := hN.out; omega)); have t3 := hid ((r35.out.ext ((Ext.refl _).alloc _)).grown hg' (fun a ha hh => (hneN.out a ha).2 hh)); have t5 := hid (ne_new hqMx.out hb' (by simp; omega)); have t6 := hid (ne_new (hneN.out _ rfl).2 hb' (by simp; omega)); have t1 := hid ((World.ownsRow.alloc r15.out _).kept hg' (Or.inr (fun e => hqMx.out e.symm))); replace ho' := hid ho'; clear hg' hb')
                    go_roundw
                    case rel => exact ⟨m + 1, (updD s'.1 x v, s'.2 ++ [x]), qa, ca, by omega, by show _ = Value.slice _ (s'.2 ++ [x]).length _; rw [List.length_append]; rfl, by go_num, hid ⟨hInv2.out, hnx.out, hk2.out, hd2.out⟩, t1.out, by show World.ownsRow _ _ _ _ (Value.slice _ (s'.2 ++ [x]).length _) (s'.2 ++ [x]).length ((s'.2 ++ [x]).flatMap enc2); rw [List.length_append, List.flatMap_append]; exact ho'.out, by show Value.ownBlock (.slice _ (s'.2 ++ [x]).length _) ≠ _; rw [List.length_append]; exact t5.out, t3.out, (fun a ha => by cases ha; exact ⟨(hneN.out _ rfl).1, by show Value.ownBlock (.slice _ (s'.2 ++ [x]).length _) ≠ _; rw [List.length_append]; exact t6.out⟩), t4.out⟩
                    case measure => simp [intOf]; omega
                  · have hnx : Hid (inn g v (nl.drop (m + 1)) s' = T) := by
                      show _ = _
                      rw [← hI.out.2.1, hdx.out, inn_miss (by rw [opn]; simp; intro _; omega)]
                    clear hg
                    go_wp2_with fail
                    go_roundw
                    case rel => exact ⟨m + 1, s', q', c'', by omega, rfl, by go_num, hid ⟨hI.out.1, hnx.out, hI.out.2.2⟩, r1.out, r2.out, hqMx.out, r3.out, hneN, r4.out⟩
                    case measure => simp [intOf]; omega
              · have hmI : ¬ (m : Int) < (nl.length : Int) := by omega
                have hfin : Hid (s' = T) := by
                  show _ = _
                  rw [← hI.out.2.1, List.drop_eq_nil_of_le (by omega), inn_nil]
                have hO : Hid (Inv s' ∧ outr g (6401 - (k + 1)) (k + 1) s' = bfs g p) := ⟨hI.out.1, by rw [hfin.out]; exact hT.out⟩
                replace hd := hid hd
                replace ho := hid ho
                replace hqM := hid hqM
                replace sn := hid sn
                go_wp2_with fail
                go_roundw
                case rel => exact ⟨k + 1, s', q', c'', by omega, rfl, by go_num, hO, hd.out, ho.out, hqM.out, hE⟩
                case measure => simp [intOf]; omega
          · have hkI : ¬ (k : Int) < (s.2.length : Int) := by omega
            have hfin : Hid (s = bfs g p) := by show _ = _; rw [← hI.out.2, outr_stop (by omega)]
            replace ho := hid ho
            replace hd := hid hd
            go_wp2_with fail
            go_ret
            rw [hr.out, ← hfin.out]
            exact ⟨DB, rfl, by have := hN.out; rw [← this]; exact hd.out, hE⟩
end Go.Proofs.Ytiljojpnbpdaeaa

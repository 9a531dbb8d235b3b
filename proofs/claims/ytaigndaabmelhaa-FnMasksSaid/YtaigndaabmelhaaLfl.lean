/- Contracts of the reference's l04Combine (union), l07Flood. Condition: a start on the chip. -/
import Derived.Test.YtaigndaabmelhaaPts
import Derived.Test.YtaigndaabmelhaaSp4
namespace Go.Proofs.Ytaigndaabmelhaa
open Go.RowKit

/-- The first m flags. -/
def cmb (g h : Grid) (m : Nat) : Grid := fun i => decide (i < m) && (g i || h i)
theorem cmb_zero (g h : Grid) : List.replicate 6400 (Value.bool false) = gcells (cmb g h 0) := by rw [← gcells_none]; exact gcells_ext fun i _ => by simp [gnone, cmb]
theorem cmb_all (g h : Grid) : gcells (cmb g h 6400) = gcells (orG g h) := gcells_ext fun i hi => by rw [cmb, orG]; simp [hi]
theorem cmb_set (g h : Grid) (m : Nat) : (gcells (cmb g h m)).set m (.bool (g m || h m)) = gcells (cmb g h (m + 1)) := by
  rw [gcells_set]
  refine gcells_ext fun i _ => ?_
  rw [gset, cmb, cmb]
  by_cases e : i = m
  · subst e; simp
  · rw [if_neg e]
    congr 1
    rw [decide_eq_decide]; omega
set_option maxRecDepth 100000 in
set_option maxHeartbeats 8000000 in
theorem l04Combine_any (B1 B2 c1 c2 : Nat) (g h : Grid) (w : World) (b1 : Bits w B1 g) (b2 : Bits w B2 h) :
    Calls Try.prog 134 #[.slice (some ⟨B1, 0, none⟩) 6400 c1, .slice (some ⟨B2, 0, none⟩) 6400 c2, .int .i64 14] w (BitsB (orG g h) w) := by
  obtain ⟨j0, hj, hy0, hy1, hy2⟩ := info_parts info_Bool
  have hb1 := hid b1
  have hb2 := hid b2
  clear b1 b2
  go_enter Try.func134, Try.ntmps134
  go_wp2_with (refine wpList_make_full _ rfl _ _ 79 rfl w.heap.size 4 j0 _ 1 Try.underlying79 hj hy0 hy1 .i64 .i64 6400 6400 6400 rfl rfl rfl rfl (by rw [hy2]; omega) (by unfold maxLen; omega) (by simp) ?_; intro w1 ho hg)
  rw [made_const _ (.bool false) _ (by simp [Value.cells]) (by intro j hj; simp [Value.cells] at hj ⊢; subst hj; rfl), cmb_zero g h] at ho
  have hE : Ext w w1 := (Ext.refl _).grown hg (fun _ h => by cases h)
  clear hg
  obtain ⟨N, hN⟩ : ∃ N, N = w.heap.size := ⟨_, rfl⟩
  rw [← hN] at ho ⊢
  have hNw : w.heap.size ≤ N := by omega
  replace hN := hid hN
  replace ho := hid ho
  go_loopw [8, 9] (fun i _ wr => ∃ k : Nat, k ≤ 6400 ∧ i = .int .i64 k ∧ Hid (wr.ownsRow N 4 1 (.slice (some ⟨N, 0, none⟩) 6400 6400) 6400 (gcells (cmb g h k))) ∧ Ext w wr) (fun i _ _ => 6400 - (intOf i).toNat)
  case atStart => exact ⟨0, by omega, rfl, ho, hE⟩
  case round =>
    clear ho hE
    obtain ⟨k, hk, rfl, ho, hE⟩ := hrel
    by_cases hlt : k < 6400
    · have hkI : (k : Int) < 6400 := by omega
      have z1 := (hb1.out.ext hE).2 k hlt
      have z2 := (hb2.out.ext hE).2 k hlt
      have l1 := (hb1.out.ext hE).1
      have l2 := (hb2.out.ext hE).1
      obtain ⟨v0, e0⟩ := owns_cell ho.out k (by omega)
      have hf := owns_free ho.out
      have hst := cmb_set g h k
      have hNl := (owns_lt ho.out).2
      cases hg : g k <;> cases hh : h k
      all_goals
        rw [hg] at z1
        rw [hh] at z2
        rw [hg, hh] at hst
        have hst := hid hst
        clear hg hh
        go_wp2
        go_roundw
        case rel => exact ⟨k + 1, by omega, by go_num, hid (by rw [← hst.out]; exact owns_set ho.out _ _), hE.setCell (p := ⟨N, k, none⟩) hNw _⟩
        case measure => simp [intOf] <;> omega
    · have hkI : ¬ (k : Int) < 6400 := by omega
      have h64 : k = 6400 := by omega
      have ho2 := ho.out
      rw [h64, cmb_all] at ho2
      replace ho2 := hid ho2
      clear ho h64
      go_wp2_with fail
      go_ret
      exact ⟨N, rfl, by have := hN.out; rw [← this]; exact ho2.out, hE⟩
theorem owns_toBlk {w : World} {base g n size : Nat} {e : TypeId} {xs : List Value} (h : w.ownsRow base e size (.slice (some ⟨g, 0, none⟩) n n) n xs) : Blk w g xs e := by
  obtain ⟨h1, h2⟩ := h
  rcases h2 with ⟨h2, _⟩ | ⟨g', cap, cur, hv, _, hh, _, _, hs, ht⟩
  · cases h2
  · cases hv
    have : cur.toList = xs := by rw [← ht, List.take_of_length_le (by simp [hs])]
    rw [Blk, ← this]; exact hh
theorem Bits.ofBlk {w : World} {B : Nat} {g : Grid} {t : TypeId} (h : Blk w B (gcells g) t) : Bits w B g := ⟨h.lt, fun i hi => by rw [h.cells i, gcells_get _ hi]⟩
/-- What holds of the search: s is its state, q the queue. -/
structure FlW (w : World) (N : Nat) (s : St) (q : Option Addr) (c : Nat) (wr : World) : Prop where
  inv : Inv s
  blk : Blk wr N (gcells (gD s.1)) 4
  own : wr.ownsRow N 138 2 (.slice q s.2.length c) s.2.length (s.2.flatMap enc2)
  ne : Value.ownBlock (.slice q s.2.length c) ≠ some N
  ext : Ext w wr
theorem FlW.later {w : World} {N : Nat} {s : St} {q : Option Addr} {c : Nat} {a b : World} (h : FlW w N s q c a) (hE : Ext a b) : FlW w N s q c b := ⟨h.inv, h.blk.ext hE, owns_ext h.own hE, h.ne, h.ext.trans hE⟩
set_option maxRecDepth 100000 in
set_option maxHeartbeats 8000000 in
theorem l07Flood_any (B cb : Nat) (c : Grid) (p : Q2) (w : World) (hb : Bits w B c) (hp : onC p.a p.b = true) :
    Calls Try.prog 129 #[.slice (some ⟨B, 0, none⟩) 6400 cb, .int .i64 p.a, .int .i64 p.b, .bool false] w (BitsB (floodG c false p) w) := by
  obtain ⟨i0, hi, hz0, hz1, hz2⟩ := info_parts info_Pt
  obtain ⟨j0, hj, hy0, hy1, hy2⟩ := info_parts info_Bool
  have hpp := hid hp
  have hpb := onC_iff.1 hp
  obtain ⟨⟨pa0, pa1⟩, pb0, pb1⟩ := hpb
  have hat := atG_lt hp
  have hgs := hid (gD_set (fun _ => -1) hp)
  have hBl : B < w.heap.size := hb.1
  have hbw := hid hb
  clear hp hb
  obtain ⟨N, hN⟩ : ∃ N, N = w.heap.size := ⟨_, rfl⟩
  have hBN : B < N := by omega
  go_enter Try.func129, Try.ntmps129
  go_upto_region 2 with (refine wpList_make_full _ rfl _ _ 79 rfl w.heap.size 4 j0 _ 1 Try.underlying79 hj hy0 hy1 .i64 .i64 6400 6400 6400 rfl rfl rfl rfl (by rw [hy2]; omega) (by unfold maxLen; omega) (by simp) ?_; intro w1 ho hg)
  rw [made_const _ (.bool false) _ (by simp [Value.cells]) (by intro j hj; simp [Value.cells] at hj ⊢; subst hj; rfl), ← gcells_none, gD_none] at ho
  have hE : Ext w w1 := (Ext.refl _).grown hg (fun _ h => by cases h)
  have hb1 := owns_toBlk ho
  clear hg ho
  rw [← hN] at hb1 ⊢
  have hNw : w.heap.size ≤ N := by omega
  replace hN := hid hN
  have hs1 := hb1.lt
  go_upto_region 3 with (fail)
  generalize hW : w1.alloc _ = W2
  obtain ⟨E2, s2, b2⟩ := boxes1 hW
  clear hW
  have hb2 := hb1.ext E2
  have z0 := hb2.cells (atG p.a p.b)
  rw [gcells_get _ hat] at z0
  have fz := hb2.free (atG p.a p.b)
  have hN2 := hb2.lt
  have hb3 := hb2.set (atG p.a p.b) (.bool true)
  rw [hgs.out, updD_neg] at hb3
  have hq3 : (W2.setCell ⟨N, atG p.a p.b, none⟩ (.bool true)).ownsRow N 138 2 (.slice (some ⟨w1.heap.size, 0, none⟩) 1 1) 1 ([p].flatMap enc2) := by
    have hne : w1.heap.size ≠ N := by omega
    have h9 : (W2.setCell ⟨N, atG p.a p.b, none⟩ (.bool true)).heap[w1.heap.size]? = some (.cells #[.int .i64 p.a, .int .i64 p.b] 138 (0, 0)) := by
      rw [Below.heap_setCell _ _ _ _ hne]; exact b2
    exact owns_blk (n := 1) (size := 2) (cs := [.int .i64 p.a, .int .i64 p.b]) h9 (by omega) rfl (by simp [maxLen])
  have hst : FlW w N (bfs0 p) (some ⟨w1.heap.size, 0, none⟩) 1 (W2.setCell ⟨N, atG p.a p.b, none⟩ (.bool true)) := ⟨inv0 hpp.out, hb3, hq3, (by simp [Value.ownBlock]; omega), (hE.trans E2).setCell (p := ⟨N, _, none⟩) hNw _⟩
  replace hst := hid hst
  clear hb3 hq3 b2 hb2 hb1 hE E2
  go_wp2_with (go_at_call 125; refine (l03At_any _ _ _ hpp.out).mono ?_; rintro e w' ⟨rfl, rfl⟩)
  clear z0 fz hat
  clear hgs
  go_loopw [10, 11] (fun v i wr => ∃ (k : Nat) (s : St) (q : Option Addr) (c' : Nat), k ≤ s.2.length ∧ v = .slice q s.2.length c' ∧ i = .int .i64 k ∧ Hid (outF c false (6401 - k) k s = floodS c false p) ∧ Hid (FlW w N s q c' wr)) (fun _ i _ => 6401 - (intOf i).toNat)
  case atStart => exact ⟨0, bfs0 p, _, _, by omega, rfl, rfl, rfl, hst⟩
  case round =>
    clear hst
    obtain ⟨k, s, q, c', hk, rfl, rfl, hI, hw⟩ := hrel
    have hsl := hw.out.inv.len
    by_cases hlt : k < s.2.length
    · have hkI : (k : Int) < (s.2.length : Int) := by omega
      obtain ⟨pt, hpt⟩ : ∃ pt, Hid (s.2[k]? = some pt) := ⟨_, List.getElem?_eq_getElem hlt⟩
      have hT : Hid (outF c false (6401 - (k + 1)) (k + 1) (rowF c false pt 3 s) = floodS c false p) := by
        show _ = _
        rw [← hI.out, show 6401 - k = (6401 - (k + 1)) + 1 by omega, outF, outF, outE_go hpt.out]
      have hptb := onC_iff.1 (hw.out.inv.on pt (List.mem_of_getElem? hpt.out))
      obtain ⟨⟨pt0, pt1⟩, pt2, pt3⟩ := hptb
      obtain ⟨T, hTT⟩ : ∃ T, T = rowF c false pt 3 s := ⟨_, rfl⟩
      rw [← hTT] at hT
      have hI2 : Hid (rowF c false pt 3 s = T ∧ s.2[k]? = some pt) := ⟨hTT.symm, hpt.out⟩
      clear hI hTT hpt
      go_wp2
      go_loopw [10, 12] (fun vq j wr => ∃ (m : Nat) (s' : St) (q' : Option Addr) (c' : Nat), m ≤ 3 ∧ vq = .slice q' s'.2.length c' ∧ j = .int .i64 (2 - m) ∧ Hid (rowF c false pt m s' = T ∧ s'.2[k]? = some pt) ∧ Hid (FlW w N s' q' c' wr)) (fun _ j _ => (3 - intOf j).toNat)
      case atStart => exact ⟨3, s, _, _, by omega, rfl, rfl, hI2, hw⟩
      case round =>
        clear hI2 hw
        obtain ⟨m, s', q', c', hm3, rfl, rfl, hI, hw⟩ := hrel
        cases m with
        | zero =>
          have hO : Hid (outF c false (6401 - (k + 1)) (k + 1) s' = floodS c false p) := by
            show _ = _
            rw [show s' = T from hI.out.1]; exact hT.out
          have hkl : k < s'.2.length := (List.getElem?_eq_some_iff.1 hI.out.2).1
          go_wp2
          go_roundw
          case rel => exact ⟨k + 1, s', q', c', by omega, rfl, by go_num, hO, hw⟩
          case measure => simp [intOf]; omega
        | succ m =>
          obtain ⟨dy, hdy⟩ : ∃ dy : Int, dy = 1 - (m : Int) := ⟨_, rfl⟩
          have hdyb : -1 ≤ dy ∧ dy ≤ 1 := by omega
          have hdy2 : (2 : Int) - ((m + 1 : Nat) : Int) = dy := by omega
          have hdy3 : Hid (Value.int .i64 (dy + 1) = .int .i64 (2 - (m : Int))) := by show _ = _; rw [hdy]; congr 1; omega
          obtain ⟨T2, hTT⟩ : ∃ T2, T2 = colF c false pt dy 3 s' := ⟨_, rfl⟩
          have hT2 : Hid (rowF c false pt m T2 = T) := by show _ = _; rw [hTT, hdy]; exact hI.out.1
          have hI2 : Hid (colF c false pt dy 3 s' = T2 ∧ s'.2[k]? = some pt) := ⟨hTT.symm, hI.out.2⟩
          rw [hdy2]
          replace hdy := hid hdy
          clear hI hTT hdy2
          go_wp2
          go_loopw [10, 13] (fun vq j wr => ∃ (m : Nat) (s' : St) (q' : Option Addr) (c' : Nat), m ≤ 3 ∧ vq = .slice q' s'.2.length c' ∧ j = .int .i64 (2 - m) ∧ Hid (colF c false pt dy m s' = T2 ∧ s'.2[k]? = some pt) ∧ Hid (FlW w N s' q' c' wr)) (fun _ j _ => (3 - intOf j).toNat)
          case atStart => exact ⟨3, s', _, _, by omega, rfl, rfl, hI2, hw⟩
          case round =>
            clear hI2 hw
            obtain ⟨j, s', q', c', hj3, rfl, rfl, hI, hw⟩ := hrel
            cases j with
            | zero =>
              have hI3 : Hid (rowF c false pt m s' = T ∧ s'.2[k]? = some pt) := ⟨by rw [show s' = T2 from hI.out.1]; exact hT2.out, hI.out.2⟩
              go_wp2
              go_roundw
              case rel => exact ⟨m, s', q', c', by omega, rfl, hdy3.out, hI3, hw⟩
              case measure => simp [intOf]; omega
            | succ j =>
              obtain ⟨dx, hdx⟩ : ∃ dx : Int, dx = 1 - (j : Int) := ⟨_, rfl⟩
              have hdxb : -1 ≤ dx ∧ dx ≤ 1 := by omega
              have hdx2 : (2 : Int) - ((j + 1 : Nat) : Int) = dx := by omega
              have hst : Hid (colF c false pt dy j (stF c false pt dx dy s') = T2) := by show _ = _; rw [hdx]; exact hI.out.1
              have hkl : k < s'.2.length := (List.getElem?_eq_some_iff.1 hI.out.2).1
              have hsl' := hw.out.inv.len
              rw [hdx2]
              replace hdx := hid hdx
              clear hdx2
              have hs2 := SlT.of_owns (l := s'.2) enc2_len rfl hw.out.own
              obtain ⟨bq, oq, y, hq', hbq, hy, y0, y1⟩ := hs2.two hkl
              obtain rfl : y = pt := Option.some.inj (hy.out.symm.trans hI.out.2)
              subst hq'
              have hkI2 : (k : Int) < (s'.2.length : Int) := by omega
              clear hs2 hy
              have hw1 : IntKind.i64.wrap (y.a + dx) = y.a + dx := IntWalk.i64_in _ (by omega)
              have hw2 : IntKind.i64.wrap (y.b + dy) = y.b + dy := IntWalk.i64_in _ (by omega)
              have hk0 : Hid (∀ V, Ext wr V → V.cell? ⟨bq, oq + k * 2, none⟩ = some (.int .i64 y.a) ∧ V.cell? ⟨bq, oq + k * 2 + 1, none⟩ = some (.int .i64 y.b)) := fun V hV => ⟨(hV.cells _ _ hbq).trans y0, (hV.cells _ _ hbq).trans y1⟩
              have hne := World.new_ne wr _ y0
              have hne1 := World.new_ne wr _ y1
              go_wp2_with fail
              go_region_held3 (fun V => V.cell? ⟨bq, oq + k * 2, none⟩ = some (.int .i64 y.a) ∧ V.cell? ⟨bq, oq + k * 2 + 1, none⟩ = some (.int .i64 y.b))
                (exact hk0.out _ (by first | exact (Ext.refl _).drew | exact (Ext.refl _).drew.alloc _ | exact ((Ext.refl _).alloc _).drew))
                (fail)
              generalize hW : (wr.alloc (.cells #[.int .i64 (y.a + dx), .int .i64 (y.b + dy)] 138)).drew = W3
              have hE3 : Ext wr W3 := by rw [← hW]; exact ((Ext.refl _).alloc _).drew
              have hb3 : Blk W3 wr.heap.size [.int .i64 (y.a + dx), .int .i64 (y.b + dy)] 138 := by rw [← hW]; exact (Blk.new _ _ _).drew
              clear hW
              have hNl := hw.out.blk.lt
              have hw3 := hid (hw.out.later hE3)
              obtain ⟨M, hM⟩ : ∃ M, M = wr.heap.size := ⟨_, rfl⟩
              rw [← hM] at hb3 ⊢
              have hMN : M ≠ N := by omega
              obtain ⟨U, hU⟩ : ∃ U, U = y.a + dx := ⟨_, rfl⟩
              obtain ⟨V, hV⟩ : ∃ V, V = y.b + dy := ⟨_, rfl⟩
              rw [← hU, ← hV] at hb3 ⊢
              have m0 := hb3.cells 0
              have m1 := hb3.cells 1
              simp only [List.getElem?_cons_zero, List.getElem?_cons_succ] at m0 m1
              have hMl := hb3.lt
              have hrel : Hid (∀ s2 : St, stF c false y dx dy s' = s2 → s2.2[k]? = some y → colF c false y dy j s2 = T2 ∧ s2.2[k]? = some y) := fun s2 e h2 => ⟨by rw [← e]; exact hst.out, h2⟩
              have hH : ∀ b, gh c U V = b → Hid (∀ W, Ext w W → Calls Try.prog 142 #[.slice (some ⟨B, 0, none⟩) 6400 cb, .int .i64 U, .int .i64 V] W fun e w' => e = .returned (.bool b) ∧ W = w') := fun b hb W hW => by
                have := l03Has_any B cb c U V W (hbw.out.ext hW)
                rw [hb] at this; exact this
              have hUV : Hid (U = y.a + dx ∧ V = y.b + dy) := ⟨hU, hV⟩
              have hUVb : (-1000 ≤ U ∧ U ≤ 1000) ∧ (-1000 ≤ V ∧ V ≤ 1000) := by omega
              clear hw hE3 hNl hk0 hne hne1 hw1 hw2 y0 y1 hbq hst hM hU hV
              by_cases hA : dx = 0 ∨ dy = 0
              · cases hg : gh c U V with
                | false =>
                  have hH2 := hH _ hg
                  have hmv := hid (hrel.out s' (stF_miss (Or.inr (Or.inl (by rw [← hUV.out.1, ← hUV.out.2]; exact hg)))) hI.out.2)
                  clear hg hH hb3
                  rcases (show (dx = 0 ∧ dy = 0) ∨ (dx = 0 ∧ ¬ dy = 0) ∨ (¬ dx = 0 ∧ dy = 0) by omega) with ⟨rfl, rfl⟩ | ⟨rfl, hy0⟩ | ⟨hx0, rfl⟩
                  all_goals
                    go_wp2_with ((go_at_call 142; refine (hH2.out _ hw3.out.ext).mono ?_; rintro e w' ⟨rfl, rfl⟩))
                    go_roundw
                    case rel => exact ⟨j, s', _, _, by omega, rfl, vint (by have := hdx.out; omega), hmv, hw3⟩
                    case measure => simp [intOf] <;> omega
                | true =>
                  have hH2 := hH _ hg
                  have hoc : onC U V = true := by
                    cases ho : onC U V with
                    | true => rfl
                    | false => rw [gh_off ho] at hg; cases hg
                  have hoc2 := hid hoc
                  have zn := hw3.out.blk.cells (atG U V)
                  have hlt6 := atG_lt hoc
                  rw [gcells_get _ hlt6] at zn
                  have hNl := hw3.out.blk.lt
                  have fz := hw3.out.blk.free (atG U V)
                  have hgD := gD_at s'.1 (q := ⟨U, V⟩) hoc
                  simp only at hgD
                  have hat2 := hid (show (atG U V : Int) = (V + 40) * 80 + U + 40 from by rw [onC_iff] at hoc; rw [atG]; omega)
                  clear hH hoc
                  by_cases hD : 0 ≤ s'.1 ⟨U, V⟩
                  · have hmv := hid (hrel.out s' (stF_miss (Or.inr (Or.inr (by rw [← hUV.out.1, ← hUV.out.2]; exact hD)))) hI.out.2)
                    rw [hgD, decide_eq_true hD] at zn
                    clear hg hgD hD fz hb3
                    rcases (show (dx = 0 ∧ dy = 0) ∨ (dx = 0 ∧ ¬ dy = 0) ∨ (¬ dx = 0 ∧ dy = 0) by omega) with ⟨rfl, rfl⟩ | ⟨rfl, hy0⟩ | ⟨hx0, rfl⟩
                    all_goals
                      go_wp2_with (first | (go_at_call 142; refine (hH2.out _ hw3.out.ext).mono ?_; rintro e w' ⟨rfl, rfl⟩) | (go_at_call 125; refine (l03At_any _ _ _ hoc2.out).mono ?_; rintro e w' ⟨rfl, rfl⟩))
                      go_roundw
                      case rel => exact ⟨j, s', _, _, by omega, rfl, vint (by have := hdx.out; omega), hmv, hw3⟩
                      case measure => simp [intOf] <;> omega
                  · have hDn : s'.1 ⟨U, V⟩ < 0 := by omega
                    have hst2 := stF_hit (c := c) (wide := false) (p := y) (dx := dx) (dy := dy) (s := s') (Or.inl hA) (by rw [← hUV.out.1, ← hUV.out.2]; exact hg) (by rw [← hUV.out.1, ← hUV.out.2]; exact hDn)
                    rw [← hUV.out.1, ← hUV.out.2] at hst2
                    have hInv2 := hid (hw3.out.inv.add (g := gnone) (v := 0) (opn_none hDn) hoc2.out (by omega) (by omega))
                    have hmv := hid (hrel.out _ hst2 (by show (s'.2 ++ [_])[k]? = _; rw [List.getElem?_append_left hkl]; exact hI.out.2))
                    rw [hgD, decide_eq_false hD] at zn
                    have hw4 := hid (hw3.out)
                    obtain ⟨W4, hW4⟩ : ∃ W4, W4 = W3.setCell ⟨N, atG U V, none⟩ (.bool true) := ⟨_, rfl⟩
                    have r1 : Blk W4 N (gcells (gD (updD s'.1 ⟨U, V⟩ 0))) 4 := by
                      have h9 := hw3.out.blk.set (atG U V) (.bool true)
                      rw [gD_set s'.1 hoc2.out] at h9
                      rw [hW4]; exact h9
                    have r2 : W4.ownsRow N 138 2 (.slice (some ⟨bq, oq, none⟩) s'.2.length c') s'.2.length (s'.2.flatMap enc2) := by rw [hW4]; exact owns_other hw3.out.own hw3.out.ne (atG U V) (.bool true)
                    have r3 : Blk W4 M [.int .i64 U, .int .i64 V] 138 := by rw [hW4]; exact hb3.other _ _ hMN
                    have r4 : Ext w W4 := by rw [hW4]; exact hw3.out.ext.setCell (p := ⟨N, atG U V, none⟩) hNw (.bool true)
                    have hne9 := hw3.out.ne
                    have n0 := r3.cells 0
                    have n1 := r3.cells 1
                    simp only [List.getElem?_cons_zero, List.getElem?_cons_succ] at n0 n1
                    have hMl4 := r3.lt
                    have hNl4 := r1.lt
                    have hNw4 := r4.le
                    have hN4 : N ≤ W4.heap.size := by omega
                    replace hW4 := hid hW4.symm
                    replace r1 := hid r1
                    replace r2 := hid r2
                    replace r4 := hid r4
                    replace hne9 := hid hne9
                    clear hg hgD hD hst2 hDn hb3 hNw4 r3
                    rcases (show (dx = 0 ∧ dy = 0) ∨ (dx = 0 ∧ ¬ dy = 0) ∨ (¬ dx = 0 ∧ dy = 0) by omega) with ⟨rfl, rfl⟩ | ⟨rfl, hy0⟩ | ⟨hx0, rfl⟩
                    all_goals
                      go_upto_region 16 with (first | (go_at_call 142; refine (hH2.out _ hw3.out.ext).mono ?_; rintro e w' ⟨rfl, rfl⟩) | (go_at_call 125; refine (l03At_any _ _ _ hoc2.out).mono ?_; rintro e w' ⟨rfl, rfl⟩))
                      rw [hW4.out]
                      go_wp2_with (at_builtin; refine wpList_append_own_at _ rfl _ _ 97 rfl N 138 i0 (.agg #[.int .i64 0, .int .i64 0]) 2 16 Try.underlying97 hi hz0 hz1 hz2 rfl (by omega) _ _ _ rfl (r2.out.alloc _) ⟨_, 0, none⟩ 1 1 [.int .i64 U, .int .i64 V] rfl rfl (cells_new W4 [.int .i64 U, .int .i64 V] 138) (one_int2 _ _) (len_le (by omega) (by omega)) (by omega) (by simp; omega) ?_; intro v' w6 ho' hg' _ hb'; obtain ⟨qa, ca, rfl⟩ := owns_forms ho'; have t4 := hid ((r4.out.alloc (.cells #[.int .i64 U, .int .i64 V] 138)).grown hg' (fun k hk => by have := (r2.out.lt k hk).1; omega)); have t5 := hid (ne_new hne9.out hb' (by simp; omega)); have t1 := hid ((r1.out.alloc (.cells #[.int .i64 U, .int .i64 V] 138)).grown hg' hne9.out); replace ho' := hid ho'; clear hg' hb')
                      go_roundw
                      case rel => exact ⟨j, _, qa, ca, by omega, by show _ = Value.slice _ (s'.2 ++ [_]).length _; rw [List.length_append]; rfl, vint (by have := hdx.out; omega), hmv, hInv2.out, t1.out, by show World.ownsRow _ _ _ _ (Value.slice _ (s'.2 ++ [_]).length _) (s'.2 ++ [_]).length ((s'.2 ++ [_]).flatMap enc2); rw [List.length_append, List.flatMap_append]; simpa [enc2] using ho'.out, by show Value.ownBlock (.slice _ (s'.2 ++ [_]).length _) ≠ _; rw [List.length_append]; exact t5.out, t4.out⟩
                      case measure => simp [intOf] <;> omega
              · have hmv := hid (hrel.out s' (stF_miss (Or.inl ⟨hA, rfl⟩)) hI.out.2)
                have hx0 : ¬ dx = 0 := fun h => hA (Or.inl h)
                have hy0 : ¬ dy = 0 := fun h => hA (Or.inr h)
                clear hA hH hb3
                go_wp2_with fail
                go_roundw
                case rel => exact ⟨j, s', _, _, by omega, rfl, vint (by have := hdx.out; omega), hmv, hw3⟩
                case measure => simp [intOf] <;> omega
    · have hkI : ¬ (k : Int) < (s.2.length : Int) := by omega
      have hfin : Hid (s = floodS c false p) := by show _ = _; rw [← hI.out, outF, outE_stop (by omega)]
      go_wp2
      go_ret
      exact ⟨N, rfl, by rw [floodG, ← hfin.out]; exact owns_blk (n := 6400) (size := 1) hw.out.blk hNw (by rw [gcells_len]) (by simp [maxLen]), hw.out.ext⟩
end Go.Proofs.Ytaigndaabmelhaa

/- Contracts of cells.not and cells.flood. No condition on the sets. -/
import Derived.Test.YtaigndaabmelhaaRch
import Derived.Test.YtaigndaabmelhaaRg4
import Derived.Test.YtaigndaabmelhaaSpd
import Derived.Deep.Cut
namespace Go.Proofs.Ytaigndaabmelhaa
open Go.RowKit

def notN (g : Grid) (m : Nat) : Grid := fun j => decide (j < m) && !g j
theorem notN_zero (g : Grid) : gcells gnone = gcells (notN g 0) := gcells_ext fun i _ => by simp [gnone, notN]
theorem notN_all (g : Grid) : gcells (notN g 6400) = gcells (gnot g) := gcells_ext fun i hi => by
  rw [notN, gnot, gmk, gh_of hi]; simp [hi]
theorem notN_set (g : Grid) (m : Nat) : (gcells (notN g m)).set m (.bool (!g m)) = gcells (notN g (m + 1)) := by
  rw [gcells_set]
  refine gcells_ext fun i _ => ?_
  rw [gset, notN, notN]
  by_cases e : i = m
  · subst e; simp
  · rw [if_neg e]
    congr 1
    rw [Bool.eq_iff_iff]; simp; omega
theorem Blk.grown {w w' : World} {B : Nat} {cs : List Value} {t : TypeId} {row : Option Nat} (h : Blk w B cs t) (hg : w.grownBy w' row) (hne : row ≠ some B) : Blk w' B cs t := (hg.block B h.lt (fun e => hne e.symm)).trans h
theorem vint {k : IntKind} {a b : Int} (h : a = b) : Value.int k a = .int k b := by rw [h]
/-- A unit cell as flood keeps it. -/
def encS (x : Q2) : List Value := [.int .i64 (x.a + 40), .int .i64 (x.b + 40)]
theorem encS_len (x : Q2) : (encS x).length = 2 := rfl
theorem info_Pr : (Try.prog.info? 153).map (fun i => (i.zero, i.size, i.bytes)) = some (some (.agg #[.int .i64 0, .int .i64 0]), 2, 16) := by kernel_rfl
theorem SlT.twoS {w : World} {p : Option Addr} {n : Nat} {l : List Q2} (h : SlT encS 2 w p n l) {k : Nat} (hk : k < n) :
    ∃ b off x, p = some ⟨b, off, none⟩ ∧ b < w.heap.size ∧ Hid (l[k]? = some x) ∧ w.cell? ⟨b, off + k * 2, none⟩ = some (.int .i64 (x.a + 40)) ∧ w.cell? ⟨b, off + k * 2 + 1, none⟩ = some (.int .i64 (x.b + 40)) := by
  obtain ⟨b, off, x, h1, h2, h3, h4⟩ := h.get hk
  exact ⟨b, off, x, h1, h2, h3, h4 0 _ rfl, h4 1 _ rfl⟩
theorem gD_set (D : Q2 → Int) {u v : Int} (h : onC u v = true) : (gcells (gD D)).set (atG u v) (.bool true) = gcells (gD (updD D ⟨u, v⟩ 0)) := by
  rw [gcells_set, gD, gD]
  refine gset_gmk _ h fun x y _ => ?_
  rw [updD]
  by_cases e : x = u ∧ y = v
  · obtain ⟨rfl, rfl⟩ := e
    simp
  · rw [if_neg e, if_neg]
    intro h
    cases h
    exact e ⟨rfl, rfl⟩
theorem gD_none : gcells gnone = gcells (gD fun _ => -1) := gcells_ext fun i _ => by simp [gnone, gD, gmk]
theorem gD_at (D : Q2 → Int) {q : Q2} (h : onC q.a q.b = true) : gD D (atG q.a q.b) = decide (0 ≤ D q) := by rw [gD, gmk_at _ h]
set_option maxRecDepth 100000 in
set_option maxHeartbeats 8000000 in
theorem flood_any (B : Nat) (c : Grid) (p : Q2) (w : World) (hb : Blk w B (gcells c) 109) (hp : onC p.a p.b = true) :
    Calls Try.prog 135 #[.pointer (some ⟨B, 0, none⟩), .int .i64 (p.a + 40), .int .i64 (p.b + 40), .bool false] w (CellsB (floodG c false p) w) := by
  obtain ⟨i0, hi, hz0, hz1, hz2⟩ := info_parts info_Pr
  have hpp := hid hp
  have hpb := onC_iff.1 hp
  obtain ⟨⟨pa0, pa1⟩, pb0, pb1⟩ := hpb
  have eat : (p.b + 40).toNat * 80 + (p.a + 40).toNat = atG p.a p.b := by rw [atG]; omega
  have hat := atG_lt hp
  have hgs := hid (gD_set (fun _ => -1) hp)
  have hBl : B < w.heap.size := hb.lt
  have hbw := hid hb
  clear hp hb
  obtain ⟨N, hN⟩ : ∃ N, N = w.heap.size := ⟨_, rfl⟩
  have hBN : B < N := by omega
  go_enter Try.func135, Try.ntmps135
  go_upto_region 2 with (fail)
  generalize hW : w.alloc _ = W0
  obtain ⟨E0, s0, b0⟩ := boxes1 hW
  clear hW
  rw [zeroCells] at b0
  replace b0 := show Blk W0 w.heap.size (gcells gnone) 109 from b0
  rw [← hN] at b0 s0 ⊢
  have z0 := b0.cells (atG p.a p.b)
  rw [gcells_get _ hat] at z0
  have fz := b0.free (atG p.a p.b)
  have hbN := b0.set (atG p.a p.b) (.bool true)
  rw [gD_none, hgs.out, updD_neg] at hbN
  have hNl : N < W0.heap.size := b0.lt
  replace hbN := hid hbN
  clear b0 hgs
  have hs0 : W0.heap.size = N + 1 := by rw [s0, hN]
  clear s0
  replace hs0 := hid hs0
  replace hN := hid hN
  go_wp2
  have hq0 : ((W0.setCell ⟨N, atG p.a p.b, none⟩ (.bool true)).alloc (.cells #[.int .i64 (p.a + 40), .int .i64 (p.b + 40)] 153)).ownsRow N 153 2 (.slice (some ⟨W0.heap.size, 0, none⟩) 1 1) 1 ([p].flatMap encS) := by
    have := heap_new (W0.setCell ⟨N, atG p.a p.b, none⟩ (.bool true)) (.cells #[.int .i64 (p.a + 40), .int .i64 (p.b + 40)] 153)
    exact owns_blk (n := 1) (size := 2) (cs := [.int .i64 (p.a + 40), .int .i64 (p.b + 40)]) (by simpa [World.setCell] using this) (by omega) rfl (by simp [maxLen])
  have hd0 : Blk ((W0.setCell ⟨N, atG p.a p.b, none⟩ (.bool true)).alloc (.cells #[.int .i64 (p.a + 40), .int .i64 (p.b + 40)] 153)) N (gcells (gD (bfs0 p).1)) 109 := hbN.out.alloc _
  have hE0 : Ext w ((W0.setCell ⟨N, atG p.a p.b, none⟩ (.bool true)).alloc (.cells #[.int .i64 (p.a + 40), .int .i64 (p.b + 40)] 153)) := (E0.setCell (p := ⟨N, _, none⟩) (Nat.le_of_eq hN.out.symm) _).alloc _
  clear z0 fz E0 hbN
  go_loopw [10, 11] (fun v i wr => ∃ (k : Nat) (s : St) (q : Option Addr) (c' : Nat), k ≤ s.2.length ∧ v = .slice q s.2.length c' ∧ i = .int .i64 k ∧ Hid (Inv s ∧ outF c false (6401 - k) k s = floodS c false p) ∧ Blk wr N (gcells (gD s.1)) 109 ∧ wr.ownsRow N 153 2 (.slice q s.2.length c') s.2.length (s.2.flatMap encS) ∧ Value.ownBlock (.slice q s.2.length c') ≠ some N ∧ Ext w wr) (fun _ i _ => 6401 - (intOf i).toNat)
  case atStart => exact ⟨0, bfs0 p, _, _, by omega, rfl, rfl, hid ⟨inv0 hpp.out, rfl⟩, hd0, hq0, (by have := hs0.out; simp [Value.ownBlock]; omega), hE0⟩
  case round =>
    clear hq0 hd0 hE0 hs0 hNl eat hat
    obtain ⟨k, s, q, c', hk, rfl, rfl, hI, hd, ho, hqM, hE⟩ := hrel
    have hsl := hI.out.1.len
    by_cases hlt : k < s.2.length
    · have hkI : (k : Int) < (s.2.length : Int) := by omega
      obtain ⟨pt, hpt⟩ : ∃ pt, Hid (s.2[k]? = some pt) := ⟨_, List.getElem?_eq_getElem hlt⟩
      have hT : Hid (outF c false (6401 - (k + 1)) (k + 1) (rowF c false pt 3 s) = floodS c false p) := by
        show _ = _
        rw [← hI.out.2, show 6401 - k = (6401 - (k + 1)) + 1 by omega, outF, outF, outE_go hpt.out]
      have hptb := onC_iff.1 (hI.out.1.on pt (List.mem_of_getElem? hpt.out))
      obtain ⟨⟨pt0, pt1⟩, pt2, pt3⟩ := hptb
      obtain ⟨T, hTT⟩ : ∃ T, T = rowF c false pt 3 s := ⟨_, rfl⟩
      rw [← hTT] at hT
      have hI2 : Hid (Inv s ∧ rowF c false pt 3 s = T ∧ s.2[k]? = some pt) := ⟨hI.out.1, hTT.symm, hpt.out⟩
      replace hd := hid hd
      replace ho := hid ho
      replace hqM := hid hqM
      clear hI hTT hpt
      go_wp2
      go_loopw [10, 12] (fun vq j wr => ∃ (m : Nat) (s' : St) (q' : Option Addr) (c' : Nat), m ≤ 3 ∧ vq = .slice q' s'.2.length c' ∧ j = .int .i64 (2 - m) ∧ Hid (Inv s' ∧ rowF c false pt m s' = T ∧ s'.2[k]? = some pt) ∧ Blk wr N (gcells (gD s'.1)) 109 ∧ wr.ownsRow N 153 2 (.slice q' s'.2.length c') s'.2.length (s'.2.flatMap encS) ∧ Value.ownBlock (.slice q' s'.2.length c') ≠ some N ∧ Ext w wr) (fun _ j _ => (3 - intOf j).toNat)
      case atStart => exact ⟨3, s, _, _, by omega, rfl, rfl, hI2, hd.out, ho.out, hqM.out, hE⟩
      case round =>
        clear hI2 hd ho hqM hE
        obtain ⟨m, s', q', c', hm3, rfl, rfl, hI, hd, ho, hqM, hE⟩ := hrel
        cases m with
        | zero =>
          have hO : Hid (Inv s' ∧ outF c false (6401 - (k + 1)) (k + 1) s' = floodS c false p) := ⟨hI.out.1, by rw [show s' = T from hI.out.2.1]; exact hT.out⟩
          have hkl : k < s'.2.length := (List.getElem?_eq_some_iff.1 hI.out.2.2).1
          replace hd := hid hd
          replace ho := hid ho
          replace hqM := hid hqM
          go_wp2
          go_roundw
          case rel => exact ⟨k + 1, s', q', c', by omega, rfl, by go_num, hO, hd.out, ho.out, hqM.out, hE⟩
          case measure => simp [intOf]; omega
        | succ m =>
          obtain ⟨dy, hdy⟩ : ∃ dy : Int, dy = 1 - (m : Int) := ⟨_, rfl⟩
          have hdyb : -1 ≤ dy ∧ dy ≤ 1 := by omega
          have hdy2 : (2 : Int) - ((m + 1 : Nat) : Int) = dy := by omega
          have hdy3 : Hid (Value.int .i64 (dy + 1) = .int .i64 (2 - (m : Int))) := by show _ = _; rw [hdy]; congr 1; omega
          obtain ⟨T2, hTT⟩ : ∃ T2, T2 = colF c false pt dy 3 s' := ⟨_, rfl⟩
          have hT2 : Hid (rowF c false pt m T2 = T) := by show _ = _; rw [hTT, hdy]; exact hI.out.2.1
          have hI2 : Hid (Inv s' ∧ colF c false pt dy 3 s' = T2 ∧ s'.2[k]? = some pt) := ⟨hI.out.1, hTT.symm, hI.out.2.2⟩
          have hdym : Hid ((3 - (dy + 1)).toNat < (3 - dy).toNat) := by show _ < _; omega
          rw [hdy2]
          replace hd := hid hd
          replace ho := hid ho
          replace hqM := hid hqM
          replace hdy := hid hdy
          clear hI hTT hdy2
          go_wp2
          go_loopw [10, 13] (fun vq j wr => ∃ (m : Nat) (s' : St) (q' : Option Addr) (c' : Nat), m ≤ 3 ∧ vq = .slice q' s'.2.length c' ∧ j = .int .i64 (2 - m) ∧ Hid (Inv s' ∧ colF c false pt dy m s' = T2 ∧ s'.2[k]? = some pt) ∧ Blk wr N (gcells (gD s'.1)) 109 ∧ wr.ownsRow N 153 2 (.slice q' s'.2.length c') s'.2.length (s'.2.flatMap encS) ∧ Value.ownBlock (.slice q' s'.2.length c') ≠ some N ∧ Ext w wr) (fun _ j _ => (3 - intOf j).toNat)
          case atStart => exact ⟨3, s', _, _, by omega, rfl, rfl, hI2, hd.out, ho.out, hqM.out, hE⟩
          case round =>
            clear hI2 hd ho hqM hE
            obtain ⟨j, s', q', c', hj3, rfl, rfl, hI, hd, ho, hqM, hE⟩ := hrel
            cases j with
            | zero =>
              have hI3 : Hid (Inv s' ∧ rowF c false pt m s' = T ∧ s'.2[k]? = some pt) := ⟨hI.out.1, by rw [show s' = T2 from hI.out.2.1]; exact hT2.out, hI.out.2.2⟩
              replace hd := hid hd
              replace ho := hid ho
              replace hqM := hid hqM
              go_wp2
              go_roundw
              case rel => exact ⟨m, s', q', c', by omega, rfl, hdy3.out, hI3, hd.out, ho.out, hqM.out, hE⟩
              case measure => simp [intOf]; omega
            | succ j =>
              obtain ⟨dx, hdx⟩ : ∃ dx : Int, dx = 1 - (j : Int) := ⟨_, rfl⟩
              have hdxb : -1 ≤ dx ∧ dx ≤ 1 := by omega
              have hdx2 : (2 : Int) - ((j + 1 : Nat) : Int) = dx := by omega
              have hst : Hid (colF c false pt dy j (stF c false pt dx dy s') = T2) := by show _ = _; rw [hdx]; exact hI.out.2.1
              have hkl : k < s'.2.length := (List.getElem?_eq_some_iff.1 hI.out.2.2).1
              have hsl' := hI.out.1.len
              rw [hdx2]
              replace hdx := hid hdx
              clear hdx2
              have hs2 := SlT.of_owns (l := s'.2) encS_len rfl ho
              obtain ⟨bq, oq, y, hq', hbq, hy, y0, y1⟩ := hs2.twoS hkl
              obtain rfl : y = pt := Option.some.inj (hy.out.symm.trans hI.out.2.2)
              subst hq'
              have hkI2 : (k : Int) < (s'.2.length : Int) := by omega
              replace hd := hid hd
              replace ho := hid ho
              replace hqM := hid hqM
              clear hs2 hy
              have hw1 : IntKind.i64.wrap (y.a + 40 + dx) = y.a + 40 + dx := IntWalk.i64_in _ (by omega)
              have hw2 : IntKind.i64.wrap (y.b + 40 + dy) = y.b + 40 + dy := IntWalk.i64_in _ (by omega)
              go_wp2
              refine wp_region_later (by kernel_rfl) (by kernel_rfl) ?_
              repeat (go_big_quiet_step (fail))
              refine wpQuiet_nil ?_
              rintro w4 ⟨⟨_, E4⟩, rfl⟩
              have r1 := hid (hd.out.ext E4)
              have r2 := hid (owns_ext ho.out E4)
              have r4 := hid (hE.trans E4)
              have hbB := hbw.out.ext r4.out
              have zc := hbB.cells (atG (y.a + dx) (y.b + dy))
              have hBl4 := hbB.lt
              have zn := r1.out.cells (atG (y.a + dx) (y.b + dy))
              have hNl4 := r1.out.lt
              have fz := r1.out.free (atG (y.a + dx) (y.b + dy))
              have hrel : Hid (∀ s2 : St, stF c false y dx dy s' = s2 → Inv s2 → s2.2[k]? = some y → Inv s2 ∧ colF c false y dy j s2 = T2 ∧ s2.2[k]? = some y) := fun s2 e h1 h2 => ⟨h1, by rw [← e]; exact hst.out, h2⟩
              obtain ⟨AT, hAT⟩ : ∃ AT, AT = atG (y.a + dx) (y.b + dy) := ⟨_, rfl⟩
              obtain ⟨U, hU⟩ : ∃ U, U = y.a + 40 + dx := ⟨_, rfl⟩
              obtain ⟨V, hV⟩ : ∃ V, V = y.b + 40 + dy := ⟨_, rfl⟩
              rw [← hAT] at zc zn fz
              rw [← hU] at hw1 ⊢
              rw [← hV] at hw2 ⊢
              clear E4 hE hd ho hbB hst hw1 hw2
              have hUV : Hid (U = y.a + 40 + dx ∧ V = y.b + 40 + dy) := ⟨hU, hV⟩
              have hUb : -1 ≤ U ∧ U ≤ 80 := by omega
              have hVb : -1 ≤ V ∧ V ≤ 80 := by omega
              have heAT := hid hAT
              by_cases hA : dx = 0 ∨ dy = 0
              · cases hoc : onC (y.a + dx) (y.b + dy) with
                | false =>
                  have hmv := hid (hrel.out s' (stF_miss (Or.inr (Or.inl (gh_off hoc)))) hI.out.1 hI.out.2.2)
                  have h4 : U < 0 ∨ (0 ≤ U ∧ V < 0) ∨ (0 ≤ U ∧ 0 ≤ V ∧ 80 ≤ U) ∨ (0 ≤ U ∧ 0 ≤ V ∧ U < 80 ∧ 80 ≤ V) := by
                    have h5 : ¬ ((-40 ≤ y.a + dx ∧ y.a + dx ≤ 39) ∧ (-40 ≤ y.b + dy ∧ y.b + dy ≤ 39)) := fun h => by rw [onC_iff.2 h] at hoc; cases hoc
                    omega
                  clear hoc zc zn fz hAT hU hV hUb hVb
                  rcases (show (dx = 0 ∧ dy = 0) ∨ (dx = 0 ∧ ¬ dy = 0) ∨ (¬ dx = 0 ∧ dy = 0) by omega) with ⟨rfl, rfl⟩ | ⟨rfl, hy0⟩ | ⟨hx0, rfl⟩
                  all_goals
                    rcases h4 with h4 | ⟨h4, h5⟩ | ⟨h4, h5, h6⟩ | ⟨h4, h5, h6, h7⟩
                  all_goals
                    go_wp2
                    all_goals
                      go_roundw
                      case rel => exact ⟨j, s', _, _, by omega, rfl, vint (by have := hdx.out; omega), hmv, r1.out, r2.out, hqM.out, r4.out⟩
                      case measure => simp [intOf] <;> omega
                | true =>
                  have hq := onC_iff.1 hoc
                  have eat : V.toNat * 80 + U.toNat = AT := by rw [hAT, atG]; omega
                  have hUb2 : 0 ≤ U ∧ U < 80 := by omega
                  have hVb2 : 0 ≤ V ∧ V < 80 := by omega
                  have hlt6 := atG_lt hoc
                  rw [← hAT] at hlt6
                  rw [gcells_get _ hlt6] at zc zn
                  have hghc := gh_on (g := c) hoc
                  have hgD := gD_at s'.1 (q := ⟨y.a + dx, y.b + dy⟩) hoc
                  simp only at hgD
                  rw [← hAT] at hghc hgD
                  have hset := hid (gD_set s'.1 hoc)
                  have hoc2 := hid hoc
                  clear hoc hU hV hUb hVb hq hAT
                  cases hc : c AT with
                  | false =>
                    have hmv := hid (hrel.out s' (stF_miss (Or.inr (Or.inl (hghc.trans hc)))) hI.out.1 hI.out.2.2)
                    rw [hc] at zc
                    clear hc hghc hgD zn fz
                    rcases (show (dx = 0 ∧ dy = 0) ∨ (dx = 0 ∧ ¬ dy = 0) ∨ (¬ dx = 0 ∧ dy = 0) by omega) with ⟨rfl, rfl⟩ | ⟨rfl, hy0⟩ | ⟨hx0, rfl⟩
                    all_goals
                      go_wp2
                      all_goals
                        go_roundw
                        case rel => exact ⟨j, s', _, _, by omega, rfl, vint (by have := hdx.out; omega), hmv, r1.out, r2.out, hqM.out, r4.out⟩
                        case measure => simp [intOf] <;> omega
                  | true =>
                    rw [hc] at zc
                    by_cases hD : 0 ≤ s'.1 ⟨y.a + dx, y.b + dy⟩
                    · have hmv := hid (hrel.out s' (stF_miss (Or.inr (Or.inr hD))) hI.out.1 hI.out.2.2)
                      rw [hgD, decide_eq_true hD] at zn
                      clear hc hghc hgD fz hD
                      rcases (show (dx = 0 ∧ dy = 0) ∨ (dx = 0 ∧ ¬ dy = 0) ∨ (¬ dx = 0 ∧ dy = 0) by omega) with ⟨rfl, rfl⟩ | ⟨rfl, hy0⟩ | ⟨hx0, rfl⟩
                      all_goals
                        go_wp2
                        all_goals
                          go_roundw
                          case rel => exact ⟨j, s', _, _, by omega, rfl, vint (by have := hdx.out; omega), hmv, r1.out, r2.out, hqM.out, r4.out⟩
                          case measure => simp [intOf] <;> omega
                    · have hst2 := stF_hit (wide := false) (Or.inl hA) (hghc.trans hc) (show s'.1 ⟨y.a + dx, y.b + dy⟩ < 0 by omega)
                      have hInv2 := hI.out.1.add (g := gnone) (v := 0) (opn_none (show s'.1 ⟨y.a + dx, y.b + dy⟩ < 0 by omega)) hoc2.out (by omega) (by omega)
                      have hmv := hid (hrel.out _ hst2 hInv2 (by show (s'.2 ++ [_])[k]? = _; rw [List.getElem?_append_left hkl]; exact hI.out.2.2))
                      rw [hgD, decide_eq_false hD] at zn
                      have hne1 : bq ≠ N := fun e => hqM.out (by rw [e]; rfl)
                      have r15 := hid (show Blk (w4.setCell ⟨N, AT, none⟩ (.bool true)) N (gcells (gD (updD s'.1 ⟨y.a + dx, y.b + dy⟩ 0))) 109 from by have h9 := r1.out.set AT (.bool true); have h8 := hset.out; rw [← heAT.out] at h8; rw [h8] at h9; exact h9)
                      have r25 := hid (owns_other r2.out hqM.out AT (.bool true))
                      have r45 := hid (r4.out.setCell (p := ⟨N, AT, none⟩) (Nat.le_of_eq hN.out.symm) (.bool true))
                      have hencE := hid (show encS ⟨y.a + dx, y.b + dy⟩ = [.int .i64 U, .int .i64 V] from by show [Value.int .i64 (y.a + dx + 40), Value.int .i64 (y.b + dy + 40)] = _; rw [show y.a + dx + 40 = U by have := hUV.out.1; omega, show y.b + dy + 40 = V by have := hUV.out.2; omega])
                      clear hc hghc hgD hD hst2 hInv2 hset r1 r2 r4
                      have hsz9 : Hid ((w4.setCell ⟨N, AT, none⟩ (.bool true)).heap.size = w4.heap.size) := by show _ = _; simp [World.setCell]
                      have hNl9 : N < (w4.setCell ⟨N, AT, none⟩ (.bool true)).heap.size := r15.out.lt
                      rcases (show (dx = 0 ∧ dy = 0) ∨ (dx = 0 ∧ ¬ dy = 0) ∨ (¬ dx = 0 ∧ dy = 0) by omega) with ⟨rfl, rfl⟩ | ⟨rfl, hy0⟩ | ⟨hx0, rfl⟩
                      all_goals
                        go_wp2_with (at_builtin; refine wpList_append_own_at _ rfl _ _ 154 rfl N 153 i0 (.agg #[.int .i64 0, .int .i64 0]) 2 16 Try.underlying154 hi hz0 hz1 hz2 rfl (by omega) _ _ _ rfl (r25.out.alloc _) ⟨_, 0, none⟩ 1 1 [.int .i64 U, .int .i64 V] rfl rfl (by have h9 := cells_new (w4.setCell ⟨N, AT, none⟩ (.bool true)) [.int .i64 U, .int .i64 V] 153; rw [hsz9.out] at h9; exact h9) (one_int2 _ _) (len_le (by omega) (by omega)) (by omega) (by have h1 := r45.out.le; have h2 := hN.out; simp at h1 ⊢; omega) ?_; intro v' w6 ho' hg' _ hb'; obtain ⟨qa, ca, rfl⟩ := owns_forms ho'; have t4 := hid ((r45.out.alloc (.cells #[.int .i64 U, .int .i64 V] 153)).grown hg' (fun k hk => by have := (r25.out.lt k hk).1; have := hN.out; omega)); have t5 := hid (ne_new hqM.out hb' (by simp at hNl9 ⊢; omega)); have t1 := hid ((r15.out.alloc (.cells #[.int .i64 U, .int .i64 V] 153)).grown hg' hqM.out); rw [← hencE.out] at ho'; replace ho' := hid ho'; clear hg' hb')
                        all_goals
                          go_roundw
                          case rel => exact ⟨j, _, qa, ca, by omega, by show _ = Value.slice _ (s'.2 ++ [_]).length _; rw [List.length_append]; rfl, vint (by have := hdx.out; omega), hmv, t1.out, by show World.ownsRow _ _ _ _ (Value.slice _ (s'.2 ++ [_]).length _) (s'.2 ++ [_]).length ((s'.2 ++ [_]).flatMap encS); rw [List.length_append, List.flatMap_append]; simpa using ho'.out, by show Value.ownBlock (.slice _ (s'.2 ++ [_]).length _) ≠ _; rw [List.length_append]; exact t5.out, t4.out⟩
                          case measure => simp [intOf] <;> omega
              · have hmv := hid (hrel.out s' (stF_miss (Or.inl ⟨hA, rfl⟩)) hI.out.1 hI.out.2.2)
                have hx0 : ¬ dx = 0 := fun h => hA (Or.inl h)
                have hy0 : ¬ dy = 0 := fun h => hA (Or.inr h)
                clear hA zc zn fz hAT hU hV
                go_wp2
                all_goals
                  go_roundw
                  case rel => exact ⟨j, s', _, _, by omega, rfl, vint (by have := hdx.out; omega), hmv, r1.out, r2.out, hqM.out, r4.out⟩
                  case measure => simp [intOf] <;> omega
    · have hkI : ¬ (k : Int) < (s.2.length : Int) := by omega
      have hfin : Hid (s = floodS c false p) := by show _ = _; rw [← hI.out.2, outF, outE_stop (by omega)]
      replace hd := hid hd
      replace ho := hid ho
      go_wp2
      go_ret
      exact ⟨N, rfl, Nat.le_of_eq hN.out.symm, by rw [floodG, ← hfin.out]; exact hd.out, hE⟩
end Go.Proofs.Ytaigndaabmelhaa

/- The law FnChannel returns true at every code. Condition: none but what a slice's length can be. -/
import Derived.Test.YtiljojpnbpdaeaaChd
import Derived.Test.YtiljojpnbpdaeaaRcm
import Derived.Test.YtiljojpnbpdaeaaRcl
import Derived.Test.YtiljojpnbpdaeaaOpw
namespace Go.Proofs.Ytiljojpnbpdaeaa
open Go.RowKit

set_option maxHeartbeats 400000 in
theorem big_any (q : Option Addr) (n c : Nat) (w : World) :
    Calls Try.prog 16 #[.slice q n c] w fun e w' => e = .returned (.bool (decide (4096 < (n : Int)))) ∧ w = w' := by
  by_cases h : 4096 < (n : Int)
  · go_enter Try.func16, Try.ntmps16
    go_wp2
    go_ret
    exact ⟨ret_bool (by simp [h]), rfl⟩
  · go_enter Try.func16, Try.ntmps16
    go_wp2
    go_ret
    exact ⟨ret_bool (by simp [h]), rfl⟩
theorem IsCh.own2 {w : World} {base b2 : Nat} {q1 q2 : Option Addr} {n m c1 c2 : Nat} {t b : List Int} (hn : n ≤ 1048576) (hm : m ≤ 1048576) (lt : t.length = n) (lb : b.length = m)
    (o1 : w.ownsRow base 2 1 (.slice q1 n c1) n (t.flatMap enc1)) (o2 : w.ownsRow b2 2 1 (.slice q2 m c2) m (b.flatMap enc1)) : IsCh w q1 q2 n m c1 c2 t b := by
  refine ⟨SlT.of_owns enc1_len lt o1, SlT.of_owns enc1_len lb o2, hn, hm, ?_, ?_⟩
  · intro h; subst h
    rcases Joins.ownsRow_forms o1 with ⟨h, _⟩ | ⟨g, c, h⟩
    · cases h; exact ⟨rfl, rfl⟩
    · cases h
  · intro h; subst h
    rcases Joins.ownsRow_forms o2 with ⟨h, _⟩ | ⟨g, c, h⟩
    · cases h; exact ⟨rfl, rfl⟩
    · cases h
set_option maxRecDepth 100000 in
set_option maxHeartbeats 1000000 in
theorem drawRouteChannel_any (q : Option Addr) (n c : Nat) (l : List Int) (w : World) (h : SlT encU 1 w q n l) (hu : ∀ x ∈ l, 0 ≤ x ∧ x ≤ 255) (hn : n ≤ 1048576) :
    Calls Try.prog 17 #[.slice q n c] w fun e w' => ∃ (q1 q2 : Option Addr) (t b : List Int) (c1 c2 : Nat), e = .returned (.agg #[.slice q1 t.length c1, .slice q2 b.length c2]) ∧ t.length ≤ 10 ∧ b.length ≤ 10 ∧ IsCh w' q1 q2 t.length b.length c1 c2 t b ∧ Ext w w' := by
  go_enter Try.func17, Try.ntmps17
  go_wp2_with fail
  generalize hV : World.alloc _ _ = w0
  obtain ⟨E0, z0, b0⟩ := boxes1 hV
  clear hV
  replace b0 := hid (show Blk w0 w.heap.size [_, _] _ from b0)
  replace z0 := hid z0
  refine (from_any q n c l _ (h.ext E0) hu hn).mono ?_
  rintro e w1 ⟨B, rfl, hB, S1, E1⟩
  go_wp2_with fail
  refine (drawChannel_any B _ S1).mono ?_
  rintro e w2 ⟨v1, v2, t, b, rfl, h1, h2, o1, o2, M2⟩
  obtain ⟨q1, c1, rfl⟩ := owns_forms o1
  obtain ⟨q2, c2, rfl⟩ := owns_forms o2
  have E2 : Ext w0 w2 := E1.then M2 (by intro k hk; simp at hk; omega)
  have hR : w.heap.size < w1.heap.size := by have := z0.out; have := E1.le; omega
  have hb := b0.out.ext E2
  have gr := hb.cells
  have fr := hb.free
  have lr := hb.lt
  go_wp2_with fail
  have kB := ((hb.set 0 (.slice q1 t.length c1)).set 1 (.slice q2 b.length c2)).cells
  refine bodyPost_ret (v := .agg #[.slice q1 t.length c1, .slice q2 b.length c2]) (by simp [results, Try.results17, go_sem, kB]) rfl ⟨q1, q2, t, b, c1, c2, rfl, h1, h2, ?_, ((E0.trans E2).setCell (p := ⟨w.heap.size, 0, none⟩) (Nat.le_refl _) _).setCell (p := ⟨w.heap.size, 1, none⟩) (Nat.le_refl _) _⟩
  exact IsCh.own2 (by omega) (by omega) rfl rfl (own_young (own_young o1 hR) hR) (own_young (own_young o2 hR) hR)
def plK (t b : List Int) (k : Nat) : Bool := (List.range k).all fun c => decide (Tn t c = 0) || (decide (Tn b c = 0) || decide (Tn t c = Tn b c))
theorem plK_succ {t b : List Int} {k : Nat} {x y : Int} (hx : t[k]? = some x) (hy : b[k]? = some y) : plK t b (k + 1) = (plK t b k && (decide (x = 0) || (decide (y = 0) || decide (x = y)))) := by
  rw [plK, List.range_succ, List.all_append, plK]; simp [Tn_of hx, Tn_of hy]
set_option maxRecDepth 100000 in
set_option maxHeartbeats 8000000 in
theorem fnChannel_any (q : Option Addr) (n c : Nat) (l : List Int) (w : World) (h : SlT encU 1 w q n l) (hu : ∀ x ∈ l, 0 ≤ x ∧ x ≤ 255) (hm : n ≤ maxLen) :
    Calls Try.prog 4 #[.slice q n c] w fun e w' => e = .returned (.bool true) ∧ Ext w w' := by
  unfold maxLen at hm
  have hbig := big_any q n c w
  go_enter Try.func4, Try.ntmps4
  by_cases hn : 4096 < (n : Int)
  · rw [decide_eq_true hn] at hbig
    go_wp2_with fail
    refine hbig.mono ?_
    rintro e w' ⟨rfl, rfl⟩
    go_wp2_with fail
    go_ret
    exact ⟨rfl, Ext.refl _⟩
  · rw [decide_eq_false hn] at hbig
    go_wp2_with fail
    refine hbig.mono ?_
    clear hbig
    rintro e w' ⟨rfl, rfl⟩
    go_wp2_with fail
    refine (drawRouteChannel_any q n c l _ h hu (by omega)).mono ?_
    rintro e w1 ⟨q1, q2, t, b, c1, c2, rfl, ht, hb, hC, E1⟩
    obtain ⟨nt, hnt⟩ : ∃ N, N = t.length := ⟨_, rfl⟩
    obtain ⟨nb, hnb⟩ : ∃ N, N = b.length := ⟨_, rfl⟩
    rw [← hnt] at hC ht ⊢
    rw [← hnb] at hC hb ⊢
    replace hnt := hid hnt
    replace hnb := hid hnb
    replace hu := hid hu
    go_upto_region 4 with (fail)
    generalize hV : World.alloc _ _ = w2
    obtain ⟨E2, z2, b2⟩ := boxes1 hV
    clear hV z2
    replace b2 := hid (show Blk w2 w1.heap.size [_, _] _ from b2)
    replace hC := hid (hC.ext E2)
    replace E1 := hid (E1.trans E2)
    clear E2
    have gk := b2.out.cells
    have gl := b2.out.lt
    go_wp2_with fail
    refine (RouteChannel_any q1 q2 nt nb c1 c2 t b _ hC.out).mono ?_
    clear gk gl
    rintro e w3 (⟨hok, rfl, E3⟩ | ⟨hok, hno, rfl, E3⟩ | ⟨R, qR, cR, hok, hR, rfl, oR, E3⟩)
    · have gk := (b2.out.ext E3).cells
      have gl := (b2.out.ext E3).lt
      have hd : Hid (denR t b = -1) := by show _ = _; rw [denR, hok]; rfl
      have hcall := ChannelDensity_any q1 q2 nt nb c1 c2 t b w3 (hC.out.ext E3)
      rw [hd.out] at hcall
      replace hcall := hid hcall
      go_wp2_with (go_at_call 18; refine hcall.out.mono ?_; rintro e w4 ⟨rfl, E4⟩)
      go_ret
      exact ⟨rfl, E1.out.trans (E3.trans E4)⟩
    · have gk := (b2.out.ext E3).cells
      have gl := (b2.out.ext E3).lt
      have hd : Hid (denR t b = denK (spansL t b) t.length) := by show _ = _; rw [denR, hok]; rfl
      have hcall := ChannelDensity_any q1 q2 nt nb c1 c2 t b w3 (hC.out.ext E3)
      rw [hd.out] at hcall
      replace hcall := hid hcall
      have hbd := denK_bd (spansL t b) t.length
      generalize denK (spansL t b) t.length = D at hcall hbd
      have e1 : (D == -1) = false := by simp; omega
      go_wp2_with (go_at_call 18; refine hcall.out.mono ?_; rintro e w4 ⟨rfl, E4⟩)
      go_ret
      exact ⟨rfl, E1.out.trans (E3.trans E4)⟩
    · have gk := (b2.out.ext E3).cells
      have gl := (b2.out.ext E3).lt
      have hd : Hid (denR t b = denK (spansL t b) t.length) := by show _ = _; rw [denR, hok]; rfl
      have hcall := ChannelDensity_any q1 q2 nt nb c1 c2 t b w3 (hC.out.ext E3)
      rw [hd.out] at hcall
      replace hcall := hid hcall
      have hbd := denK_bd (spansL t b) t.length
      have hlow := hid (den_le hR)
      have hfew := hid (fun hp => few_tracks hok hp hR)
      have hleg := hid ((isCR_same t b R).1 (rcR_legal hok hR))
      have hlR : R.length ≤ 12 := by have := rcR_len hR; have := spansK_len t b t.length 12; unfold spansL at *; omega
      generalize denK (spansL t b) t.length = D at hcall hbd hlow hfew
      have sR := hid (SlT.of_owns enc1_len rfl oR)
      obtain ⟨N, hN⟩ : ∃ N, N = R.length := ⟨_, rfl⟩
      rw [← hN] at sR hlR ⊢
      replace hN := hid hN
      replace hok := hid hok
      replace hR := hid hR
      clear oR hd
      go_wp2_with (go_at_call 18; refine hcall.out.mono ?_; rintro e w4 ⟨rfl, E4⟩)
      replace sR := hid (sR.out.ext E4)
      replace b2 := hid (b2.out.ext (E3.trans E4))
      replace hC := hid (hC.out.ext (E3.trans E4))
      replace E1 := hid (E1.out.trans (E3.trans E4))
      clear E3 E4 gk gl hcall
      go_loop [7, 8] (fun m i => ∃ k : Nat, k ≤ N ∧ i = .int .i64 k ∧ m = .int .i64 (mxK R k)) (fun _ i => N - (intOf i).toNat)
      case atStart => exact ⟨0, by omega, rfl, rfl⟩
      case round =>
        obtain ⟨k, hk, rfl, rfl⟩ := hrel
        by_cases hkN : k < N
        · have hkI : (k : Int) < N := by omega
          obtain ⟨B1, o1, x, rfl, hb1, hx, x0⟩ := sR.out.int hkN
          have hs := hid (mxK_succ hx.out)
          go_wp2
          go_round
          case rel => exact ⟨k + 1, by omega, by go_num, by rw [hs.out]; first | rfl | (congr 1; omega)⟩
          case measure => simp [intOf]; omega
        · obtain rfl : k = N := by omega
          have hmx : Hid (mxK R k = mxL R) := by show _ = _; rw [mxL, hN.out]
          rw [hmx.out]
          generalize mxL R = M at hlow hfew
          have gk := b2.out.cells
          have gl := b2.out.lt
          go_wp2
          clear gk gl
          go_loopw [9, 10] (fun p i wr => ∃ j : Nat, j ≤ nt ∧ i = .int .i64 j ∧ p = .bool (plK t b j) ∧ Ext w4 wr) (fun _ i _ => nt - (intOf i).toNat)
          case atStart => exact ⟨0, by omega, rfl, rfl, Ext.refl _⟩
          case round =>
            obtain ⟨j, hj, rfl, rfl, hE⟩ := hrel
            have gk := (b2.out.ext hE).cells
            have gl := (b2.out.ext hE).lt
            have hl := chOk_len hok.out
            have hnn : nt = nb := by have := hnt.out; have := hnb.out; omega
            by_cases hjn : j < nt
            · have hjI : (j : Int) < nt := by omega
              have hjb : j < nb := by omega
              obtain ⟨B1, o1, x, rfl, hb1, hx, x0⟩ := (hC.out.top.ext hE).int hjn
              obtain ⟨B2, o2, y, rfl, hb2, hy, y0⟩ := (hC.out.bot.ext hE).int hjb
              have hsu := hid (plK_succ hx.out hy.out)
              have hjbI : (j : Int) < nb := by omega
              cases hpk : plK t b j with
              | false =>
                have hnx : Hid (plK t b (j + 1) = false) := by show _ = _; rw [hsu.out]; rw [hpk]; rfl
                clear hsu
                go_wp2_with fail
                refine wp_region_later (by kernel_rfl) (by kernel_rfl) ?_
                repeat (go_big_quiet_step (fail))
                refine wpQuiet_nil ?_
                rintro w7 ⟨⟨_, h7⟩, rfl⟩
                go_wp2
                go_roundw
                case rel => exact ⟨j + 1, by omega, by go_num, by rw [hnx.out], hE.trans h7⟩
                case measure => simp [intOf]; omega
              | true =>
                by_cases hx0 : x = 0
                · have e1 : (x == 0) = true := by simp [hx0]
                  have hnx : Hid (plK t b (j + 1) = true) := by show _ = _; rw [hsu.out]; rw [hpk]; simp [hx0]
                  replace hx0 := hid hx0
                  go_wp2_with fail
                  refine wp_region_later (by kernel_rfl) (by kernel_rfl) ?_
                  repeat (go_big_quiet_step (fail))
                  refine wpQuiet_nil ?_
                  rintro w7 ⟨⟨_, h7⟩, rfl⟩
                  go_wp2
                  go_roundw
                  case rel => exact ⟨j + 1, by omega, by go_num, by rw [hnx.out], hE.trans h7⟩
                  case measure => simp [intOf]; omega
                · have e1 : (x == 0) = false := by simp [hx0]
                  by_cases hy0 : y = 0
                  · have e2 : (y == 0) = true := by simp [hy0]
                    have hnx : Hid (plK t b (j + 1) = true) := by show _ = _; rw [hsu.out]; rw [hpk]; simp [hy0]
                    replace hx0 := hid hx0
                    replace hy0 := hid hy0
                    go_wp2_with fail
                    refine wp_region_later (by kernel_rfl) (by kernel_rfl) ?_
                    repeat (go_big_quiet_step (fail))
                    refine wpQuiet_nil ?_
                    rintro w7 ⟨⟨_, h7⟩, rfl⟩
                    go_wp2
                    go_roundw
                    case rel => exact ⟨j + 1, by omega, by go_num, by rw [hnx.out], hE.trans h7⟩
                    case measure => simp [intOf]; omega
                  · have e2 : (y == 0) = false := by simp [hy0]
                    by_cases hxy : x = y
                    · have e3 : (x == y) = true := by simp [hxy]
                      have hnx : Hid (plK t b (j + 1) = true) := by show _ = _; rw [hsu.out]; rw [hpk]; simp [hxy]
                      replace hx0 := hid hx0
                      replace hy0 := hid hy0
                      replace hxy := hid hxy
                      go_wp2_with fail
                      refine wp_region_later (by kernel_rfl) (by kernel_rfl) ?_
                      repeat (go_big_quiet_step (fail))
                      refine wpQuiet_nil ?_
                      rintro w7 ⟨⟨_, h7⟩, rfl⟩
                      go_wp2
                      go_roundw
                      case rel => exact ⟨j + 1, by omega, by go_num, by rw [hnx.out], hE.trans h7⟩
                      case measure => simp [intOf]; omega
                    · have e3 : (x == y) = false := by simp [hxy]
                      have hnx : Hid (plK t b (j + 1) = false) := by show _ = _; rw [hsu.out]; rw [hpk]; simp [hx0, hy0, hxy]
                      replace hx0 := hid hx0
                      replace hy0 := hid hy0
                      replace hxy := hid hxy
                      go_wp2_with fail
                      refine wp_region_later (by kernel_rfl) (by kernel_rfl) ?_
                      repeat (go_big_quiet_step (fail))
                      refine wpQuiet_nil ?_
                      rintro w7 ⟨⟨_, h7⟩, rfl⟩
                      go_wp2
                      go_roundw
                      case rel => exact ⟨j + 1, by omega, by go_num, by rw [hnx.out], hE.trans h7⟩
                      case measure => simp [intOf]; omega
            · obtain rfl : j = nt := by omega
              have hpl : Hid (plK t b j = plB t b) := by show _ = _; rw [plB, plK, hnt.out]
              rw [hpl.out]
              have hcr := IsChannelRouting_any q1 q2 qR j nb c1 c2 k cR t b R wr (hC.out.ext hE) (sR.out.ext hE) (by omega)
              generalize plB t b = pl at hfew
              have e0 : ¬ (M < D) := by have := hlow.out; omega
              have e0' : D ≤ M := hlow.out
              replace hcr := hid hcr
              clear hnn hjn e0
              cases pl with
              | false =>
                go_wp2_with fail
                refine hcr.out.mono ?_
                rintro e w5 ⟨r, rfl, hr, E5⟩
                obtain rfl : r = true := hr.2 hleg.out
                clear hr hcr
                go_wp2_with fail
                go_ret
                exact ⟨rfl, E1.out.trans (hE.trans E5)⟩
              | true =>
                have e1 : (M == D) = true := by have := hlow.out; have := hfew.out rfl; simp; omega
                go_wp2_with fail
                refine hcr.out.mono ?_
                rintro e w5 ⟨r, rfl, hr, E5⟩
                obtain rfl : r = true := hr.2 hleg.out
                clear hr hcr
                go_wp2_with fail
                go_ret
                exact ⟨rfl, E1.out.trans (hE.trans E5)⟩
end Go.Proofs.Ytiljojpnbpdaeaa

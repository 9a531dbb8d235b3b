/- Contracts of the closures of RouteChannel: place, the comparison, free. Condition: a valid channel. -/
import Derived.Test.YtiljojpnbpdaeaaRcs
import Derived.Deep.Cut
namespace Go.Proofs.Ytiljojpnbpdaeaa
open Go.RowKit

set_option maxRecDepth 100000 in
set_option maxHeartbeats 1000000 in
theorem placeEq_any (x : Q3) (net : Int) (B : Nat) (W : World) (hb : Blk W B [.int .i64 net] 2) :
    Calls Try.prog 39 #[.agg #[.int .i64 x.a, .int .i64 x.b, .int .i64 x.c], .pointer (some ⟨B, 0, none⟩)] W fun e w' => e = .returned (.bool (x.a == net)) ∧ Ext W w' := by
  go_enter Try.func39, Try.ntmps39
  go_upto_region 1 with (fail)
  generalize hW : W.alloc _ = W0
  obtain ⟨E0, z0, b0⟩ := boxes1 hW
  clear hW z0
  have g0 := (show Blk W0 W.heap.size [_, _, _] _ from b0).cells
  have l0 := (show Blk W0 W.heap.size [_, _, _] _ from b0).lt
  have g1 := (hb.ext E0).cells
  have l1 := (hb.ext E0).lt
  clear b0
  go_wp2
  go_ret
  exact ⟨rfl, E0⟩
set_option maxRecDepth 100000 in
set_option maxHeartbeats 1000000 in
theorem place_any (q : Option Addr) (N c : Nat) (S : List Q3) (net : Int) (bl : Nat) (W : World) (hS : SlT enc3 3 W q N S) (hb : Blk W bl [.slice q N c] 73) (hN : N ≤ 12) :
    Calls Try.prog 37 #[.int .i64 net, .pointer (some ⟨bl, 0, none⟩)] W fun e w' => e = .returned (.int .i64 (plI S net)) ∧ Ext W w' := by
  go_enter Try.func37, Try.ntmps37
  go_upto_region 1 with (fail)
  generalize hW : W.alloc _ = W0
  obtain ⟨E0, z0, b0⟩ := boxes1 hW
  clear hW z0
  have b0 := hid (show Blk W0 W.heap.size [_] _ from b0)
  have g1 := (hb.ext E0).cells
  have l1 := (hb.ext E0).lt
  have hp : Hid (PredN 39 #[.pointer (some ⟨W.heap.size, 0, none⟩)] (fun s => s.a == net) W0) := fun V x hV => placeEq_any x net W.heap.size V (b0.out.ext hV)
  go_wp2_with (go_at_call 38; refine (indexFuncN_any q N c S (fun s => s.a == net) 39 _ (enters_of Try.func39 (by kernel_rfl) rfl) _ (hS.ext E0) hp.out (by omega)).mono ?_; rintro e w2 ⟨rfl, E2⟩)
  go_ret
  exact ⟨rfl, E0.trans E2⟩
set_option maxRecDepth 100000 in
set_option maxHeartbeats 1000000 in
theorem cmpLeft_any (q : Option Addr) (n c : Nat) (l : List Q3) (bx : Nat) (W : World) (h : SlT enc3 3 W q n l) (hb : Blk W bx [.slice q n c] 73) (i k : Nat) (hi : i < n) (hk : k < n) :
    Calls Try.prog 41 #[.int .i64 i, .int .i64 k, .pointer (some ⟨bx, 0, none⟩)] W fun e w' => e = .returned (.int .i64 (cfL l i k)) ∧ Ext W w' := by
  have g := hb.cells
  have gl := hb.lt
  obtain ⟨b, off, x, rfl, hbl, hx, x0, x1, x2⟩ := h.three hi
  obtain ⟨b', off', y, e, hbl', hy, y0, y1, y2⟩ := h.three hk
  cases e
  have hr : Hid (cmpI x.b y.b = cfL l i k) := by show _ = _; rw [cfL, Int.toNat_natCast, Int.toNat_natCast, Sb_of hx.out, Sb_of hy.out]
  have hiI : (i : Int) < n := by omega
  have hkI : (k : Int) < n := by omega
  go_enter Try.func41, Try.ntmps41
  go_wp2_with fail
  refine wp_region_later (by kernel_rfl) (by kernel_rfl) ?_
  repeat (go_big_quiet_step ((go_at_call 42; exact later_same (compare_any _ _ _))))
  refine wpQuiet_nil ?_
  rintro w7 ⟨⟨_, h7⟩, rfl⟩
  go_wp2
  go_ret
  exact ⟨ret_int hr.out, h7⟩
theorem badC_y {S : List Q3} {T : List Int} {k i : Nat} {tr x y z : Int} {s : Q3} (h1 : x ≠ 0) (h2 : x ≠ y) (hs : Sb S k = s) (h3 : y = s.a) (hi : plI S x = i) (hz : Tn T i = z) : badC S T k tr x y = (decide (z = 0) || decide (tr ≤ z)) := by
  rw [badC, hi, Int.toNat_natCast, hz, hs]
  have e1 : (x != 0) = true := by simpa using h1
  have e2 : (x != y) = true := by simpa using h2
  have e3 : (y == s.a) = true := by simpa using h3
  rw [e1, e2, e3]; rfl
theorem badC_n {S : List Q3} {T : List Int} {k : Nat} {tr x y : Int} {s : Q3} (hs : Sb S k = s) (h : x = 0 ∨ x = y ∨ y ≠ s.a) : badC S T k tr x y = false := by
  rw [badC, hs]
  rcases h with h | h | h
  · simp [h]
  · simp [h]
  · simp [h]
set_option maxRecDepth 100000 in
set_option maxHeartbeats 8000000 in
theorem free_any (p1 p2 q : Option Addr) (n c1 c2 N c g d bc bl bt bp : Nat) (t b : List Int) (T : List Int) (k : Nat) (tr : Int) (w : World) (hok : chOk t b = true) (h1 : SlT enc1 1 w p1 n t) (h2 : SlT enc1 1 w p2 n b) (hS : SlT enc3 3 w q N (spansL t b)) (hT : SlT enc1 1 w (some ⟨g, 0, none⟩) N T)
    (hbc : Blk w bc [.slice p1 n c1, .slice p2 n c2] 28) (hbl : Blk w bl [.slice q N c] 73) (hbt : Blk w bt [.slice (some ⟨g, 0, none⟩) N d] 22) (hbp : Blk w bp [.func (.func 37) #[] #[.pointer (some ⟨bl, 0, none⟩)]] 81)
    (hk : k < N) (hN : N ≤ 12) (hn : n ≤ 16) :
    Calls Try.prog 43 #[.int .i64 k, .int .i64 tr, .pointer (some ⟨bc, 0, none⟩), .pointer (some ⟨bl, 0, none⟩), .pointer (some ⟨bt, 0, none⟩), .pointer (some ⟨bp, 0, none⟩)] w fun e w' => e = .returned (.bool (freeB t b (spansL t b) T k tr)) ∧ Ext w w' := by
  rw [← free_eq hok]
  have lS := hid hS.length
  have lt := hid h1.length
  have hkI : (k : Int) < N := by omega
  have hpl : Hid (∀ (c : Nat) (x y : Int), t[c]? = some x → b[c]? = some y → x ≠ 0 → ∃ i : Nat, plI (spansL t b) x = i ∧ i < N) := fun c x y hx hy h0 => by
    obtain ⟨i, hi, hil, _⟩ := plI_col hok hx hy h0
    exact ⟨i, hi, by rw [← lS.out]; exact hil⟩
  replace hok := hid hok
  generalize spansL t b = S at hS lS hpl ⊢
  have gc := hbc.cells
  have lc := hbc.lt
  go_enter Try.func43, Try.ntmps43
  go_wp2
  clear gc lc
  go_loopw [9, 10, 11, 12, 16] (fun _ _ _ _ i wr => ∃ j : Nat, j ≤ n ∧ i = .int .i64 j ∧ Ext w wr ∧ Hid (freeK t b S T k tr j = true)) (fun _ _ _ _ i _ => n - (intOf i).toNat)
  case atStart => exact ⟨0, by omega, rfl, Ext.refl _, rfl⟩
  case round =>
    obtain ⟨j, hj, rfl, hE, hR⟩ := hrel
    by_cases hlt : j < n
    · have hltI : (j : Int) < n := by omega
      obtain ⟨B1, o1, x, rfl, hb1, hx, x0⟩ := (h1.ext hE).int hlt
      obtain ⟨B2, o2, y, rfl, hb2, hy, y0⟩ := (h2.ext hE).int hlt
      obtain ⟨B3, o3, s, rfl, hb3, hs, s0, _, _⟩ := (hS.ext hE).three hk
      have gc := (hbc.ext hE).cells
      have lc := (hbc.ext hE).lt
      have gl := (hbl.ext hE).cells
      have ll := (hbl.ext hE).lt
      have hsu := hid (freeK_succ (S := S) (T := T) (k := k) (tr := tr) hx.out hy.out)
      have hsb := hid (Sb_of hs.out)
      by_cases hx0 : x = 0
      · have e1 : (x == 0) = true := by simp [hx0]
        have hnx : Hid (freeK t b S T k tr (j + 1) = true) := by show _ = _; rw [hsu.out, hR.out, badC_n hsb.out (Or.inl hx0)]; rfl
        replace hx0 := hid hx0
        go_wp2
        go_roundw
        case rel => exact ⟨j + 1, by omega, by go_num, hE, hnx⟩
        case measure => simp [intOf]; omega
      · have e1 : (x == 0) = false := by simp [hx0]
        by_cases hxy : x = y
        · have e2 : (x == y) = true := by simp [hxy]
          have hnx : Hid (freeK t b S T k tr (j + 1) = true) := by show _ = _; rw [hsu.out, hR.out, badC_n hsb.out (Or.inr (Or.inl hxy))]; rfl
          replace hxy := hid hxy
          replace hx0 := hid hx0
          go_wp2
          go_roundw
          case rel => exact ⟨j + 1, by omega, by go_num, hE, hnx⟩
          case measure => simp [intOf]; omega
        · have e2 : (x == y) = false := by simp [hxy]
          by_cases hys : y = s.a
          · have e3 : (y != s.a) = false := by simp [hys]
            obtain ⟨i, hi, hil⟩ := hpl.out j x y hx.out hy.out hx0
            have hilI : (i : Int) < N := by omega
            obtain ⟨B4, o4, z, hp4, hb4, hz, z0⟩ := (hT.ext hE).int hil
            cases hp4
            rw [Nat.zero_add] at z0
            have hcall : ∀ p : Later wr, Calls Try.prog 37 #[.int .i64 x, .pointer (some ⟨bl, 0, none⟩)] p.val fun e w' => e = .returned (.int .i64 i) ∧ Ext p.val w' := fun p => by rw [← hi]; exact place_any _ N c S x bl _ ((hS.ext hE).ext p.ok) ((hbl.ext hE).ext p.ok) hN
            have hbad := hid (badC_y (tr := tr) hx0 hxy hsb.out hys hi (Tn_of hz.out))
            have gt := (hbt.ext hE).cells
            have ltt := (hbt.ext hE).lt
            obtain ⟨G, hG⟩ : ∃ G, G = 37 := ⟨_, rfl⟩
            have eg : ∀ args w, (callFunc G args).run Try.prog w = .ok (.enter G args) w := by rw [hG]; exact enters_of Try.func37 (by kernel_rfl) rfl
            have gp := (hbp.ext hE).cells
            rw [← hG] at gp hcall
            replace hG := hid hG
            have lp := (hbp.ext hE).lt
            replace hxy := hid hxy
            replace hx0 := hid hx0
            replace hys := hid hys
            replace hi := hid hi
            by_cases hz0 : z = 0
            · have e4 : (z == 0) = true := by simp [hz0]
              have hno : Hid (false = freeK t b S T k tr t.length) := (freeK_no hx.out hy.out (by rw [lt.out]; omega) (by rw [hbad.out]; simp [hz0])).symm
              replace hz0 := hid hz0
              go_wp2_with fail
              refine wp_region_later (by kernel_rfl) (by kernel_rfl) ?_
              repeat (go_big_quiet_step ((go_at_fn G; exact later_of (hcall _))))
              refine wpQuiet_nil ?_
              rintro w7 ⟨⟨_, h7⟩, rfl⟩
              go_wp2
              go_ret
              exact ⟨ret_bool hno.out, hE.trans h7⟩
            · have e4 : (z == 0) = false := by simp [hz0]
              by_cases htz : tr ≤ z
              · have hno : Hid (false = freeK t b S T k tr t.length) := (freeK_no hx.out hy.out (by rw [lt.out]; omega) (by rw [hbad.out]; simp [htz])).symm
                replace hz0 := hid hz0
                go_wp2_with fail
                refine wp_region_later (by kernel_rfl) (by kernel_rfl) ?_
                repeat (go_big_quiet_step ((go_at_fn G; exact later_of (hcall _))))
                refine wpQuiet_nil ?_
                rintro w7 ⟨⟨_, h7⟩, rfl⟩
                go_wp2
                go_ret
                exact ⟨ret_bool hno.out, hE.trans h7⟩
              · have hnx : Hid (freeK t b S T k tr (j + 1) = true) := by show _ = _; rw [hsu.out, hR.out, hbad.out]; simp [hz0, htz]
                replace hz0 := hid hz0
                go_wp2_with fail
                refine wp_region_later (by kernel_rfl) (by kernel_rfl) ?_
                repeat (go_big_quiet_step ((go_at_fn G; exact later_of (hcall _))))
                refine wpQuiet_nil ?_
                rintro w7 ⟨⟨_, h7⟩, rfl⟩
                go_wp2
                go_roundw
                case rel => exact ⟨j + 1, by omega, by go_num, hE.trans h7, hnx⟩
                case measure => simp [intOf]; omega
          · have e3 : (y != s.a) = true := by simp [hys]
            have hnx : Hid (freeK t b S T k tr (j + 1) = true) := by show _ = _; rw [hsu.out, hR.out, badC_n hsb.out (Or.inr (Or.inr hys))]; rfl
            replace hxy := hid hxy
            replace hx0 := hid hx0
            replace hys := hid hys
            go_wp2
            go_roundw
            case rel => exact ⟨j + 1, by omega, by go_num, hE, hnx⟩
            case measure => simp [intOf]; omega
    · obtain rfl : j = n := by omega
      have hr : Hid (true = freeK t b S T k tr t.length) := by show _ = _; rw [lt.out]; exact hR.out.symm
      go_wp2_with fail
      go_ret
      exact ⟨ret_bool hr.out, hE⟩
end Go.Proofs.Ytiljojpnbpdaeaa

/- The reference's decimal form of a number of at most nine digits. Condition: at most nine digits. -/
import Derived.Test.YtncmhefendhinaaGreatDoorVnu
import Derived.Test.YtncmhefendhinaaGreatDoorSpl
import Derived.Laws.IdiomStrings
namespace Go.Proofs.YtncmhefendhinaaGreatDoor
open Go.RowKit Go.PlainAid Go.Lib

def cU (c : UInt8) : Value := .int .u8 c.toNat
theorem info_U8 : (Tryz.prog.info? 5).map (fun i => (i.zero, i.size, i.bytes)) = some (some (.int .u8 0), 1, 1) := by kernel_rfl
/-- What is left, and the digits that are laid. -/
def DgI (u q : Nat) (D : List UInt8) : Prop := (q = 0 ∧ D = decDigits u) ∨ (0 < q ∧ decDigits u = decDigits q ++ D)
theorem DgI.start {u : Nat} (h : 0 < u) : DgI u u [] := Or.inr ⟨h, by simp⟩
theorem DgI.step {u q : Nat} {D : List UInt8} (h : DgI u q D) (hq : 0 < q) : DgI u (q / 10) (UInt8.ofNat (48 + q % 10) :: D) := by
  rcases h with ⟨h0, _⟩ | ⟨_, h⟩
  · omega
  · by_cases h10 : q < 10
    · left
      refine ⟨by omega, ?_⟩
      rw [h, decDigits, dif_pos h10, Nat.mod_eq_of_lt h10]; rfl
    · right
      refine ⟨by omega, ?_⟩
      rw [h, decDigits, dif_neg h10, List.append_assoc]; rfl
theorem DgI.len {u q : Nat} {D : List UInt8} (h : DgI u q D) (hu : u ≤ 999999999) : D.length ≤ 9 := by
  have := decDigits_len9 hu
  rcases h with ⟨_, h⟩ | ⟨_, h⟩
  · rw [h]; exact this
  · rw [h, List.length_append] at this; omega

theorem cU_dg {r : Nat} (h : r < 10) : cU (UInt8.ofNat (48 + r)) = .int .u8 (48 + (r : Int)) := by
  rw [cU, dg_nat h]; simp
theorem one_u8 (l : List UInt8) : ∀ u ∈ l.map cU, u.oneCell' = true := fun u hu => by
  obtain ⟨c, _, rfl⟩ := List.mem_map.1 hu
  rfl
theorem own_news {w : World} {base g n c : Nat} {e : TypeId} {xs : List Value} (h : w.ownsRow base e 1 (.slice (some ⟨g, 0, none⟩) n c) n xs) (hx : xs.length = n) : ∀ j u, xs[j]? = some u → w.cell? ((⟨g, 0, none⟩ : Addr).add j) = some u := fun j u hu => by
  rw [Addr.add_lit, Nat.zero_add, h.cellAt j (by have := (List.getElem?_eq_some_iff.1 hu).1; omega)]
  exact hu
theorem own_pos {w : World} {base n : Nat} {e : TypeId} {v : Value} {xs : List Value} (h : w.ownsRow base e 1 v n xs) (hn : 0 < n) : ∃ g c, v = .slice (some ⟨g, 0, none⟩) n c := by
  rcases Joins.ownsRow_forms h with ⟨rfl, h0⟩ | ⟨g, c, rfl⟩
  · omega
  · exact ⟨g, c, rfl⟩
theorem own_str {w : World} {base g n c : Nat} {e : TypeId} {l : List UInt8} (h : w.ownsRow base e 1 (.slice (some ⟨g, 0, none⟩) n c) n (l.map cU)) (hl : l.length = n) : ∀ j (hj : j < l.length), w.cell? ((⟨g, 0, none⟩ : Addr).add j) = some (.int .u8 (l[j].toNat : Int)) := fun j hj => by
  rw [Addr.add_lit, Nat.zero_add, h.cellAt j (by omega), List.getElem?_map, List.getElem?_eq_getElem hj]
  rfl

set_option maxRecDepth 100000 in
set_option maxHeartbeats 4000000 in
theorem rNum_pos (u : Nat) (hu : u ≤ 999999999) (h1 : 1 ≤ u) (w : World) :
    Calls Tryz.prog 95 #[.int .i64 (u : Int)] w fun e w' => e = .returned (.string ⟨(itoa (u : Int)).toArray⟩) ∧ Ext w w' := by
  obtain ⟨i0, hi, hz0, hz1, hz2⟩ := info_parts info_U8
  have hn0 : ¬ ((u : Int) = 0) := by omega
  have hnB : ((u : Int) == 0) = false := by simpa using hn0
  have hu1 : (u : Int) ≤ 999999999 := by omega
  have hu2 : (1 : Int) ≤ u := by omega
  go_enter Tryz.func95, Tryz.ntmps95
  go_upto_region 4 with (fail)
  have ho0 : (w.alloc (.cells #[] 5)).ownsRow w.heap.size 5 1 (.slice (some ⟨w.heap.size, 0, none⟩) 0 0) 0 [] := World.ownsRow_lit (base := w.heap.size) (e := 5) (size := 1) w #[] 0 (Nat.le_refl _) (by simp [maxLen]) (by simp)
  generalize hW : w.alloc _ = W0 at ho0 ⊢
  have E0 : Ext w W0 := by rw [← hW]; exact (Ext.refl _).alloc _
  clear hW
  replace ho0 := hid ho0
  replace E0 := hid E0
  go_wp2_with (fail)
  go_loopw [3, 4, 5] (fun v m _ wr => ∃ (q : Nat) (D : List UInt8) (g c : Nat), q ≤ 999999999 ∧ m = .int .i64 (q : Int) ∧ v = .slice (some ⟨g, 0, none⟩) D.length c ∧ Hid (DgI u q D) ∧ Hid (wr.ownsRow w.heap.size 5 1 (.slice (some ⟨g, 0, none⟩) D.length c) D.length (D.map cU)) ∧ Hid (Ext w wr)) (fun _ m _ _ => (intOf m).natAbs)
  case atStart => exact ⟨u, [], _, _, hu, rfl, rfl, DgI.start (by omega), ho0, E0⟩
  case round =>
    clear ho0 E0
    obtain ⟨q, D, g, c, hq, rfl, rfl, hd, ho, hE⟩ := hrel
    by_cases hq0 : q = 0
    · have hDu : Hid (D = decDigits u) := by
        show _ = _
        rcases hd.out with ⟨_, h⟩ | ⟨h, _⟩
        · exact h
        · omega
      subst hq0
      have hcv := run_convert_bytes_back (P := Tryz.prog) wr 144 9 5 ⟨g, 0, none⟩ c D Tryz.underlying144 Tryz.underlying5 Tryz.underlying9 (own_str ho.out rfl)
      have hi9 := hid (itoa_nonneg u)
      go_wp2_with (fail)
      go_ret
      exact ⟨by rw [hi9.out, ← hDu.out]; rfl, hE.out⟩
    · have hq1 : (1 : Int) ≤ q := by omega
      have hq9 : (q : Int) ≤ 999999999 := by omega
      have hqn : ¬ ((q : Int) = 0) := by omega
      have hqB : ((q : Int) == 0) = false := by simpa using hqn
      obtain ⟨r, hr⟩ : ∃ r : Nat, (q : Int) % 10 = r := ⟨q % 10, by omega⟩
      have hrq : Hid (q % 10 = r) := by show _ = _; omega
      have hr10 : (r : Int) ≤ 9 := by omega
      have hr0 : ¬ ((r : Int) < 0) := by omega
      have hD := hid (hd.out.len hu)
      have hle := hid hE.out.le
      have hdl := hD.out
      have hdn := hid (hd.out.step (show 0 < q by omega))
      go_wp2_with (first | (at_builtin; ((with_reducible refine at_dst2 25 ?_)); refine wpList_append_own_at _ rfl _ _ 144 rfl w.heap.size 5 i0 (.int .u8 0) 1 1 Tryz.underlying144 hi hz0 hz1 hz2 rfl (by omega) _ 1 [.int .u8 (48 + (r : Int))] rfl (World.ownsRow_lit (base := w.heap.size) (e := 5) (size := 1) wr #[.int .u8 (48 + (r : Int))] 1 hle.out (by simp [maxLen]) (by simp)) ⟨g, 0, none⟩ D.length c (D.map cU) rfl (by simp) (own_news (ho.out.alloc _) (by simp)) (one_u8 _) (len_m (by omega) (by omega)) (by omega) (by simp; have := hle.out; omega) ?_; intro v' wA hoA hgA hnA hbA; obtain ⟨g2, c2, rfl⟩ := own_pos hoA (by omega); replace hoA := hid hoA; replace hgA := hid hgA; clear hnA hbA))
      go_roundw
      case rel =>
        refine ⟨q / 10, UInt8.ofNat (48 + q % 10) :: D, g2, c2, by omega, by first | rfl | (congr 1; omega), ?_, hdn, ?_, ?_⟩
        · rw [List.length_cons, Nat.add_comm]
        · show wA.ownsRow _ _ _ _ _ _
          have h9 := hoA.out
          rw [List.map_cons, hrq.out, cU_dg (by omega), List.length_cons]
          rw [Nat.add_comm] at h9
          exact h9
        · exact (hE.out.alloc _).grown hgA.out (fun k hk => by have h1 := Option.some.inj (show some wr.heap.size = some k from hk); have := hle.out; omega)
      case measure => simp [intOf]; omega

set_option maxRecDepth 100000 in
set_option maxHeartbeats 4000000 in
theorem rNum_neg (u : Nat) (hu : u ≤ 999999999) (h1 : 1 ≤ u) (w : World) :
    Calls Tryz.prog 95 #[.int .i64 (-(u : Int))] w fun e w' => e = .returned (.string ⟨(itoa (-(u : Int))).toArray⟩) ∧ Ext w w' := by
  obtain ⟨i0, hi, hz0, hz1, hz2⟩ := info_parts info_U8
  have hn0 : ¬ ((-(u : Int)) = 0) := by omega
  have hnB : ((-(u : Int)) == 0) = false := by simpa using hn0
  have hu1 : (u : Int) ≤ 999999999 := by omega
  have hu2 : (1 : Int) ≤ u := by omega
  go_enter Tryz.func95, Tryz.ntmps95
  go_upto_region 4 with (fail)
  have ho0 : (w.alloc (.cells #[] 5)).ownsRow w.heap.size 5 1 (.slice (some ⟨w.heap.size, 0, none⟩) 0 0) 0 [] := World.ownsRow_lit (base := w.heap.size) (e := 5) (size := 1) w #[] 0 (Nat.le_refl _) (by simp [maxLen]) (by simp)
  generalize hW : w.alloc _ = W0 at ho0 ⊢
  have E0 : Ext w W0 := by rw [← hW]; exact (Ext.refl _).alloc _
  clear hW
  replace ho0 := hid ho0
  replace E0 := hid E0
  go_wp2_with (fail)
  go_loopw [3, 4, 5] (fun v m _ wr => ∃ (q : Nat) (D : List UInt8) (g c : Nat), q ≤ 999999999 ∧ m = .int .i64 (-(q : Int)) ∧ v = .slice (some ⟨g, 0, none⟩) D.length c ∧ Hid (DgI u q D) ∧ Hid (wr.ownsRow w.heap.size 5 1 (.slice (some ⟨g, 0, none⟩) D.length c) D.length (D.map cU)) ∧ Hid (Ext w wr)) (fun _ m _ _ => (intOf m).natAbs)
  case atStart => exact ⟨u, [], _, _, hu, rfl, rfl, DgI.start (by omega), ho0, E0⟩
  case round =>
    clear ho0 E0
    obtain ⟨q, D, g, c, hq, rfl, rfl, hd, ho, hE⟩ := hrel
    by_cases hq0 : q = 0
    · have hDu : Hid (D = decDigits u) := by
        show _ = _
        rcases hd.out with ⟨_, h⟩ | ⟨h, _⟩
        · exact h
        · omega
      subst hq0
      have hD := hid (show D.length ≤ 9 by rw [hDu.out]; exact decDigits_len9 hu)
      have hle := hid hE.out.le
      have hdl := hD.out
      have hi9 := hid (itoa_neg u h1)
      go_upto_region 13 with (first | (at_builtin; ((with_reducible refine at_dst2 30 ?_)); refine wpList_append_own_at _ rfl _ _ 144 rfl w.heap.size 5 i0 (.int .u8 0) 1 1 Tryz.underlying144 hi hz0 hz1 hz2 rfl (by omega) _ 1 [.int .u8 45] rfl (World.ownsRow_lit (base := w.heap.size) (e := 5) (size := 1) wr #[.int .u8 45] 1 hle.out (by simp [maxLen]) (by simp)) ⟨g, 0, none⟩ D.length c (D.map cU) rfl (by simp) (own_news (ho.out.alloc _) (by simp)) (one_u8 _) (len_m (by omega) (by omega)) (by omega) (by simp; have := hle.out; omega) ?_; intro v' wA hoA hgA hnA hbA; obtain ⟨g2, c2, rfl⟩ := own_pos hoA (by omega); replace hoA := hid hoA; replace hgA := hid hgA; clear hnA hbA))
      have ho3 : wA.ownsRow w.heap.size 5 1 (.slice (some ⟨g2, 0, none⟩) (1 + D.length) c2) (1 + D.length) ((45 :: D).map cU) := hoA.out
      have hcv := run_convert_bytes_back (P := Tryz.prog) wA 144 9 5 ⟨g2, 0, none⟩ c2 (45 :: D) Tryz.underlying144 Tryz.underlying5 Tryz.underlying9 (own_str ho3 (by rw [List.length_cons, Nat.add_comm]))
      rw [List.length_cons, Nat.add_comm] at hcv
      have hEA := hid ((hE.out.alloc _).grown hgA.out (fun k hk => by have h1 := Option.some.inj (show some wr.heap.size = some k from hk); have := hle.out; omega))
      go_wp2_with (fail)
      go_ret
      exact ⟨by rw [hi9.out, ← hDu.out]; rfl, hEA.out⟩
    · have hq1 : (1 : Int) ≤ q := by omega
      have hq9 : (q : Int) ≤ 999999999 := by omega
      have hqn : ¬ ((-(q : Int)) = 0) := by omega
      have hqB : ((-(q : Int)) == 0) = false := by simpa using hqn
      obtain ⟨r, hr⟩ : ∃ r : Nat, (q : Int) % 10 = r := ⟨q % 10, by omega⟩
      have hrq : Hid (q % 10 = r) := by show _ = _; omega
      have hr10 : (r : Int) ≤ 9 := by omega
      by_cases hrz : r = 0
      · have hz9 : Hid (r = 0) := hrz
        have hrI : ¬ ((0 : Int) < (r : Int)) := by omega
        have hrN : decide (0 < r) = false := decide_eq_false (by omega)
        have hneg : (-(r : Int)) = (r : Int) := by omega
        clear hrz
        have hD := hid (hd.out.len hu)
        have hle := hid hE.out.le
        have hdl := hD.out
        have hdn := hid (hd.out.step (show 0 < q by omega))
        go_wp2_with (first | (at_builtin; ((with_reducible refine at_dst2 25 ?_)); refine wpList_append_own_at _ rfl _ _ 144 rfl w.heap.size 5 i0 (.int .u8 0) 1 1 Tryz.underlying144 hi hz0 hz1 hz2 rfl (by omega) _ 1 [.int .u8 (48 + (r : Int))] rfl (World.ownsRow_lit (base := w.heap.size) (e := 5) (size := 1) wr #[.int .u8 (48 + (r : Int))] 1 hle.out (by simp [maxLen]) (by simp)) ⟨g, 0, none⟩ D.length c (D.map cU) rfl (by simp) (own_news (ho.out.alloc _) (by simp)) (one_u8 _) (len_m (by omega) (by omega)) (by omega) (by simp; have := hle.out; omega) ?_; intro v' wA hoA hgA hnA hbA; obtain ⟨g2, c2, rfl⟩ := own_pos hoA (by omega); replace hoA := hid hoA; replace hgA := hid hgA; clear hnA hbA))
        go_roundw
        case rel =>
          refine ⟨q / 10, UInt8.ofNat (48 + q % 10) :: D, g2, c2, by omega, by first | rfl | (congr 1; omega), ?_, hdn, ?_, ?_⟩
          · rw [List.length_cons, Nat.add_comm]
          · show wA.ownsRow _ _ _ _ _ _
            have h9 := hoA.out
            rw [List.map_cons, hrq.out, cU_dg (by omega), List.length_cons]
            rw [Nat.add_comm] at h9
            exact h9
          · exact (hE.out.alloc _).grown hgA.out (fun k hk => by have h1 := Option.some.inj (show some wr.heap.size = some k from hk); have := hle.out; omega)
        case measure => simp [intOf]; omega
      · have hrI : (0 : Int) < (r : Int) := by omega
        have hrN : decide (0 < r) = true := decide_eq_true (by omega)
        have hD := hid (hd.out.len hu)
        have hle := hid hE.out.le
        have hdl := hD.out
        have hdn := hid (hd.out.step (show 0 < q by omega))
        go_wp2_with (first | (at_builtin; ((with_reducible refine at_dst2 25 ?_)); refine wpList_append_own_at _ rfl _ _ 144 rfl w.heap.size 5 i0 (.int .u8 0) 1 1 Tryz.underlying144 hi hz0 hz1 hz2 rfl (by omega) _ 1 [.int .u8 (48 + (r : Int))] rfl (World.ownsRow_lit (base := w.heap.size) (e := 5) (size := 1) wr #[.int .u8 (48 + (r : Int))] 1 hle.out (by simp [maxLen]) (by simp)) ⟨g, 0, none⟩ D.length c (D.map cU) rfl (by simp) (own_news (ho.out.alloc _) (by simp)) (one_u8 _) (len_m (by omega) (by omega)) (by omega) (by simp; have := hle.out; omega) ?_; intro v' wA hoA hgA hnA hbA; obtain ⟨g2, c2, rfl⟩ := own_pos hoA (by omega); replace hoA := hid hoA; replace hgA := hid hgA; clear hnA hbA))
        go_roundw
        case rel =>
          refine ⟨q / 10, UInt8.ofNat (48 + q % 10) :: D, g2, c2, by omega, by first | rfl | (congr 1; omega), ?_, hdn, ?_, ?_⟩
          · rw [List.length_cons, Nat.add_comm]
          · show wA.ownsRow _ _ _ _ _ _
            have h9 := hoA.out
            rw [List.map_cons, hrq.out, cU_dg (by omega), List.length_cons]
            rw [Nat.add_comm] at h9
            exact h9
          · exact (hE.out.alloc _).grown hgA.out (fun k hk => by have h1 := Option.some.inj (show some wr.heap.size = some k from hk); have := hle.out; omega)
        case measure => simp [intOf]; omega

set_option maxRecDepth 100000 in
set_option maxHeartbeats 4000000 in
theorem rNum_zero (w : World) :
    Calls Tryz.prog 95 #[.int .i64 0] w fun e w' => e = .returned (.string ⟨(itoa 0).toArray⟩) ∧ Ext w w' := by
  have h0 : itoa 0 = [48] := (itoa_nonneg 0).trans (decDigits_one (by omega))
  rw [h0]
  go_enter Tryz.func95, Tryz.ntmps95
  go_wp2
  go_ret
  exact ⟨rfl, Ext.refl _⟩
/-- The decimal form. -/
theorem rNum_any (n : Int) (h0 : -999999999 ≤ n) (h1 : n ≤ 999999999) (w : World) :
    Calls Tryz.prog 95 #[.int .i64 n] w fun e w' => e = .returned (.string ⟨(itoa n).toArray⟩) ∧ Ext w w' := by
  by_cases hz : n = 0
  · subst hz
    exact rNum_zero w
  · by_cases hn : n < 0
    · obtain ⟨u, rfl⟩ : ∃ u : Nat, n = -(u : Int) := ⟨n.natAbs, by omega⟩
      exact rNum_neg u (by omega) (by omega) w
    · obtain ⟨u, rfl⟩ : ∃ u : Nat, n = (u : Int) := ⟨n.toNat, by omega⟩
      exact rNum_pos u (by omega) (by omega) w

end Go.Proofs.YtncmhefendhinaaGreatDoor

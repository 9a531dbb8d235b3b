/- Contracts of Compact (program and reference), and the law FnExactCompact over them. Condition: at most 2^20 blocks. -/
import Derived.Test.YtnhiepgfgnemkaaCmp
import Derived.Test.YtnhiepgfgnemkaaLst
namespace Go.Proofs.Ytnhiepgfgnemkaa
open Go.RowKit

/-- The least positions, or none where the code is not 0. -/
def posR (l : List Q4) (g : Int) : List Int := if codeB l g = 0 then tab l.length (posF l g) else []
theorem posR_len (l : List Q4) (g : Int) : (posR l g).length ≤ 12 := by
  rw [posR]; split
  · rename_i h
    have hl : isBL l = true := by rw [codeB] at h; split at h; assumption; omega
    rw [tab_len]; exact (isBL_parts hl).1
  · simp
theorem pos_rnds {l : List Q4} {g : Int} {n : Nat} (hn : l.length = n) : tab n (rnds (csL l g) (fun _ => 0) (n + 1)) = tab n (posF l g) := by
  subst hn
  exact tab_congr fun i hi => rnds_eq (csL_topo l g) (pass_is (csL_topo l g)) _ (by rw [ltr_len]; omega) i ((ltr_is l).perm.mem_iff.2 hi)
set_option maxRecDepth 100000 in
set_option maxHeartbeats 1000000 in
theorem Compact_any (q : Option Addr) (n c : Nat) (l : List Q4) (g : Int) (w : World) (h : SlT enc4 4 w q n l) (hn : n ≤ 1048576) :
    Calls Try.prog 23 #[.slice q n c, .int .i64 g] w fun e w' => ∃ p d, e = .returned (.tuple #[.slice p (posR l g).length d, .int .i64 (codeB l g)]) ∧ w'.ownsRow w.heap.size 2 1 (.slice p (posR l g).length d) (posR l g).length ((posR l g).flatMap enc1) ∧ Ext w w' := by
  by_cases hok : isBL l = true ∧ wit g 0 8 = true
  · obtain ⟨hl, hg⟩ := hok
    have hc : codeB l g = 0 := by rw [codeB, if_pos hl, if_pos hg]
    have hR : Hid (posR l g = tab l.length (posF l g)) := by show _ = _; rw [posR, if_pos hc]
    have hcall := blocksCode_any q n c l g w h hn
    rw [hc] at hcall ⊢
    replace hl := hid hl
    replace hg := hid hg
    clear hc
    rw [hR.out]
    have l1 := hid h.length
    have hn12 : n ≤ 12 := by have := (isBL_parts hl.out).1; rw [h.length] at this; exact this
    have hnI : (n : Int) ≤ 12 := by omega
    rw [l1.out, tab_len, flat1]
    go_enter Try.func23, Try.ntmps23
    go_wp2_with fail
    refine hcall.mono ?_
    clear hcall
    rintro e w1 ⟨rfl, E1⟩
    go_wp2_with fail
    refine (compacted_any q n c l g _ _ (Nat.le_refl _) (h.ext E1) hl.out hg.out).mono ?_
    rintro e w2 ⟨q2, c2, rfl, o2, E2⟩
    go_wp2_with fail
    go_ret2
    exact ⟨_, _, rfl, Joins.ownsRow_le o2 E1.le, E1.trans E2⟩
  · obtain ⟨K, hK⟩ : ∃ K, K = codeB l g := ⟨_, rfl⟩
    have hK0 : K ≠ 0 := by
      rw [hK, codeB]; split
      · split
        · exact absurd ⟨‹_›, ‹_›⟩ hok
        · omega
      · omega
    have hR : Hid (posR l g = []) := by show _ = _; rw [posR, if_neg (by rw [← hK]; exact hK0)]
    have hcall := blocksCode_any q n c l g w h hn
    rw [← hK] at hcall ⊢
    replace hK := hid hK
    have hd : (K != 0) = true := by simpa using hK0
    rw [hR.out]
    go_enter Try.func23, Try.ntmps23
    go_wp2_with fail
    refine hcall.mono ?_
    clear hcall
    rintro e w1 ⟨rfl, E1⟩
    go_wp2_with fail
    go_ret2
    exact ⟨none, 0, rfl, World.ownsRow_nil _ _ _ _, E1⟩
set_option maxRecDepth 100000 in
set_option maxHeartbeats 1000000 in
theorem specCompact_any (q : Option Addr) (n c : Nat) (l : List Q4) (g : Int) (w : World) (h : SlT enc4 4 w q n l) (hn : n ≤ 1048576) :
    Calls Try.prog 22 #[.slice q n c, .int .i64 g] w fun e w' => ∃ p d, e = .returned (.tuple #[.slice p (posR l g).length d, .int .i64 (codeB l g)]) ∧ w'.ownsRow w.heap.size 2 1 (.slice p (posR l g).length d) (posR l g).length ((posR l g).flatMap enc1) ∧ Ext w w' := by
  by_cases hok : isBL l = true ∧ wit g 0 8 = true
  · obtain ⟨hl, hg⟩ := hok
    have hc : codeB l g = 0 := by rw [codeB, if_pos hl, if_pos hg]
    have hR : Hid (posR l g = tab l.length (posF l g)) := by show _ = _; rw [posR, if_pos hc]
    have hcall := l31Code_any q n c l g w h hn
    rw [hc] at hcall ⊢
    replace hl := hid hl
    replace hg := hid hg
    clear hc
    rw [hR.out]
    have l1 := hid h.length
    have hn12 : n ≤ 12 := by have := (isBL_parts hl.out).1; rw [h.length] at this; exact this
    have hnI : (n : Int) ≤ 12 := by omega
    rw [l1.out, tab_len, flat1]
    rw [← pos_rnds l1.out]
    go_enter Try.func22, Try.ntmps22
    go_wp2_with fail
    refine hcall.mono ?_
    clear hcall
    rintro e w1 ⟨rfl, E1⟩
    have hEd := csL_edges hl.out hg.out
    have hcl : (csL l g).length ≤ 144 := by have := csL_len l g; rw [l1.out] at this; have := Nat.mul_le_mul hn12 hn12; omega
    rw [l1.out] at hEd
    go_wp2_with fail
    refine (l31Constraints_any q n c l g _ (h.ext E1) hl.out hg.out).mono ?_
    rintro e w2 ⟨q2, c2, rfl, o2, E2⟩
    have s2 := SlT.of_owns (l := csL l g) enc3_len rfl o2
    go_wp2_with fail
    refine (l31Least_any n _ c2 0 q2 (csL l g) _ s2 hn12 hcl hEd (by omega) (by omega)).mono ?_
    rintro e w3 ⟨q3, c3, rfl, o3, E3⟩
    go_wp2_with fail
    go_ret2
    exact ⟨_, _, rfl, Joins.ownsRow_le o3 (by have := E1.le; have := E2.le; omega), E1.trans (E2.trans E3)⟩
  · obtain ⟨K, hK⟩ : ∃ K, K = codeB l g := ⟨_, rfl⟩
    have hK0 : K ≠ 0 := by
      rw [hK, codeB]; split
      · split
        · exact absurd ⟨‹_›, ‹_›⟩ hok
        · omega
      · omega
    have hR : Hid (posR l g = []) := by show _ = _; rw [posR, if_neg (by rw [← hK]; exact hK0)]
    have hcall := l31Code_any q n c l g w h hn
    rw [← hK] at hcall ⊢
    replace hK := hid hK
    have hd : (K != 0) = true := by simpa using hK0
    rw [hR.out]
    go_enter Try.func22, Try.ntmps22
    go_wp2_with fail
    refine hcall.mono ?_
    clear hcall
    rintro e w1 ⟨rfl, E1⟩
    go_wp2_with fail
    go_ret2
    exact ⟨none, 0, rfl, World.ownsRow_nil _ _ _ _, E1⟩
set_option maxRecDepth 100000 in
set_option maxHeartbeats 4000000 in
theorem lawCompact (q0 : Option Addr) (n0 c0 : Nat) (l0 : List Q4) (a1 : Int) (R0 : List Int) (N0 : Nat) (s1 : Int) (w : World) (h0 : SlT enc4 4 w q0 n0 l0) (m0 : n0 ≤ maxLen) (hR0 : R0.length = N0) (hN0 : N0 ≤ 1048576)
    (hS : Hid (n0 ≤ 1048576 → ∀ (W : World) (q0 : Option Addr) (c0 : Nat), SlT enc4 4 W q0 n0 l0 → Calls Try.prog 22 #[.slice q0 n0 c0, .int .i64 a1] W fun e w' => ∃ p0 d0, e = .returned (.tuple #[.slice p0 N0 d0, .int .i64 s1]) ∧ w'.ownsRow W.heap.size 2 1 (.slice p0 N0 d0) N0 (R0.flatMap enc1) ∧ Ext W w'))
    (hI : Hid (n0 ≤ 1048576 → ∀ (W : World) (q0 : Option Addr) (c0 : Nat), SlT enc4 4 W q0 n0 l0 → Calls Try.prog 23 #[.slice q0 n0 c0, .int .i64 a1] W fun e w' => ∃ p0 d0, e = .returned (.tuple #[.slice p0 N0 d0, .int .i64 s1]) ∧ w'.ownsRow W.heap.size 2 1 (.slice p0 N0 d0) N0 (R0.flatMap enc1) ∧ Ext W w')) :
    Calls Try.prog 4 #[.slice q0 n0 c0, .int .i64 a1] w fun e w' => e = .returned (.bool true) ∧ Ext w w' := by
  have e0 := hid h0.length
  unfold maxLen at m0
  replace hR0 := hid hR0
  by_cases x0 : 1048576 < (n0 : Int)
  · go_enter Try.func4, Try.ntmps4
    go_wp2_with fail
    refine (szBlockS_any q0 n0 c0 _ _ (by omega) (by omega) (by omega)).mono ?_
    rintro e w' ⟨rfl, rfl⟩
    rw [if_pos (by omega)]
    go_wp2_with fail
    go_ret
    exact ⟨rfl, Ext.refl _⟩
  go_enter Try.func4, Try.ntmps4
  go_wp2_with fail
  refine (szBlockS_any q0 n0 c0 _ _ (by omega) (by omega) (by omega)).mono ?_
  rintro e w' ⟨rfl, rfl⟩
  rw [if_neg (by omega)]
  have y0 := x0
  replace x0 : n0 ≤ 1048576 := by omega
  clear y0
  have F := Ext.refl w
  go_wp2_with fail
  refine (toBlockS_any _ n0 _ l0 _ (h0.ext F) (by omega)).mono ?_
  rintro e w1 ⟨t0, rfl, ot0, E⟩
  replace F := F.trans E
  clear E
  go_wp2_with fail
  refine (hS.out x0 _ _ _ (SlT.of_owns enc4_len e0.out ot0)).mono ?_
  rintro e w2 ⟨u0, v0, rfl, os0, E⟩
  replace F := F.trans E
  clear E ot0
  have ss0 := SlT.of_owns (l := R0) enc1_len hR0.out os0
  clear os0
  have F0 := F
  have S := Ext.refl w2
  go_wp2_with fail
  refine (toBlockS_any _ n0 _ l0 _ (h0.ext F) (by omega)).mono ?_
  rintro e w3 ⟨x0q, rfl, ox0, E⟩
  replace F := F.trans E
  replace S := S.trans E
  have zx0 := E.le
  clear E
  go_wp2_with fail
  refine (hI.out x0 _ _ _ (SlT.of_owns enc4_len e0.out ox0)).mono ?_
  rintro e w4 ⟨g0, k0, rfl, og0, E⟩
  have zI := E.le
  have zo0 := owns_ge ox0
  replace F := F.trans E
  replace S := S.trans E
  replace ox0 := owns_ext ox0 E
  clear E
  have zg0 := owns_ge og0
  go_wp2_with fail
  refine (eqInt64S_same _ _ _ _ _ R0 _ (SlT.of_owns (l := R0) enc1_len hR0.out og0) (ss0.ext S) (by omega)).mono ?_
  rintro e w5 ⟨rfl, E⟩
  replace F := F.trans E
  replace S := S.trans E
  replace ox0 := owns_ext ox0 E
  replace og0 := owns_ext og0 E
  clear E
  go_wp2_with fail
  refine (toBlockS_any _ n0 _ l0 _ (h0.ext F) (by omega)).mono ?_
  rintro e w6 ⟨y0q, rfl, oy0, E⟩
  replace F := F.trans E
  replace S := S.trans E
  replace ox0 := owns_ext ox0 E
  replace og0 := owns_ext og0 E
  clear E
  go_wp2_with fail
  refine (eqBlockS_same _ _ _ _ _ l0 _ (SlT.of_owns enc4_len e0.out ox0) (SlT.of_owns enc4_len e0.out oy0) (by omega)).mono ?_
  rintro e w7 ⟨rfl, E⟩
  replace F := F.trans E
  replace S := S.trans E
  replace ox0 := owns_ext ox0 E
  replace og0 := owns_ext og0 E
  clear E oy0
  go_wp2_with fail
  refine (markBlockS_any x0q n0 n0 _ _ _ _ _ ox0 (by omega) (by omega) (by omega)).mono ?_
  rintro e w8 ⟨rfl, ox0m, M⟩
  clear ox0 ox0m
  have S2 := S.then M (fun k hk => by have := (zo0 k hk).1; omega)
  replace F := F0.trans S2
  replace og0 := M.grownBy (fun g hg hh => by have h5 := (og0.lt g hg).1; have h6 := (zo0 g hh).2; omega) og0
  replace S := S2
  clear S2 M
  have hkp : ¬ ((1 : Int) + n0 * 4 < 0) := by omega
  go_wp2_with fail
  refine (eqInt64S_same _ _ _ _ _ R0 _ (SlT.of_owns (l := R0) enc1_len hR0.out og0) (ss0.ext S) (by omega)).mono ?_
  rintro e w9 ⟨rfl, E⟩
  replace F := F.trans E
  replace S := S.trans E
  replace og0 := owns_ext og0 E
  clear E
  go_wp2_with fail
  refine (markInt64S_any g0 N0 k0 _ _ _ _ _ og0 (by omega) (by omega) (by omega)).mono ?_
  rintro e w10 ⟨rfl, om0, M⟩
  have S2 := S.then M (fun k hk => by have := (zg0 k hk).1; omega)
  replace F := F0.trans S2
  replace S := S2
  clear S2 M
  have hq0 : ¬ ((1 : Int) + (N0 : Int) < 0) := by omega
  go_wp2_with fail
  refine (heldInt64S_any g0 N0 k0 _ _ _ _ om0 (by omega) (by omega) (by omega)).mono ?_
  rintro e w' ⟨rfl, rfl⟩
  go_wp2_with fail
  refine (toBlockS_any _ n0 _ l0 _ (h0.ext F) (by omega)).mono ?_
  rintro e w11 ⟨r0, rfl, or0, E⟩
  replace F := F.trans E
  replace S := S.trans E
  replace om0 := owns_ext om0 E
  clear E
  go_wp2_with fail
  refine (hI.out x0 _ _ _ (SlT.of_owns enc4_len e0.out or0)).mono ?_
  rintro e w12 ⟨b0, j0, rfl, oh0, E⟩
  replace F := F.trans E
  replace S := S.trans E
  replace om0 := owns_ext om0 E
  clear E or0
  go_wp2_with fail
  refine (eqInt64S_same _ _ _ _ _ R0 _ (SlT.of_owns (l := R0) enc1_len hR0.out oh0) (ss0.ext S) (by omega)).mono ?_
  rintro e w13 ⟨rfl, E⟩
  replace F := F.trans E
  replace S := S.trans E
  replace om0 := owns_ext om0 E
  replace oh0 := owns_ext oh0 E
  clear E
  go_wp2_with fail
  refine (heldInt64S_any g0 N0 k0 _ _ _ _ om0 (by omega) (by omega) (by omega)).mono ?_
  rintro e w' ⟨rfl, rfl⟩
  go_wp2_with fail
  go_ret
  exact ⟨rfl, F⟩
theorem exactCompact_any (q : Option Addr) (n c : Nat) (l : List Q4) (g : Int) (w : World) (h : SlT enc4 4 w q n l) (hm : n ≤ maxLen) :
    Calls Try.prog 4 #[.slice q n c, .int .i64 g] w fun e w' => e = .returned (.bool true) ∧ Ext w w' :=
  lawCompact q n c l g (posR l g) _ (codeB l g) w h hm rfl (by have := posR_len l g; omega) (hid fun hn W q c hW => specCompact_any q n c l g W hW hn) (hid fun hn W q c hW => Compact_any q n c l g W hW hn)
end Go.Proofs.Ytnhiepgfgnemkaa

/- Contracts of CriticalPath (program and reference), and the law FnExactCriticalPath over them. Condition: at most 2^20 blocks. -/
import Derived.Test.YtnhiepgfgnemkaaCrs
import Derived.Test.YtnhiepgfgnemkaaMi2
namespace Go.Proofs.Ytnhiepgfgnemkaa
open Go.RowKit

/-- The critical path, or none where the code is not 0. -/
def critR (l : List Q4) (g : Int) : List Int := if codeB l g = 0 then critF l g else []
theorem critR_len (l : List Q4) (g : Int) : (critR l g).length ≤ 12 := by
  rw [critR]; split
  · rename_i h
    have := code_len h
    have := chain_len (csL l g) (posF l g) l.length (atF l (posF l g) (widF l g))
    rw [critF, List.length_reverse]; omega
  · simp
set_option maxRecDepth 100000 in
set_option maxHeartbeats 1000000 in
theorem CriticalPath_bad (q : Option Addr) (n c : Nat) (l : List Q4) (g : Int) (w : World) (h : SlT enc4 4 w q n l) (hn : n ≤ 1048576) (hok : ¬ (isBL l = true ∧ wit g 0 8 = true)) :
    Calls Try.prog 37 #[.slice q n c, .int .i64 g] w fun e w' => e = .returned (.tuple #[.slice none 0 0, .int .i64 (codeB l g)]) ∧ Ext w w' := by
  have hk := codeB_bad hok
  have hcall := blocksCode_any q n c l g w h hn
  obtain ⟨K, hK⟩ : ∃ K, K = codeB l g := ⟨_, rfl⟩
  rw [← hK] at hcall hk ⊢
  replace hK := hid hK
  have hd : (K != 0) = true := by simpa using hk
  go_enter Try.func37, Try.ntmps37
  go_wp2_with fail
  refine hcall.mono ?_
  clear hcall
  rintro e w1 ⟨rfl, E1⟩
  go_wp2_with fail
  go_ret2
  exact ⟨rfl, E1⟩
set_option maxRecDepth 100000 in
set_option maxHeartbeats 1000000 in
theorem specCriticalPath_bad (q : Option Addr) (n c : Nat) (l : List Q4) (g : Int) (w : World) (h : SlT enc4 4 w q n l) (hn : n ≤ 1048576) (hok : ¬ (isBL l = true ∧ wit g 0 8 = true)) :
    Calls Try.prog 36 #[.slice q n c, .int .i64 g] w fun e w' => e = .returned (.tuple #[.slice none 0 0, .int .i64 (codeB l g)]) ∧ Ext w w' := by
  have hk := codeB_bad hok
  have hcall := specCompact_bad q n c l g w h hn hk
  obtain ⟨K, hK⟩ : ∃ K, K = codeB l g := ⟨_, rfl⟩
  rw [← hK] at hcall hk ⊢
  replace hK := hid hK
  have hd : (K != 0) = true := by simpa using hk
  go_enter Try.func36, Try.ntmps36
  go_wp2_with fail
  refine hcall.mono ?_
  clear hcall
  rintro e w1 ⟨p, d, rfl, E1⟩
  go_wp2_with fail
  go_ret2
  exact ⟨rfl, E1⟩
theorem CriticalPath_any (q : Option Addr) (n c : Nat) (l : List Q4) (g : Int) (w : World) (h : SlT enc4 4 w q n l) (hn : n ≤ 1048576) :
    Calls Try.prog 37 #[.slice q n c, .int .i64 g] w fun e w' => ∃ p d, e = .returned (.tuple #[.slice p (critR l g).length d, .int .i64 (codeB l g)]) ∧ w'.ownsRow w.heap.size 2 1 (.slice p (critR l g).length d) (critR l g).length ((critR l g).flatMap enc1) ∧ Ext w w' := by
  by_cases hok : isBL l = true ∧ wit g 0 8 = true
  · have hc := codeB_ok hok.1 hok.2
    refine (CriticalPath_ok q n c l g w h hok.1 hok.2).mono ?_
    rintro e w' ⟨p, d, rfl, ho, hE⟩
    have hR : critR l g = critF l g := by rw [critR, if_pos hc]
    rw [hR, hc, flat1]
    exact ⟨p, d, rfl, ho, hE⟩
  · refine (CriticalPath_bad q n c l g w h hn hok).mono ?_
    rintro e w' ⟨rfl, hE⟩
    have hR : critR l g = [] := by rw [critR, if_neg (codeB_bad hok)]
    rw [hR]
    exact ⟨none, 0, rfl, World.ownsRow_nil _ _ _ _, hE⟩
theorem specCriticalPath_any (q : Option Addr) (n c : Nat) (l : List Q4) (g : Int) (w : World) (h : SlT enc4 4 w q n l) (hn : n ≤ 1048576) :
    Calls Try.prog 36 #[.slice q n c, .int .i64 g] w fun e w' => ∃ p d, e = .returned (.tuple #[.slice p (critR l g).length d, .int .i64 (codeB l g)]) ∧ w'.ownsRow w.heap.size 2 1 (.slice p (critR l g).length d) (critR l g).length ((critR l g).flatMap enc1) ∧ Ext w w' := by
  by_cases hok : isBL l = true ∧ wit g 0 8 = true
  · have hc := codeB_ok hok.1 hok.2
    refine (specCriticalPath_ok q n c l g w h hok.1 hok.2).mono ?_
    rintro e w' ⟨p, d, rfl, ho, hE⟩
    have hR : critR l g = critF l g := by rw [critR, if_pos hc]
    rw [hR, hc, flat1]
    exact ⟨p, d, rfl, ho, hE⟩
  · refine (specCriticalPath_bad q n c l g w h hn hok).mono ?_
    rintro e w' ⟨rfl, hE⟩
    have hR : critR l g = [] := by rw [critR, if_neg (codeB_bad hok)]
    rw [hR]
    exact ⟨none, 0, rfl, World.ownsRow_nil _ _ _ _, hE⟩
set_option maxRecDepth 100000 in
set_option maxHeartbeats 4000000 in
theorem lawCriticalPath (q0 : Option Addr) (n0 c0 : Nat) (l0 : List Q4) (a1 : Int) (R0 : List Int) (N0 : Nat) (s1 : Int) (w : World) (h0 : SlT enc4 4 w q0 n0 l0) (m0 : n0 ≤ maxLen) (hR0 : R0.length = N0) (hN0 : N0 ≤ 1048576)
    (hS : Hid (n0 ≤ 1048576 → ∀ (W : World) (q0 : Option Addr) (c0 : Nat), SlT enc4 4 W q0 n0 l0 → Calls Try.prog 36 #[.slice q0 n0 c0, .int .i64 a1] W fun e w' => ∃ p0 d0, e = .returned (.tuple #[.slice p0 N0 d0, .int .i64 s1]) ∧ w'.ownsRow W.heap.size 2 1 (.slice p0 N0 d0) N0 (R0.flatMap enc1) ∧ Ext W w'))
    (hI : Hid (n0 ≤ 1048576 → ∀ (W : World) (q0 : Option Addr) (c0 : Nat), SlT enc4 4 W q0 n0 l0 → Calls Try.prog 37 #[.slice q0 n0 c0, .int .i64 a1] W fun e w' => ∃ p0 d0, e = .returned (.tuple #[.slice p0 N0 d0, .int .i64 s1]) ∧ w'.ownsRow W.heap.size 2 1 (.slice p0 N0 d0) N0 (R0.flatMap enc1) ∧ Ext W w')) :
    Calls Try.prog 8 #[.slice q0 n0 c0, .int .i64 a1] w fun e w' => e = .returned (.bool true) ∧ Ext w w' := by
  have e0 := hid h0.length
  unfold maxLen at m0
  replace hR0 := hid hR0
  by_cases x0 : 1048576 < (n0 : Int)
  · go_enter Try.func8, Try.ntmps8
    go_wp2_with fail
    refine (szBlockS_any q0 n0 c0 _ _ (by omega) (by omega) (by omega)).mono ?_
    rintro e w' ⟨rfl, rfl⟩
    rw [if_pos (by omega)]
    go_wp2_with fail
    go_ret
    exact ⟨rfl, Ext.refl _⟩
  go_enter Try.func8, Try.ntmps8
  go_wp2_with fail
  refine (szBlockS_any q0 n0 c0 _ _ (by omega) (by omega) (by omega)).mono ?_
  rintro e w' ⟨rfl, rfl⟩
  rw [if_neg (by omega)]
  have y0 := x0
  replace x0 : n0 ≤ 1048576 := by omega
  clear y0
  have F := Ext.refl w
  go_wp2_with fail
  refine (toBlockS_any _ n0 _ l0 _ (h0.ext F) (by omega)).mono ?_
  rintro e w1 ⟨t0, rfl, ot0, E⟩
  replace F := F.trans E
  clear E
  go_wp2_with fail
  refine (hS.out x0 _ _ _ (SlT.of_owns enc4_len e0.out ot0)).mono ?_
  rintro e w2 ⟨u0, v0, rfl, os0, E⟩
  replace F := F.trans E
  clear E ot0
  have ss0 := SlT.of_owns (l := R0) enc1_len hR0.out os0
  clear os0
  have F0 := F
  have S := Ext.refl w2
  go_wp2_with fail
  refine (toBlockS_any _ n0 _ l0 _ (h0.ext F) (by omega)).mono ?_
  rintro e w3 ⟨x0q, rfl, ox0, E⟩
  replace F := F.trans E
  replace S := S.trans E
  have zx0 := E.le
  clear E
  go_wp2_with fail
  refine (hI.out x0 _ _ _ (SlT.of_owns enc4_len e0.out ox0)).mono ?_
  rintro e w4 ⟨g0, k0, rfl, og0, E⟩
  have zI := E.le
  have zo0 := owns_ge ox0
  replace F := F.trans E
  replace S := S.trans E
  replace ox0 := owns_ext ox0 E
  clear E
  have zg0 := owns_ge og0
  go_wp2_with fail
  refine (eqInt64S_same _ _ _ _ _ R0 _ (SlT.of_owns (l := R0) enc1_len hR0.out og0) (ss0.ext S) (by omega)).mono ?_
  rintro e w5 ⟨rfl, E⟩
  replace F := F.trans E
  replace S := S.trans E
  replace ox0 := owns_ext ox0 E
  replace og0 := owns_ext og0 E
  clear E
  go_wp2_with fail
  refine (toBlockS_any _ n0 _ l0 _ (h0.ext F) (by omega)).mono ?_
  rintro e w6 ⟨y0q, rfl, oy0, E⟩
  replace F := F.trans E
  replace S := S.trans E
  replace ox0 := owns_ext ox0 E
  replace og0 := owns_ext og0 E
  clear E
  go_wp2_with fail
  refine (eqBlockS_same _ _ _ _ _ l0 _ (SlT.of_owns enc4_len e0.out ox0) (SlT.of_owns enc4_len e0.out oy0) (by omega)).mono ?_
  rintro e w7 ⟨rfl, E⟩
  replace F := F.trans E
  replace S := S.trans E
  replace ox0 := owns_ext ox0 E
  replace og0 := owns_ext og0 E
  clear E oy0
  go_wp2_with fail
  refine (markBlockS_any x0q n0 n0 _ _ _ _ _ ox0 (by omega) (by omega) (by omega)).mono ?_
  rintro e w8 ⟨rfl, ox0m, M⟩
  clear ox0 ox0m
  have S2 := S.then M (fun k hk => by have := (zo0 k hk).1; omega)
  replace F := F0.trans S2
  replace og0 := M.grownBy (fun g hg hh => by have h5 := (og0.lt g hg).1; have h6 := (zo0 g hh).2; omega) og0
  replace S := S2
  clear S2 M
  have hkp : ¬ ((1 : Int) + n0 * 4 < 0) := by omega
  go_wp2_with fail
  refine (eqInt64S_same _ _ _ _ _ R0 _ (SlT.of_owns (l := R0) enc1_len hR0.out og0) (ss0.ext S) (by omega)).mono ?_
  rintro e w9 ⟨rfl, E⟩
  replace F := F.trans E
  replace S := S.trans E
  replace og0 := owns_ext og0 E
  clear E
  go_wp2_with fail
  refine (markInt64S_any g0 N0 k0 _ _ _ _ _ og0 (by omega) (by omega) (by omega)).mono ?_
  rintro e w10 ⟨rfl, om0, M⟩
  have S2 := S.then M (fun k hk => by have := (zg0 k hk).1; omega)
  replace F := F0.trans S2
  replace S := S2
  clear S2 M
  have hq0 : ¬ ((1 : Int) + (N0 : Int) < 0) := by omega
  go_wp2_with fail
  refine (heldInt64S_any g0 N0 k0 _ _ _ _ om0 (by omega) (by omega) (by omega)).mono ?_
  rintro e w' ⟨rfl, rfl⟩
  go_wp2_with fail
  refine (toBlockS_any _ n0 _ l0 _ (h0.ext F) (by omega)).mono ?_
  rintro e w11 ⟨r0, rfl, or0, E⟩
  replace F := F.trans E
  replace S := S.trans E
  replace om0 := owns_ext om0 E
  clear E
  go_wp2_with fail
  refine (hI.out x0 _ _ _ (SlT.of_owns enc4_len e0.out or0)).mono ?_
  rintro e w12 ⟨b0, j0, rfl, oh0, E⟩
  replace F := F.trans E
  replace S := S.trans E
  replace om0 := owns_ext om0 E
  clear E or0
  go_wp2_with fail
  refine (eqInt64S_same _ _ _ _ _ R0 _ (SlT.of_owns (l := R0) enc1_len hR0.out oh0) (ss0.ext S) (by omega)).mono ?_
  rintro e w13 ⟨rfl, E⟩
  replace F := F.trans E
  replace S := S.trans E
  replace om0 := owns_ext om0 E
  replace oh0 := owns_ext oh0 E
  clear E
  go_wp2_with fail
  refine (heldInt64S_any g0 N0 k0 _ _ _ _ om0 (by omega) (by omega) (by omega)).mono ?_
  rintro e w' ⟨rfl, rfl⟩
  go_wp2_with fail
  go_ret
  exact ⟨rfl, F⟩
theorem exactCriticalPath_any (q : Option Addr) (n c : Nat) (l : List Q4) (g : Int) (w : World) (h : SlT enc4 4 w q n l) (hm : n ≤ maxLen) :
    Calls Try.prog 8 #[.slice q n c, .int .i64 g] w fun e w' => e = .returned (.bool true) ∧ Ext w w' :=
  lawCriticalPath q n c l g (critR l g) _ (codeB l g) w h hm rfl (by have := critR_len l g; omega) (hid fun hn W q c hW => specCriticalPath_any q n c l g W hW hn) (hid fun hn W q c hW => CriticalPath_any q n c l g W hW hn)
end Go.Proofs.Ytnhiepgfgnemkaa

/- Contracts of CompactMirror (program and reference), and the law FnExactCompactMirror over them. Condition: at most 2^20 blocks. -/
import Derived.Test.YtnhiepgfgnemkaaMis
namespace Go.Proofs.Ytnhiepgfgnemkaa
open Go.RowKit

def mirL (l : List Q4) (g : Int) : List Int := if codeB l g = 0 then tab l.length (leftF l g) else []
def mirR (l : List Q4) (g : Int) : List Int := if codeB l g = 0 then tab l.length (rightF l g) else []
theorem code_len {l : List Q4} {g : Int} (h : codeB l g = 0) : l.length ≤ 12 := by
  have hl : isBL l = true := by rw [codeB] at h; split at h; assumption; omega
  exact (isBL_parts hl).1
theorem mirL_len (l : List Q4) (g : Int) : (mirL l g).length ≤ 12 := by
  rw [mirL]; split
  · rename_i h; rw [tab_len]; exact code_len h
  · simp
theorem mirR_len (l : List Q4) (g : Int) : (mirR l g).length ≤ 12 := by
  rw [mirR]; split
  · rename_i h; rw [tab_len]; exact code_len h
  · simp
set_option maxRecDepth 100000 in
set_option maxHeartbeats 1000000 in
theorem CompactMirror_bad (q : Option Addr) (n c : Nat) (l : List Q4) (g : Int) (w : World) (h : SlT enc4 4 w q n l) (hn : n ≤ 1048576) (hok : ¬ (isBL l = true ∧ wit g 0 8 = true)) :
    Calls Try.prog 33 #[.slice q n c, .int .i64 g] w fun e w' => e = .returned (.tuple #[.slice none 0 0, .slice none 0 0, .int .i64 (codeB l g)]) ∧ Ext w w' := by
  have hk := codeB_bad hok
  have hcall := blocksCode_any q n c l g w h hn
  obtain ⟨K, hK⟩ : ∃ K, K = codeB l g := ⟨_, rfl⟩
  rw [← hK] at hcall hk ⊢
  replace hK := hid hK
  have hd : (K != 0) = true := by simpa using hk
  go_enter Try.func33, Try.ntmps33
  go_wp2_with fail
  refine hcall.mono ?_
  clear hcall
  rintro e w1 ⟨rfl, E1⟩
  go_wp2_with fail
  go_ret3
  exact ⟨rfl, E1⟩
set_option maxRecDepth 100000 in
set_option maxHeartbeats 1000000 in
theorem specCompactMirror_bad (q : Option Addr) (n c : Nat) (l : List Q4) (g : Int) (w : World) (h : SlT enc4 4 w q n l) (hn : n ≤ 1048576) (hok : ¬ (isBL l = true ∧ wit g 0 8 = true)) :
    Calls Try.prog 32 #[.slice q n c, .int .i64 g] w fun e w' => e = .returned (.tuple #[.slice none 0 0, .slice none 0 0, .int .i64 (codeB l g)]) ∧ Ext w w' := by
  have hk := codeB_bad hok
  have hcall := l31Code_any q n c l g w h hn
  obtain ⟨K, hK⟩ : ∃ K, K = codeB l g := ⟨_, rfl⟩
  rw [← hK] at hcall hk ⊢
  replace hK := hid hK
  have hd : (K != 0) = true := by simpa using hk
  go_enter Try.func32, Try.ntmps32
  go_wp2_with fail
  refine hcall.mono ?_
  clear hcall
  rintro e w1 ⟨rfl, E1⟩
  go_wp2_with fail
  go_ret3
  exact ⟨rfl, E1⟩
theorem CompactMirror_any (q : Option Addr) (n c : Nat) (l : List Q4) (g : Int) (w : World) (h : SlT enc4 4 w q n l) (hn : n ≤ 1048576) :
    Calls Try.prog 33 #[.slice q n c, .int .i64 g] w fun e w' => ∃ p d p' d', e = .returned (.tuple #[.slice p (mirL l g).length d, .slice p' (mirR l g).length d', .int .i64 (codeB l g)]) ∧ w'.ownsRow w.heap.size 2 1 (.slice p (mirL l g).length d) (mirL l g).length ((mirL l g).flatMap enc1) ∧
      w'.ownsRow w.heap.size 2 1 (.slice p' (mirR l g).length d') (mirR l g).length ((mirR l g).flatMap enc1) ∧ (∀ x y, p = some x → p' = some y → x.block ≠ y.block) ∧ Ext w w' := by
  by_cases hok : isBL l = true ∧ wit g 0 8 = true
  · have hc := codeB_ok hok.1 hok.2
    refine (CompactMirror_ok q n c l g w h hok.1 hok.2).mono ?_
    rintro e w' ⟨p, d, p', d', rfl, ho, ho', hd, hE⟩
    have hL : mirL l g = tab l.length (leftF l g) := by rw [mirL, if_pos hc]
    have hR : mirR l g = tab l.length (rightF l g) := by rw [mirR, if_pos hc]
    rw [hL, hR, hc, flat1, flat1, tab_len, tab_len, h.length]
    exact ⟨p, d, p', d', rfl, ho, ho', hd, hE⟩
  · refine (CompactMirror_bad q n c l g w h hn hok).mono ?_
    rintro e w' ⟨rfl, hE⟩
    have hL : mirL l g = [] := by rw [mirL, if_neg (codeB_bad hok)]
    have hR : mirR l g = [] := by rw [mirR, if_neg (codeB_bad hok)]
    rw [hL, hR]
    exact ⟨none, 0, none, 0, rfl, World.ownsRow_nil _ _ _ _, World.ownsRow_nil _ _ _ _, (fun x y hx => by cases hx), hE⟩
theorem specCompactMirror_any (q : Option Addr) (n c : Nat) (l : List Q4) (g : Int) (w : World) (h : SlT enc4 4 w q n l) (hn : n ≤ 1048576) :
    Calls Try.prog 32 #[.slice q n c, .int .i64 g] w fun e w' => ∃ p d p' d', e = .returned (.tuple #[.slice p (mirL l g).length d, .slice p' (mirR l g).length d', .int .i64 (codeB l g)]) ∧ w'.ownsRow w.heap.size 2 1 (.slice p (mirL l g).length d) (mirL l g).length ((mirL l g).flatMap enc1) ∧
      w'.ownsRow w.heap.size 2 1 (.slice p' (mirR l g).length d') (mirR l g).length ((mirR l g).flatMap enc1) ∧ (∀ x y, p = some x → p' = some y → x.block ≠ y.block) ∧ Ext w w' := by
  by_cases hok : isBL l = true ∧ wit g 0 8 = true
  · have hc := codeB_ok hok.1 hok.2
    refine (specCompactMirror_ok q n c l g w h hok.1 hok.2).mono ?_
    rintro e w' ⟨p, d, p', d', rfl, ho, ho', hd, hE⟩
    have hL : mirL l g = tab l.length (leftF l g) := by rw [mirL, if_pos hc]
    have hR : mirR l g = tab l.length (rightF l g) := by rw [mirR, if_pos hc]
    rw [hL, hR, hc, flat1, flat1, tab_len, tab_len, h.length]
    exact ⟨p, d, p', d', rfl, ho, ho', hd, hE⟩
  · refine (specCompactMirror_bad q n c l g w h hn hok).mono ?_
    rintro e w' ⟨rfl, hE⟩
    have hL : mirL l g = [] := by rw [mirL, if_neg (codeB_bad hok)]
    have hR : mirR l g = [] := by rw [mirR, if_neg (codeB_bad hok)]
    rw [hL, hR]
    exact ⟨none, 0, none, 0, rfl, World.ownsRow_nil _ _ _ _, World.ownsRow_nil _ _ _ _, (fun x y hx => by cases hx), hE⟩
set_option maxRecDepth 100000 in
set_option maxHeartbeats 4000000 in
theorem lawCompactMirror (q0 : Option Addr) (n0 c0 : Nat) (l0 : List Q4) (a1 : Int) (R0 : List Int) (N0 : Nat) (R1 : List Int) (N1 : Nat) (s2 : Int) (w : World) (h0 : SlT enc4 4 w q0 n0 l0) (m0 : n0 ≤ maxLen) (hR0 : R0.length = N0) (hN0 : N0 ≤ 1048576) (hR1 : R1.length = N1) (hN1 : N1 ≤ 1048576)
    (hS : Hid (n0 ≤ 1048576 → ∀ (W : World) (q0 : Option Addr) (c0 : Nat), SlT enc4 4 W q0 n0 l0 → Calls Try.prog 32 #[.slice q0 n0 c0, .int .i64 a1] W fun e w' => ∃ p0 d0 p1 d1, e = .returned (.tuple #[.slice p0 N0 d0, .slice p1 N1 d1, .int .i64 s2]) ∧ w'.ownsRow W.heap.size 2 1 (.slice p0 N0 d0) N0 (R0.flatMap enc1) ∧ w'.ownsRow W.heap.size 2 1 (.slice p1 N1 d1) N1 (R1.flatMap enc1) ∧ Ext W w'))
    (hI : Hid (n0 ≤ 1048576 → ∀ (W : World) (q0 : Option Addr) (c0 : Nat), SlT enc4 4 W q0 n0 l0 → Calls Try.prog 33 #[.slice q0 n0 c0, .int .i64 a1] W fun e w' => ∃ p0 d0 p1 d1, e = .returned (.tuple #[.slice p0 N0 d0, .slice p1 N1 d1, .int .i64 s2]) ∧ w'.ownsRow W.heap.size 2 1 (.slice p0 N0 d0) N0 (R0.flatMap enc1) ∧ w'.ownsRow W.heap.size 2 1 (.slice p1 N1 d1) N1 (R1.flatMap enc1) ∧ (∀ x y, p0 = some x → p1 = some y → x.block ≠ y.block) ∧ Ext W w')) :
    Calls Try.prog 6 #[.slice q0 n0 c0, .int .i64 a1] w fun e w' => e = .returned (.bool true) ∧ Ext w w' := by
  have e0 := hid h0.length
  unfold maxLen at m0
  replace hR0 := hid hR0
  replace hR1 := hid hR1
  by_cases x0 : 1048576 < (n0 : Int)
  · go_enter Try.func6, Try.ntmps6
    go_wp2_with fail
    refine (szBlockS_any q0 n0 c0 _ _ (by omega) (by omega) (by omega)).mono ?_
    rintro e w' ⟨rfl, rfl⟩
    rw [if_pos (by omega)]
    go_wp2_with fail
    go_ret
    exact ⟨rfl, Ext.refl _⟩
  go_enter Try.func6, Try.ntmps6
  go_wp2_with fail
  refine (szBlockS_any q0 n0 c0 _ _ (by omega) (by omega) (by omega)).mono ?_
  rintro e w' ⟨rfl, rfl⟩
  rw [if_neg (by omega)]
  have y0 := x0
  replace x0 : n0 ≤ 1048576 := by omega
  clear y0
  have F := Ext.refl w
  go_wp2_with fail
  refine (toBlockS_any _ n0 _ l0 _ (h0.ext F) (by omega)).mono ?_
  rintro e w1 ⟨t0, rfl, ot0, E⟩
  replace F := F.trans E
  clear E
  go_wp2_with fail
  refine (hS.out x0 _ _ _ (SlT.of_owns enc4_len e0.out ot0)).mono ?_
  rintro e w2 ⟨u0, v0, u1, v1, rfl, os0, os1, E⟩
  replace F := F.trans E
  clear E ot0
  have ss0 := SlT.of_owns (l := R0) enc1_len hR0.out os0
  clear os0
  have ss1 := SlT.of_owns (l := R1) enc1_len hR1.out os1
  clear os1
  have F0 := F
  have S := Ext.refl w2
  go_wp2_with fail
  refine (toBlockS_any _ n0 _ l0 _ (h0.ext F) (by omega)).mono ?_
  rintro e w3 ⟨x0q, rfl, ox0, E⟩
  replace F := F.trans E
  replace S := S.trans E
  have zx0 := E.le
  clear E
  go_wp2_with fail
  refine (hI.out x0 _ _ _ (SlT.of_owns enc4_len e0.out ox0)).mono ?_
  rintro e w4 ⟨g0, k0, g1, k1, rfl, og0, og1, hdj, E⟩
  have zI := E.le
  have zo0 := owns_ge ox0
  replace F := F.trans E
  replace S := S.trans E
  replace ox0 := owns_ext ox0 E
  clear E
  have zg0 := owns_ge og0
  have zg1 := owns_ge og1
  go_wp2_with fail
  refine (eqInt64S_same _ _ _ _ _ R0 _ (SlT.of_owns (l := R0) enc1_len hR0.out og0) (ss0.ext S) (by omega)).mono ?_
  rintro e w5 ⟨rfl, E⟩
  replace F := F.trans E
  replace S := S.trans E
  replace ox0 := owns_ext ox0 E
  replace og0 := owns_ext og0 E
  replace og1 := owns_ext og1 E
  clear E
  go_wp2_with fail
  refine (eqInt64S_same _ _ _ _ _ R1 _ (SlT.of_owns (l := R1) enc1_len hR1.out og1) (ss1.ext S) (by omega)).mono ?_
  rintro e w6 ⟨rfl, E⟩
  replace F := F.trans E
  replace S := S.trans E
  replace ox0 := owns_ext ox0 E
  replace og0 := owns_ext og0 E
  replace og1 := owns_ext og1 E
  clear E
  go_wp2_with fail
  refine (toBlockS_any _ n0 _ l0 _ (h0.ext F) (by omega)).mono ?_
  rintro e w7 ⟨y0q, rfl, oy0, E⟩
  replace F := F.trans E
  replace S := S.trans E
  replace ox0 := owns_ext ox0 E
  replace og0 := owns_ext og0 E
  replace og1 := owns_ext og1 E
  clear E
  go_wp2_with fail
  refine (eqBlockS_same _ _ _ _ _ l0 _ (SlT.of_owns enc4_len e0.out ox0) (SlT.of_owns enc4_len e0.out oy0) (by omega)).mono ?_
  rintro e w8 ⟨rfl, E⟩
  replace F := F.trans E
  replace S := S.trans E
  replace ox0 := owns_ext ox0 E
  replace og0 := owns_ext og0 E
  replace og1 := owns_ext og1 E
  clear E oy0
  go_wp2_with fail
  refine (markBlockS_any x0q n0 n0 _ _ _ _ _ ox0 (by omega) (by omega) (by omega)).mono ?_
  rintro e w9 ⟨rfl, ox0m, M⟩
  clear ox0 ox0m
  have S2 := S.then M (fun k hk => by have := (zo0 k hk).1; omega)
  replace F := F0.trans S2
  replace og0 := M.grownBy (fun g hg hh => by have h5 := (og0.lt g hg).1; have h6 := (zo0 g hh).2; omega) og0
  replace og1 := M.grownBy (fun g hg hh => by have h5 := (og1.lt g hg).1; have h6 := (zo0 g hh).2; omega) og1
  replace S := S2
  clear S2 M
  have hkp : ¬ ((1 : Int) + n0 * 4 < 0) := by omega
  go_wp2_with fail
  refine (eqInt64S_same _ _ _ _ _ R0 _ (SlT.of_owns (l := R0) enc1_len hR0.out og0) (ss0.ext S) (by omega)).mono ?_
  rintro e w10 ⟨rfl, E⟩
  replace F := F.trans E
  replace S := S.trans E
  replace og0 := owns_ext og0 E
  replace og1 := owns_ext og1 E
  clear E
  go_wp2_with fail
  refine (eqInt64S_same _ _ _ _ _ R1 _ (SlT.of_owns (l := R1) enc1_len hR1.out og1) (ss1.ext S) (by omega)).mono ?_
  rintro e w11 ⟨rfl, E⟩
  replace F := F.trans E
  replace S := S.trans E
  replace og0 := owns_ext og0 E
  replace og1 := owns_ext og1 E
  clear E
  go_wp2_with fail
  refine (markInt64S_any g0 N0 k0 _ _ _ _ _ og0 (by omega) (by omega) (by omega)).mono ?_
  rintro e w12 ⟨rfl, om0, M⟩
  have S2 := S.then M (fun k hk => by have := (zg0 k hk).1; omega)
  replace F := F0.trans S2
  replace og1 := M.grownBy (fun g hg hh => by rw [own_blkOf] at hg; obtain ⟨b1, hb1, rfl⟩ := mem_blkOf.1 hh; cases hq : g1 with | none => rw [hq] at hg; cases hg | some a => rw [hq] at hg; exact hdj b1 a hb1 hq (Option.some.inj hg).symm) og1
  replace S := S2
  clear S2 M
  go_wp2_with fail
  refine (markInt64S_any g1 N1 k1 _ _ _ _ _ og1 (by omega) (by omega) (by omega)).mono ?_
  rintro e w13 ⟨rfl, om1, M⟩
  have S2 := S.then M (fun k hk => by have := (zg1 k hk).1; omega)
  replace F := F0.trans S2
  replace om0 := M.grownBy (fun g hg hh => by rw [own_blkOf] at hg; obtain ⟨b1, hb1, rfl⟩ := mem_blkOf.1 hh; cases hq : g0 with | none => rw [hq] at hg; cases hg | some a => rw [hq] at hg; exact hdj a b1 hq hb1 (Option.some.inj hg)) om0
  replace S := S2
  clear S2 M
  have hq0 : ¬ ((1 : Int) + (N0 : Int) < 0) := by omega
  have hq1 : ¬ ((1 : Int) + (N0 : Int) + (N1 : Int) < 0) := by omega
  go_wp2_with fail
  refine (heldInt64S_any g0 N0 k0 _ _ _ _ om0 (by omega) (by omega) (by omega)).mono ?_
  rintro e w' ⟨rfl, rfl⟩
  go_wp2_with fail
  refine (heldInt64S_any g1 N1 k1 _ _ _ _ om1 (by omega) (by omega) (by omega)).mono ?_
  rintro e w' ⟨rfl, rfl⟩
  go_wp2_with fail
  refine (toBlockS_any _ n0 _ l0 _ (h0.ext F) (by omega)).mono ?_
  rintro e w14 ⟨r0, rfl, or0, E⟩
  replace F := F.trans E
  replace S := S.trans E
  replace om0 := owns_ext om0 E
  replace om1 := owns_ext om1 E
  clear E
  go_wp2_with fail
  refine (hI.out x0 _ _ _ (SlT.of_owns enc4_len e0.out or0)).mono ?_
  rintro e w15 ⟨b0, j0, b1, j1, rfl, oh0, oh1, _, E⟩
  replace F := F.trans E
  replace S := S.trans E
  replace om0 := owns_ext om0 E
  replace om1 := owns_ext om1 E
  clear E or0
  go_wp2_with fail
  refine (eqInt64S_same _ _ _ _ _ R0 _ (SlT.of_owns (l := R0) enc1_len hR0.out oh0) (ss0.ext S) (by omega)).mono ?_
  rintro e w16 ⟨rfl, E⟩
  replace F := F.trans E
  replace S := S.trans E
  replace om0 := owns_ext om0 E
  replace om1 := owns_ext om1 E
  replace oh0 := owns_ext oh0 E
  replace oh1 := owns_ext oh1 E
  clear E
  go_wp2_with fail
  refine (eqInt64S_same _ _ _ _ _ R1 _ (SlT.of_owns (l := R1) enc1_len hR1.out oh1) (ss1.ext S) (by omega)).mono ?_
  rintro e w17 ⟨rfl, E⟩
  replace F := F.trans E
  replace S := S.trans E
  replace om0 := owns_ext om0 E
  replace om1 := owns_ext om1 E
  replace oh0 := owns_ext oh0 E
  replace oh1 := owns_ext oh1 E
  clear E
  go_wp2_with fail
  refine (heldInt64S_any g0 N0 k0 _ _ _ _ om0 (by omega) (by omega) (by omega)).mono ?_
  rintro e w' ⟨rfl, rfl⟩
  go_wp2_with fail
  refine (heldInt64S_any g1 N1 k1 _ _ _ _ om1 (by omega) (by omega) (by omega)).mono ?_
  rintro e w' ⟨rfl, rfl⟩
  go_wp2_with fail
  go_ret
  exact ⟨rfl, F⟩
theorem exactCompactMirror_any (q : Option Addr) (n c : Nat) (l : List Q4) (g : Int) (w : World) (h : SlT enc4 4 w q n l) (hm : n ≤ maxLen) :
    Calls Try.prog 6 #[.slice q n c, .int .i64 g] w fun e w' => e = .returned (.bool true) ∧ Ext w w' :=
  lawCompactMirror q n c l g (mirL l g) _ (mirR l g) _ (codeB l g) w h hm rfl (by have := mirL_len l g; omega) rfl (by have := mirR_len l g; omega)
    (hid fun hn W q c hW => (specCompactMirror_any q n c l g W hW hn).mono fun _ _ ⟨p, d, p', d', he, h1, h2, _, hE⟩ => ⟨p, d, p', d', he, h1, h2, hE⟩) (hid fun hn W q c hW => CompactMirror_any q n c l g W hW hn)
end Go.Proofs.Ytnhiepgfgnemkaa

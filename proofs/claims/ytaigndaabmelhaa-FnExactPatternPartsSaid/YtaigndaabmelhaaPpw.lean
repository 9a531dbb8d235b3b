/- The law FnExactPatternParts. Condition: at most 2^20 rectangles. -/
import Derived.Test.YtaigndaabmelhaaPpc
namespace Go.Proofs.Ytaigndaabmelhaa
open Go.RowKit

def LawP (P : List Grid) (s : Int) (w : World) (e : Ending) (w' : World) : Prop := ∃ (q : Option Addr) (c : Nat) (H : List Hd), e = .returned (.tuple #[.slice q P.length c, .int .i64 s]) ∧ OwnS w.heap.size w' q P.length c H (flV (P.map canon)) ∧ Ext w w'
theorem OwnS.len3200 {base n c : Nat} {w : World} {q : Option Addr} {H : List Hd} {P : List Grid} (h : OwnS base w q n c H (flV (P.map canon))) : ∀ x ∈ H, x.2.1 ≤ 3200 := by
  intro x hx
  obtain ⟨k, hk⟩ := List.getElem?_of_mem hx
  have hkn : k < n := by rw [← h.len]; exact (List.getElem?_eq_some_iff.1 hk).1
  have hl : (P.map canon).length = n := by have := h.lenV; rw [flV, List.length_map] at this; exact this
  have hL : (P.map canon)[k]? = some (P.map canon)[k] := List.getElem?_eq_getElem (by omega)
  rw [← h.hd hk hL]
  have hm := List.getElem_mem (l := P.map canon) (n := k) (by omega)
  rw [List.mem_map] at hm
  obtain ⟨g, _, hg⟩ := hm
  rw [← hg]
  exact canon_len g
set_option maxRecDepth 100000 in
set_option maxHeartbeats 4000000 in
theorem lawPatternParts (q0 : Option Addr) (n0 c0 : Nat) (l0 : List Q4) (P : List Grid) (s1 : Int) (w : World) (h0 : SlT enc4 4 w q0 n0 l0) (m0 : n0 ≤ maxLen) (hP : P.length ≤ 12)
    (hS : Hid (n0 ≤ 1048576 → ∀ (W : World) (q0 : Option Addr) (c0 : Nat), SlT enc4 4 W q0 n0 l0 → Calls Try.prog 16 #[.slice q0 n0 c0] W (LawP P s1 W)))
    (hI : Hid (n0 ≤ 1048576 → ∀ (W : World) (q0 : Option Addr) (c0 : Nat), SlT enc4 4 W q0 n0 l0 → Calls Try.prog 18 #[.slice q0 n0 c0] W (LawP P s1 W))) :
    Calls Try.prog 3 #[.slice q0 n0 c0] w fun e w' => e = .returned (.bool true) ∧ Ext w w' := by
  have e0 := hid h0.length
  unfold maxLen at m0
  have hbd : ∀ L ∈ P.map canon, L.length ≤ 1048576 := fun L hL => by
    rw [List.mem_map] at hL
    obtain ⟨g, _, rfl⟩ := hL
    have := canon_len g
    omega
  replace hbd := hid hbd
  by_cases x0 : 1048576 < (n0 : Int)
  · go_enter Try.func3, Try.ntmps3
    go_wp2_with fail
    refine (szRectS_any q0 n0 c0 _ _ (by omega) (by omega) (by omega)).mono ?_
    rintro e w' ⟨rfl, rfl⟩
    rw [if_pos (by omega)]
    go_wp2_with fail
    go_ret
    exact ⟨rfl, Ext.refl _⟩
  go_enter Try.func3, Try.ntmps3
  go_wp2_with fail
  refine (szRectS_any q0 n0 c0 _ _ (by omega) (by omega) (by omega)).mono ?_
  rintro e w' ⟨rfl, rfl⟩
  rw [if_neg (by omega)]
  have y0 := x0
  replace x0 : n0 ≤ 1048576 := by omega
  clear y0
  have F := Ext.refl w
  go_wp2_with fail
  refine (toRectS_any _ n0 _ l0 _ (h0.ext F) (by omega)).mono ?_
  rintro e w1 ⟨t0, rfl, ot0, E⟩
  replace F := F.trans E
  clear E
  go_wp2_with fail
  refine (hS.out x0 _ _ _ (SlT.of_owns enc4_len e0.out ot0)).mono ?_
  rintro e w2 ⟨u0, v0, Hs, rfl, os0, E⟩
  replace F := F.trans E
  clear E ot0
  have ss0 := os0.toS
  clear os0
  have F0 := F
  have S := Ext.refl w2
  go_wp2_with fail
  refine (toRectS_any _ n0 _ l0 _ (h0.ext F) (by omega)).mono ?_
  rintro e w3 ⟨x0q, rfl, ox0, E⟩
  replace F := F.trans E
  replace S := S.trans E
  have zx0 := E.le
  clear E
  go_wp2_with fail
  refine (hI.out x0 _ _ _ (SlT.of_owns enc4_len e0.out ox0)).mono ?_
  rintro e w4 ⟨g0, k0, Hg, rfl, og0, E⟩
  have zI := E.le
  have zo0 := owns_ge ox0
  replace F := F.trans E
  replace S := S.trans E
  replace ox0 := owns_ext ox0 E
  clear E
  have zgt := og0.geTop
  have zgr := og0.geRow
  have hgl : ∀ x ∈ Hg, x.2.1 ≤ 3200 := og0.len3200
  replace hgl := hid hgl
  have sm1 := sumH_take hgl.out (k := P.length) og0.len (by omega)
  rw [take_all (l := Hg) og0.len (Nat.le_refl _)] at sm1
  go_wp2_with fail
  refine (eqRectSS_same _ _ _ _ _ _ _ og0.toS (ss0.ext S) (by omega) hbd.out).mono ?_
  rintro e w5 ⟨rfl, E⟩
  replace F := F.trans E
  replace S := S.trans E
  replace ox0 := owns_ext ox0 E
  replace og0 := og0.ext E
  clear E
  go_wp2_with fail
  refine (toRectS_any _ n0 _ l0 _ (h0.ext F) (by omega)).mono ?_
  rintro e w6 ⟨y0q, rfl, oy0, E⟩
  replace F := F.trans E
  replace S := S.trans E
  replace ox0 := owns_ext ox0 E
  replace og0 := og0.ext E
  clear E
  go_wp2_with fail
  refine (eqRectS_same _ _ _ _ _ l0 _ (SlT.of_owns enc4_len e0.out ox0) (SlT.of_owns enc4_len e0.out oy0) (by omega)).mono ?_
  rintro e w7 ⟨rfl, E⟩
  replace F := F.trans E
  replace S := S.trans E
  replace ox0 := owns_ext ox0 E
  replace og0 := og0.ext E
  clear E oy0
  go_wp2_with fail
  refine (markRectS_any x0q n0 n0 _ _ _ _ _ ox0 (by omega) (by omega) (by omega)).mono ?_
  rintro e w8 ⟨rfl, ox0m, M⟩
  clear ox0 ox0m
  have S2 := S.then M (fun k hk => by have := (zo0 k hk).1; omega)
  replace F := F0.trans S2
  replace og0 := og0.mut M (fun g hg hh => by have h5 := (zgt g hg).1; have h6 := (zo0 g hh).2; omega) (fun g hg hh => by have h5 := (zgr g hg).1; have h6 := (zo0 g hh).2; omega)
  replace S := S2
  clear S2 M
  have hkp : ¬ ((1 : Int) + n0 * 4 < 0) := by omega
  go_wp2_with fail
  refine (eqRectSS_same _ _ _ _ _ _ _ og0.toS (ss0.ext S) (by omega) hbd.out).mono ?_
  rintro e w9 ⟨rfl, E⟩
  replace F := F.trans E
  replace S := S.trans E
  replace og0 := og0.ext E
  clear E
  go_wp2_with fail
  refine (markRectSS_any g0 P.length k0 _ _ _ _ _ og0 (by omega) hgl.out (by omega) (by omega)).mono ?_
  rintro e w10 ⟨rfl, om0, M⟩
  have S2 := S.then M (fun k hk => by have := (zgr k hk).1; omega)
  replace F := F0.trans S2
  replace S := S2
  clear S2 M
  have hq0 : ¬ ((1 : Int) + sumH Hg < 0) := by omega
  go_wp2_with fail
  refine (heldRectSS_any g0 P.length k0 _ _ _ _ om0 (by omega) hgl.out (by omega) (by omega)).mono ?_
  rintro e w' ⟨rfl, rfl⟩
  go_wp2_with fail
  refine (toRectS_any _ n0 _ l0 _ (h0.ext F) (by omega)).mono ?_
  rintro e w11 ⟨r0, rfl, or0, E⟩
  replace F := F.trans E
  replace S := S.trans E
  replace om0 := om0.ext E
  clear E
  go_wp2_with fail
  refine (hI.out x0 _ _ _ (SlT.of_owns enc4_len e0.out or0)).mono ?_
  rintro e w12 ⟨b0, j0, Hh, rfl, oh0, E⟩
  replace F := F.trans E
  replace S := S.trans E
  replace om0 := om0.ext E
  clear E or0
  go_wp2_with fail
  refine (eqRectSS_same _ _ _ _ _ _ _ oh0.toS (ss0.ext S) (by omega) hbd.out).mono ?_
  rintro e w13 ⟨rfl, E⟩
  replace F := F.trans E
  replace S := S.trans E
  replace om0 := om0.ext E
  replace oh0 := oh0.ext E
  clear E
  go_wp2_with fail
  refine (heldRectSS_any g0 P.length k0 _ _ _ _ om0 (by omega) hgl.out (by omega) (by omega)).mono ?_
  rintro e w' ⟨rfl, rfl⟩
  go_wp2_with fail
  go_ret
  exact ⟨rfl, F⟩
theorem exactPatternParts_any (q : Option Addr) (n c : Nat) (l : List Q4) (w : World) (h : SlT enc4 4 w q n l) (hm : n ≤ maxLen) :
    Calls Try.prog 3 #[.slice q n c] w fun e w' => e = .returned (.bool true) ∧ Ext w w' :=
  lawPatternParts q n c l (ppG l) (ppC l) w h hm (ppG_len l) (hid fun hn W q c hW => specPatternParts_any q n c l W hW hn) (hid fun hn W q c hW => PatternParts_any q n c l W hW hn)
end Go.Proofs.Ytaigndaabmelhaa

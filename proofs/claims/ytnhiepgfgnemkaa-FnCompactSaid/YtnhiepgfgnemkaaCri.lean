/- CriticalPath (program): the chain of tight constraints. Condition: valid blocks and gap. -/
import Derived.Test.YtnhiepgfgnemkaaRev
namespace Go.Proofs.Ytnhiepgfgnemkaa
open Go.RowKit

theorem idx_cases {α : Type} (p : α → Bool) (l : List α) : (idx p l = -1 ∧ l.find? p = none ∧ l.any p = false) ∨ ∃ (j : Nat) (e : α), idx p l = (j : Int) ∧ l[j]? = some e ∧ p e = true ∧ l.find? p = some e ∧ (l.take j).any p = false := by
  induction l with
  | nil => exact Or.inl ⟨rfl, rfl, rfl⟩
  | cons x l ih =>
    cases hp : p x with
    | true =>
      refine Or.inr ⟨0, x, ?_, rfl, hp, by rw [List.find?_cons, hp], rfl⟩
      exact idx_hit (k := 0) rfl rfl hp
    | false =>
      rcases ih with ⟨_, h2, h3⟩ | ⟨j, e, h1, h2, h3, h4, h5⟩
      · refine Or.inl ⟨idx_miss (by rw [List.any_cons, hp, h3]; rfl), by rw [List.find?_cons, hp]; exact h2, by rw [List.any_cons, hp, h3]; rfl⟩
      · have h6 : ((x :: l).take (j + 1)).any p = false := by rw [List.take_succ_cons, List.any_cons, hp, h5]; rfl
        refine Or.inr ⟨j + 1, e, ?_, by simpa using h2, h3, by rw [List.find?_cons, hp]; exact h4, h6⟩
        exact idx_hit h6 (by simpa using h2) h3
def hitW (l : List Q4) (x : Int → Int) (W : Int) (i : Int) : Bool := decide (x i + (bA l i).c = W)
/-- The first block that reaches the width, or -1. -/
def atF (l : List Q4) (x : Int → Int) (W : Int) : Int := idx (hitW l x W) (upto l.length)
def chain (E : List Q3) (x : Int → Int) : Nat → Int → List Int
  | 0, _ => []
  | k + 1, a => if a < 0 then [] else match E.find? (tightC x a) with
    | none => [a]
    | some c => a :: chain E x k c.a
/-- The critical path. -/
def critF (l : List Q4) (g : Int) : List Int := (chain (csL l g) (posF l g) l.length (atF l (posF l g) (widF l g))).reverse
def rk (l : List Q4) (a : Int) : Nat := (ltr l).idxOf a
theorem rk_lt {l : List Q4} {i : Nat} (hi : i < l.length) : rk l i < l.length := by
  have := List.idxOf_lt_length_of_mem ((ltr_is l).perm.mem_iff.2 (mem_upto hi))
  rw [ltr_len] at this; exact this
theorem rk_edge {l : List Q4} {g : Int} {e : Q3} (he : e ∈ csL l g) : rk l e.a < rk l e.b := by
  have T := csL_topo l g
  have ha := T.memA e he
  have hb := T.memB e he
  have la := List.idxOf_lt_length_of_mem ha
  have lb := List.idxOf_lt_length_of_mem hb
  have ga : (ltr l)[(ltr l).idxOf e.a] = e.a := List.getElem_idxOf la
  have gb : (ltr l)[(ltr l).idxOf e.b] = e.b := List.getElem_idxOf lb
  rcases Nat.lt_trichotomy ((ltr l).idxOf e.a) ((ltr l).idxOf e.b) with h | h | h
  · exact h
  · exfalso
    have : e.a = e.b := by rw [← ga, ← gb]; congr 1
    have h2 := T.edge e he
    rw [this] at h2
    exact T.irr _ h2
  · exfalso
    have h3 := List.pairwise_iff_getElem.1 T.pair _ _ lb la h
    rw [ga, gb] at h3
    exact T.asym h3 (T.edge e he)
theorem chain_len (E : List Q3) (x : Int → Int) : ∀ k a, (chain E x k a).length ≤ k
  | 0, _ => by simp [chain]
  | k + 1, a => by
    rw [chain]; split
    · simp
    · split
      · simp
      · have := chain_len E x k (by assumption : Q3).a; simp; omega
theorem chain_neg {E : List Q3} {x : Int → Int} {k : Nat} {a : Int} (h : a < 0) : chain E x k a = [] := by
  cases k with
  | zero => rfl
  | succ k => rw [chain, if_pos h]
theorem chain_end {E : List Q3} {x : Int → Int} {k : Nat} {a : Int} (h : 0 ≤ a) (hf : E.find? (tightC x a) = none) : chain E x (k + 1) a = [a] := by rw [chain, if_neg (by omega), hf]
theorem chain_step {E : List Q3} {x : Int → Int} {k : Nat} {a : Int} {e : Q3} (h : 0 ≤ a) (hf : E.find? (tightC x a) = some e) : chain E x (k + 1) a = a :: chain E x k e.a := by rw [chain, if_neg (by omega), hf]
def sLen : Value → Nat
  | .slice _ n _ => n
  | _ => 0
theorem Blk.grown {w w' : World} {B : Nat} {cs : List Value} {t : TypeId} {row : Option Nat} (h : Blk w B cs t) (hg : w.grownBy w' row) (hne : row ≠ some B) : Blk w' B cs t := (hg.block B h.lt (fun e => hne e.symm)).trans h

set_option maxRecDepth 100000 in
set_option maxHeartbeats 16000000 in
theorem CriticalPath_ok (q : Option Addr) (n c : Nat) (l : List Q4) (g : Int) (w : World) (h : SlT enc4 4 w q n l) (hl : isBL l = true) (hg : wit g 0 8 = true) :
    Calls Try.prog 37 #[.slice q n c, .int .i64 g] w fun e w' => ∃ p d, e = .returned (.tuple #[.slice p (critF l g).length d, .int .i64 0]) ∧ w'.ownsRow w.heap.size 2 1 (.slice p (critF l g).length d) (critF l g).length (ints (critF l g)) ∧ Ext w w' := by
  obtain ⟨i0, hi, hz0, hz1, hz2⟩ := info_parts info_Int64
  have hc := codeB_ok hl hg
  have l1 := hid h.length
  have hn : n ≤ 12 := by have := (isBL_parts hl).1; rw [h.length] at this; exact this
  have hnI : (n : Int) ≤ 12 := by omega
  have hcode := blocksCode_any q n c l g w h (by omega)
  rw [hc] at hcode
  clear hc
  have hee := hid (csL_edge hl hg)
  rw [l1.out] at hee
  have hcl : (csL l g).length ≤ 144 := by have := csL_len l g; rw [h.length] at this; have := Nat.mul_le_mul hn hn; omega
  have hfb := hid ((posF_btw hl hg).mono (show (576 : Int) ≤ 1000 by omega))
  have hox0 := hid (posF_ok hl hg n)
  have hvb := hid (isBL_vblk hl)
  obtain ⟨W, hWd⟩ : ∃ W, W = widB l (tab n (posF l g)) := ⟨_, rfl⟩
  have hW : Hid (widF l g = W) := by show _ = _; rw [widF, l1.out, hWd]
  have hcrit : Hid (critF l g = (chain (csL l g) (posF l g) n (atF l (posF l g) W)).reverse) := by show _ = _; rw [critF, l1.out, hW.out]
  replace hl := hid hl
  replace hg := hid hg
  rw [hcrit.out]
  go_enter Try.func37, Try.ntmps37
  go_wp2_with fail
  refine hcode.mono ?_
  clear hcode
  rintro e w1 ⟨rfl, E1⟩
  go_wp2_with fail
  refine (compacted_any q n c l g w1 w1.heap.size (Nat.le_refl _) (h.ext E1) hl.out hg.out).mono ?_
  rintro e w2 ⟨qx, cx, rfl, ox, E2⟩
  go_wp2_with fail
  refine (constraints_any q n c l g _ (h.ext (E1.trans E2)) hl.out hg.out).mono ?_
  rintro e w3 ⟨qe, ce, rfl, oe, E3⟩
  have sX := hid ((tab_SlT ox).ext E3)
  have sE := hid (SlT.of_owns enc3_len rfl oe)
  have E03 := hid (E1.trans (E2.trans E3))
  have hqx0 := hid (show ∀ a, qx = some a → a.block < w3.heap.size from fun a ha => by subst ha; have := (ox.lt a.block rfl).2; have := E3.le; omega)
  have hqe0 := hid (show ∀ a, qe = some a → a.block < w3.heap.size from fun a ha => by subst ha; exact (oe.lt a.block rfl).2)
  clear ox oe E1 E2 E3
  obtain ⟨E, hEq⟩ : ∃ E, E = csL l g := ⟨_, rfl⟩
  rw [← hEq] at hcl hee sE ⊢
  replace hEq := hid hEq
  go_wp2_with fail
  generalize hWa : w3.alloc _ = w4
  obtain ⟨E4, z4, b4⟩ := boxes1 hWa
  clear hWa
  have gx4 := hid (show Blk w4 w3.heap.size [_] _ from b4)
  clear b4
  have g0 := gx4.out.cells 0
  simp only [List.getElem?_cons_zero] at g0
  go_wp2_with fail
  refine (widthOf_any q qx n c cx l (tab n (posF l g)) _ (h.ext (E03.out.trans E4)) (sX.out.ext E4) (by omega) hvb hox0).mono ?_
  rw [← hWd]
  replace hWd := hid hWd
  rintro e w5 ⟨rfl, E5⟩
  clear g0
  go_wp2_with fail
  generalize hWa : w5.alloc _ = w6
  obtain ⟨E6, z6, b6⟩ := boxes1 hWa
  clear hWa
  have ga6 := hid (show Blk w6 w5.heap.size [_] _ from b6)
  clear b6
  obtain ⟨ba, hba⟩ : ∃ ba, ba = w5.heap.size := ⟨_, rfl⟩
  obtain ⟨bx, hbx⟩ : ∃ bx, bx = w3.heap.size := ⟨_, rfl⟩
  rw [← hba] at ga6 ⊢
  rw [← hbx] at gx4 ⊢
  have hxa : bx ≠ ba := by have := E5.le; omega
  have gx6 := hid (gx4.out.ext (E5.trans E6))
  have sX6 := hid (sX.out.ext (E4.trans (E5.trans E6)))
  have sE6 := hid (sE.out.ext (E4.trans (E5.trans E6)))
  have E06 := hid (E03.out.trans (E4.trans (E5.trans E6)))
  have hww : w.heap.size ≤ w6.heap.size := E06.out.le
  have hwba : w.heap.size ≤ ba := by have := (E03.out.trans (E4.trans E5)).le; omega
  have hqX : Hid (∀ a, qx = some a → a.block ∉ [ba]) := fun a ha => by have := hqx0.out a ha; have := (E4.trans E5).le; simp; omega
  have hqE : Hid (∀ a, qe = some a → a.block ∉ [ba]) := fun a ha => by have := hqe0.out a ha; have := (E4.trans E5).le; simp; omega
  clear hqx0 hqe0
  have hs6 := hid (h.ext E06.out)
  have hbal : ba < w6.heap.size := by omega
  clear gx4 sX sE E03 E4 E5 E6 z4 z6 hba hbx
  replace hxa := hid hxa
  go_loopw [32] (fun i wr => ∃ k : Nat, k ≤ n ∧ i = .int .i64 k ∧ Ext w6 wr ∧ Hid (((upto n).take k).any (hitW l (posF l g) W) = false)) (fun i _ => n - (intOf i).toNat)
  case atStart => exact ⟨0, by omega, rfl, Ext.refl _, rfl⟩
  case round =>
    obtain ⟨k, hk, rfl, hX, hA⟩ := hrel
    have hxx := (gx6.out.ext hX).cells 0
    simp only [List.getElem?_cons_zero] at hxx
    by_cases hkn : k < n
    · obtain ⟨bl, ol, xi, rfl, hbl8, hxi, l0, l1', l2, l3⟩ := hs6.out.four hkn
      obtain ⟨bd, od, rfl, hbd8, d0⟩ := sX6.out.tab hkn
      have hwi := wid_bd hl.out (by rw [l1.out]; exact hkn)
      rw [bA_at hxi.out] at hwi
      obtain ⟨hwi0, hwi1⟩ := hwi
      have hku : Hid ((upto n)[k]? = some (k : Int)) := by show _ = _; simp [upto, hkn]
      have hkI : (k : Int) < n := by omega
      obtain ⟨P, hP⟩ : ∃ P, P = posF l g k := ⟨_, rfl⟩
      have hPb := hfb.out k
      rw [← hP] at d0 hPb
      obtain ⟨hP0, hP1⟩ := hPb
      have hhit : Hid (hitW l (posF l g) W k = decide (P + xi.c = W)) := by show _ = _; rw [hitW, bA_at hxi.out, hP]
      replace hP := hid hP
      replace d0 := (hX.cells _ _ hbd8).trans d0
      replace l0 := (hX.cells _ _ hbl8).trans l0
      replace l1' := (hX.cells _ _ hbl8).trans l1'
      replace l2 := (hX.cells _ _ hbl8).trans l2
      replace l3 := (hX.cells _ _ hbl8).trans l3
      go_wp2_with fail
      generalize hWb : wr.alloc _ = W0
      obtain ⟨E0, z0, b0⟩ := boxes1 hWb
      clear hWb
      have gb := (show Blk W0 _ [_, _, _, _] _ from b0).cells
      have k2 := gb 2
      have hz0' : wr.heap.size < W0.heap.size := by omega
      have hxx0 := (gx6.out.ext (hX.trans E0)).cells 0
      simp only [List.getElem?_cons_zero, List.getElem?_cons_succ] at k2 hxx0
      have y0 := (E0.cells bd (od + k) (by have := hX.le; omega)).trans d0
      have hbd0 : bd < W0.heap.size := by have := hX.le; omega
      have hbx0 : bx < W0.heap.size := by have := (gx6.out.ext (hX.trans E0)).lt; omega
      replace hX := hX.trans E0
      have hwr1 : IntKind.i64.wrap (P + xi.c) = P + xi.c := IntWalk.i64_in _ (by omega)
      replace z0 := hid z0
      clear gb b0 l0 l1' l2 l3 d0 hxx
      by_cases hh : P + xi.c = W
      · have hd1 : (P + xi.c == W) = true := by simpa using hh
        have hat : Hid (atF l (posF l g) W = (k : Int)) := by show _ = _; rw [atF, l1.out]; exact idx_hit hA.out hku.out (by rw [hhit.out]; simpa using hh)
        replace hh := hid hh
        refine wp_region_later (by kernel_rfl) (by kernel_rfl) ?_
        repeat (go_big_quiet_step (fail))
        refine wpQuiet_nil ?_
        rintro w7 ⟨⟨_, h7⟩, rfl⟩
        have hE7 := hX.trans h7
        have ga7 := ga6.out.ext hE7
        have fz := ga7.free 0
        have gc := ga7.cells 0
        simp only [List.getElem?_cons_zero] at gc
        go_wp2_with fail
        have hM7 := ((hE7.mut [ba]).setCell (p := ⟨ba, 0, none⟩) (by simp) (.int .i64 (k : Int))).alloc (.cells #[] 2)
        have hga9 := (ga7.set 0 (.int .i64 (k : Int))).alloc (.cells #[] 2)
        have ho9 : ((w7.setCell ⟨ba, 0, none⟩ (.int .i64 (k : Int))).alloc (.cells #[] 2)).ownsRow w6.heap.size 2 1 (.slice (some ⟨w7.heap.size, 0, none⟩) 0 0) 0 [] := by
          have := World.ownsRow_made (base := w6.heap.size) (e := 2) (size := 1) (w7.setCell ⟨ba, 0, none⟩ (.int .i64 (k : Int))) #[] 0 (by have := hE7.le; simp [World.setCell]; omega) (by simp [maxLen]) (by simp)
          simpa [World.setCell] using this
        generalize hG9 : w7.heap.size = g9 at ho9 ⊢
        generalize hW9 : World.alloc (World.setCell _ _ _) _ = W9 at hM7 hga9 ho9 ⊢
        have hM9 := hM7
        have hra : (k : Int) < 0 ∨ ∃ j : Nat, (k : Int) = j ∧ j < n ∧ rk l j < n := Or.inr ⟨k, rfl, hkn, by have := rk_lt (l := l) (i := k) (by rw [l1.out]; exact hkn); rw [l1.out] at this; exact this⟩
        clear hM7 hG9 hW9 hE7 ga7 fz gc h7 hwr1 hd1 k2 hxx0 y0 hbd0 hbx0 hz0' hP0 hP1 hwi0 hwi1
        obtain ⟨a0, ha0⟩ : ∃ a0 : Int, a0 = (k : Int) := ⟨_, rfl⟩
        rw [← ha0] at hga9 hra hat
        replace ha0 := hid ha0
        obtain ⟨PATH, hPATH⟩ : ∃ P, P = chain E (posF l g) n (atF l (posF l g) W) := ⟨_, rfl⟩
        rw [hat.out] at hPATH
        clear hA hX
        have hP0 : Hid (PATH = [] ++ chain E (posF l g) n a0) := hPATH
        replace hPATH := hid hPATH
        go_loopw [13] (fun v wr => ∃ (a : Int) (out : List Int) (f : Nat), Mut w6 wr [ba] ∧ Blk wr ba [.int .i64 a] 3 ∧ v ≠ .slice none 0 0 ∧ wr.ownsRow w6.heap.size 2 1 v out.length (ints out) ∧ out.length + f = n ∧ (a < 0 ∨ ∃ k : Nat, a = k ∧ k < n ∧ rk l k < f) ∧ Hid (PATH = out ++ chain E (posF l g) f a)) (fun v _ => n - sLen v)
        case atStart => exact ⟨a0, [], n, hM9, hga9, by simp, ho9, by simp, hra, hP0⟩
        case round =>
          clear hM9 hga9 ho9 hra hP0
          obtain ⟨a, out, f, hM, hga, hnn, ho, hf, hra, hI⟩ := hrel
          obtain ⟨gv, cv, rfl⟩ := owns_some2 ho hnn
          clear hnn
          have gc := hga.cells 0
          simp only [List.getElem?_cons_zero] at gc
          by_cases ha : 0 ≤ a
          · obtain ⟨k, rfl, hkn, hrk⟩ : ∃ k : Nat, a = k ∧ k < n ∧ rk l k < f := by
              rcases hra with h1 | h1
              · omega
              · exact h1
            obtain ⟨f, rfl⟩ : ∃ f', f = f' + 1 := ⟨f - 1, by omega⟩
            have hk0 : (0 : Int) ≤ k := by omega
            have hfv : Fresh w6 ba (.slice (some ⟨gv, 0, none⟩) out.length cv) := fun k hk => Or.inr (ho.lt k hk).1
            have hgv := owns_lt ho
            have hneg : Hid (Value.ownBlock (.slice (some ⟨gv, 0, none⟩) out.length cv) ≠ some ba) := fun hh => by have := (ho.lt _ hh).1; omega
            have hfz := hid hfv
            clear hfv
            replace hrk := hid hrk
            have hbase : w6.heap.size ≤ (wr.alloc (.cells #[.int .i64 (k : Int)] 2)).heap.size := by have := hM.size; simp; omega
            go_wp2_with (at_builtin; refine wpList_append_own_at _ rfl _ _ 23 rfl w6.heap.size 2 i0 _ 1 8 Try.underlying23 hi hz0 hz1 hz2 rfl (by omega) _ _ _ rfl (ho.alloc _) ⟨wr.heap.size, 0, none⟩ 1 1 [.int .i64 (k : Int)] rfl rfl (cells_new1 _ _ _) (one_int1 _) (len_le (by omega) (by omega)) (by omega) hbase ?_; intro v' wA hoA hgA hnA hbA)
            have hMA := (hM.alloc (.cells #[.int .i64 (k : Int)] 2)).append hfz.out hgA
            have hgaA := (hga.alloc (.cells #[.int .i64 (k : Int)] 2)).grown hgA hneg.out
            have hnA' : v' ≠ .slice none 0 0 := fun hh => by have := (hnA.1 hh).2; omega
            have hoA' : wA.ownsRow w6.heap.size 2 1 v' (out ++ [(k : Int)]).length (ints (out ++ [(k : Int)])) := by rw [List.length_append, ints, List.map_append]; exact hoA
            have hgxA := gx6.out.mut hMA (by simpa using hxa.out)
            have sEA := sE6.out.mut hMA hqE.out
            have sXA := sX6.out.mut hMA hqX.out
            have hp : Hid (PredCm 71 #[.pointer (some ⟨ba, 0, none⟩), .pointer (some ⟨bx, 0, none⟩)] (tightC (posF l g) k) E wA) := fun W x hx hE => crit1_any ba bx n cx _ (posF l g) k x W (sXA.ext hE) (hgxA.ext hE) (hgaA.ext hE) hkn (hee.out x hx) hfb.out
            have hcall := indexFuncCm_any qe E.length ce E (tightC (posF l g) k) 71 #[.pointer (some ⟨ba, 0, none⟩), .pointer (some ⟨bx, 0, none⟩)] (enters_of Try.func71 (by kernel_rfl) rfl) wA sEA hp.out (by omega)
            clear hgA hbA hoA hfz hneg gc hbase ho hga hgv hp hnA
            rcases idx_cases (tightC (posF l g) k) E with ⟨h1, h2, -⟩ | ⟨j, e, h1, h2, h3, h4, -⟩
            · rw [h1] at hcall
              have hPO : Hid (PATH = out ++ [(k : Int)]) := by show _ = _; rw [hI.out, chain_end hk0 h2]
              clear h1 h2 hI
              refine hcall.mono ?_
              clear hcall
              rintro e wF ⟨rfl, E8⟩
              have hoF := owns_ext hoA' E8
              have hMF := hMA.ext E8
              clear hoA' hMA hgaA hgxA sEA sXA E8
              obtain ⟨OUT, hOUT⟩ : ∃ O, O = out ++ [(k : Int)] := ⟨_, rfl⟩
              have hol : OUT.length ≤ 13 := by rw [hOUT, List.length_append]; simp; omega
              rw [← hOUT] at hoF hPO
              replace hOUT := hid hOUT
              obtain ⟨gF, cF, rfl⟩ := owns_some2 hoF hnA'
              clear hnA' hf
              have hgl := owns_lt hoF
              have hvE : Ext w wF := E06.out.then hMF (by intro k hk; simp at hk; omega)
              go_wp2_with fail
              refine (reverse_any gF cF w6.heap.size OUT _ hoF (by omega)).mono ?_
              rintro e wZ ⟨rfl, hoZ, hMZ⟩
              have hfin : Hid ((chain (csL l g) (posF l g) n (atF l (posF l g) W)).reverse = OUT.reverse) := by show _ = _; rw [← hEq.out, hat.out, ← hPATH.out, hPO.out]
              go_wp2_with fail
              go_ret2
              rw [hfin.out, List.length_reverse]
              exact ⟨_, _, rfl, Joins.ownsRow_le hoZ hww, hvE.then hMZ (by intro k hk; simp at hk; omega)⟩

            · rw [h1] at hcall
              have hjE : j < E.length := (List.getElem?_eq_some_iff.1 h2).1
              obtain ⟨⟨A, hA', hAn⟩, ⟨D, hD, hDn⟩, hc0, hc1⟩ := hee.out e (List.mem_of_getElem? h2)
              have hek : e.b = k := by simp [tightC] at h3; exact h3.1
              have hrk2 : rk l A < f := by
                have h5 := rk_edge (l := l) (g := g) (e := e) (by rw [← hEq.out]; exact List.mem_of_getElem? h2)
                rw [hA', hek] at h5
                have := hrk.out; omega
              have hI2 : Hid (PATH = (out ++ [(k : Int)]) ++ chain E (posF l g) f A) := by show _ = _; rw [hI.out, chain_step hk0 h4, hA']; simp
              have hjI : (j : Int) < E.length := by omega
              have hj0 : (0 : Int) ≤ j := by omega
              replace hrk2 := hid hrk2
              clear h1 h3 h4 hI hek hD hDn
              refine hcall.mono ?_
              clear hcall
              rintro e' w8 ⟨rfl, E8⟩
              have ho8 := owns_ext hoA' E8
              have hM8 := hMA.ext E8
              have hga8 := hgaA.ext E8
              obtain ⟨bc, oc, e2, rfl, hbc, he2, x0, x1, x2⟩ := (sEA.ext E8).three hjE
              obtain rfl : e = e2 := Option.some.inj (h2.symm.trans he2.out)
              rw [hA'] at x0
              have fz := hga8.free 0
              have gc := hga8.cells 0
              simp only [List.getElem?_cons_zero] at gc
              replace hA' := hid hA'
              replace h2 := hid h2
              have hne : Hid (v'.ownBlock ≠ some ba) := fun hh => by have := (hoA'.lt _ hh).1; omega
              clear hoA' hMA hgaA hgxA sEA sXA E8 x1 x2
              go_wp2_with fail
              go_roundw
              case rel =>
                refine ⟨A, out ++ [(k : Int)], f, hM8.setCell (p := ⟨ba, 0, none⟩) (by simp) _, hga8.set 0 _, hnA', owns_other ho8 hne.out _ _, by rw [List.length_append]; simp; omega, Or.inr ⟨A, rfl, hAn, hrk2.out⟩, hI2⟩
              case measure =>
                obtain ⟨q', c', rfl⟩ := owns_forms ho8
                simp [sLen]; omega
          · have hPO : Hid (PATH = out) := by show _ = _; rw [hI.out, chain_neg (by omega)]; simp
            have hoF := ho
            have hMF := hM
            have hol : out.length ≤ 13 := by omega
            clear ho hM hI hra
            have hgl := owns_lt hoF
            have hvE : Ext w wr := E06.out.then hMF (by intro k hk; simp at hk; omega)
            go_wp2_with fail
            refine (reverse_any gv cv w6.heap.size out _ hoF (by omega)).mono ?_
            rintro e wZ ⟨rfl, hoZ, hMZ⟩
            have hfin : Hid ((chain (csL l g) (posF l g) n (atF l (posF l g) W)).reverse = out.reverse) := by show _ = _; rw [← hEq.out, hat.out, ← hPATH.out, hPO.out]
            go_wp2_with fail
            go_ret2
            rw [hfin.out, List.length_reverse]
            exact ⟨_, _, rfl, Joins.ownsRow_le hoZ hww, hvE.then hMZ (by intro k hk; simp at hk; omega)⟩
      · have hd1 : (P + xi.c == W) = false := by simpa using hh
        have hnx : Hid (((upto n).take (k + 1)).any (hitW l (posF l g) W) = false) := any_take_snoc hA.out hku.out (by rw [hhit.out]; simpa using hh)
        refine wp_region_later (by kernel_rfl) (by kernel_rfl) ?_
        repeat (go_big_quiet_step (fail))
        refine wpQuiet_nil ?_
        rintro w7 ⟨⟨_, h7⟩, rfl⟩
        go_wp2_with fail
        go_roundw
        case rel => exact ⟨k + 1, by omega, by go_num, hX.trans h7, hnx⟩
        case measure => simp [intOf]; omega
    · have hat : Hid (atF l (posF l g) W = -1) := by
        have := hA.out
        rw [take_all (upto_len n) (by omega)] at this
        show _ = _; rw [atF, l1.out]; exact idx_miss this
      go_wp2_with fail
      have hM9 := (hX.mut [ba]).alloc (.cells #[] 2)
      have hga9 := (ga6.out.ext hX).alloc (.cells #[] 2)
      have ho9 : (wr.alloc (.cells #[] 2)).ownsRow w6.heap.size 2 1 (.slice (some ⟨wr.heap.size, 0, none⟩) 0 0) 0 [] := by
        have := World.ownsRow_made (base := w6.heap.size) (e := 2) (size := 1) wr #[] 0 hX.le (by simp [maxLen]) (by simp)
        exact this
      generalize hG9 : wr.heap.size = g9 at ho9 ⊢
      generalize hW9 : World.alloc _ _ = W9 at hM9 hga9 ho9 ⊢
      have hra : (-1 : Int) < 0 ∨ ∃ j : Nat, (-1 : Int) = j ∧ j < n ∧ rk l j < n := Or.inl (by omega)
      clear hG9 hW9 hxx
      obtain ⟨a0, ha0⟩ : ∃ a0 : Int, a0 = -1 := ⟨_, rfl⟩
      rw [← ha0] at hga9 hra hat
      replace ha0 := hid ha0
      obtain ⟨PATH, hPATH⟩ : ∃ P, P = chain E (posF l g) n (atF l (posF l g) W) := ⟨_, rfl⟩
      rw [hat.out] at hPATH
      clear hA hX
      have hP0 : Hid (PATH = [] ++ chain E (posF l g) n a0) := hPATH
      replace hPATH := hid hPATH
      go_loopw [13] (fun v wr => ∃ (a : Int) (out : List Int) (f : Nat), Mut w6 wr [ba] ∧ Blk wr ba [.int .i64 a] 3 ∧ v ≠ .slice none 0 0 ∧ wr.ownsRow w6.heap.size 2 1 v out.length (ints out) ∧ out.length + f = n ∧ (a < 0 ∨ ∃ k : Nat, a = k ∧ k < n ∧ rk l k < f) ∧ Hid (PATH = out ++ chain E (posF l g) f a)) (fun v _ => n - sLen v)
      case atStart => exact ⟨a0, [], n, hM9, hga9, by simp, ho9, by simp, hra, hP0⟩
      case round =>
        clear hM9 hga9 ho9 hra hP0
        obtain ⟨a, out, f, hM, hga, hnn, ho, hf, hra, hI⟩ := hrel
        obtain ⟨gv, cv, rfl⟩ := owns_some2 ho hnn
        clear hnn
        have gc := hga.cells 0
        simp only [List.getElem?_cons_zero] at gc
        by_cases ha : 0 ≤ a
        · obtain ⟨k, rfl, hkn, hrk⟩ : ∃ k : Nat, a = k ∧ k < n ∧ rk l k < f := by
            rcases hra with h1 | h1
            · omega
            · exact h1
          obtain ⟨f, rfl⟩ : ∃ f', f = f' + 1 := ⟨f - 1, by omega⟩
          have hk0 : (0 : Int) ≤ k := by omega
          have hfv : Fresh w6 ba (.slice (some ⟨gv, 0, none⟩) out.length cv) := fun k hk => Or.inr (ho.lt k hk).1
          have hgv := owns_lt ho
          have hneg : Hid (Value.ownBlock (.slice (some ⟨gv, 0, none⟩) out.length cv) ≠ some ba) := fun hh => by have := (ho.lt _ hh).1; omega
          have hfz := hid hfv
          clear hfv
          replace hrk := hid hrk
          have hbase : w6.heap.size ≤ (wr.alloc (.cells #[.int .i64 (k : Int)] 2)).heap.size := by have := hM.size; simp; omega
          go_wp2_with (at_builtin; refine wpList_append_own_at _ rfl _ _ 23 rfl w6.heap.size 2 i0 _ 1 8 Try.underlying23 hi hz0 hz1 hz2 rfl (by omega) _ _ _ rfl (ho.alloc _) ⟨wr.heap.size, 0, none⟩ 1 1 [.int .i64 (k : Int)] rfl rfl (cells_new1 _ _ _) (one_int1 _) (len_le (by omega) (by omega)) (by omega) hbase ?_; intro v' wA hoA hgA hnA hbA)
          have hMA := (hM.alloc (.cells #[.int .i64 (k : Int)] 2)).append hfz.out hgA
          have hgaA := (hga.alloc (.cells #[.int .i64 (k : Int)] 2)).grown hgA hneg.out
          have hnA' : v' ≠ .slice none 0 0 := fun hh => by have := (hnA.1 hh).2; omega
          have hoA' : wA.ownsRow w6.heap.size 2 1 v' (out ++ [(k : Int)]).length (ints (out ++ [(k : Int)])) := by rw [List.length_append, ints, List.map_append]; exact hoA
          have hgxA := gx6.out.mut hMA (by simpa using hxa.out)
          have sEA := sE6.out.mut hMA hqE.out
          have sXA := sX6.out.mut hMA hqX.out
          have hp : Hid (PredCm 71 #[.pointer (some ⟨ba, 0, none⟩), .pointer (some ⟨bx, 0, none⟩)] (tightC (posF l g) k) E wA) := fun W x hx hE => crit1_any ba bx n cx _ (posF l g) k x W (sXA.ext hE) (hgxA.ext hE) (hgaA.ext hE) hkn (hee.out x hx) hfb.out
          have hcall := indexFuncCm_any qe E.length ce E (tightC (posF l g) k) 71 #[.pointer (some ⟨ba, 0, none⟩), .pointer (some ⟨bx, 0, none⟩)] (enters_of Try.func71 (by kernel_rfl) rfl) wA sEA hp.out (by omega)
          clear hgA hbA hoA hfz hneg gc hbase ho hga hgv hp hnA
          rcases idx_cases (tightC (posF l g) k) E with ⟨h1, h2, -⟩ | ⟨j, e, h1, h2, h3, h4, -⟩
          · rw [h1] at hcall
            have hPO : Hid (PATH = out ++ [(k : Int)]) := by show _ = _; rw [hI.out, chain_end hk0 h2]
            clear h1 h2 hI
            refine hcall.mono ?_
            clear hcall
            rintro e wF ⟨rfl, E8⟩
            have hoF := owns_ext hoA' E8
            have hMF := hMA.ext E8
            clear hoA' hMA hgaA hgxA sEA sXA E8
            obtain ⟨OUT, hOUT⟩ : ∃ O, O = out ++ [(k : Int)] := ⟨_, rfl⟩
            have hol : OUT.length ≤ 13 := by rw [hOUT, List.length_append]; simp; omega
            rw [← hOUT] at hoF hPO
            replace hOUT := hid hOUT
            obtain ⟨gF, cF, rfl⟩ := owns_some2 hoF hnA'
            clear hnA' hf
            have hgl := owns_lt hoF
            have hvE : Ext w wF := E06.out.then hMF (by intro k hk; simp at hk; omega)
            go_wp2_with fail
            refine (reverse_any gF cF w6.heap.size OUT _ hoF (by omega)).mono ?_
            rintro e wZ ⟨rfl, hoZ, hMZ⟩
            have hfin : Hid ((chain (csL l g) (posF l g) n (atF l (posF l g) W)).reverse = OUT.reverse) := by show _ = _; rw [← hEq.out, hat.out, ← hPATH.out, hPO.out]
            go_wp2_with fail
            go_ret2
            rw [hfin.out, List.length_reverse]
            exact ⟨_, _, rfl, Joins.ownsRow_le hoZ hww, hvE.then hMZ (by intro k hk; simp at hk; omega)⟩

          · rw [h1] at hcall
            have hjE : j < E.length := (List.getElem?_eq_some_iff.1 h2).1
            obtain ⟨⟨A, hA', hAn⟩, ⟨D, hD, hDn⟩, hc0, hc1⟩ := hee.out e (List.mem_of_getElem? h2)
            have hek : e.b = k := by simp [tightC] at h3; exact h3.1
            have hrk2 : rk l A < f := by
              have h5 := rk_edge (l := l) (g := g) (e := e) (by rw [← hEq.out]; exact List.mem_of_getElem? h2)
              rw [hA', hek] at h5
              have := hrk.out; omega
            have hI2 : Hid (PATH = (out ++ [(k : Int)]) ++ chain E (posF l g) f A) := by show _ = _; rw [hI.out, chain_step hk0 h4, hA']; simp
            have hjI : (j : Int) < E.length := by omega
            have hj0 : (0 : Int) ≤ j := by omega
            replace hrk2 := hid hrk2
            clear h1 h3 h4 hI hek hD hDn
            refine hcall.mono ?_
            clear hcall
            rintro e' w8 ⟨rfl, E8⟩
            have ho8 := owns_ext hoA' E8
            have hM8 := hMA.ext E8
            have hga8 := hgaA.ext E8
            obtain ⟨bc, oc, e2, rfl, hbc, he2, x0, x1, x2⟩ := (sEA.ext E8).three hjE
            obtain rfl : e = e2 := Option.some.inj (h2.symm.trans he2.out)
            rw [hA'] at x0
            have fz := hga8.free 0
            have gc := hga8.cells 0
            simp only [List.getElem?_cons_zero] at gc
            replace hA' := hid hA'
            replace h2 := hid h2
            have hne : Hid (v'.ownBlock ≠ some ba) := fun hh => by have := (hoA'.lt _ hh).1; omega
            clear hoA' hMA hgaA hgxA sEA sXA E8 x1 x2
            go_wp2_with fail
            go_roundw
            case rel =>
              refine ⟨A, out ++ [(k : Int)], f, hM8.setCell (p := ⟨ba, 0, none⟩) (by simp) _, hga8.set 0 _, hnA', owns_other ho8 hne.out _ _, by rw [List.length_append]; simp; omega, Or.inr ⟨A, rfl, hAn, hrk2.out⟩, hI2⟩
            case measure =>
              obtain ⟨q', c', rfl⟩ := owns_forms ho8
              simp [sLen]; omega
        · have hPO : Hid (PATH = out) := by show _ = _; rw [hI.out, chain_neg (by omega)]; simp
          have hoF := ho
          have hMF := hM
          have hol : out.length ≤ 13 := by omega
          clear ho hM hI hra
          have hgl := owns_lt hoF
          have hvE : Ext w wr := E06.out.then hMF (by intro k hk; simp at hk; omega)
          go_wp2_with fail
          refine (reverse_any gv cv w6.heap.size out _ hoF (by omega)).mono ?_
          rintro e wZ ⟨rfl, hoZ, hMZ⟩
          have hfin : Hid ((chain (csL l g) (posF l g) n (atF l (posF l g) W)).reverse = out.reverse) := by show _ = _; rw [← hEq.out, hat.out, ← hPATH.out, hPO.out]
          go_wp2_with fail
          go_ret2
          rw [hfin.out, List.length_reverse]
          exact ⟨_, _, rfl, Joins.ownsRow_le hoZ hww, hvE.then hMZ (by intro k hk; simp at hk; omega)⟩
end Go.Proofs.Ytnhiepgfgnemkaa

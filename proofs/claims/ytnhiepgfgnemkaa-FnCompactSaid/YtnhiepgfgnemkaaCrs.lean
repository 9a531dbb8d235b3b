/- CriticalPath (reference): the chain of tight constraints. Condition: valid blocks and gap. -/
import Derived.Test.YtnhiepgfgnemkaaCri
namespace Go.Proofs.Ytnhiepgfgnemkaa
open Go.RowKit

/-- The first of the places from j on that satisfy p, or -1. -/
def frm (p : Int → Bool) (n j : Nat) : Int := match ((upto n).drop j).find? p with
  | some i => i
  | none => -1
theorem frm_end (p : Int → Bool) (n : Nat) : frm p n n = -1 := by rw [frm, upto_drop_all]; rfl
theorem frm_step {p : Int → Bool} {n j : Nat} (h : j < n) : frm p n j = if p j = true then (j : Int) else frm p n (j + 1) := by
  rw [frm, upto_drop h, List.find?_cons]
  cases p j <;> rfl
theorem frm_zero (p : Int → Bool) (n : Nat) : frm p n 0 = idx p (upto n) := by
  rw [frm, List.drop_zero]
  rcases idx_cases p (upto n) with ⟨h1, h2, -⟩ | ⟨j, e, h1, h2, h3, h4, -⟩
  · rw [h1, h2]
  · rw [h1, h4]
    have hj : j < n := by have := (List.getElem?_eq_some_iff.1 h2).1; rwa [upto_len] at this
    simp [upto, hj] at h2
    exact h2.symm
/-- Where the chain goes on from the elements from j on, or -1. -/
def nxt (p : Q3 → Bool) (E : List Q3) (j : Nat) : Int := match (E.drop j).find? p with
  | some e => e.a
  | none => -1
theorem nxt_end (p : Q3 → Bool) (E : List Q3) : nxt p E E.length = -1 := by rw [nxt, List.drop_eq_nil_of_le (Nat.le_refl _)]; rfl
theorem nxt_step {p : Q3 → Bool} {E : List Q3} {j : Nat} {e : Q3} (h : E[j]? = some e) : nxt p E j = if p e = true then e.a else nxt p E (j + 1) := by
  obtain ⟨hj, hx⟩ := List.getElem?_eq_some_iff.1 h
  rw [nxt, List.drop_eq_getElem_cons hj, hx, List.find?_cons]
  cases p e <;> rfl
theorem chain_nxt {E : List Q3} {x : Int → Int} {k : Nat} {a : Int} (h : 0 ≤ a) : chain E x (k + 1) a = a :: chain E x k (nxt (tightC x a) E 0) := by
  rw [chain, if_neg (by omega), nxt, List.drop_zero]
  cases E.find? (tightC x a) with
  | none => show [a] = a :: chain E x k (-1); rw [chain_neg (by omega)]
  | some c => rfl
theorem nxt_cases (p : Q3 → Bool) (E : List Q3) : nxt p E 0 = -1 ∨ ∃ e ∈ E, p e = true ∧ nxt p E 0 = e.a := by
  rw [nxt, List.drop_zero]
  cases hf : E.find? p with
  | none => exact Or.inl rfl
  | some e => exact Or.inr ⟨e, List.mem_of_find?_eq_some hf, List.find?_some hf, rfl⟩
theorem owns_new1 (w : World) (base : Nat) (hb : base ≤ w.heap.size) (v : Int) (t : TypeId) : (w.alloc (.cells #[.int .i64 v] t)).ownsRow base t 1 (.slice (some ⟨w.heap.size, 0, none⟩) 1 1) 1 [.int .i64 v] :=
  ⟨rfl, Or.inr ⟨_, _, _, rfl, hb, heap_new _ _, Nat.le_refl _, by unfold maxLen; omega, rfl, rfl⟩⟩
theorem ints_one (xs : List Int) : ∀ u ∈ ints xs, u.oneCell' = true := fun u hu => by
  obtain ⟨x, _, rfl⟩ := List.mem_map.1 hu; rfl
set_option maxRecDepth 100000 in
set_option maxHeartbeats 16000000 in
theorem specCriticalPath_ok (q : Option Addr) (n c : Nat) (l : List Q4) (g : Int) (w : World) (h : SlT enc4 4 w q n l) (hl : isBL l = true) (hg : wit g 0 8 = true) :
    Calls Try.prog 36 #[.slice q n c, .int .i64 g] w fun e w' => ∃ p d, e = .returned (.tuple #[.slice p (critF l g).length d, .int .i64 0]) ∧ w'.ownsRow w.heap.size 2 1 (.slice p (critF l g).length d) (critF l g).length (ints (critF l g)) ∧ Ext w w' := by
  obtain ⟨i0, hi, hz0, hz1, hz2⟩ := info_parts info_Int64
  have l1 := hid h.length
  have hn : n ≤ 12 := by have := (isBL_parts hl).1; rw [h.length] at this; exact this
  have hnI : (n : Int) ≤ 12 := by omega
  have hee := hid (csL_edge hl hg)
  rw [l1.out] at hee
  have hcl : (csL l g).length ≤ 144 := by have := csL_len l g; rw [h.length] at this; have := Nat.mul_le_mul hn hn; omega
  have hfb := hid ((posF_btw hl hg).mono (show (576 : Int) ≤ 1000 by omega))
  have hox0 := hid (posF_ok hl hg n)
  have hvb := hid (isBL_vblk hl)
  obtain ⟨W, hWd⟩ : ∃ W, W = widB l (tab n (posF l g)) := ⟨_, rfl⟩
  have hW : Hid (widF l g = W) := by show _ = _; rw [widF, l1.out, hWd]
  obtain ⟨PATH, hPATH⟩ : ∃ P, P = critF l g := ⟨_, rfl⟩
  have hcrit : Hid (PATH = (chain (csL l g) (posF l g) n (atF l (posF l g) W)).reverse) := by show _ = _; rw [hPATH, critF, l1.out, hW.out]
  rw [← hPATH]
  replace hPATH := hid hPATH
  replace hl := hid hl
  replace hg := hid hg
  go_enter Try.func36, Try.ntmps36
  go_wp2_with fail
  refine (specCompact_ok q n c l g w h hl.out hg.out).mono ?_
  rintro e w1 ⟨qx, cx, rfl, ox, E1⟩
  go_wp2_with fail
  refine (l31Constraints_any q n c l g _ (h.ext E1) hl.out hg.out).mono ?_
  rintro e w2 ⟨qe, ce, rfl, oe, E2⟩
  have sX := hid ((tab_SlT ox).ext E2)
  have sE := hid (SlT.of_owns enc3_len rfl oe)
  go_wp2_with fail
  refine (l31Width_any q qx n c cx l (tab n (posF l g)) _ (h.ext (E1.trans E2)) sX.out (by omega) hvb hox0).mono ?_
  rw [← hWd]
  replace hWd := hid hWd
  rintro e w4 ⟨rfl, E3⟩
  have E04 := hid (E1.trans (E2.trans E3))
  have hs := hid (h.ext E04.out)
  replace sX := hid (sX.out.ext E3)
  replace sE := hid (sE.out.ext E3)
  have hww : w.heap.size ≤ w4.heap.size := E04.out.le
  clear ox oe E1 E2 E3
  obtain ⟨E, hEq⟩ : ∃ E, E = csL l g := ⟨_, rfl⟩
  rw [← hEq] at hcl hee sE hcrit ⊢
  replace hEq := hid hEq
  go_wp2_with fail
  go_loopw [10, 11] (fun a z wr => ∃ (y : Int) (j : Nat), z = .int .i64 y ∧ Hid (y = (j : Int) - 1) ∧ j ≤ n ∧ Ext w4 wr ∧ a = .int .i64 (frm (hitW l (posF l g) W) n j)) (fun _ z _ => (intOf z + 1).toNat)
  case atStart => exact ⟨_, n, rfl, rfl, Nat.le_refl _, Ext.refl _, by rw [frm_end]⟩
  case round =>
    obtain ⟨y, j, rfl, hy, hj, hX, rfl⟩ := hrel
    by_cases hj0 : 0 < j
    · obtain ⟨k, rfl⟩ : ∃ k, j = k + 1 := ⟨j - 1, by omega⟩
      obtain rfl : y = (k : Int) := by have := hy.out; omega
      clear hy hj0
      have hkn : k < n := by omega
      obtain ⟨bl, ol, xi, rfl, hbl8, hxi, l0, l1', l2, l3⟩ := hs.out.four hkn
      obtain ⟨bd, od, rfl, hbd8, d0⟩ := sX.out.tab hkn
      have hwi := wid_bd hl.out (by rw [l1.out]; exact hkn)
      rw [bA_at hxi.out] at hwi
      obtain ⟨hwi0, hwi1⟩ := hwi
      have hkI : (k : Int) < n := by omega
      have hk0 : (0 : Int) ≤ k := by omega
      obtain ⟨P, hP⟩ : ∃ P, P = posF l g k := ⟨_, rfl⟩
      have hPb := hfb.out k
      rw [← hP] at d0 hPb
      obtain ⟨hP0, hP1⟩ := hPb
      have hhit : Hid (hitW l (posF l g) W k = decide (P + xi.c = W)) := by show _ = _; rw [hitW, bA_at hxi.out, hP]
      replace hP := hid hP
      replace d0 := (hX.cells _ _ hbd8).trans d0
      replace l2 := (hX.cells _ _ hbl8).trans l2
      have hbd : bd < wr.heap.size := by have := hX.le; omega
      have hbl : bl < wr.heap.size := by have := hX.le; omega
      have hwr1 : IntKind.i64.wrap (P + xi.c) = P + xi.c := IntWalk.i64_in _ (by omega)
      have hst := hid (frm_step (p := hitW l (posF l g) W) hkn)
      obtain ⟨F, hF⟩ : ∃ F, F = frm (hitW l (posF l g) W) n (k + 1) := ⟨_, rfl⟩
      rw [← hF] at hst ⊢
      replace hF := hid hF
      clear l0 l1' l3
      by_cases hh : P + xi.c = W
      · have hd1 : (P + xi.c == W) = true := by simpa using hh
        have hst2 : Hid (frm (hitW l (posF l g) W) n k = (k : Int)) := by show _ = _; rw [hst.out, if_pos (by rw [hhit.out]; simpa using hh)]
        replace hh := hid hh
        go_wp2_with fail
        refine wp_region_later (by kernel_rfl) (by kernel_rfl) ?_
        repeat (go_big_quiet_step (fail))
        refine wpQuiet_nil ?_
        rintro w7 ⟨⟨_, h7⟩, rfl⟩
        go_wp2_with fail
        go_roundw
        case rel => exact ⟨_, k, rfl, rfl, by omega, hX.trans h7, by rw [hst2.out]⟩
        case measure => simp [intOf]
      · have hd1 : (P + xi.c == W) = false := by simpa using hh
        have hst2 : Hid (frm (hitW l (posF l g) W) n k = F) := by show _ = _; rw [hst.out, if_neg (by rw [hhit.out]; simpa using hh)]
        go_wp2_with fail
        refine wp_region_later (by kernel_rfl) (by kernel_rfl) ?_
        repeat (go_big_quiet_step (fail))
        refine wpQuiet_nil ?_
        rintro w7 ⟨⟨_, h7⟩, rfl⟩
        go_wp2_with fail
        go_roundw
        case rel => exact ⟨_, k, rfl, rfl, by omega, hX.trans h7, by rw [hst2.out]⟩
        case measure => simp [intOf]
    · obtain rfl : j = 0 := by omega
      obtain rfl : y = -1 := by have := hy.out; omega
      clear hy hj0
      obtain ⟨a0, ha0⟩ : ∃ a, a = frm (hitW l (posF l g) W) n 0 := ⟨_, rfl⟩
      have hat : Hid (atF l (posF l g) W = a0) := by show _ = _; rw [ha0, frm_zero, atF, l1.out]
      have hra : a0 < 0 ∨ ∃ k : Nat, a0 = k ∧ k < n ∧ rk l k < n := by
        rw [frm_zero] at ha0
        rcases idx_cases (hitW l (posF l g) W) (upto n) with ⟨h1, -, -⟩ | ⟨j, e, h1, h2, -, -, -⟩
        · left; rw [ha0, h1]; omega
        · right
          have hj : j < n := by have := (List.getElem?_eq_some_iff.1 h2).1; rwa [upto_len] at this
          exact ⟨j, by rw [ha0, h1], hj, by have := rk_lt (l := l) (i := j) (by rw [l1.out]; exact hj); rw [l1.out] at this; exact this⟩
      rw [← ha0]
      have hP0 : Hid (PATH = (chain E (posF l g) n a0).reverse ++ []) := by show _ = _; rw [hcrit.out, hat.out, List.append_nil]
      replace ha0 := hid ha0
      clear hcrit hj
      go_wp2_with fail
      have ho0 : (wr.alloc (.cells #[] 2)).ownsRow w4.heap.size 2 1 (.slice (some ⟨wr.heap.size, 0, none⟩) 0 0) 0 [] := by
        have := World.ownsRow_made (base := w4.heap.size) (e := 2) (size := 1) wr #[] 0 hX.le (by simp [maxLen]) (by simp)
        exact this
      go_loopw [10, 12] (fun av v wr => ∃ (a : Int) (out : List Int) (f : Nat), av = .int .i64 a ∧ Ext w4 wr ∧ v ≠ .slice none 0 0 ∧ wr.ownsRow w4.heap.size 2 1 v out.length (ints out) ∧ out.length + f = n ∧ (a < 0 ∨ ∃ k : Nat, a = k ∧ k < n ∧ rk l k < f) ∧ Hid (PATH = (chain E (posF l g) f a).reverse ++ out)) (fun _ v _ => n - sLen v)
      case atStart => exact ⟨a0, [], n, rfl, hX.alloc _, by simp, ho0, by simp, hra, hP0⟩
      case round =>
        clear ho0 hra hP0 hX hat
        obtain ⟨a, out, f, rfl, hX, hnn, ho, hf, hra, hI⟩ := hrel
        obtain ⟨gv, cv, rfl⟩ := owns_some2 ho hnn
        clear hnn
        by_cases ha : 0 ≤ a
        · obtain ⟨k, rfl, hkn, hrk⟩ : ∃ k : Nat, a = k ∧ k < n ∧ rk l k < f := by
            rcases hra with h1 | h1
            · omega
            · exact h1
          obtain ⟨f, rfl⟩ : ∃ f', f = f' + 1 := ⟨f - 1, by omega⟩
          have hk0 : (0 : Int) ≤ k := by omega
          have hI2 : Hid (PATH = (chain E (posF l g) f (nxt (tightC (posF l g) k) E 0)).reverse ++ ((k : Int) :: out)) := by show _ = _; rw [hI.out, chain_nxt hk0]; simp
          have hgv := owns_lt ho
          have hnw := owns_new1 wr w4.heap.size hX.le (k : Int) 2
          have hcs : ∀ j u, (ints out)[j]? = some u → (wr.alloc (.cells #[.int .i64 (k : Int)] 2)).cell? ((⟨gv, 0, none⟩ : Addr).add j) = some u := fun j u hu => by
            have hjl : j < out.length * 1 := by have := (List.getElem?_eq_some_iff.1 hu).1; rw [ints_len] at this; omega
            rw [add_plain, Nat.zero_add, (ho.alloc _).cellAt j hjl, hu]
          have hil := ints_len out
          replace hrk := hid hrk
          replace hcs := hid hcs
          clear hI hra ha
          have hbase : w4.heap.size ≤ (wr.alloc (.cells #[.int .i64 (k : Int)] 2)).heap.size := (hX.alloc _).le
          replace hil := hid hil
          go_wp2_with (at_builtin; refine wpList_append_own_at _ rfl _ _ 23 rfl w4.heap.size 2 i0 _ 1 8 Try.underlying23 hi hz0 hz1 hz2 rfl (by omega) _ _ _ rfl hnw ⟨gv, 0, none⟩ out.length cv (ints out) rfl (by rw [hil.out]; omega) hcs.out (ints_one out) (len_le (by omega) (by omega)) (by omega) hbase ?_; intro v' wA hoA hgA hnA hbA)
          have hXA := (hX.alloc (.cells #[.int .i64 (k : Int)] 2)).grown hgA (fun b hb => (hnw.lt b hb).1)
          have hoA' : wA.ownsRow w4.heap.size 2 1 v' ((k : Int) :: out).length (ints ((k : Int) :: out)) := by rw [List.length_cons, Nat.add_comm]; exact hoA
          have hnA' : v' ≠ .slice none 0 0 := fun hh => by have := (hnA.1 hh).1; cases this
          clear hgA hbA hnA hoA hnw hcs hil hbase ho hX hgv
          go_loopw [13, 14] (fun b z wr => ∃ (y : Int) (j : Nat), z = .int .i64 y ∧ Hid (y = (j : Int) - 1) ∧ j ≤ E.length ∧ Ext wA wr ∧ b = .int .i64 (nxt (tightC (posF l g) k) E j)) (fun _ z _ => (intOf z + 1).toNat)
          case atStart => exact ⟨_, E.length, rfl, rfl, Nat.le_refl _, Ext.refl _, by rw [nxt_end]⟩
          case round =>
            obtain ⟨y, j, rfl, hy, hj, hX, rfl⟩ := hrel
            by_cases hj0 : 0 < j
            · obtain ⟨m, rfl⟩ : ∃ m, j = m + 1 := ⟨j - 1, by omega⟩
              obtain rfl : y = (m : Int) := by have := hy.out; omega
              clear hy hj0
              have hmE : m < E.length := by omega
              obtain ⟨bc, oc, e, rfl, hbc8, he, e0, e1, e2⟩ := sE.out.three hmE
              obtain ⟨⟨A, hA, hAn⟩, ⟨D, hD, hDn⟩, hc0, hc1⟩ := hee.out e (List.mem_of_getElem? he.out)
              have hXw := hXA.trans hX
              obtain ⟨bd, od, rfl, hbd8, d0⟩ := sX.out.tab hAn
              obtain ⟨bd', od', e3, hbd8', d1⟩ := sX.out.tab hkn
              cases e3
              obtain ⟨PA, hPA⟩ : ∃ P, P = posF l g A := ⟨_, rfl⟩
              obtain ⟨PK, hPK⟩ : ∃ P, P = posF l g k := ⟨_, rfl⟩
              have hPb := hfb.out A
              rw [← hPA] at d0 hPb
              rw [← hPK] at d1
              obtain ⟨hP0, hP1⟩ := hPb
              have hti : Hid (tightC (posF l g) k e = (decide ((D : Int) = k) && decide (PA + e.c = PK))) := by show _ = _; rw [tightC, hA, hD, hPA, hPK]
              replace hPA := hid hPA
              replace hPK := hid hPK
              rw [hA] at e0
              rw [hD] at e1
              replace d0 := (hXw.cells _ _ hbd8).trans d0
              replace d1 := (hXw.cells _ _ hbd8).trans d1
              replace e0 := (hXw.cells _ _ hbc8).trans e0
              replace e1 := (hXw.cells _ _ hbc8).trans e1
              replace e2 := (hXw.cells _ _ hbc8).trans e2
              have hbd : bd < wr.heap.size := by have := hXw.le; omega
              have hbc : bc < wr.heap.size := by have := hXw.le; omega
              have hmI : (m : Int) < E.length := by omega
              have hm0 : (0 : Int) ≤ m := by omega
              have hAI : (A : Int) < n := by omega
              have hkI : (k : Int) < n := by omega
              have hwr1 : IntKind.i64.wrap (PA + e.c) = PA + e.c := IntWalk.i64_in _ (by omega)
              have hst := hid (nxt_step (p := tightC (posF l g) k) he.out)
              rw [hA] at hst
              obtain ⟨F, hF⟩ : ∃ F, F = nxt (tightC (posF l g) k) E (m + 1) := ⟨_, rfl⟩
              rw [← hF] at hst ⊢
              replace hF := hid hF
              replace hA := hid hA
              replace hD := hid hD
              by_cases h1 : (D : Int) = k
              · have hd1 : ((D : Int) == k) = true := by simpa using h1
                by_cases h2 : PA + e.c = PK
                · have hd2 : (PA + e.c == PK) = true := by simpa using h2
                  have hst2 : Hid (nxt (tightC (posF l g) k) E m = (A : Int)) := by show _ = _; rw [hst.out, if_pos (by rw [hti.out, decide_eq_true h1, decide_eq_true h2]; rfl)]
                  replace h1 := hid h1
                  replace h2 := hid h2
                  go_wp2_with fail
                  refine wp_region_later (by kernel_rfl) (by kernel_rfl) ?_
                  repeat (go_big_quiet_step (fail))
                  refine wpQuiet_nil ?_
                  rintro w7 ⟨⟨_, h7⟩, rfl⟩
                  have f0 := (h7.cells _ (oc + m * 3) hbc).trans e0
                  go_wp2_with fail
                  go_roundw
                  case rel => exact ⟨_, m, rfl, rfl, by omega, hX.trans h7, by rw [hst2.out]⟩
                  case measure => simp [intOf]
                · have hd2 : (PA + e.c == PK) = false := by simpa using h2
                  have hst2 : Hid (nxt (tightC (posF l g) k) E m = F) := by show _ = _; rw [hst.out, if_neg (by rw [hti.out, decide_eq_false h2, Bool.and_false]; exact Bool.false_ne_true)]
                  replace h1 := hid h1
                  go_wp2_with fail
                  refine wp_region_later (by kernel_rfl) (by kernel_rfl) ?_
                  repeat (go_big_quiet_step (fail))
                  refine wpQuiet_nil ?_
                  rintro w7 ⟨⟨_, h7⟩, rfl⟩
                  go_wp2_with fail
                  go_roundw
                  case rel => exact ⟨_, m, rfl, rfl, by omega, hX.trans h7, by rw [hst2.out]⟩
                  case measure => simp [intOf]
              · have hd1 : ((D : Int) == k) = false := by simpa using h1
                have hst2 : Hid (nxt (tightC (posF l g) k) E m = F) := by show _ = _; rw [hst.out, if_neg (by rw [hti.out, decide_eq_false h1, Bool.false_and]; exact Bool.false_ne_true)]
                go_wp2_with fail
                refine wp_region_later (by kernel_rfl) (by kernel_rfl) ?_
                repeat (go_big_quiet_step (fail))
                refine wpQuiet_nil ?_
                rintro w7 ⟨⟨_, h7⟩, rfl⟩
                go_wp2_with fail
                go_roundw
                case rel => exact ⟨_, m, rfl, rfl, by omega, hX.trans h7, by rw [hst2.out]⟩
                case measure => simp [intOf]
            · obtain rfl : j = 0 := by omega
              obtain rfl : y = -1 := by have := hy.out; omega
              clear hy hj0
              obtain ⟨a2, ha2⟩ : ∃ a, a = nxt (tightC (posF l g) k) E 0 := ⟨_, rfl⟩
              have hra2 : Hid (a2 < 0 ∨ ∃ k : Nat, a2 = k ∧ k < n ∧ rk l k < f) := by
                rcases nxt_cases (tightC (posF l g) k) E with h1 | ⟨e, h1, h2, h3⟩
                · left; rw [ha2, h1]; omega
                · right
                  obtain ⟨⟨A, hA, hAn⟩, -, -, -⟩ := hee.out e h1
                  have h5 := rk_edge (l := l) (g := g) (e := e) (by rw [← hEq.out]; exact h1)
                  have hek : e.b = k := by simp [tightC] at h2; exact h2.1
                  rw [hA, hek] at h5
                  exact ⟨A, by rw [ha2, h3, hA], hAn, by have := hrk.out; omega⟩
              rw [← ha2] at hI2 ⊢
              replace ha2 := hid ha2
              have ho2 := owns_ext hoA' hX
              have hX2 := hXA.trans hX
              obtain ⟨q', c', rfl⟩ := owns_forms hoA'
              go_wp2_with fail
              refine ⟨⟨a2, (k : Int) :: out, f, rfl, hX2, hnA', ho2, by simp; omega, hra2.out, hI2⟩, ?_⟩
              simp [sLen]; omega
        · have hPO : Hid (PATH = out) := by show _ = _; rw [hI.out, chain_neg (by omega)]; simp
          clear hI hra
          go_wp2_with fail
          go_ret2
          rw [hPO.out]
          exact ⟨_, _, rfl, Joins.ownsRow_le ho hww, E04.out.trans hX⟩
end Go.Proofs.Ytnhiepgfgnemkaa

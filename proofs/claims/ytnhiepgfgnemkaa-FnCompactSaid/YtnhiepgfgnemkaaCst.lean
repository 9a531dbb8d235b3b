/- Contract of l31Constraints (reference): the constraints by From, then by To. Condition: valid blocks and gap. -/
import Derived.Test.YtnhiepgfgnemkaaCod
namespace Go.Proofs.Ytnhiepgfgnemkaa
open Go.RowKit

theorem flatMap_le {α β : Type} (f : α → List β) (m : Nat) (h : ∀ x, (f x).length ≤ m) : ∀ l : List α, (l.flatMap f).length ≤ l.length * m
  | [] => by simp
  | x :: l => by
    rw [List.flatMap_cons, List.length_append, List.length_cons, Nat.add_one_mul]
    have := flatMap_le f m h l; have := h x; omega
theorem one_len (l : List Q4) (g i k : Int) : (one l g i k).length ≤ 1 := by rw [one]; split <;> simp
theorem cel_len (l : List Q4) (g i k : Int) : (cel l g i k).length ≤ 1 := by
  rw [cel]; split
  · exact one_len l g i k
  · simp
theorem csL_len (l : List Q4) (g : Int) : (csL l g).length ≤ l.length * l.length := by
  have h := flatMap_le (csRow l g) l.length (fun i => by have := flatMap_le (cel l g i) 1 (cel_len l g i) (upto l.length); rw [upto_len] at this; rw [csRow]; omega) (upto l.length)
  rwa [upto_len] at h
theorem upto_drop {n k : Nat} (h : k < n) : (upto n).drop k = (k : Int) :: (upto n).drop (k + 1) := by
  rw [List.drop_eq_getElem_cons (by rw [upto_len]; exact h)]
  simp [upto]
theorem upto_drop_all (n : Nat) : (upto n).drop n = [] := List.drop_eq_nil_of_le (by rw [upto_len]; exact Nat.le_refl _)
theorem bA_at {l : List Q4} {i : Nat} {x : Q4} (h : l[i]? = some x) : bA l i = x := by rw [bA, Int.toNat_natCast, getD_of h]
theorem info_Constraint : (Try.prog.info? 71).map (fun i => (i.zero, i.size, i.bytes)) = some (some (.agg #[.int .i64 0, .int .i64 0, .int .i64 0]), 3, 24) := by kernel_rfl
theorem isBL_parts {l : List Q4} (h : isBL l = true) : l.length ≤ 12 ∧ ∀ x ∈ l, vblk x = true := by
  rw [isBL, Bool.and_eq_true, decide_eq_true_iff, List.all_eq_true] at h; exact h

set_option maxRecDepth 100000 in
set_option maxHeartbeats 2000000 in
theorem l31Constraints_any (q : Option Addr) (n c : Nat) (l : List Q4) (g : Int) (w : World) (h : SlT enc4 4 w q n l) (hl : isBL l = true) (hg : wit g 0 8 = true) :
    Calls Try.prog 56 #[.slice q n c, .int .i64 g] w fun e w' => ∃ q c, e = .returned (.slice q (csL l g).length c) ∧ Own enc3 3 71 w' w.heap.size (.slice q (csL l g).length c) (csL l g) ∧ Ext w w' := by
  obtain ⟨i0, hi, hz0, hz1, hz2⟩ := info_parts info_Constraint
  have l1 := hid h.length
  have hn : n ≤ 12 := by have := (isBL_parts hl).1; rw [h.length] at this; exact this
  have hv := hid (isBL_parts hl).2
  have hcl : (csL l g).length ≤ 144 := by have := csL_len l g; rw [h.length] at this; have := Nat.mul_le_mul hn hn; omega
  have hg' := wit_iff.1 hg
  obtain ⟨hg1, hg2⟩ := hg'
  replace hg := hid hg
  clear hl
  obtain ⟨CS, hCS⟩ : ∃ CS, CS = csL l g := ⟨_, rfl⟩
  rw [← hCS] at hcl ⊢
  replace hCS := hid hCS
  go_enter Try.func56, Try.ntmps56
  go_wp2
  have ho0 : (w.alloc (.cells #[] 71)).ownsRow w.heap.size 71 3 (.slice (some ⟨w.heap.size, 0, none⟩) 0 0) 0 [] := by
    have := World.ownsRow_made (base := w.heap.size) (e := 71) (size := 3) w #[] 0 (by simp) (by simp [maxLen]) (by simp)
    exact this
  go_loopw [5, 6, 7] (fun v i _ wr => ∃ (k : Nat) (out : List Q3), k ≤ n ∧ i = .int .i64 k ∧ Ext w wr ∧ wr.ownsRow w.heap.size 71 3 v out.length (out.flatMap enc3) ∧ Hid (CS = out ++ ((upto n).drop k).flatMap (csRow l g))) (fun _ i _ _ => n - (intOf i).toNat)
  case atStart => exact ⟨0, [], by omega, rfl, (Ext.refl _).alloc _, ho0, by show _ = _; rw [hCS.out, csL, l1.out]; simp⟩
  case round =>
    clear ho0
    obtain ⟨i, out, hin, rfl, hE, ho, hI⟩ := hrel
    by_cases hlt : i < n
    · obtain ⟨R, hR⟩ : ∃ R, R = ((upto n).drop (i + 1)).flatMap (csRow l g) := ⟨_, rfl⟩
      have hI2 : Hid (CS = out ++ ((upto n).drop 0).flatMap (cel l g i) ++ R) := by
        show _ = _
        rw [hI.out, upto_drop hlt, List.flatMap_cons, csRow, l1.out, hR]; simp
      clear hI
      replace hR := hid hR
      go_wp2
      go_loopw [5, 7] (fun v kk wr => ∃ (k : Nat) (out : List Q3), k ≤ n ∧ kk = .int .i64 k ∧ Ext w wr ∧ wr.ownsRow w.heap.size 71 3 v out.length (out.flatMap enc3) ∧ Hid (CS = out ++ ((upto n).drop k).flatMap (cel l g i) ++ R)) (fun _ kk _ => n - (intOf kk).toNat)
      case atStart => exact ⟨0, out, by omega, rfl, hE, ho, hI2⟩
      case round =>
        clear hE ho hI2
        obtain ⟨k, out, hkn, rfl, hE, ho, hI⟩ := hrel
        by_cases hkn' : k < n
        · have hs := h.ext hE
          obtain ⟨b, off, x, rfl, hbl, hx, x0, x1, x2, x3⟩ := hs.four hlt
          obtain ⟨b', off', y, e, hbl', hy, y0, y1, y2, y3⟩ := hs.four hkn'
          cases e
          have hiI : (i : Int) < n := by omega
          have hkI : (k : Int) < n := by omega
          have hcel : Hid (CS = out ++ cel l g i k ++ ((upto n).drop (k + 1)).flatMap (cel l g i) ++ R) := by
            show _ = _; rw [hI.out, upto_drop hkn', List.flatMap_cons]; simp
          clear hI
          have hvx := hid (hv.out x (List.mem_of_getElem? hx.out))
          have hvy := hid (hv.out y (List.mem_of_getElem? hy.out))
          have hone : Hid (one l g i k = if intr x y g then [⟨i, k, x.c + g⟩] else []) := by
            show _ = _; rw [one, bA_at hx.out, bA_at hy.out]
          have xb := vblk_iff.1 hvx.out
          obtain ⟨-, -, ⟨xb1, xb2⟩, -⟩ := xb
          by_cases hik : i = k
          · have hnx : Hid (CS = out ++ ((upto n).drop (k + 1)).flatMap (cel l g i) ++ R) := by
              show _ = _; rw [hcel.out, cel, if_neg (by simp [hik])]; simp
            replace hik := hik.symm
            subst hik
            go_wp2_with fail
            refine wp_region_later (by kernel_rfl) (by kernel_rfl) ?_
            repeat (go_big_quiet_step (fail))
            refine wpQuiet_nil ?_
            rintro w7 ⟨⟨_, h7⟩, rfl⟩
            go_wp2
            go_roundw
            case rel => exact ⟨k + 1, out, by omega, by go_num, hE.trans h7, owns_ext ho h7, hnx⟩
            case measure => simp [intOf]; omega
          · have hd : ((i : Int) != k) = true := by simp; omega
            have hnik : (i : Int) ≠ k := by omega
            have hI1 : ∀ p : Later wr, Calls Try.prog 97 #[.agg #[.int .i64 x.a, .int .i64 x.b, .int .i64 x.c, .int .i64 x.d], .agg #[.int .i64 y.a, .int .i64 y.b, .int .i64 y.c, .int .i64 y.d], .int .i64 g] p.val fun e w' => e = .returned (.bool (intr x y g)) ∧ Ext p.val w' := fun p => l31Interact_any x y g p.val hvx.out hvy.out hg.out
            have hL1 : ∀ p : Later wr, Calls Try.prog 98 #[.slice (some ⟨b, off, none⟩) n c, .int .i64 i, .int .i64 k] p.val fun e w' => e = .returned (.bool (decide (Lft l i k))) ∧ Ext p.val w' := fun p => l31Left_any _ n c l p.val (hs.ext p.ok) i k hlt hkn'
            cases hin2 : intr x y g with
            | false =>
              rw [hin2] at hI1
              have hnx : Hid (CS = out ++ ((upto n).drop (k + 1)).flatMap (cel l g i) ++ R) := by
                show _ = _; rw [hcel.out, cel, (show one l g i k = [] by rw [hone.out, hin2]; rfl), ite_self]; simp
              clear hin2 hL1 hs
              go_wp2_with fail
              refine wp_region_later (by kernel_rfl) (by kernel_rfl) ?_
              repeat (go_big_quiet_step ((go_at_call 97; exact later_of (hI1 _))))
              refine wpQuiet_nil ?_
              rintro w7 ⟨⟨_, h7⟩, rfl⟩
              go_wp2
              go_roundw
              case rel => exact ⟨k + 1, out, by omega, by go_num, hE.trans h7, owns_ext ho h7, hnx⟩
              case measure => simp [intOf]; omega
            | true =>
              rw [hin2] at hI1
              by_cases hL : Lft l i k
              · rw [decide_eq_true hL] at hL1
                have hnx : Hid (CS = out ++ [⟨i, k, x.c + g⟩] ++ ((upto n).drop (k + 1)).flatMap (cel l g i) ++ R) := by
                  show _ = _; rw [hcel.out, cel, if_pos ⟨hnik, hL⟩, hone.out, hin2]; simp
                have hol : out.length ≤ 144 := by have := congrArg List.length hnx.out; simp at this; omega
                clear hin2 hL hs
                go_wp2_with fail
                refine wp_region_later (by kernel_rfl) (by kernel_rfl) ?_
                repeat (go_big_quiet_step (first | (go_at_call 97; exact later_of (hI1 _)) | (go_at_call 98; exact later_of (hL1 _))))
                refine wpQuiet_nil ?_
                rintro w7 ⟨⟨_, h7⟩, rfl⟩
                have ho7 := owns_ext ho h7
                have c0 := h7.cells _ (off + i * 4 + 2) hbl
                rw [x2] at c0
                go_wp2_with (at_builtin; refine wpList_append_own _ rfl _ _ 37 rfl w.heap.size 71 i0 _ 3 24 Try.underlying37 hi hz0 hz1 hz2 rfl (by omega) _ _ _ rfl (ho7.alloc _) ⟨w7.heap.size, 0, none⟩ 1 1 [.int .i64 (i : Int), .int .i64 (k : Int), .int .i64 (x.c + g)] rfl rfl ?c1 ?c2 ?c3 ?c4 ?c5 ?_; rotate_left 5; intro v' w1 ho' hg _)
                case c1 => exact cells_new _ _ _
                case c2 => intro u hu; simp at hu; rcases hu with rfl | rfl | rfl <;> rfl
                case c3 => unfold maxLen; omega
                case c4 => omega
                case c5 => have := hE.le; have := h7.le; simp; omega
                go_roundw
                case rel =>
                  refine ⟨k + 1, out ++ [⟨i, k, x.c + g⟩], by omega, by go_num, ((hE.trans h7).alloc _).grown hg (fun k hk => (ho7.lt k hk).1), ?_, hnx⟩
                  rw [List.length_append, List.flatMap_append]; exact ho'
                case measure => simp [intOf]; omega
              · rw [decide_eq_false hL] at hL1
                have hnx : Hid (CS = out ++ ((upto n).drop (k + 1)).flatMap (cel l g i) ++ R) := by
                  show _ = _; rw [hcel.out, cel, if_neg (fun hh => hL hh.2)]; simp
                clear hin2 hL hs
                go_wp2_with fail
                refine wp_region_later (by kernel_rfl) (by kernel_rfl) ?_
                repeat (go_big_quiet_step (first | (go_at_call 97; exact later_of (hI1 _)) | (go_at_call 98; exact later_of (hL1 _))))
                refine wpQuiet_nil ?_
                rintro w7 ⟨⟨_, h7⟩, rfl⟩
                go_wp2
                go_roundw
                case rel => exact ⟨k + 1, out, by omega, by go_num, hE.trans h7, owns_ext ho h7, hnx⟩
                case measure => simp [intOf]; omega
        · have hkk : k = n := by omega
          have hI2 : Hid (CS = out ++ ((upto n).drop (i + 1)).flatMap (csRow l g)) := by
            show _ = _; rw [hI.out, hkk, upto_drop_all, ← hR.out]; simp
          go_wp2
          refine ⟨⟨i + 1, out, by omega, by go_num, hE, ho, hI2⟩, ?_⟩
          simp [intOf]; omega
    · have hii : i = n := by omega
      have hfin : Hid (CS = out) := by show _ = _; rw [hI.out, hii, upto_drop_all]; simp
      obtain ⟨q, c, rfl⟩ := owns_forms ho
      go_wp2
      go_ret
      rw [hfin.out]
      exact ⟨_, _, rfl, ho, hE⟩
end Go.Proofs.Ytnhiepgfgnemkaa

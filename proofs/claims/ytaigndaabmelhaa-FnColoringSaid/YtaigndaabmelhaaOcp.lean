/- PLAIN: the table of conflicts is symmetric; the pairs in conflict; what holds of a found odd cycle and of a coloring. Contract of w5Conflict. No condition. -/
import Derived.Test.YtaigndaabmelhaaOcy
import Derived.Test.YtaigndaabmelhaaPcf
import Derived.Test.YtaigndaabmelhaaMsk
namespace Go.Proofs.Ytaigndaabmelhaa
open Go.RowKit

theorem edg_tab {L : List (List Q4)} {s : Int} (i k : Nat) : edg (tabL L s) i k = (decide (i < L.length) && decide (k < L.length) && tbB L s i k) := by
  rw [edg, tabL, tabN]
  by_cases hi : i < L.length
  · have h1 : ((List.range L.length).map fun i => tabR L s i L.length)[i]? = some (tabR L s i L.length) := by rw [List.getElem?_map, List.getElem?_range hi]; rfl
    rw [getD_of h1, tabR, decide_eq_true hi, Bool.true_and]
    by_cases hk : k < L.length
    · have h2 : ((List.range L.length).map fun k => tbB L s i k)[k]? = some (tbB L s i k) := by rw [List.getElem?_map, List.getElem?_range hk]; rfl
      rw [getD_of h2, decide_eq_true hk, Bool.true_and]
    · rw [List.getD_eq_getElem?_getD, List.getElem?_eq_none (by simp; omega), decide_eq_false hk]; rfl
  · have h1 : ((List.range L.length).map fun i => tabR L s i L.length)[i]? = none := List.getElem?_eq_none (by simp; omega)
    have h2 : ((List.range L.length).map fun i => tabR L s i L.length).getD i [] = [] := by rw [List.getD_eq_getElem?_getD, h1]; rfl
    rw [decide_eq_false hi, h2]; rfl
theorem cls_sym (r t : Q4) (s : Int) : cls r t s = cls t r s := by rw [Bool.eq_iff_iff, cls_iff, cls_iff]; omega
theorem confL_sym (l1 l2 : List Q4) (s : Int) : confL l1 l2 s = confL l2 l1 s := by
  have key : ∀ l1 l2 : List Q4, confL l1 l2 s = true → confL l2 l1 s = true := fun l1 l2 h => by
    rw [confL, List.any_eq_true] at h ⊢
    obtain ⟨r, hr, h⟩ := h
    rw [List.any_eq_true] at h
    obtain ⟨t, ht, h⟩ := h
    exact ⟨t, ht, List.any_eq_true.2 ⟨r, hr, by rw [cls_sym]; exact h⟩⟩
  rw [Bool.eq_iff_iff]; exact ⟨key _ _, key _ _⟩
theorem tbB_sym (L : List (List Q4)) (s : Int) (i k : Nat) : tbB L s i k = tbB L s k i := by
  rw [tbB, tbB, confL_sym]
  congr 2
  rw [Bool.eq_iff_iff, decide_eq_true_eq, decide_eq_true_eq]; exact eq_comm
theorem tab_sym {L : List (List Q4)} {s : Int} : ∀ a b, edg (tabL L s) a b = true → edg (tabL L s) b a = true := fun a b h => by
  rw [edg_tab, tbB_sym, Bool.and_comm (decide (b < _))]; rw [edg_tab] at h; exact h
theorem tab_irr {L : List (List Q4)} {s : Int} (x : Nat) : edg (tabL L s) x x = false := by rw [edg_tab, tbB]; simp
/-- The pairs are those of the table. -/
theorem mem_pcN {T : List (List Bool)} {n : Nat} (m : Nat) (hm : m ≤ n) (p : Q2) : p ∈ pcN T n m ↔ ∃ i k : Nat, i < m ∧ i < k ∧ k < n ∧ edg T i k = true ∧ p = ⟨(i : Int), (k : Int)⟩ := by
  rw [pcN, List.mem_flatMap]
  constructor
  · rintro ⟨i, hi, hp⟩
    rw [List.mem_range] at hi
    rw [pcR, List.mem_flatMap] at hp
    obtain ⟨j, hj, hp⟩ := hp
    rw [List.mem_range] at hj
    split at hp
    · rename_i he
      rw [List.mem_singleton] at hp
      exact ⟨i, i + 1 + j, hi, by omega, by omega, he, hp⟩
    · cases hp
  · rintro ⟨i, k, hi, hik, hk, he, rfl⟩
    refine ⟨i, List.mem_range.2 hi, ?_⟩
    rw [pcR, List.mem_flatMap]
    refine ⟨k - (i + 1), List.mem_range.2 (by omega), ?_⟩
    rw [show i + 1 + (k - (i + 1)) = k by omega]
    rw [edg] at he
    rw [if_pos he]
    exact List.mem_singleton.2 rfl
def w5B (P : List Q2) (a b : Int) : Bool := P.any fun p => decide (p.a = min a b) && decide (p.b = max a b)
theorem w5_edge {l : List Q4} {s : Int} {a b : Nat} (h : edg (tabL (ptL l s) s) a b = true) : w5B (pcL l s) a b = true := by
  have h2 := h
  rw [edg_tab, Bool.and_eq_true, Bool.and_eq_true, decide_eq_true_eq, decide_eq_true_eq] at h2
  have hne : a ≠ b := fun e => by subst e; rw [tab_irr] at h; cases h
  rw [w5B, List.any_eq_true]
  rcases Nat.lt_or_gt_of_ne hne with hlt | hgt
  · refine ⟨⟨(a : Int), (b : Int)⟩, (mem_pcN _ (Nat.le_refl _) _).2 ⟨a, b, h2.1.1, hlt, h2.1.2, h, rfl⟩, ?_⟩
    simp; omega
  · refine ⟨⟨(b : Int), (a : Int)⟩, (mem_pcN _ (Nat.le_refl _) _).2 ⟨b, a, h2.1.2, hgt, h2.1.1, tab_sym _ _ h, rfl⟩, ?_⟩
    simp; omega
theorem ocV_cy {l : List Q4} {s : Int} (h : ocC l s = 0) : ptC l s = 0 ∧ Cy (edg (tabL (ptL l s) s)) (ptL l s).length (ocV l s) ∧ (ocV l s).length % 2 = 1 ∧ 3 ≤ (ocV l s).length := by
  by_cases h0 : ptC l s = 0
  · cases hb : cpO l s with
    | true => rw [(ocC_col h0 hb).1] at h; omega
    | false =>
      by_cases h3 : ocT l s = []
      · rw [(ocC_none h0 hb h3).1] at h; omega
      · rw [(ocC_some h0 hb h3).2]
        have := ocL_sound h3
        exact ⟨h0, this.1, this.2.1, this.2.2.1⟩
  · rw [(ocC_no h0).1] at h; exact absurd h h0
theorem ocV_bad {l : List Q4} {s : Int} (h : ocC l s ≠ 0) : ocV l s = [] := by
  by_cases h0 : ptC l s = 0
  · cases hb : cpO l s with
    | true => exact (ocC_col h0 hb).2
    | false =>
      by_cases h3 : ocT l s = []
      · exact (ocC_none h0 hb h3).2
      · exact absurd (ocC_some h0 hb h3).1 h
  · exact (ocC_no h0).2
/-- No coloring: there is an odd cycle. -/
theorem oc_of_bad {l : List Q4} {s : Int} (h0 : ptC l s = 0) (hb : cpO l s = false) : ocC l s = 0 :=
  (ocC_some h0 hb (ocL_of_not tab_sym tab_irr hb)).1
set_option maxRecDepth 100000 in
set_option maxHeartbeats 4000000 in
theorem w5Conflict_any (q : Option Addr) (n c : Nat) (P : List Q2) (a b : Int) (w : World) (h : SlT enc2 2 w q n P) (hn : n ≤ 1048576) :
    Calls Try.prog 28 #[.slice q n c, .int .i64 a, .int .i64 b] w fun e w' => e = .returned (.bool (w5B P a b)) ∧ w = w' := by
  have hl := hid h.length
  go_enter Try.func28, Try.ntmps28
  go_wp2
  go_loop [7] (fun i => ∃ k : Nat, k ≤ n ∧ i = .int .i64 k ∧ Hid ((P.take k).any (fun p => decide (p.a = min a b) && decide (p.b = max a b)) = false)) (fun i => n - (intOf i).toNat)
  case atStart => exact ⟨0, by omega, rfl, rfl⟩
  case round =>
    obtain ⟨k, hk, rfl, hno⟩ := hrel
    by_cases hlt : k < n
    · have hltI : (k : Int) < (n : Int) := by omega
      obtain ⟨bb, off, x, rfl, hb, hx, z0, z1⟩ := h.two hlt
      by_cases h1 : x.a = min a b
      · by_cases h2 : x.b = max a b
        · have hr := hid (any_hitM (p := fun (p : Q2) => decide (p.a = min a b) && decide (p.b = max a b)) hx.out (by rw [decide_eq_true h1, decide_eq_true h2]; rfl) : w5B P a b = true)
          go_wp2
          go_ret
          exact ⟨ret_bool hr.out.symm, rfl⟩
        · have hn2 := hid (any_take_snoc hno.out hx.out (show (decide (x.a = min a b) && decide (x.b = max a b)) = false by rw [decide_eq_false h2, Bool.and_false]))
          have hB : decide (x.b = max a b) = false := decide_eq_false h2
          have hB2 : (x.b == max a b) = false := by simpa using h2
          clear h2
          go_wp2
          go_round
          case rel => exact ⟨k + 1, by omega, by go_num, hn2⟩
          case measure => simp [intOf]; omega
      · have hn2 := hid (any_take_snoc hno.out hx.out (show (decide (x.a = min a b) && decide (x.b = max a b)) = false by rw [decide_eq_false h1, Bool.false_and]))
        have hB : decide (x.a = min a b) = false := decide_eq_false h1
        have hB2 : (x.a == min a b) = false := by simpa using h1
        clear h1
        go_wp2
        go_round
        case rel => exact ⟨k + 1, by omega, by go_num, hn2⟩
        case measure => simp [intOf]; omega
    · have hltI : ¬ (k : Int) < (n : Int) := by omega
      rw [take_all hl.out (by omega)] at hno
      have hr : Hid (w5B P a b = false) := hno
      go_wp2
      go_ret
      exact ⟨ret_bool hr.out.symm, rfl⟩
end Go.Proofs.Ytaigndaabmelhaa

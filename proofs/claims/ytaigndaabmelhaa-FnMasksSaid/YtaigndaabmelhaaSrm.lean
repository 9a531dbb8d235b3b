/- Contract of slices.SortFunc at parts that stand in order already: nothing changes. Condition: at most 6400 parts, none empty. -/
import Derived.Test.YtaigndaabmelhaaCmr
import Derived.Test.YtaigndaabmelhaaScp
import Derived.Test.YtaigndaabmelhaaShp
namespace Go.Proofs.Ytaigndaabmelhaa
open Go.RowKit Go.Sort

theorem sorted_pairs {α : Type} [Inhabited α] {lt : α → α → Bool} {d : Array α} (h : SortedIn lt 0 d.size d) : d.toList.Pairwise fun x y => lt y x = false := by
  rw [List.pairwise_iff_getElem]
  intro i j hi hj hij
  have := h i j (Nat.zero_le _) hij (by simpa using hj)
  rwa [getElem!_pos d i (by simpa using hi), getElem!_pos d j (by simpa using hj)] at this
theorem mut_sorted1 {α : Type} [Inhabited α] (enc : α → Value) (w : World) (g q : Nat) (d : Array α) (os : Array Obj) : Mut w (sortWorld enc w g 0 q d os) [g] :=
  ⟨rfl, rfl, rfl, by simp [sortWorld, putRow, mapBlock, Sort.ahead], fun j hj hn => by
    have hne : g ≠ j := fun h => hn (by simp [h])
    show (Array.modify w.heap g (onCells (putCells enc 0 d)) ++ os)[j]? = _
    rw [Array.getElem?_append_left (by simpa using hj), Array.getElem?_modify, if_neg hne]⟩
theorem sortWorld_same {α : Type} [Inhabited α] {enc : α → Value} {w : World} {g q : Nat} {d : Array α} {os : Array Obj} (h : Holds enc w g 0 d) : Ext w (sortWorld enc w g 0 q d os) := by
  have e : putRow enc (Sort.ahead w q) g 0 d = Sort.ahead w q := putRow_self _ _ _ _ _ h
  rw [sortWorld, e]
  exact ⟨rfl, rfl, rfl, by simp [Sort.ahead], fun j hj => by
    show (w.heap ++ os)[j]? = _
    rw [Array.getElem?_append_left hj]⟩
def cfN {m : Nat} (i j : Fin m) : Int := cmpI i.1 j.1
theorem cfN_lt {m : Nat} (x y : Fin m) : Go.Proofs.ltOf cfN x y = true ↔ x.1 < y.1 := by
  rw [Go.Proofs.ltOf, decide_eq_true_iff, cfN, cmpI]
  split <;> (try split) <;> omega
theorem cfN_nlt {m : Nat} (x y : Fin m) : Go.Proofs.ltOf cfN x y = false ↔ ¬ x.1 < y.1 := by rw [← cfN_lt, Bool.not_eq_true]
theorem cfN_swo (m : Nat) : SWO (Go.Proofs.ltOf (cfN (m := m))) := by
  constructor
  · intro x; rw [cfN_nlt]; omega
  · intro x y z; rw [cfN_lt, cfN_lt, cfN_lt]; omega
  · intro x y z; rw [cfN_nlt, cfN_nlt, cfN_nlt]; omega
theorem crI_self (x : Q4) : crI x x = 0 := by simp [crI, orL, cmpI]
theorem enc_map (H : List Hd) : H.flatMap encH = H.map hdV := by
  induction H with
  | nil => rfl
  | cons h H ih => rw [List.flatMap_cons, ih]; rfl
theorem sortP_some (O m c base : Nat) (H : List Hd) (L : List (List Q4)) (f : Nat → Q4) (w : World) (h : OwnS base w (some ⟨O, 0, none⟩) (m + 1) c H (flV L)) (hn : m < 6400) (hf : ∀ k l, L[k]? = some l → ∃ rs, l = f k :: rs) (hlt : ∀ j k, j < k → k < m + 1 → rcLt (f j) (f k)) :
    Calls Try.prog 136 #[.slice (some ⟨O, 0, none⟩) (m + 1) c, .func (.func 137) #[] #[]] w fun e w' => e = .returned (.tuple #[]) ∧ Ext w w' := by
  have hL : L.length = m + 1 := by rw [← h.lenV, flV, List.length_map]
  have hget : ∀ i : Fin (m + 1), ∃ x l, H[i.1]? = some x ∧ L[i.1]? = some l ∧ H.getD i.1 (none, 0, 0) = x := fun i => by
    have e : H[i.1]? = some (H[i.1]'(by rw [h.len]; exact i.2)) := List.getElem?_eq_getElem _
    exact ⟨_, _, e, List.getElem?_eq_getElem (by rw [hL]; exact i.2), by rw [List.getD_eq_getElem?_getD, e]; rfl⟩
  have hc := Any.slices_SortFunc (P := Try.prog) Try.sortP (fun i : Fin (m + 1) => hdV (H.getD i.1 (none, 0, 0))) (fun _ => rfl) cfN (cfN_swo _) 137 #[] O 0 c (Array.ofFn fun i : Fin (m + 1) => i) w
    (enters_of Try.func137 (by kernel_rfl) rfl) (fun m' os dk _ x y => ?_) (fun j hj => ?_) (owns_lt h.top).2 (by simp; omega)
  · simp only [Array.size_ofFn] at hc
    refine hc.mono ?_
    rintro e' w' ⟨rfl, d', q, os, hp, hs, rfl⟩
    refine ⟨rfl, ?_⟩
    have hsz : d'.size = m + 1 := by simpa using hp.1
    have hperm : d'.toList.Perm (Array.ofFn fun i : Fin (m + 1) => i).toList := by
      have := hp.2.2
      rw [show d'.extract 0 (m + 1) = d' by (have h9 : d'.extract 0 d'.size = d' := Array.extract_size; rwa [hsz] at h9), show (Array.ofFn fun i : Fin (m + 1) => i).extract 0 (m + 1) = (Array.ofFn fun i : Fin (m + 1) => i) by (have h9 : (Array.ofFn fun i : Fin (m + 1) => i).extract 0 (Array.ofFn fun i : Fin (m + 1) => i).size = _ := Array.extract_size; rwa [Array.size_ofFn] at h9)] at this
      exact this
    have hd : d' = Array.ofFn fun i : Fin (m + 1) => i := by
      apply Array.toList_inj.1
      refine List.Perm.eq_of_pairwise (le := fun x y => Go.Proofs.ltOf cfN y x = false) ?_ ?_ ?_ hperm
      · intro a b _ _ h1 h2
        rw [cfN_nlt] at h1 h2
        exact Fin.ext (by omega)
      · exact sorted_pairs (by rw [hsz]; exact hs)
      · rw [List.pairwise_iff_getElem]
        intro i j hi hj hij
        rw [cfN_nlt, Array.getElem_toList, Array.getElem_toList, Array.getElem_ofFn, Array.getElem_ofFn]
        show ¬ j < i
        omega
    rw [hd]
    refine sortWorld_same fun j hj => ?_
    simp only [Array.size_ofFn] at hj
    obtain ⟨x, l, hx, _, hg⟩ := hget ⟨j, hj⟩
    rw [getElem!_pos _ j (by simpa using hj), Array.getElem_ofFn]
    have hg : H.getD j (none, 0, 0) = x := hg
    show w.cell? ⟨O, 0 + j, none⟩ = some (hdV (H.getD j (none, 0, 0))) ∧ _
    rw [hg, Nat.zero_add]
    exact ⟨by rw [h.top.cellAt j (by omega), enc_map, List.getElem?_map, hx]; rfl, owns_free h.top j⟩
  · have M := mut_sorted1 (fun i : Fin (m + 1) => hdV (H.getD i.1 (none, 0, 0))) w O m' dk os
    obtain ⟨x1, l1, hx1, hl1, hg1⟩ := hget x
    obtain ⟨x2, l2, hx2, hl2, hg2⟩ := hget y
    have hrow : ∀ (k : Nat) (x : Hd) (l : List Q4), H[k]? = some x → L[k]? = some l → SlT enc4 4 (sortWorld (fun i : Fin (m + 1) => hdV (H.getD i.1 (none, 0, 0))) w O 0 m' dk os) x.1 x.2.1 l := fun k x l hx hl => by
      have hv : (flV L)[k]? = some (l.flatMap enc4) := by rw [flV, List.getElem?_map, hl]; rfl
      have ho := h.row k x _ hx hv
      refine SlT.of_owns enc4_len (h.hd hx hl) (M.grownBy (fun g hg hh => ?_) ho)
      have hg : (hdV x).ownBlock = some g := hg
      rw [own_blk, Option.map_eq_some_iff] at hg
      rw [List.mem_singleton] at hh
      subst hh
      exact h.under k x hx g (mem_blkOf.2 hg) (mem_blkOf.2 ⟨_, rfl, rfl⟩)
    have r1 := hrow _ _ _ hx1 hl1
    have r2 := hrow _ _ _ hx2 hl2
    obtain ⟨t1, rfl⟩ := hf _ _ hl1
    obtain ⟨t2, rfl⟩ := hf _ _ hl2
    have := parts1_any x1 x2 (f x.1) (f y.1) t1 t2 _ r1 r2
    simp only [hg1, hg2]
    refine this.mono ?_
    rintro e w' ⟨rfl, hw⟩
    refine ⟨?_, hw⟩
    congr 2
    rcases Nat.lt_trichotomy x.1 y.1 with hlt' | he | hgt
    · rw [(crI_lt (hlt _ _ hlt' y.2)).1, cfN, cmpI, if_pos (by omega)]
    · rw [he, crI_self, cfN, cmpI, if_neg (by omega), if_neg (by omega)]
    · rw [(crI_lt (hlt _ _ hgt x.2)).2, cfN, cmpI, if_neg (by omega), if_pos (by omega)]
  · simp only [Array.size_ofFn] at hj
    obtain ⟨x, l, hx, _, hg⟩ := hget ⟨j, hj⟩
    rw [getElem!_pos _ j (by simpa using hj), Array.getElem_ofFn]
    have hg : H.getD j (none, 0, 0) = x := hg
    show w.cell? ⟨O, 0 + j, none⟩ = some (hdV (H.getD j (none, 0, 0))) ∧ _
    rw [hg, Nat.zero_add]
    exact ⟨by rw [h.top.cellAt j (by omega), enc_map, List.getElem?_map, hx]; rfl, owns_free h.top j⟩
set_option maxRecDepth 100000 in
theorem insP_zero (q : Option Addr) (c : Nat) (w : World) :
    Calls Try.prog 148 #[.slice q 0 c, .int .i64 0, .int .i64 0, .func (.func 137) #[] #[]] w fun e w' => e = .returned (.tuple #[]) ∧ w = w' := by
  go_enter Try.func148, Try.ntmps148
  go_wp2
  go_loop [8] (fun i => i = .int .i64 1) (fun _ => 0)
  case atStart => rfl
  case round =>
    subst hrel
    go_wp2
    go_end0
    exact ⟨rfl, rfl⟩
set_option maxRecDepth 100000 in
theorem pdqP_zero (q : Option Addr) (c : Nat) (w : World) :
    Calls Try.prog 143 #[.slice q 0 c, .int .i64 0, .int .i64 0, .int .i64 0, .func (.func 137) #[] #[]] w fun e w' => e = .returned (.tuple #[]) ∧ w = w' := by
  go_enter Try.func143, Try.ntmps143
  go_wp2
  go_loop [1, 2] (fun i j => i = .int .i64 0 ∧ j = .int .i64 0) (fun _ _ => 0)
  case atStart => exact ⟨rfl, rfl⟩
  case round =>
    obtain ⟨rfl, rfl⟩ := hrel
    go_wp2_with ((go_at_call 148; refine (insP_zero _ _ _).mono ?_; rintro e w' ⟨rfl, rfl⟩))
    refine bodyPost_ret (v := .tuple #[]) (by simp [results, go_sem]) rfl ⟨rfl, rfl⟩
set_option maxRecDepth 100000 in
theorem sortP_zero (q : Option Addr) (c : Nat) (w : World) :
    Calls Try.prog 136 #[.slice q 0 c, .func (.func 137) #[] #[]] w fun e w' => e = .returned (.tuple #[]) ∧ w = w' := by
  have hl : Calls Try.prog 144 #[.int .u64 0] w fun e w' => e = .returned (.int .i64 0) ∧ w = w' := by
    have h := Any.bits_Len (SlLaysF0.n15.bits (P := Try.prog) (ρ := Try.sortP_ren) { Try.sortP with }) 0 w (by omega) (by omega)
    exact h.mono fun e w' ⟨h1, h2⟩ => ⟨h1, h2.symm⟩
  go_enter Try.func136, Try.ntmps136
  go_wp2_with (first | (go_at_call 144; refine hl.mono ?_; rintro e w' ⟨rfl, rfl⟩) | (go_at_call 143; refine (pdqP_zero _ _ _).mono ?_; rintro e w' ⟨rfl, rfl⟩))
  go_end0
  exact ⟨rfl, rfl⟩
end Go.Proofs.Ytaigndaabmelhaa

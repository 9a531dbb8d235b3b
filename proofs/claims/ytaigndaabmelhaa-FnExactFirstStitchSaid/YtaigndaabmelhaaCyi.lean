/- PLAIN: the first cycle of a length, as both sides look for it. No condition. -/
import Derived.Test.YtaigndaabmelhaaCol
import Derived.Test.YtaigndaabmelhaaCld
namespace Go.Proofs.Ytaigndaabmelhaa

/-- The first one that is not empty. -/
def fne (f : Nat → List Nat) : Nat → Nat → List Nat
  | _, 0 => []
  | a, d + 1 => if f a = [] then fne f (a + 1) d else f a
theorem fne_skip {f : Nat → List Nat} {a d : Nat} (h : f a = []) : fne f a (d + 1) = fne f (a + 1) d := by rw [fne, if_pos h]
theorem fne_hit {f : Nat → List Nat} {a d : Nat} (h : f a ≠ []) : fne f a (d + 1) = f a := by rw [fne, if_neg h]
theorem fne_nil {f : Nat → List Nat} : ∀ (d a : Nat), fne f a d = [] → ∀ j, a ≤ j → j < a + d → f j = []
  | 0, a, _, j, h1, h2 => by omega
  | d + 1, a, h, j, h1, h2 => by
    by_cases h0 : f a = []
    · rw [fne_skip h0] at h
      by_cases e : j = a
      · subst e; exact h0
      · exact fne_nil d (a + 1) h j (by omega) (by omega)
    · rw [fne_hit h0] at h; exact absurd h h0
theorem fne_all {f : Nat → List Nat} : ∀ (d a : Nat), (∀ j, a ≤ j → j < a + d → f j = []) → fne f a d = []
  | 0, _, _ => rfl
  | d + 1, a, h => by rw [fne_skip (h a (by omega) (by omega))]; exact fne_all d (a + 1) (fun j h1 h2 => h j (by omega) (by omega))
theorem fne_some {f : Nat → List Nat} : ∀ (d a : Nat), fne f a d ≠ [] → ∃ j, a ≤ j ∧ j < a + d ∧ f j = fne f a d
  | 0, _, h => absurd rfl h
  | d + 1, a, h => by
    by_cases h0 : f a = []
    · rw [fne_skip h0] at h ⊢
      obtain ⟨j, h1, h2, h3⟩ := fne_some d (a + 1) h
      exact ⟨j, by omega, by omega, h3⟩
    · rw [fne_hit h0]; exact ⟨a, by omega, by omega, rfl⟩
theorem fne_congr {f g : Nat → List Nat} : ∀ (d a : Nat), (∀ j, a ≤ j → j < a + d → (∀ i, a ≤ i → i < j → f i = []) → f j = g j) → fne f a d = fne g a d
  | 0, _, _ => rfl
  | d + 1, a, h => by
    have h0 := h a (by omega) (by omega) (fun i h1 h2 => by omega)
    by_cases hf : f a = []
    · rw [fne_skip hf, fne_skip (by rw [← h0]; exact hf)]
      refine fne_congr d (a + 1) fun j h1 h2 h3 => h j (by omega) (by omega) fun i h4 h5 => ?_
      by_cases e : i = a
      · subst e; exact hf
      · exact h3 i (by omega) h5
    · rw [fne_hit hf, fne_hit (by rw [← h0]; exact hf), h0]
def lastN (p : List Nat) : Nat := p.getD (p.length - 1) 0
def headN (p : List Nat) : Nat := p.getD 0 0
section
variable (e : Nat → Nat → Bool) (n : Nat)
/-- The program's search, d steps from the end. -/
def cycP : Nat → List Nat → List Nat
  | 0, p => if e (lastN p) (headN p) = true then p else []
  | d + 1, p => fne (fun k => if e (lastN p) k = true ∧ k ∉ p then cycP d (p ++ [k]) else []) (headN p + 1) (n - (headN p + 1))
/-- The reference's search. -/
def cycR : Nat → List Nat → List Nat
  | 0, p => if e (lastN p) (headN p) = true then p else []
  | d + 1, p => fne (fun k => if k ∈ p ∨ (p ≠ [] ∧ e (lastN p) k = false) then [] else cycR d (p ++ [k])) 0 n
/-- A cycle. -/
structure Cy (l : List Nat) : Prop where
  nd : l.Nodup
  lt : ∀ x ∈ l, x < n
  edge : ∀ i, i < l.length → e (l.getD i 0) (l.getD ((i + 1) % l.length) 0) = true
/-- A path. -/
structure Pa (p : List Nat) : Prop where
  ne : p ≠ []
  nd : p.Nodup
  lt : ∀ x ∈ p, x < n
  edge : ∀ i, i + 1 < p.length → e (p.getD i 0) (p.getD (i + 1) 0) = true
end
section
variable {e : Nat → Nat → Bool} {n : Nat}
theorem getD_app1 {p q : List Nat} {i : Nat} (h : i < p.length) : (p ++ q).getD i 0 = p.getD i 0 := by
  rw [List.getD_eq_getElem?_getD, List.getD_eq_getElem?_getD, List.getElem?_append_left h]
theorem getD_app2 {p q : List Nat} {i : Nat} (h : p.length ≤ i) : (p ++ q).getD i 0 = q.getD (i - p.length) 0 := by
  rw [List.getD_eq_getElem?_getD, List.getD_eq_getElem?_getD, List.getElem?_append_right h]
theorem Pa.one {f : Nat} (h : f < n) : Pa e n [f] := ⟨by simp, by simp, fun x hx => by simp at hx; omega, fun i hi => by simp at hi⟩
theorem pos_len {p : List Nat} (h : p ≠ []) : 0 < p.length := List.length_pos_iff.2 h
theorem Pa.snoc {p : List Nat} {k : Nat} (h : Pa e n p) (hk : k < n) (hm : k ∉ p) (he : e (lastN p) k = true) : Pa e n (p ++ [k]) := by
  have hp := pos_len h.ne
  refine ⟨by simp, ?_, fun x hx => ?_, fun i hi => ?_⟩
  · rw [List.nodup_append]
    refine ⟨h.nd, by simp, fun a ha b hb => ?_⟩
    rw [List.mem_singleton] at hb
    subst hb
    exact fun e9 => hm (e9 ▸ ha)
  · rw [List.mem_append, List.mem_singleton] at hx
    rcases hx with hx | rfl
    · exact h.lt x hx
    · exact hk
  · rw [List.length_append, List.length_singleton] at hi
    by_cases hl : i + 1 < p.length
    · rw [getD_app1 (by omega), getD_app1 hl]; exact h.edge i hl
    · obtain rfl : i = p.length - 1 := by omega
      rw [getD_app1 (by omega), getD_app2 (by omega), show p.length - 1 + 1 - p.length = 0 by omega]
      exact he
theorem Pa.close {p : List Nat} (h : Pa e n p) (he : e (lastN p) (headN p) = true) : Cy e n p := by
  have hp := pos_len h.ne
  refine ⟨h.nd, h.lt, fun i hi => ?_⟩
  by_cases hl : i + 1 < p.length
  · rw [Nat.mod_eq_of_lt hl]; exact h.edge i hl
  · obtain rfl : i = p.length - 1 := by omega
    rw [show p.length - 1 + 1 = p.length by omega, Nat.mod_self]
    exact he
/-- What the reference finds is a cycle. -/
theorem cycR_sound : ∀ (d : Nat) (p : List Nat), Pa e n p → cycR e n d p ≠ [] → Cy e n (cycR e n d p) ∧ (∃ ks, cycR e n d p = p ++ ks) ∧ (cycR e n d p).length = p.length + d
  | 0, p, hp, h => by
    rw [cycR] at h ⊢
    by_cases he : e (lastN p) (headN p) = true
    · rw [if_pos he]; exact ⟨hp.close he, ⟨[], by simp⟩, rfl⟩
    · rw [if_neg he] at h; exact absurd rfl h
  | d + 1, p, hp, h => by
    rw [cycR] at h ⊢
    obtain ⟨k, _, hk, hf⟩ := fne_some _ _ h
    rw [← hf]
    rw [← hf] at h
    by_cases hc : k ∈ p ∨ (p ≠ [] ∧ e (lastN p) k = false)
    · rw [if_pos hc] at h; exact absurd rfl h
    · rw [if_neg hc] at h ⊢
      have h1 : k ∉ p := fun h9 => hc (Or.inl h9)
      have h2 : e (lastN p) k = true := by
        cases h9 : e (lastN p) k with
        | true => rfl
        | false => exact absurd (Or.inr ⟨hp.ne, h9⟩) hc
      obtain ⟨a1, ⟨ks, a2⟩, a3⟩ := cycR_sound d (p ++ [k]) (hp.snoc (by omega) h1 h2) h
      exact ⟨a1, ⟨k :: ks, by rw [a2]; simp⟩, by rw [a3]; simp; omega⟩
/-- Where there is a cycle the reference finds one. -/
theorem cycR_full : ∀ (d : Nat) (p ks : List Nat), p ≠ [] → ks.length = d → Cy e n (p ++ ks) → cycR e n d p ≠ []
  | 0, p, ks, hp, hl, hc => by
    have hk : ks = [] := List.length_eq_zero_iff.1 hl
    rw [hk, List.append_nil] at hc
    have hpl := pos_len hp
    have h1 := hc.edge (p.length - 1) (by omega)
    rw [show p.length - 1 + 1 = p.length by omega, Nat.mod_self] at h1
    have h1 : e (lastN p) (headN p) = true := h1
    rw [cycR, if_pos h1]
    exact hp
  | d + 1, p, [], hp, hl, hc => by simp at hl
  | d + 1, p, k :: ks, hp, hl, hc => by
    have hpl := pos_len hp
    have e1 : p ++ k :: ks = (p ++ [k]) ++ ks := by simp
    have hkn : k < n := hc.lt k (by simp)
    have hkp : k ∉ p := by
      have := hc.nd
      rw [List.nodup_append] at this
      exact fun h9 => this.2.2 k h9 k (by simp) rfl
    have hke : e (lastN p) k = true := by
      have hL : (p ++ k :: ks).length = p.length + (ks.length + 1) := by simp
      have h1 := hc.edge (p.length - 1) (by omega)
      rw [hL, Nat.mod_eq_of_lt (by omega), getD_app1 (by omega), getD_app2 (by omega), show p.length - 1 + 1 - p.length = 0 by omega] at h1
      exact h1
    have ih := cycR_full d (p ++ [k]) ks (by simp) (by simpa using hl) (by rw [← e1]; exact hc)
    intro h0
    rw [cycR] at h0
    have h2 := fne_nil _ _ h0 k (by omega) (by omega)
    rw [if_neg (by rintro (h9 | ⟨_, h9⟩); exact hkp h9; rw [hke] at h9; cases h9)] at h2
    exact ih h2
theorem nd_inj {l : List Nat} (h : l.Nodup) {i j : Nat} (hi : i < l.length) (hj : j < l.length) (he : l.getD i 0 = l.getD j 0) : i = j := by
  rw [List.getD_eq_getElem?_getD, List.getD_eq_getElem?_getD, List.getElem?_eq_getElem hi, List.getElem?_eq_getElem hj] at he
  exact (List.getElem_inj h).1 he
/-- A cycle begun elsewhere. -/
def turnL (l : List Nat) (s : Nat) : List Nat := (List.range l.length).map fun i => l.getD ((i + s) % l.length) 0
theorem turn_at {l : List Nat} {s i : Nat} (hi : i < l.length) : (turnL l s).getD i 0 = l.getD ((i + s) % l.length) 0 := by
  rw [List.getD_eq_getElem?_getD, turnL, List.getElem?_map, List.getElem?_range hi]; rfl
theorem turn_len (l : List Nat) (s : Nat) : (turnL l s).length = l.length := by simp [turnL]
theorem mod_step {i s m : Nat} : ((i + 1) % m + s) % m = ((i + s) % m + 1) % m := by
  rw [Nat.mod_add_mod, Nat.mod_add_mod, Nat.add_right_comm]
theorem mod_two {x m : Nat} (h : x < m + m) : x % m = if x < m then x else x - m := by
  split
  · exact Nat.mod_eq_of_lt (by omega)
  · rw [Nat.mod_eq_sub_mod (by omega), Nat.mod_eq_of_lt (by omega)]
theorem Cy.turn {l : List Nat} (h : Cy e n l) {s : Nat} (hs : s < l.length) : Cy e n (turnL l s) := by
  refine ⟨?_, fun x hx => ?_, fun i hi => ?_⟩
  · rw [turnL, List.Nodup, List.pairwise_map]
    refine List.Pairwise.imp_of_mem ?_ List.nodup_range
    intro a b ha hb hab he
    rw [List.mem_range] at ha hb
    have := nd_inj h.nd (Nat.mod_lt _ (by omega)) (Nat.mod_lt _ (by omega)) he
    apply hab
    rw [mod_two (by omega), mod_two (by omega)] at this
    split at this <;> split at this <;> omega
  · rw [turnL, List.mem_map] at hx
    obtain ⟨i, hi, rfl⟩ := hx
    rw [List.mem_range] at hi
    have hm : (i + s) % l.length < l.length := Nat.mod_lt _ (by omega)
    rw [List.getD_eq_getElem?_getD, List.getElem?_eq_getElem hm]
    exact h.lt _ (List.getElem_mem hm)
  · rw [turn_len] at hi ⊢
    rw [turn_at hi, turn_at (Nat.mod_lt _ (by omega)), mod_step]
    exact h.edge _ (Nat.mod_lt _ (by omega))
/-- No cycle of this length has an element below f. -/
theorem no_below {d f : Nat} (H : ∀ g, g < f → cycR e n d [g] = []) {r : List Nat} (hr : Cy e n r) (hl : r.length = d + 1) {k : Nat} (hk : k ∈ r) : f ≤ k := by
  rcases Nat.lt_or_ge k f with h | h
  · exfalso
    obtain ⟨s, hs⟩ := List.getElem?_of_mem hk
    obtain ⟨hsl, hsk⟩ := List.getElem?_eq_some_iff.1 hs
    have ht := hr.turn hsl
    have hlen := turn_len r s
    have h0 : (turnL r s).getD 0 0 = k := by
      rw [turn_at (by omega), Nat.zero_add, Nat.mod_eq_of_lt hsl, List.getD_eq_getElem?_getD, hs]; rfl
    cases htl : turnL r s with
    | nil => rw [htl] at hlen; simp at hlen; omega
    | cons a ks =>
      rw [htl] at h0 ht hlen
      have h0 : a = k := h0
      subst h0
      exact cycR_full d [a] ks (by simp) (by rw [List.length_cons] at hlen; omega) ht (H a h)
  · exact h
/-- Both searches agree on a path of elements from f on that begins with f. -/
theorem cyc_path {L f : Nat} (H : ∀ g, g < f → cycR e n L [g] = []) : ∀ (d : Nat) (p : List Nat), Pa e n p → headN p = f → p.length + d = L + 1 → cycR e n d p = cycP e n d p
  | 0, _, _, _, _ => rfl
  | d + 1, p, hp, hh, hl => by
    have hpl := pos_len hp.ne
    have hfp : f ∈ p := by
      rw [← hh, headN, List.getD_eq_getElem?_getD, List.getElem?_eq_getElem hpl]; exact List.getElem_mem hpl
    have hfn := hp.lt f hfp
    have hR : ∀ k, k < n → ¬ (k ∈ p ∨ (p ≠ [] ∧ e (lastN p) k = false)) → k ∉ p ∧ e (lastN p) k = true := fun k _ hc => by
      refine ⟨fun h9 => hc (Or.inl h9), ?_⟩
      cases h9 : e (lastN p) k with
      | true => rfl
      | false => exact absurd (Or.inr ⟨hp.ne, h9⟩) hc
    rw [cycR, cycP, hh]
    -- the elements up to f give nothing
    have hlow : ∀ m a, a + m = f + 1 → fne (fun k => if k ∈ p ∨ (p ≠ [] ∧ e (lastN p) k = false) then [] else cycR e n d (p ++ [k])) a (n - a) = fne (fun k => if k ∈ p ∨ (p ≠ [] ∧ e (lastN p) k = false) then [] else cycR e n d (p ++ [k])) (f + 1) (n - (f + 1)) := by
      intro m
      induction m with
      | zero => intro a ha; rw [show a = f + 1 by omega]
      | succ m ih =>
        intro a ha
        rw [show n - a = (n - (a + 1)) + 1 by omega, fne_skip, ih (a + 1) (by omega)]
        by_cases hc : a ∈ p ∨ (p ≠ [] ∧ e (lastN p) a = false)
        · rw [if_pos hc]
        · rw [if_neg hc]
          obtain ⟨h1, h2⟩ := hR a (by omega) hc
          by_cases h0 : cycR e n d (p ++ [a]) = []
          · exact h0
          · exfalso
            obtain ⟨b1, ⟨ks, b2⟩, b3⟩ := cycR_sound d (p ++ [a]) (hp.snoc (by omega) h1 h2) h0
            have hm : a ∈ cycR e n d (p ++ [a]) := by rw [b2]; simp
            have := no_below H b1 (by rw [b3]; simp; omega) hm
            have : a ≠ f := fun e9 => h1 (e9 ▸ hfp)
            omega
    have hz := hlow (f + 1) 0 (by omega)
    rw [Nat.sub_zero] at hz
    rw [hz]
    refine fne_congr _ _ fun k h1 h2 _ => ?_
    by_cases hc : e (lastN p) k = true ∧ k ∉ p
    · rw [if_pos hc, if_neg (by rintro (h9 | ⟨_, h9⟩); exact hc.2 h9; rw [hc.1] at h9; cases h9)]
      have hk : headN (p ++ [k]) = f := by rw [← hh, headN, headN, getD_app1 hpl]
      exact cyc_path H d (p ++ [k]) (hp.snoc (by omega) hc.2 hc.1) hk (by rw [List.length_append, List.length_singleton]; omega)
    · rw [if_neg hc, if_pos]
      by_cases h9 : k ∈ p
      · exact Or.inl h9
      · right
        refine ⟨hp.ne, ?_⟩
        cases h8 : e (lastN p) k with
        | false => rfl
        | true => exact absurd ⟨h8, h9⟩ hc
theorem cyc_same (L : Nat) : fne (fun f => cycR e n L [f]) 0 n = fne (fun f => cycP e n L [f]) 0 n :=
  fne_congr _ _ fun f _ h2 h3 => cyc_path (fun g hg => h3 g (by omega) hg) L [f] (Pa.one (by omega)) rfl (by simp; omega)
end
end Go.Proofs.Ytaigndaabmelhaa
/- Contracts of slices.Index, Contains, Clone at []int64. Condition: at most 2^20 elements; Clone: not nil. -/
namespace Go.Proofs.Ytaigndaabmelhaa
open Go.RowKit

set_option maxRecDepth 100000 in
set_option maxHeartbeats 4000000 in
theorem index64_any (q : Option Addr) (n c : Nat) (l : List Nat) (v : Nat) (w : World) (h : SlT encN 1 w q n l) (hn : n ≤ 1048576) :
    Calls Try.prog 139 #[.slice q n c, .int .i64 (v : Int)] w fun e w' => e = .returned (.int .i64 (idx (fun x => decide (v = x)) l)) ∧ w = w' := by
  have hl := hid h.length
  go_enter Try.func139, Try.ntmps139
  go_wp2
  go_loop [8] (fun i => ∃ k : Nat, k ≤ n ∧ i = .int .i64 k ∧ Hid ((l.take k).any (fun x => decide (v = x)) = false)) (fun i => n - (intOf i).toNat)
  case atStart => exact ⟨0, by omega, rfl, rfl⟩
  case round =>
    obtain ⟨k, hk, rfl, hA⟩ := hrel
    by_cases hlt : k < n
    · have hltI : (k : Int) < (n : Int) := by omega
      obtain ⟨b, off, x, rfl, hb, hx, z⟩ := h.nat hlt
      by_cases he : v = x
      · have hr := hid (idx_hit (p := fun x => decide (v = x)) hA.out hx.out (decide_eq_true he))
        have hB1 : ((v : Int) == (x : Int)) = true := by simp; omega
        have hB2 : decide ((v : Int) = (x : Int)) = true := by simp; omega
        replace he := hid he
        go_wp2
        go_ret
        exact ⟨ret_int hr.out.symm, rfl⟩
      · have hr := hid (any_take_snoc hA.out hx.out (decide_eq_false he))
        have hB1 : ((v : Int) == (x : Int)) = false := by simp; omega
        have hB2 : decide ((v : Int) = (x : Int)) = false := by simp; omega
        go_wp2
        go_round
        case rel => exact ⟨k + 1, by omega, by go_num, hr⟩
        case measure => simp [intOf]; omega
    · have hltI : ¬ (k : Int) < (n : Int) := by omega
      rw [take_all hl.out (by omega)] at hA
      have hr := hid (idx_miss hA.out)
      go_wp2
      go_ret
      exact ⟨ret_int hr.out.symm, rfl⟩
theorem contains64_any (q : Option Addr) (n c : Nat) (l : List Nat) (v : Nat) (w : World) (h : SlT encN 1 w q n l) (hn : n ≤ 1048576) :
    Calls Try.prog 114 #[.slice q n c, .int .i64 (v : Int)] w fun e w' => e = .returned (.bool (decide (v ∈ l))) ∧ w = w' := by
  have hr : Hid (decide (0 ≤ idx (fun x => decide (v = x)) l) = decide (v ∈ l)) := by
    show _ = _
    rw [idx_any, Bool.eq_iff_iff, List.any_eq_true, decide_eq_true_eq]
    constructor
    · rintro ⟨x, hx, he⟩; rw [decide_eq_true_eq] at he; exact he ▸ hx
    · intro h; exact ⟨v, h, by simp⟩
  go_enter Try.func114, Try.ntmps114
  go_wp2_with fail
  refine (index64_any q n c l v _ h hn).mono ?_
  rintro e w' ⟨rfl, rfl⟩
  obtain ⟨I, hI⟩ : ∃ I, I = idx (fun x => decide (v = x)) l := ⟨_, rfl⟩
  rw [← hI] at hr ⊢
  clear hI
  go_wp2_with fail
  go_ret
  exact ⟨ret_bool hr.out, rfl⟩
theorem SlT.news {w : World} {q : Option Addr} {b off n : Nat} {l : List Nat} (h : SlT encN 1 w q n l) (hq : q = some ⟨b, off, none⟩) : ∀ j u, (l.flatMap encN)[j]? = some u → w.cell? ((⟨b, off, none⟩ : Addr).add j) = some u := by
  intro j u hu
  have hj : j < l.length := by
    have := (List.getElem?_eq_some_iff.1 hu).1
    rw [flatMap_len encN_len] at this
    omega
  obtain ⟨b', off', x, e1, _, hx, z⟩ := h.nat (k := j) (by rw [← h.length]; exact hj)
  rw [hq] at e1
  cases e1
  have h2 := flatMap_at encN_len hx.out (j := 0) (v := .int .i64 (x : Nat)) rfl
  simp only [Nat.mul_one, Nat.add_zero] at h2
  rw [h2] at hu
  cases hu
  rw [add_plain]; exact z
theorem one_encN (l : List Nat) : ∀ u ∈ l.flatMap encN, u.oneCell' = true := by
  intro u hu
  rw [List.mem_flatMap] at hu
  obtain ⟨x, _, hx⟩ := hu
  simp [encN] at hx
  subst hx
  rfl
theorem equalIn_nil64 (w : World) (d : Nat) (a : Option Addr) (l c : Nat) : (Op.equalIn (d + 1) 41 (.slice a l c) (.slice none 0 0)).run Try.prog w = .ok a.isNone w := by
  have h := Try.underlying41
  cases a <;> simp [Op.equalIn, run_underlying h]
theorem equal_nil64 (w : World) (a : Option Addr) (l c : Nat) : (Op.equal 41 (.slice a l c) (.slice none 0 0)).run Try.prog w = .ok a.isNone w := equalIn_nil64 w 9999 a l c
theorem eql_nil64 (w : World) (a : Option Addr) (l c : Nat) : (binOp .eql 41 (.slice a l c) (.slice none 0 0)).run Try.prog w = .ok (.bool a.isNone) w := by
  simp [binOp, equal_nil64 w a l c]
theorem neq_nil64 (w : World) (a : Option Addr) (l c : Nat) : (binOp .neq 41 (.slice a l c) (.slice none 0 0)).run Try.prog w = .ok (.bool (!a.isNone)) w := by
  simp [binOp, equal_nil64 w a l c]
set_option maxRecDepth 100000 in
set_option maxHeartbeats 4000000 in
theorem clone64_any (b off n c : Nat) (l : List Nat) (w : World) (h : SlT encN 1 w (some ⟨b, off, none⟩) n l) (hn : n ≤ 1048576) :
    Calls Try.prog 115 #[.slice (some ⟨b, off, none⟩) n c] w fun e w' => ∃ q' c', e = .returned (.slice q' n c') ∧ w'.ownsRow w.heap.size 2 1 (.slice q' n c') n (l.flatMap encN) ∧ Ext w w' := by
  have hl := h.length
  obtain ⟨i0, hi, hz0, hz1, hz2⟩ := info_parts info_I64
  have ho0 : (w.alloc (.cells #[] 2)).ownsRow w.heap.size 2 1 (.slice (some ⟨w.heap.size, 0, none⟩) 0 0) 0 [] := by
    have := World.ownsRow_made (base := w.heap.size) (e := 2) (size := 1) w #[] 0 (by simp) (by simp [maxLen]) (by simp)
    exact this
  have hnw := hid ((h.ext ((Ext.refl w).alloc (.cells #[] 2))).news rfl)
  have hfl : Hid ((l.flatMap encN).length = n * 1) := by show _ = _; rw [flatMap_len encN_len, hl]
  replace ho0 := hid ho0
  replace hl := hid hl
  have hnil := fun W => eql_nil64 W (some ⟨b, off, none⟩) n c
  go_enter Try.func115, Try.ntmps115
  go_wp2_with (at_builtin; refine wpList_append_own_at _ rfl _ _ 41 rfl w.heap.size 2 i0 (.int .i64 0) 1 8 Try.underlying41 hi hz0 hz1 hz2 rfl (by omega) _ _ _ rfl ho0.out ⟨b, off, none⟩ n c (l.flatMap encN) rfl hfl.out hnw.out (one_encN l) (by unfold maxLen; omega) (by omega) (by simp) ?_; intro v' w9 ho' hg' _ hb'; obtain ⟨qa, ca, rfl⟩ := owns_forms ho'; replace ho' := hid ho'; replace hg' := hid hg')
  go_ret
  exact ⟨qa, ca, by simp, by simpa using ho'.out, ((Ext.refl w).alloc _).grown hg'.out (fun k hk => (ho0.out.lt k hk).1)⟩
end Go.Proofs.Ytaigndaabmelhaa

/- PLAIN: colorings and the search for one; the division of a part, its pieces and the tables of both. No condition. -/
import Derived.Test.YtaigndaabmelhaaMsk
import Derived.Test.YtaigndaabmelhaaMpq
import Derived.Test.YtaigndaabmelhaaOdd
import Derived.Test.YtaigndaabmelhaaClp
import Derived.Test.YtaigndaabmelhaaRrt
namespace Go.Proofs.Ytaigndaabmelhaa
open Go.RowKit

def SymT (T : List (List Bool)) : Prop := (∀ a b, edg T a b = true → edg T b a = true) ∧ ∀ x, edg T x x = false
def Proper (T : List (List Bool)) (n : Nat) (c : Nat → Bool) : Prop := ∀ i k, i < n → k < n → edg T i k = true → c i ≠ c k
theorem okC_proper {T : List (List Bool)} {n : Nat} (h : okC T n = true) : Proper T n (fun i => decide (ccol T n n i = 0)) := by
  intro i k hi hk he
  have hne : ccol T n n k ≠ ccol T n n i := fun e => by rw [okC_not hi hk he e] at h; cases h
  have h1 := ccol_ok (T := T) (n := n) n (Nat.le_refl _) i
  have h2 := ccol_ok (T := T) (n := n) n (Nat.le_refl _) k
  have h3 := ccol_has (T := T) (n := n) n i hi
  have h4 := ccol_has (T := T) (n := n) n k hk
  show decide (ccol T n n i = 0) ≠ decide (ccol T n n k = 0)
  generalize ccol T n n i = u at *
  generalize ccol T n n k = v at *
  by_cases hu : u = 0
  · rw [decide_eq_true hu, decide_eq_false (by omega)]; simp
  · rw [decide_eq_false hu, decide_eq_true (by omega)]; simp
theorem Cy.alt {T : List (List Bool)} {n : Nat} {l : List Nat} {c : Nat → Bool} (hc : Proper T n c) (h : Cy (edg T) n l) : ∀ i, i < l.length → c (l.getD i 0) = (c (l.getD 0 0) != decide (i % 2 = 1))
  | 0, _ => by simp
  | i + 1, hi => by
    have ih := Cy.alt hc h i (by omega)
    have he := h.edge i (by omega)
    rw [Nat.mod_eq_of_lt hi] at he
    have m1 : ∀ j, j < l.length → l.getD j 0 < n := fun j hj => h.lt _ (by rw [getD_of (List.getElem?_eq_getElem hj)]; exact List.getElem_mem hj)
    have hn := hc _ _ (m1 i (by omega)) (m1 (i + 1) hi) he
    rw [ih] at hn
    revert hn
    generalize c (l.getD 0 0) = u
    generalize c (l.getD (i + 1) 0) = v
    rcases Nat.mod_two_eq_zero_or_one i with h0 | h0
    · rw [decide_eq_false (by omega : ¬ i % 2 = 1), decide_eq_true (by omega : (i + 1) % 2 = 1)]
      cases u <;> cases v <;> simp
    · rw [decide_eq_true (by omega : i % 2 = 1), decide_eq_false (by omega : ¬ (i + 1) % 2 = 1)]
      cases u <;> cases v <;> simp
/-- The search finds a coloring exactly if there is one. -/
theorem okC_iff {T : List (List Bool)} {n : Nat} (hs : SymT T) : okC T n = true ↔ ∃ c, Proper T n c := by
  refine ⟨fun h => ⟨_, okC_proper h⟩, fun ⟨c, hc⟩ => ?_⟩
  cases hb : okC T n with
  | true => rfl
  | false =>
    exfalso
    obtain ⟨h1, h2, h3, _⟩ := ocL_sound (ocL_of_not hs.1 hs.2 hb)
    have ha := h1.alt hc ((ocL T n).length - 1) (by omega)
    have he := h1.edge ((ocL T n).length - 1) (by omega)
    rw [show (ocL T n).length - 1 + 1 = (ocL T n).length by omega, Nat.mod_self] at he
    have m1 : ∀ j, j < (ocL T n).length → (ocL T n).getD j 0 < n := fun j hj => h1.lt _ (by rw [getD_of (List.getElem?_eq_getElem hj)]; exact List.getElem_mem hj)
    have := hc _ _ (m1 _ (by omega)) (m1 0 (by omega)) he
    rw [ha, decide_eq_false (by omega)] at this
    simp at this
/-- Tables that are alike but for the numbers of their rows. -/
theorem okC_turn {T U : List (List Bool)} {n : Nat} (f g : Nat → Nat) (hf : ∀ i, i < n → f i < n) (hg : ∀ i, i < n → g i < n) (hfg : ∀ i, i < n → f (g i) = i) (he : ∀ i k, i < n → k < n → edg T i k = edg U (f i) (f k)) (hT : SymT T) (hU : SymT U) : okC T n = okC U n := by
  rw [Bool.eq_iff_iff, okC_iff hT, okC_iff hU]
  constructor
  · rintro ⟨c, hc⟩
    refine ⟨fun i => c (g i), fun i k hi hk h => hc _ _ (hg i hi) (hg k hk) ?_⟩
    rw [he _ _ (hg i hi) (hg k hk), hfg i hi, hfg k hk]; exact h
  · rintro ⟨c, hc⟩
    exact ⟨fun i => c (f i), fun i k hi hk h => hc _ _ (hf i hi) (hf k hk) (by rw [← he i k hi hk]; exact h)⟩
theorem edg_lt {T : List (List Bool)} {n a b : Nat} (h1 : T.length ≤ n) (h2 : ∀ r ∈ T, r.length ≤ n) (h : edg T a b = true) : a < n ∧ b < n := by
  rw [edg, List.getD_eq_getElem?_getD, List.getD_eq_getElem?_getD] at h
  cases hr : T[a]? with
  | none => rw [hr] at h; simp at h
  | some r =>
    rw [hr, Option.getD_some] at h
    cases hb : r[b]? with
    | none => rw [hb] at h; simp at h
    | some x =>
      have h3 := (List.getElem?_eq_some_iff.1 hr).1
      have h4 := (List.getElem?_eq_some_iff.1 hb).1
      have h5 := h2 r (List.mem_of_getElem? hr)
      omega
theorem cls_comm (r t : Q4) (s : Int) : cls r t s = cls t r s := by
  rw [Bool.eq_iff_iff, cls_iff, cls_iff]; omega
theorem confL_comm (a b : List Q4) (s : Int) : confL a b s = confL b a s := by
  rw [Bool.eq_iff_iff, confL, confL]
  simp only [List.any_eq_true]
  constructor
  · rintro ⟨r, hr, t, ht, h⟩; exact ⟨t, ht, r, hr, by rw [cls_comm]; exact h⟩
  · rintro ⟨r, hr, t, ht, h⟩; exact ⟨t, ht, r, hr, by rw [cls_comm]; exact h⟩
theorem getD_map_range {α : Type} (f : Nat → α) (d : α) {n i : Nat} (h : i < n) : ((List.range n).map f).getD i d = f i := getD_of (by rw [List.getElem?_map, List.getElem?_range h]; rfl)
theorem edg_tab (L : List (List Q4)) (s : Int) {i k : Nat} (hi : i < L.length) (hk : k < L.length) : edg (tabL L s) i k = tbB L s i k := by
  rw [edg, tabL, tabN, getD_map_range _ _ hi, tabR, getD_map_range _ _ hk]
/-- A table whose two last rows are not told to be in conflict. -/
def ownT (T : List (List Bool)) (n : Nat) : List (List Bool) := (T.set (n - 2) ((T.getD (n - 2) []).set (n - 1) false)).set (n - 1) ((T.getD (n - 1) []).set (n - 2) false)
theorem getD_set {α : Type} (l : List α) (i k : Nat) (v d : α) (h : i < l.length) : (l.set i v).getD k d = if k = i then v else l.getD k d := by
  rw [List.getD_eq_getElem?_getD, List.getD_eq_getElem?_getD]
  split
  · subst k; rw [List.getElem?_set_self h]; rfl
  · rw [List.getElem?_set_ne (fun e => by omega)]
theorem ownT_edg {T : List (List Bool)} {n a b : Nat} (hl : T.length = n) (hr : ∀ r ∈ T, r.length = n) (h2 : 2 ≤ n) (_ha : a < n) (_hb : b < n) :
    edg (ownT T n) a b = (edg T a b && !(decide (a = n - 2) && decide (b = n - 1)) && !(decide (a = n - 1) && decide (b = n - 2))) := by
  have hrow : ∀ i, i < n → (T.getD i []).length = n := fun i hi => by
    rw [getD_of (List.getElem?_eq_getElem (by omega : i < T.length))]; exact hr _ (List.getElem_mem _)
  rw [edg, ownT, getD_set _ _ _ _ _ (by rw [List.length_set]; omega)]
  by_cases h1 : a = n - 1
  · rw [if_pos h1, getD_set _ _ _ _ _ (by rw [hrow _ (by omega)]; omega)]
    subst h1
    rw [decide_eq_false (by omega : ¬ n - 1 = n - 2)]
    by_cases h3 : b = n - 2
    · rw [if_pos h3]; simp [h3]
    · rw [if_neg h3]; simp [h3, edg]
  · rw [if_neg h1, getD_set _ _ _ _ _ (by omega)]
    by_cases h3 : a = n - 2
    · rw [if_pos h3, getD_set _ _ _ _ _ (by rw [hrow _ (by omega)]; omega)]
      by_cases h4 : b = n - 1
      · rw [if_pos h4]; simp [h3, h4]
      · rw [if_neg h4]; subst h3; simp [h4, h1, edg]
    · rw [if_neg h3]; simp [h1, h3, edg]
/-- The pieces: the other parts, then the two halves. -/
def piL (L : List (List Q4)) (i : Nat) (A B : List Q4) : List (List Q4) := L.take i ++ L.drop (i + 1) ++ [A, B]
theorem piL_len {L : List (List Q4)} {i : Nat} (A B : List Q4) (h : i < L.length) : (piL L i A B).length = L.length + 1 := by
  simp only [piL, List.length_append, List.length_take, List.length_drop, List.length_cons, List.length_nil]; omega
/-- The piece of a row of the reference's table. -/
def piR (L : List (List Q4)) (i : Nat) (A B : List Q4) (j : Nat) : List Q4 := if j = i then A else if j = L.length then B else L.getD j []
def toR (n i p : Nat) : Nat := if p < i then p else if p + 1 < n then p + 1 else if p + 1 = n then i else p
def toP (n i j : Nat) : Nat := if j < i then j else if j = i then n - 1 else if j < n then j - 1 else j
theorem toR_lt {n i p : Nat} (hi : i < n) (hp : p < n + 1) : toR n i p < n + 1 := by unfold toR; split <;> (try split) <;> (try split) <;> omega
theorem toP_lt {n i p : Nat} (hi : i < n) (hp : p < n + 1) : toP n i p < n + 1 := by unfold toP; split <;> (try split) <;> (try split) <;> omega
theorem toR_toP {n i j : Nat} (hi : i < n) (hj : j < n + 1) : toR n i (toP n i j) = j := by
  unfold toP; split
  · unfold toR; rw [if_pos (by omega)]
  · split
    · unfold toR; rw [if_neg (by omega), if_neg (by omega), if_pos (by omega)]; omega
    · split
      · unfold toR; rw [if_neg (by omega), if_pos (by omega)]; omega
      · unfold toR; rw [if_neg (by omega), if_neg (by omega), if_neg (by omega)]
theorem toR_inj {n i a b : Nat} (hi : i < n) (ha : a < n + 1) (hb : b < n + 1) : toR n i a = toR n i b ↔ a = b := by
  refine ⟨fun h => ?_, fun h => by rw [h]⟩
  unfold toR at h
  repeat' split at h
  all_goals omega
theorem toR_i {n i a : Nat} (hi : i < n) (ha : a < n + 1) : toR n i a = i ↔ a = n - 1 := by
  unfold toR; split
  · omega
  · split
    · omega
    · split <;> omega
theorem toR_n {n i a : Nat} (hi : i < n) (_ha : a < n + 1) : toR n i a = n ↔ a = n := by
  unfold toR; split
  · omega
  · split
    · omega
    · split <;> omega
theorem piL_at {L : List (List Q4)} {i a : Nat} (A B : List Q4) (hi : i < L.length) (ha : a < L.length + 1) : (piL L i A B).getD a [] = piR L i A B (toR L.length i a) := by
  have hl : (L.take i).length = i := by rw [List.length_take]; omega
  rw [piR, List.getD_eq_getElem?_getD, piL]
  unfold toR
  split
  · rename_i h
    rw [if_neg (by omega), if_neg (by omega), List.append_assoc, List.getElem?_append_left (by omega), List.getElem?_take_of_lt h, ← List.getD_eq_getElem?_getD]
  · split
    · rename_i h h1
      rw [if_neg (by omega), if_neg (by omega), List.getElem?_append_left (by rw [List.length_append, List.length_drop]; omega), List.getElem?_append_right (by omega), List.getElem?_drop, hl, ← List.getD_eq_getElem?_getD, show i + 1 + (a - i) = a + 1 by omega]
    · have hl2 : (L.take i ++ L.drop (i + 1)).length = L.length - 1 := by rw [List.length_append, List.length_drop, hl]; omega
      split
      · rename_i h1
        rw [if_pos rfl, List.getElem?_append_right (by omega), hl2, show a - (L.length - 1) = 0 by omega]; rfl
      · rename_i h1
        rw [if_neg (by omega), if_pos (by omega), List.getElem?_append_right (by omega), hl2, show a - (L.length - 1) = 1 by omega]; rfl
/-- What both tables tell of two pieces. -/
def piE (L : List (List Q4)) (s : Int) (i : Nat) (A B : List Q4) (u v : Nat) : Bool := (!decide (u = v) && confL (piR L i A B u) (piR L i A B v) s) && !(decide (u = i) && decide (v = L.length)) && !(decide (u = L.length) && decide (v = i))
theorem piE_comm (L : List (List Q4)) (s : Int) (i : Nat) (A B : List Q4) (u v : Nat) : piE L s i A B u v = piE L s i A B v u := by
  rw [piE, piE, confL_comm, show decide (u = v) = decide (v = u) from by rw [Bool.eq_iff_iff]; simp [eq_comm]]
  cases decide (u = i) <;> cases decide (v = i) <;> cases decide (u = L.length) <;> cases decide (v = L.length) <;> simp
theorem piE_irr (L : List (List Q4)) (s : Int) (i : Nat) (A B : List Q4) (u : Nat) : piE L s i A B u u = false := by simp [piE]
def pgT (L : List (List Q4)) (s : Int) (i : Nat) (A B : List Q4) : List (List Bool) := ownT (tabL (piL L i A B) s) (L.length + 1)
theorem tabL_rowsS (L : List (List Q4)) (s : Int) : ∀ r ∈ tabL L s, r.length = L.length := by
  intro r hr
  rw [tabL, tabN, List.mem_map] at hr
  obtain ⟨i, _, rfl⟩ := hr
  exact tabR_len _ _ _ _
theorem ownT_len (T : List (List Bool)) (n : Nat) : (ownT T n).length = T.length := by simp [ownT]
theorem ownT_rows {T : List (List Bool)} {n m : Nat} (h2 : 2 ≤ n) (hl : T.length = n) (h : ∀ r ∈ T, r.length = m) : ∀ r ∈ ownT T n, r.length = m := by
  have hrow : ∀ i, i < n → (T.getD i []).length = m := fun i hi => by
    rw [getD_of (List.getElem?_eq_getElem (by omega : i < T.length))]; exact h _ (List.getElem_mem _)
  intro r hr
  rw [ownT] at hr
  rcases List.mem_or_eq_of_mem_set hr with hr | rfl
  · rcases List.mem_or_eq_of_mem_set hr with hr | rfl
    · exact h r hr
    · rw [List.length_set]; exact hrow _ (by omega)
  · rw [List.length_set]; exact hrow _ (by omega)
theorem pgT_edg {L : List (List Q4)} {s : Int} {i : Nat} {A B : List Q4} (hi : i < L.length) {a b : Nat} (ha : a < L.length + 1) (hb : b < L.length + 1) :
    edg (pgT L s i A B) a b = piE L s i A B (toR L.length i a) (toR L.length i b) := by
  have hl := piL_len A B hi
  rw [pgT, ownT_edg (by rw [tabL_len, hl]) (by rw [← hl]; exact tabL_rowsS _ _) (by omega) ha hb, edg_tab _ _ (by omega) (by omega), tbB, piL_at A B hi ha, piL_at A B hi hb, piE]
  rw [show decide (toR L.length i a = toR L.length i b) = decide (a = b) from by rw [Bool.eq_iff_iff, decide_eq_true_eq, decide_eq_true_eq, toR_inj hi ha hb]]
  rw [show decide (toR L.length i a = i) = decide (a = L.length + 1 - 2) from by rw [Bool.eq_iff_iff, decide_eq_true_eq, decide_eq_true_eq, toR_i hi ha]; omega]
  rw [show decide (toR L.length i b = i) = decide (b = L.length + 1 - 2) from by rw [Bool.eq_iff_iff, decide_eq_true_eq, decide_eq_true_eq, toR_i hi hb]; omega]
  rw [show decide (toR L.length i a = L.length) = decide (a = L.length + 1 - 1) from by rw [Bool.eq_iff_iff, decide_eq_true_eq, decide_eq_true_eq, toR_n hi ha]; omega]
  rw [show decide (toR L.length i b = L.length) = decide (b = L.length + 1 - 1) from by rw [Bool.eq_iff_iff, decide_eq_true_eq, decide_eq_true_eq, toR_n hi hb]; omega]
theorem SymT.of {T : List (List Bool)} {n : Nat} {f : Nat → Nat → Bool} (h1 : T.length ≤ n) (h2 : ∀ r ∈ T, r.length ≤ n) (he : ∀ a b, a < n → b < n → edg T a b = f a b) (hc : ∀ a b, f a b = f b a) (hirr : ∀ a, f a a = false) : SymT T := by
  refine ⟨fun a b h => ?_, fun x => ?_⟩
  · obtain ⟨ha, hb⟩ := edg_lt h1 h2 h
    rw [he b a hb ha, hc, ← he a b ha hb]; exact h
  · cases h : edg T x x with
    | false => rfl
    | true =>
      obtain ⟨ha, hb⟩ := edg_lt h1 h2 h
      rw [he x x ha ha, hirr] at h; cases h
theorem pgT_len {L : List (List Q4)} (s : Int) {i : Nat} (A B : List Q4) (hi : i < L.length) : (pgT L s i A B).length = L.length + 1 := by rw [pgT, ownT_len, tabL_len, piL_len A B hi]
theorem pgT_rows {L : List (List Q4)} (s : Int) {i : Nat} (A B : List Q4) (hi : i < L.length) : ∀ r ∈ pgT L s i A B, r.length = L.length + 1 := by
  have hl := piL_len A B hi
  exact ownT_rows (by omega) (by rw [tabL_len, hl]) (by rw [← hl]; exact tabL_rowsS _ _)
theorem pgT_sym {L : List (List Q4)} {s : Int} {i : Nat} {A B : List Q4} (hi : i < L.length) : SymT (pgT L s i A B) :=
  SymT.of (n := L.length + 1) (f := fun a b => piE L s i A B (toR L.length i a) (toR L.length i b)) (Nat.le_of_eq (pgT_len s A B hi)) (fun r hr => Nat.le_of_eq (pgT_rows s A B hi r hr)) (fun _ _ ha hb => pgT_edg hi ha hb) (fun _ _ => piE_comm _ _ _ _ _ _ _) (fun _ => piE_irr _ _ _ _ _ _)
/-- The reference's table: what is told of the halves stands in u and v. -/
def mrT (G : List (List Bool)) (n i : Nat) (u v : Nat → Bool) : List (List Bool) := ((List.range n).map fun j => if j = i then (List.range n).map u ++ [v i] else (G.getD j []).set i (u j) ++ [v j]) ++ [(List.range n).map v ++ [false]]
theorem mrT_len (G : List (List Bool)) (n i : Nat) (u v : Nat → Bool) : (mrT G n i u v).length = n + 1 := by simp [mrT]
theorem mrT_rows {G : List (List Bool)} {n i : Nat} {u v : Nat → Bool} (hG : ∀ r ∈ G, r.length = n) (hl : G.length = n) : ∀ r ∈ mrT G n i u v, r.length = n + 1 := by
  intro r hr
  rw [mrT, List.mem_append, List.mem_map] at hr
  rcases hr with ⟨j, hj, rfl⟩ | hr
  · split
    · simp
    · rw [List.mem_range] at hj
      rw [List.length_append, List.length_set, getD_of (List.getElem?_eq_getElem (by omega : j < G.length)), hG _ (List.getElem_mem _)]; rfl
  · rw [List.mem_singleton] at hr; subst hr; simp
theorem getD_app1G {α : Type} {p q : List α} {i : Nat} {d : α} (h : i < p.length) : (p ++ q).getD i d = p.getD i d := by
  rw [List.getD_eq_getElem?_getD, List.getD_eq_getElem?_getD, List.getElem?_append_left h]
theorem getD_app2G {α : Type} {p : List α} {x d : α} {i : Nat} (h : i = p.length) : (p ++ [x]).getD i d = x := by
  subst h; rw [List.getD_eq_getElem?_getD, List.getElem?_append_right (Nat.le_refl _), Nat.sub_self]; rfl
theorem mrT_edg {L : List (List Q4)} {s : Int} {i : Nat} {A B : List Q4} (hi : i < L.length) {a b : Nat} (ha : a < L.length + 1) (hb : b < L.length + 1) :
    edg (mrT (tabL L s) L.length i (fun j => !decide (j = i) && confL (L.getD j []) A s) (fun j => !decide (j = i) && confL (L.getD j []) B s)) a b = piE L s i A B a b := by
  have hrow : ∀ j, j < L.length → ((tabL L s).getD j []).length = L.length := fun j hj => by
    rw [getD_of (List.getElem?_eq_getElem (by rw [tabL_len]; exact hj))]; exact tabL_rowsS _ _ _ (List.getElem_mem _)
  rw [edg, mrT, piE, piR, piR]
  by_cases h1 : a < L.length
  · rw [getD_app1G (by simp; exact h1), getD_map_range _ _ h1]
    by_cases h2 : a = i
    · rw [if_pos h2]
      by_cases h3 : b < L.length
      · rw [getD_app1G (by simp; exact h3), getD_map_range _ _ h3]
        subst h2
        by_cases h4 : b = a
        · subst h4; simp
        · rw [if_pos rfl, if_neg h4, if_neg (by omega), confL_comm]
          simp [h4, show ¬ a = b from fun e => h4 e.symm, show ¬ b = L.length by omega, show ¬ a = L.length by omega]
      · have h5 : b = L.length := by omega
        rw [getD_app2G (by simp; exact h5)]
        subst h2
        simp [h5, show ¬ L.length = a by omega]
    · rw [if_neg h2]
      by_cases h3 : b < L.length
      · rw [getD_app1G (by rw [List.length_set, hrow a h1]; exact h3), getD_set _ _ _ _ _ (by rw [hrow a h1]; exact hi)]
        by_cases h4 : b = i
        · simp [h2, h4, show ¬ i = L.length by omega, show ¬ a = L.length by omega]
        · rw [if_neg h4, ← edg, edg_tab _ _ h1 h3, tbB]
          simp [h2, h4, show ¬ b = L.length by omega, show ¬ a = L.length by omega]
      · have h5 : b = L.length := by omega
        rw [getD_app2G (by rw [List.length_set, hrow a h1]; exact h5), if_neg h2, if_neg (by omega), if_neg (by omega), if_pos h5]
        simp [h2, h5, show ¬ a = L.length by omega]
  · have h6 : a = L.length := by omega
    rw [getD_app2G (by simp; exact h6), if_neg (by omega), if_pos h6]
    by_cases h3 : b < L.length
    · rw [getD_app1G (by simp; exact h3), getD_map_range _ _ h3]
      by_cases h4 : b = i
      · simp [h4, h6]
      · rw [if_neg h4, if_neg (by omega), confL_comm]
        simp [h4, h6, show ¬ L.length = i by omega, show ¬ L.length = b by omega]
    · have h5 : b = L.length := by omega
      rw [getD_app2G (by simp; exact h5)]
      simp [h5, h6]
/-- The two tables have colorings alike. -/
theorem stitch_ok {L : List (List Q4)} {s : Int} {i : Nat} (A B : List Q4) (hi : i < L.length) :
    okC (mrT (tabL L s) L.length i (fun j => !decide (j = i) && confL (L.getD j []) A s) (fun j => !decide (j = i) && confL (L.getD j []) B s)) (L.length + 1) = okC (pgT L s i A B) (L.length + 1) := by
  have hsU : SymT (mrT (tabL L s) L.length i (fun j => !decide (j = i) && confL (L.getD j []) A s) (fun j => !decide (j = i) && confL (L.getD j []) B s)) :=
    SymT.of (n := L.length + 1) (f := piE L s i A B) (Nat.le_of_eq (mrT_len _ _ _ _ _)) (fun r hr => Nat.le_of_eq (mrT_rows (tabL_rowsS L s) (tabL_len L s) r hr)) (fun _ _ ha hb => mrT_edg hi ha hb) (fun _ _ => piE_comm _ _ _ _ _ _ _) (fun _ => piE_irr _ _ _ _ _ _)
  refine (okC_turn (T := pgT L s i A B) (toR L.length i) (toP L.length i) (fun _ h => toR_lt hi h) (fun _ h => toP_lt hi h) (fun _ h => toR_toP hi h) (fun a b ha hb => ?_) (pgT_sym hi) hsU).symm
  rw [pgT_edg hi ha hb, mrT_edg hi (toR_lt hi ha) (toR_lt hi hb)]
end Go.Proofs.Ytaigndaabmelhaa
/- PLAIN: the halves of a part: their unit cells, and whether these are connected; what FirstStitch looks for. No condition. -/
namespace Go.Proofs.Ytaigndaabmelhaa
open Go.RowKit

theorem join_in : ∀ (l : List Q4) (o r : Q4), (r = o ∨ r ∈ l) → (l.foldl joinQ o).a ≤ r.a ∧ (l.foldl joinQ o).b ≤ r.b ∧ r.c ≤ (l.foldl joinQ o).c ∧ r.d ≤ (l.foldl joinQ o).d
  | [], o, r, h => by
    rcases h with rfl | h
    · simp
    · cases h
  | t :: l, o, r, h => by
    rw [List.foldl_cons]
    have h1 := join_in l (joinQ o t) (joinQ o t) (Or.inl rfl)
    have h2 : ∀ r, r ∈ l → _ := fun r hr => join_in l (joinQ o t) r (Or.inr hr)
    rcases h with rfl | h
    · simp only [joinQ] at h1 ⊢; omega
    · rw [List.mem_cons] at h
      rcases h with rfl | h
      · simp only [joinQ] at h1 ⊢; omega
      · exact h2 r h
theorem join_v : ∀ (l : List Q4) (o : Q4), vR o = true → (∀ r ∈ l, vR r = true) → vR (l.foldl joinQ o) = true
  | [], _, h, _ => h
  | t :: l, o, h, hl => by
    rw [List.foldl_cons]
    refine join_v l _ ?_ fun r hr => hl r (List.mem_cons_of_mem _ hr)
    have h1 := vR_iff.1 h
    have h2 := vR_iff.1 (hl t List.mem_cons_self)
    rw [vR_iff]; simp only [joinQ]; omega
theorem box_in {l : List Q4} {r : Q4} (h : r ∈ l) : (boxL l).a ≤ r.a ∧ (boxL l).b ≤ r.b ∧ r.c ≤ (boxL l).c ∧ r.d ≤ (boxL l).d := join_in l _ r (Or.inr h)
theorem box_v {l : List Q4} (h : l ≠ []) (hv : ∀ r ∈ l, vR r = true) : vR (boxL l) = true := by
  refine join_v l _ ?_ hv
  obtain ⟨r, rs, rfl⟩ := List.exists_cons_of_ne_nil h
  exact hv r List.mem_cons_self
theorem box_cell {l : List Q4} {u v : Int} (h : inL l u v = true) : ((boxL l).a ≤ u ∧ u < (boxL l).c) ∧ ((boxL l).b ≤ v ∧ v < (boxL l).d) := by
  rw [inL, List.any_eq_true] at h
  obtain ⟨r, hr, hi⟩ := h
  have h1 := box_in hr
  rw [inR_iff] at hi
  omega
/-- The halves of a part: left and right of a column's edge. -/
def lfQ (p : List Q4) (x : Int) : Q4 := ⟨(boxL p).a, (boxL p).b, x, (boxL p).d⟩
def rtQ (p : List Q4) (x : Int) : Q4 := ⟨x, (boxL p).b, (boxL p).c, (boxL p).d⟩
def lfL (p : List Q4) (x : Int) : List Q4 := canon (clipG p (lfQ p x))
def rtL (p : List Q4) (x : Int) : List Q4 := canon (clipG p (rtQ p x))
theorem clip_in {p : List Q4} (hv : ∀ r ∈ p, vR r = true) (b : Q4) (u v : Int) : inL (canon (clipG p b)) u v = (inL p u v && inR b u v) := by
  rw [canon_in]
  cases hc : onC u v with
  | true => rw [clipG, gh_gmk _ hc]
  | false =>
    rw [gh_off hc]
    cases hi : inL p u v with
    | false => rfl
    | true =>
      rw [inL, List.any_eq_true] at hi
      obtain ⟨r, hr, hi⟩ := hi
      rw [inR_on (hv r hr) hi] at hc; cases hc
theorem lf_in {p : List Q4} (hv : ∀ r ∈ p, vR r = true) (x u v : Int) : inL (lfL p x) u v = (inL p u v && decide (u < x)) := by
  rw [lfL, clip_in hv]
  cases hi : inL p u v with
  | false => rfl
  | true =>
    have h1 := box_cell hi
    rw [Bool.true_and, Bool.true_and, Bool.eq_iff_iff, inR_iff, decide_eq_true_eq]
    simp only [lfQ]; omega
theorem rt_in {p : List Q4} (hv : ∀ r ∈ p, vR r = true) (x u v : Int) : inL (rtL p x) u v = (inL p u v && !decide (u < x)) := by
  rw [rtL, clip_in hv]
  cases hi : inL p u v with
  | false => rfl
  | true =>
    have h1 := box_cell hi
    rw [Bool.true_and, Bool.true_and, Bool.eq_iff_iff, inR_iff, Bool.not_eq_true', decide_eq_false_iff_not]
    simp only [rtQ]; omega
theorem canon_vr (g : Grid) : ∀ r ∈ canon g, vR r = true := (vRs_parts (canon_valid g)).2
def lfC (p : List Q4) (x : Int) : List Q2 := (cellsP p).filter fun q => decide (q.a < x)
def rtC (p : List Q4) (x : Int) : List Q2 := (cellsP p).filter fun q => !decide (q.a < x)
theorem mem_lfC {p : List Q4} (hv : ∀ r ∈ p, vR r = true) {x : Int} {q : Q2} : q ∈ lfC p x ↔ inL (lfL p x) q.a q.b = true := by
  rw [lfC, List.mem_filter, mem_cellsP, lf_in hv, Bool.and_eq_true]
theorem mem_rtC {p : List Q4} (hv : ∀ r ∈ p, vR r = true) {x : Int} {q : Q2} : q ∈ rtC p x ↔ inL (rtL p x) q.a q.b = true := by
  rw [rtC, List.mem_filter, mem_cellsP, rt_in hv, Bool.and_eq_true]
/-- Are these unit cells connected? -/
def conP (ps : List Q2) : Bool := decide (0 < ps.length) && decide (cntP (floodG (ptG ps) false (ps.getD 0 ⟨0, 0⟩)) ps = ps.length)
theorem con_one {g : Grid} {ps : List Q2} (hon : ∀ p ∈ ps, onC p.a p.b = true) (hg : ∀ q : Q2, gh g q.a q.b = true ↔ q ∈ ps) : conP ps = decide ((partsG g).length = 1) := by
  have hset : setC (ptG ps) = setC g := by
    funext q
    exact propext ((gh_ptG (x := q.a) (y := q.b) hon).trans (hg q).symm)
  obtain ⟨k1, k2, k3, _⟩ := partsG_ok g
  rw [conP, Bool.eq_iff_iff, Bool.and_eq_true, decide_eq_true_eq, decide_eq_true_eq, decide_eq_true_eq, cntP_all]
  constructor
  · rintro ⟨h0, hall⟩
    obtain ⟨p, hp⟩ : ∃ p, ps[0]? = some p := ⟨_, List.getElem?_eq_getElem h0⟩
    have hpm := List.mem_of_getElem? hp
    have hpo := hon p hpm
    rw [getD_of hp] at hall
    have hreach : ∀ q ∈ ps, Rch (NbF false) (setC g) p q := fun q hq => by
      have := (flo_iff hpo q (hon q hq)).1 (hall q hq)
      rw [hset] at this; exact this
    have hpg : setC g p := (hg p).2 hpm
    obtain ⟨c, hc, _⟩ := k3 (atG p.a p.b) (atG_lt hpo) (by have := (hg p).2 hpm; rw [gh_on hpo] at this; exact this)
    have h1 : 0 < (partsG g).length := List.length_pos_of_mem hc
    apply Classical.byContradiction
    intro hn
    rw [List.pairwise_iff_getElem] at k2
    obtain ⟨k, k', a1, a2, _, hnr⟩ := k2 0 1 (by omega) (by omega) (by omega)
    have m1 : p2 k ∈ ps := (hg _).1 (by rw [p2_gh a1.1.1]; exact a1.2.1)
    have m2 : p2 k' ∈ ps := (hg _).1 (by rw [p2_gh a2.1.1]; exact a2.2.1)
    exact hnr (((hreach _ m1).turn hpg).trans (hreach _ m2))
  · intro h1
    obtain ⟨c, hc⟩ : ∃ c, partsG g = [c] := List.length_eq_one_iff.1 h1
    obtain ⟨k, hk⟩ := k1 c (by rw [hc]; simp)
    have m1 : p2 k ∈ ps := (hg _).1 (by rw [p2_gh hk.1.1]; exact hk.2.1)
    have hkg : setC g (p2 k) := (hg _).2 m1
    have h0 : 0 < ps.length := List.length_pos_of_mem m1
    refine ⟨h0, ?_⟩
    obtain ⟨p, hp⟩ : ∃ p, ps[0]? = some p := ⟨_, List.getElem?_eq_getElem h0⟩
    have hpm := List.mem_of_getElem? hp
    have hfrom : ∀ q ∈ ps, Rch (NbF false) (setC g) (p2 k) q := fun q hq => by
      have hqo := hon q hq
      obtain ⟨c', hc', h2⟩ := k3 (atG q.a q.b) (atG_lt hqo) (by have := (hg q).2 hq; rw [gh_on hqo] at this; exact this)
      rw [hc, List.mem_singleton] at hc'
      subst hc'
      exact (hk.2.2 q hqo).1 (by rw [setC, gh_on hqo]; exact h2)
    rw [getD_of hp]
    intro q hq
    refine (flo_iff (hon p hpm) q (hon q hq)).2 ?_
    rw [hset]
    exact ((hfrom p hpm).turn hkg).trans (hfrom q hq)
theorem gL_set {l : List Q4} (hv : ∀ r ∈ l, vR r = true) (q : Q2) : gh (gL l) q.a q.b = true ↔ inL l q.a q.b = true := by rw [gh_gL hv]
theorem con_lf {p : List Q4} (hv : ∀ r ∈ p, vR r = true) (x : Int) : conP (lfC p x) = decide ((partsG (gL (lfL p x))).length = 1) :=
  con_one (fun q hq => cells_on hv q (List.mem_filter.1 hq).1) fun q => by rw [gL_set (show ∀ r ∈ lfL p x, vR r = true from canon_vr _)]; exact (mem_lfC hv).symm
theorem con_rt {p : List Q4} (hv : ∀ r ∈ p, vR r = true) (x : Int) : conP (rtC p x) = decide ((partsG (gL (rtL p x))).length = 1) :=
  con_one (fun q hq => cells_on hv q (List.mem_filter.1 hq).1) fun q => by rw [gL_set (show ∀ r ∈ rtL p x, vR r = true from canon_vr _)]; exact (mem_rtC hv).symm
theorem meet_half {l1 l2 : List Q4} {ps : List Q2} {s : Int} (v1 : ∀ r ∈ l1, vR r = true) (v2 : ∀ r ∈ l2, vR r = true) (hs : 0 ≤ s) (hp : ∀ q : Q2, q ∈ ps ↔ inL l2 q.a q.b = true) : meetP (growC (gL l1) s) ps = confL l1 l2 s := by
  rw [← meet_conf v1 v2 hs, Bool.eq_iff_iff, meetP, meetP, List.any_eq_true, List.any_eq_true]
  have hgg : ∀ x y, gh (gL l1) x y = true ↔ gh (ptG (cellsP l1)) x y = true := fun x y => by rw [gh_gL v1, gh_ptG (cells_on v1), mem_cellsP]
  constructor
  · rintro ⟨p, h1, h2⟩
    rw [growC_iff] at h2
    obtain ⟨h3, x, y, h4, h5⟩ := h2
    exact ⟨p, mem_cellsP.2 ((hp p).1 h1), (growC_iff _ _).2 ⟨h3, x, y, (hgg x y).1 h4, h5⟩⟩
  · rintro ⟨p, h1, h2⟩
    rw [growC_iff] at h2
    obtain ⟨h3, x, y, h4, h5⟩ := h2
    exact ⟨p, (hp p).2 (mem_cellsP.1 h1), (growC_iff _ _).2 ⟨h3, x, y, (hgg x y).2 h4, h5⟩⟩
/-- Does the division of a part at a column's edge serve? As the program asks. -/
def stT (L : List (List Q4)) (s : Int) (i : Nat) (x : Int) : Bool :=
  (decide ((boxL (L.getD i [])).a < x) && decide (x < (boxL (L.getD i [])).c)) && (decide ((partsG (gL (lfL (L.getD i []) x))).length = 1) && decide ((partsG (gL (rtL (L.getD i []) x))).length = 1)) && okC (pgT L s i (lfL (L.getD i []) x) (rtL (L.getD i []) x)) (L.length + 1)
/-- As the reference asks. -/
def stM (L : List (List Q4)) (s : Int) (i : Nat) (x : Int) : List (List Bool) :=
  mrT (tabL L s) L.length i (fun j => !decide (j = i) && meetP (growC (gL (L.getD j [])) s) (lfC (L.getD i []) x)) (fun j => !decide (j = i) && meetP (growC (gL (L.getD j [])) s) (rtC (L.getD i []) x))
def stR (L : List (List Q4)) (s : Int) (i : Nat) (x : Int) : Bool := conP (lfC (L.getD i []) x) && conP (rtC (L.getD i []) x) && okC (stM L s i x) (L.length + 1)
theorem stR_eq {L : List (List Q4)} {s : Int} (hv : ∀ l ∈ L, l.length ≤ 3200 ∧ ∀ r ∈ l, vR r = true) (hs : 0 ≤ s) {i : Nat} (hi : i < L.length) (x : Int) : stR L s i x = stT L s i x := by
  have vp := getD_ok hv i
  have hM : stM L s i x = mrT (tabL L s) L.length i (fun j => !decide (j = i) && confL (L.getD j []) (lfL (L.getD i []) x) s) (fun j => !decide (j = i) && confL (L.getD j []) (rtL (L.getD i []) x) s) := by
    rw [stM]
    congr 1
    · funext j; rw [meet_half (getD_ok hv j) (canon_vr _) hs fun q => mem_lfC vp]; rfl
    · funext j; rw [meet_half (getD_ok hv j) (canon_vr _) hs fun q => mem_rtC vp]; rfl
  rw [stR, hM, stitch_ok _ _ hi, con_lf vp, con_rt vp, stT]
  by_cases hx : (boxL (L.getD i [])).a < x ∧ x < (boxL (L.getD i [])).c
  · rw [decide_eq_true hx.1, decide_eq_true hx.2]; simp
  · have : (decide ((partsG (gL (lfL (L.getD i []) x))).length = 1) && decide ((partsG (gL (rtL (L.getD i []) x))).length = 1)) = false := by
      rw [← con_lf vp, ← con_rt vp]
      by_cases h1 : (boxL (L.getD i [])).a < x
      · have he : rtC (L.getD i []) x = [] := by
          rw [rtC, List.filter_eq_nil_iff]
          intro q hq
          have := box_cell (mem_cellsP.1 hq)
          simp; omega
        rw [he, show conP [] = false from rfl, Bool.and_false]
      · have he : lfC (L.getD i []) x = [] := by
          rw [lfC, List.filter_eq_nil_iff]
          intro q hq
          have := box_cell (mem_cellsP.1 hq)
          simp; omega
        rw [he, show conP [] = false from rfl, Bool.false_and]
    rw [this, Bool.and_false, Bool.false_and]
/-- The first that serves, by part and column; or none. -/
def StF (t : Nat → Int → Bool) (m : Nat) (i x C : Int) : Prop :=
  (C = 0 ∧ ∃ k : Nat, i = (k : Int) ∧ k < m ∧ t k x = true ∧ (∀ y, y < x → t k y = false) ∧ ∀ j, j < k → ∀ y, t j y = false) ∨ (C = 5 ∧ i = 0 ∧ x = 0 ∧ ∀ j, j < m → ∀ y, t j y = false)
theorem StF.uniq {t : Nat → Int → Bool} {m : Nat} {i x C i' x' C' : Int} (h : StF t m i x C) (h' : StF t m i' x' C') : i = i' ∧ x = x' ∧ C = C' := by
  rcases h with ⟨rfl, k, rfl, hk, ht, hx, hj⟩ | ⟨rfl, rfl, rfl, hn⟩
  · rcases h' with ⟨rfl, k', rfl, hk', ht', hx', hj'⟩ | ⟨rfl, rfl, rfl, hn⟩
    · have e : k = k' := by
        rcases Nat.lt_trichotomy k k' with h | h | h
        · rw [hj' k h x] at ht; cases ht
        · exact h
        · rw [hj k' h x'] at ht'; cases ht'
      subst e
      refine ⟨rfl, ?_, rfl⟩
      rcases Int.lt_trichotomy x x' with h | h | h
      · rw [hx' x h] at ht; cases ht
      · exact h
      · rw [hx x' h] at ht'; cases ht'
    · rw [hn k hk x] at ht; cases ht
  · rcases h' with ⟨rfl, k', rfl, hk', ht', _⟩ | ⟨rfl, rfl, rfl, _⟩
    · rw [hn k' hk' x'] at ht'; cases ht'
    · exact ⟨rfl, rfl, rfl⟩
/-- What FirstStitch answers: part, column, code. -/
def FsR (l : List Q4) (s i x C : Int) : Prop :=
  (¬ ptC l s = 0 ∧ i = 0 ∧ x = 0 ∧ C = ptC l s) ∨ (ptC l s = 0 ∧ cpO l s = true ∧ i = 0 ∧ x = 0 ∧ C = 6) ∨ (ptC l s = 0 ∧ cpO l s = false ∧ StF (stT (ptL l s) s) (ptL l s).length i x C)
theorem FsR.uniq {l : List Q4} {s i x C i' x' C' : Int} (h : FsR l s i x C) (h' : FsR l s i' x' C') : i = i' ∧ x = x' ∧ C = C' := by
  rcases h with ⟨h0, rfl, rfl, rfl⟩ | ⟨h0, hb, rfl, rfl, rfl⟩ | ⟨h0, hb, h⟩
  · rcases h' with ⟨_, rfl, rfl, rfl⟩ | ⟨h0', _⟩ | ⟨h0', _⟩
    · exact ⟨rfl, rfl, rfl⟩
    · exact absurd h0' h0
    · exact absurd h0' h0
  · rcases h' with ⟨h0', _⟩ | ⟨_, _, rfl, rfl, rfl⟩ | ⟨_, hb', _⟩
    · exact absurd h0 h0'
    · exact ⟨rfl, rfl, rfl⟩
    · rw [hb] at hb'; cases hb'
  · rcases h' with ⟨h0', _⟩ | ⟨_, hb', _⟩ | ⟨_, _, h'⟩
    · exact absurd h0 h0'
    · rw [hb] at hb'; cases hb'
    · exact h.uniq h'
end Go.Proofs.Ytaigndaabmelhaa

/- Plain laws: the route that goes down the distances is a route, of the distance. No condition. -/
import Derived.Test.YtiljojpnbpdaeaaRct
import Derived.Test.YtiljojpnbpdaeaaRrp
namespace Go.Proofs.Ytiljojpnbpdaeaa

theorem path_head (D : Q2 → Int) (n : Nat) (x : Q2) : (pathN D n x)[0]? = some x := by cases n <;> rfl
theorem path_at {g : Grid} {b : Q2} (hb : onC b.a b.b = true) : ∀ (n : Nat) (x : Q2) (k : Nat) (y : Q2), (bfs g b).1 x = n → onC x.a x.b = true → (pathN (bfs g b).1 n x)[k]? = some y → (bfs g b).1 y = (n : Int) - k ∧ onC y.a y.b = true ∧ k ≤ n
  | 0, x, k, y, hx, ho, hk => by
    cases k with
    | zero => simp [pathN] at hk; subst hk; exact ⟨by omega, ho, by omega⟩
    | succ k => simp [pathN] at hk
  | n + 1, x, k, y, hx, ho, hk => by
    obtain ⟨h1, h2⟩ := next_ok (g := g) hb (a := x) (by omega)
    cases k with
    | zero => simp [pathN] at hk; subst hk; exact ⟨by omega, ho, by omega⟩
    | succ k =>
      rw [pathN, List.getElem?_cons_succ] at hk
      have := path_at hb n _ k y (by omega) (nearL_on h1) hk
      exact ⟨by omega, this.2.1, by omega⟩
theorem path_adj {g : Grid} {b : Q2} (hb : onC b.a b.b = true) : ∀ (n : Nat) (x : Q2) (k : Nat) (y z : Q2), (bfs g b).1 x = n → (pathN (bfs g b).1 n x)[k]? = some y → (pathN (bfs g b).1 n x)[k + 1]? = some z → adjB y z = true
  | 0, x, k, y, z, hx, _, hz => by simp [pathN] at hz
  | n + 1, x, k, y, z, hx, hy, hz => by
    obtain ⟨h1, h2⟩ := next_ok (g := g) hb (a := x) (by omega)
    rw [pathN, List.getElem?_cons_succ] at hz
    cases k with
    | zero =>
      simp [pathN] at hy
      subst hy
      rw [path_head] at hz
      cases hz
      exact (near_iff.1 h1).2
    | succ k =>
      rw [pathN, List.getElem?_cons_succ] at hy
      exact path_adj hb n _ k y z (by omega) hy hz
theorem path_free {g : Grid} {b : Q2} (hb : onC b.a b.b = true) (hf : gh g b.a b.b = false) {y : Q2} (h : 0 ≤ (bfs g b).1 y) : gh g y.a y.b = false := by
  by_cases h0 : 0 < (bfs g b).1 y
  · exact bfs_free hb h0
  · have := ((down_bfs (g := g) hb).zero y).1 (by omega)
    rw [this]; exact hf
theorem path_isRt {l : List Q4} {a b : Q2} (h : srC l a b = 0) : isRt l (srL l a b) = true := by
  obtain ⟨h1, ha, hb, hfa, hfb, h0⟩ := srC_iff.1 h
  have hn : (bfs (gL l) b).1 a = (((bfs (gL l) b).1 a).toNat : Nat) := by omega
  rw [srL, if_pos h]
  obtain ⟨n, hN⟩ : ∃ n, n = ((bfs (gL l) b).1 a).toNat := ⟨_, rfl⟩
  rw [← hN] at hn ⊢
  have hlen := pathN_len (bfs (gL l) b).1 n a
  refine isRt_true h1 (by omega) ?_
  rw [List.all_eq_true]
  intro k hk
  rw [List.mem_range] at hk
  obtain ⟨p, hp⟩ : ∃ p, (pathN (bfs (gL l) b).1 n a)[k]? = some p := ⟨_, List.getElem?_eq_getElem hk⟩
  obtain ⟨p1, p2, p3⟩ := path_at hb n a k p hn ha hp
  rw [okAt_some hp, p2, path_free hb hfb (by omega)]
  have hnot : decide (p ∈ (pathN (bfs (gL l) b).1 n a).take k) = false := by
    rw [decide_eq_false_iff_not]
    intro hm
    obtain ⟨j, hj⟩ := List.getElem?_of_mem hm
    have hjk : j < k := by
      have := (List.getElem?_eq_some_iff.1 hj).1
      rw [List.length_take] at this; omega
    rw [List.getElem?_take, if_pos hjk] at hj
    have := (path_at hb n a j p hn ha hj).1
    omega
  rw [hnot]
  cases k with
  | zero => simp
  | succ k =>
    obtain ⟨y, hy⟩ : ∃ y, (pathN (bfs (gL l) b).1 n a)[k]? = some y := ⟨_, List.getElem?_eq_getElem (by omega)⟩
    rw [Nat.add_sub_cancel, getD_of hy, path_adj hb n a k y p hn hy hp]
    simp
theorem path_ends {l : List Q4} {a b : Q2} (h : srC l a b = 0) : (srL l a b)[0]? = some a ∧ (srL l a b)[(srL l a b).length - 1]? = some b ∧ ((srL l a b).length : Int) - 1 = rdL l a b ∧ 0 < (srL l a b).length := by
  obtain ⟨h1, ha, hb, hfa, hfb, h0⟩ := srC_iff.1 h
  have hd := srL_dist h
  have hr : rdL l a b = (bfs (gL l) b).1 a := by rw [rdL, if_pos h]
  refine ⟨?_, ?_, by omega, by omega⟩
  · rw [srL, if_pos h]; exact path_head _ _ _
  · obtain ⟨y, hy⟩ : ∃ y, (srL l a b)[(srL l a b).length - 1]? = some y := ⟨_, List.getElem?_eq_getElem (by omega)⟩
    have h2 := hy
    rw [srL, if_pos h] at h2
    rw [pathN_len] at h2
    have := (path_at hb _ a _ y (by omega) ha h2).1
    rw [hy, ((down_bfs (g := gL l) hb).zero y).1 (by omega)]
theorem rdL_sym {l : List Q4} {a b : Q2} (h : srC l a b = 0) : rdL l b a = rdL l a b := by
  obtain ⟨h1, ha, hb, hfa, hfb, h0⟩ := srC_iff.1 h
  have hs := bfs_sym (g := gL l) ha hb hfa hfb
  have h2 : srC l b a = 0 := srC_iff.2 ⟨h1, hb, ha, hfb, hfa, by omega⟩
  rw [rdL, rdL, if_pos h, if_pos h2, hs]
theorem srL_bad {l : List Q4} {a b : Q2} (h : srC l a b ≠ 0) : srL l a b = [] ∧ rdL l a b = -1 := by
  rw [srL, rdL, if_neg h, if_neg h]; exact ⟨rfl, rfl⟩
end Go.Proofs.Ytiljojpnbpdaeaa

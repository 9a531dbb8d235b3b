/- PLAIN: a shortest route among rectangles that lie in the columns -12 .. 22 has at most 3003 unit cells: left and right of these columns it is never longer than the way round. No condition. -/
import Derived.Test.YtiljojpnbpdaeaaPth
import Derived.Test.YtiljojpnbpdaeaaDrb
namespace Go.Proofs.Ytiljojpnbpdaeaa

theorem adjB_iff {p q : Q2} : adjB p q = true ↔ max (p.a - q.a) (q.a - p.a) + max (p.b - q.b) (q.b - p.b) = 1 := by simp [adjB]
theorem line_le {g : Grid} {b : Q2} (hb : onC b.a b.b = true) (f : Nat → Q2) : ∀ m : Nat, (∀ k, k < m → adjB (f k) (f (k + 1)) = true) → (∀ k, k ≤ m → onC (f k).a (f k).b = true ∧ gh g (f k).a (f k).b = false) → 0 ≤ (bfs g b).1 (f 0) → 0 ≤ (bfs g b).1 (f m) ∧ (bfs g b).1 (f m) ≤ (bfs g b).1 (f 0) + m
  | 0, _, _, h0 => ⟨h0, by omega⟩
  | m + 1, ha, ho, h0 => by
    have ih := line_le hb f m (fun k hk => ha k (by omega)) (fun k hk => ho k (by omega)) h0
    have h1 := ho (m + 1) (Nat.le_refl _)
    have := bfs_step hb ih.1 (near_iff.2 ⟨h1.1, ha m (by omega)⟩) h1.2
    omega
section
variable {g : Grid} {b : Q2} (hb : onC b.a b.b = true) {lo hi : Int} (hf : ∀ x y, onC x y = true → lo ≤ x → x ≤ hi → gh g x y = false)
include hb hf
theorem lip_x {x x' y : Int} (h1 : onC x y = true) (h2 : onC x' y = true) (z1 : lo ≤ x ∧ x ≤ hi) (z2 : lo ≤ x' ∧ x' ≤ hi) {d : Nat} (hd : x' - x ≤ d ∧ x - x' ≤ d) (h0 : 0 ≤ (bfs g b).1 ⟨x, y⟩) : 0 ≤ (bfs g b).1 ⟨x', y⟩ ∧ (bfs g b).1 ⟨x', y⟩ ≤ (bfs g b).1 ⟨x, y⟩ + d := by
  rw [onC_iff] at h1 h2
  by_cases hle : x ≤ x'
  · have := line_le hb (fun k => (⟨x + k, y⟩ : Q2)) (x' - x).toNat (fun k hk => by rw [adjB_iff]; simp only; omega) (fun k hk => ⟨by rw [onC_iff]; simp only; omega, hf _ _ (by rw [onC_iff]; simp only; omega) (by simp only; omega) (by simp only; omega)⟩) (by simpa using h0)
    simp only [Int.natCast_zero, Int.add_zero] at this
    rw [show x + ((x' - x).toNat : Int) = x' by omega] at this
    omega
  · have := line_le hb (fun k => (⟨x - k, y⟩ : Q2)) (x - x').toNat (fun k hk => by rw [adjB_iff]; simp only; omega) (fun k hk => ⟨by rw [onC_iff]; simp only; omega, hf _ _ (by rw [onC_iff]; simp only; omega) (by simp only; omega) (by simp only; omega)⟩) (by simpa using h0)
    simp only [Int.natCast_zero, Int.sub_zero] at this
    rw [show x - ((x - x').toNat : Int) = x' by omega] at this
    omega
theorem lip_y {x y y' : Int} (h1 : onC x y = true) (h2 : onC x y' = true) (z1 : lo ≤ x ∧ x ≤ hi) {d : Nat} (hd : y' - y ≤ d ∧ y - y' ≤ d) (h0 : 0 ≤ (bfs g b).1 ⟨x, y⟩) : 0 ≤ (bfs g b).1 ⟨x, y'⟩ ∧ (bfs g b).1 ⟨x, y'⟩ ≤ (bfs g b).1 ⟨x, y⟩ + d := by
  rw [onC_iff] at h1 h2
  by_cases hle : y ≤ y'
  · have := line_le hb (fun k => (⟨x, y + k⟩ : Q2)) (y' - y).toNat (fun k hk => by rw [adjB_iff]; simp only; omega) (fun k hk => ⟨by rw [onC_iff]; simp only; omega, hf _ _ (by rw [onC_iff]; simp only; omega) (by simp only; omega) (by simp only; omega)⟩) (by simpa using h0)
    simp only [Int.natCast_zero, Int.add_zero] at this
    rw [show y + ((y' - y).toNat : Int) = y' by omega] at this
    omega
  · have := line_le hb (fun k => (⟨x, y - k⟩ : Q2)) (y - y').toNat (fun k hk => by rw [adjB_iff]; simp only; omega) (fun k hk => ⟨by rw [onC_iff]; simp only; omega, hf _ _ (by rw [onC_iff]; simp only; omega) (by simp only; omega) (by simp only; omega)⟩) (by simpa using h0)
    simp only [Int.natCast_zero, Int.sub_zero] at this
    rw [show y - ((y - y').toNat : Int) = y' by omega] at this
    omega
theorem lip_xy {u v : Q2} (h1 : onC u.a u.b = true) (h2 : onC v.a v.b = true) (z1 : lo ≤ u.a ∧ u.a ≤ hi) (z2 : lo ≤ v.a ∧ v.a ≤ hi) {d : Nat} (hd : hi - lo ≤ d) (h0 : 0 ≤ (bfs g b).1 u) : (bfs g b).1 v ≤ (bfs g b).1 u + (d + 79 : Nat) := by
  have e1 := onC_iff.1 h1
  have e2 := onC_iff.1 h2
  have h3 : onC v.a u.b = true := by rw [onC_iff]; omega
  have s1 := lip_x hb hf (x := u.a) (x' := v.a) (y := u.b) h1 h3 z1 z2 (d := d) (by omega) h0
  have s2 := lip_y hb hf (x := v.a) (y := u.b) (y' := v.b) h3 h2 z2 (d := 79) (by omega) s1.1
  have s3 := s2.2
  have s4 := s1.2
  have e3 : (bfs g b).1 (⟨v.a, v.b⟩ : Q2) = (bfs g b).1 v := rfl
  have e4 : (bfs g b).1 (⟨u.a, u.b⟩ : Q2) = (bfs g b).1 u := rfl
  omega
end
theorem pigB : ∀ (m : Nat) (l : List Int), l.Nodup → (∀ x ∈ l, 1 ≤ x ∧ x ≤ m) → l.length ≤ m
  | 0, l, _, h => by
    cases l with
    | nil => simp
    | cons x l => have := h x List.mem_cons_self; omega
  | m + 1, l, hn, h => by
    have ih := pigB m (l.erase ((m : Int) + 1)) (hn.erase _) (fun x hx => by
      have h1 := (List.Nodup.mem_erase_iff hn).1 hx
      have h2 := h x h1.2
      have := h1.1
      omega)
    by_cases hm : ((m : Int) + 1) ∈ l
    · rw [List.length_erase_of_mem hm] at ih; omega
    · rw [List.erase_of_not_mem hm] at ih; omega
theorem q2_eq : ∀ {u v : Q2}, u.a = v.a → u.b = v.b → u = v
  | ⟨_, _⟩, ⟨_, _⟩, rfl, rfl => rfl
/-- A number for each cell of a route, different for different ones. -/
def codeR (D : Q2 → Int) (y : Q2) : Int := if y.a < -12 then 2801 + D y % 107 else if 22 < y.a then 2908 + D y % 96 else (y.a + 12) * 80 + (y.b + 40) + 1
theorem srL_short {l : List Q4} {a b : Q2} (hz : Zn (gL l)) : (srL l a b).length ≤ 3003 := by
  by_cases h : srC l a b = 0
  · obtain ⟨h1, ha, hb, hfa, hfb, h0⟩ := srC_iff.1 h
    have hfL : ∀ x y, onC x y = true → -40 ≤ x → x ≤ -13 → gh (gL l) x y = false := fun x y _ _ hx => by
      rw [← Bool.not_eq_true]; intro hh; have := hz x y hh; omega
    have hfR : ∀ x y, onC x y = true → 23 ≤ x → x ≤ 39 → gh (gL l) x y = false := fun x y _ hx _ => by
      rw [← Bool.not_eq_true]; intro hh; have := hz x y hh; omega
    have hn : (bfs (gL l) b).1 a = (((bfs (gL l) b).1 a).toNat : Nat) := by omega
    rw [srL, if_pos h]
    obtain ⟨n, hN⟩ : ∃ n, n = ((bfs (gL l) b).1 a).toNat := ⟨_, rfl⟩
    rw [← hN] at hn ⊢
    have hnd : ((pathN (bfs (gL l) b).1 n a).map (codeR (bfs (gL l) b).1)).Nodup := by
      rw [List.Nodup, List.pairwise_map, List.pairwise_iff_getElem]
      intro i j hi hj hij he
      obtain ⟨u1, u2, u3⟩ := path_at hb n a i _ hn ha (List.getElem?_eq_getElem hi)
      obtain ⟨v1, v2, v3⟩ := path_at hb n a j _ hn ha (List.getElem?_eq_getElem hj)
      generalize (pathN (bfs (gL l) b).1 n a)[i] = u at u1 u2 he
      generalize (pathN (bfs (gL l) b).1 n a)[j] = v at v1 v2 he
      have c1 := onC_iff.1 u2
      have c2 := onC_iff.1 v2
      have hL := fun (z1 : (-40 : Int) ≤ u.a ∧ u.a ≤ -13) (z2 : (-40 : Int) ≤ v.a ∧ v.a ≤ -13) => lip_xy hb hfL v2 u2 z2 z1 (d := 27) (by omega) (by omega)
      have hR := fun (z1 : (23 : Int) ≤ u.a ∧ u.a ≤ 39) (z2 : (23 : Int) ≤ v.a ∧ v.a ≤ 39) => lip_xy hb hfR v2 u2 z2 z1 (d := 16) (by omega) (by omega)
      by_cases huv : u = v
      · subst huv; omega
      · have hne : u.a ≠ v.a ∨ u.b ≠ v.b := by
          by_cases e1 : u.a = v.a
          · by_cases e2 : u.b = v.b
            · exact absurd (q2_eq e1 e2) huv
            · exact Or.inr e2
          · exact Or.inl e1
        simp only [codeR] at he
        generalize (bfs (gL l) b).1 u = U at u1 he hL hR
        generalize (bfs (gL l) b).1 v = V at v1 he hL hR
        by_cases a1 : u.a < -12
        · by_cases a2 : v.a < -12
          · rw [if_pos a1, if_pos a2] at he
            have := hL ⟨by omega, by omega⟩ ⟨by omega, by omega⟩
            omega
          · rw [if_pos a1, if_neg a2] at he
            split at he <;> omega
        · rw [if_neg a1] at he
          by_cases a2 : v.a < -12
          · rw [if_pos a2] at he
            split at he <;> omega
          · rw [if_neg a2] at he
            by_cases a3 : 22 < u.a
            · rw [if_pos a3] at he
              by_cases a4 : 22 < v.a
              · rw [if_pos a4] at he
                have := hR ⟨by omega, by omega⟩ ⟨by omega, by omega⟩
                omega
              · rw [if_neg a4] at he; omega
            · rw [if_neg a3] at he
              by_cases a4 : 22 < v.a
              · rw [if_pos a4] at he; omega
              · rw [if_neg a4] at he; omega
    have := pigB 3003 _ hnd (fun x hx => by
      obtain ⟨y, hy, rfl⟩ := List.mem_map.1 hx
      obtain ⟨k, hk⟩ := List.mem_iff_getElem?.1 hy
      obtain ⟨y1, y2, y3⟩ := path_at hb n a k y hn ha hk
      have c1 := onC_iff.1 y2
      rw [codeR]
      split
      · omega
      · split
        · omega
        · omega)
    rw [List.length_map] at this
    exact this
  · rw [(srL_bad h).1]; simp
end Go.Proofs.Ytiljojpnbpdaeaa

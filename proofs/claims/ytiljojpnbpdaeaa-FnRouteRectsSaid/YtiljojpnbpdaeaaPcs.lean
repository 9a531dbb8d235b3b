/- Plain laws: the straight pieces of a route. No condition. -/
import Derived.Test.YtiljojpnbpdaeaaRch
namespace Go.Proofs.Ytiljojpnbpdaeaa

/-- The rectangle of two unit cells. -/
def span (a b : Q2) : Q4 := ⟨min a.a b.a, min a.b b.b, max a.a b.a + 1, max a.b b.b + 1⟩
def strt (s x : Q2) : Bool := decide (x.a = s.a) || decide (x.b = s.b)
/-- The pieces from s on, of which e is the last unit cell so far. -/
def rr : Q2 → Q2 → List Q2 → List Q4
  | s, e, [] => [span s e]
  | s, e, x :: xs => if strt s x = true then rr s x xs else span s e :: rr e x xs
def pcs : List Q2 → List Q4
  | [] => []
  | p :: ps => rr p p ps
theorem rr_on {s e x : Q2} {xs : List Q2} (h : strt s x = true) : rr s e (x :: xs) = rr s x xs := by rw [rr, if_pos h]
theorem rr_off {s e x : Q2} {xs : List Q2} (h : strt s x = false) : rr s e (x :: xs) = span s e :: rr e x xs := by rw [rr, if_neg (by rw [h]; simp)]
theorem rr_len : ∀ (xs : List Q2) (s e : Q2), (rr s e xs).length ≤ xs.length + 1
  | [], _, _ => by simp [rr]
  | x :: xs, s, e => by
    cases h : strt s x with
    | true => rw [rr_on h]; have := rr_len xs s x; rw [List.length_cons]; omega
    | false => rw [rr_off h]; have := rr_len xs e x; rw [List.length_cons, List.length_cons]; omega
theorem pcs_len (l : List Q2) : (pcs l).length ≤ l.length := by
  cases l with
  | nil => simp [pcs]
  | cons p ps => exact rr_len ps p p
theorem adj_strt {e x : Q2} (h : adjB e x = true) : strt e x = true := by
  rw [adjB, decide_eq_true_eq] at h
  rw [strt, Bool.or_eq_true, decide_eq_true_eq, decide_eq_true_eq]
  omega
/-- A walk: each is a neighbor of the one before. -/
def chain : Q2 → List Q2 → Prop
  | _, [] => True
  | e, x :: xs => adjB e x = true ∧ chain x xs
/-- The next piece begins with the last unit cell of the one before. -/
theorem rr_next {e x : Q2} {xs : List Q2} (h : adjB e x = true) : rr e e (x :: xs) = rr e x xs := rr_on (adj_strt h)
theorem inR_span {s e : Q2} {x y : Int} : inR (span s e) x y = true ↔ (min s.a e.a ≤ x ∧ x ≤ max s.a e.a) ∧ (min s.b e.b ≤ y ∧ y ≤ max s.b e.b) := by
  rw [inR_iff]; simp only [span]; omega
/-- A straight run from s to e: the unit cells cs lie just on it. -/
def Strip (s e : Q2) (cs : List Q2) : Prop := (s.a = e.a ∨ s.b = e.b) ∧ ∀ q : Q2, q ∈ cs ↔ (min s.a e.a ≤ q.a ∧ q.a ≤ max s.a e.a) ∧ (min s.b e.b ≤ q.b ∧ q.b ≤ max s.b e.b)
theorem Strip.one (s : Q2) : Strip s s [s] := by
  refine ⟨Or.inl rfl, fun q => ?_⟩
  rw [List.mem_singleton]
  constructor
  · rintro rfl; omega
  · intro h
    have h1 : q.a = s.a := by omega
    have h2 : q.b = s.b := by omega
    cases q; cases s
    simp only at h1 h2
    rw [h1, h2]
theorem Strip.go {s e x : Q2} {cs : List Q2} (h : Strip s e cs) (ha : adjB e x = true) (hs : strt s x = true) (hn : x ∉ cs) : Strip s x (cs ++ [x]) := by
  obtain ⟨h1, h2⟩ := h
  rw [adjB, decide_eq_true_eq] at ha
  rw [strt, Bool.or_eq_true, decide_eq_true_eq, decide_eq_true_eq] at hs
  have hx : ¬ ((min s.a e.a ≤ x.a ∧ x.a ≤ max s.a e.a) ∧ (min s.b e.b ≤ x.b ∧ x.b ≤ max s.b e.b)) := fun hh => hn ((h2 x).2 hh)
  refine ⟨by omega, fun q => ?_⟩
  rw [List.mem_append, List.mem_singleton, h2 q]
  have hqx : q = x ↔ q.a = x.a ∧ q.b = x.b := by cases q; cases x; simp
  rw [hqx]
  omega
theorem Strip.two {e x : Q2} (ha : adjB e x = true) : Strip e x [e, x] := by
  have hne : x ∉ [e] := by
    rw [List.mem_singleton]
    intro h
    rw [h, adjB, decide_eq_true_eq] at ha
    omega
  exact (Strip.one e).go ha (adj_strt ha) hne
/-- The pieces have just the unit cells of the route. -/
theorem rr_cells : ∀ (xs : List Q2) (s e : Q2) (cs : List Q2), Strip s e cs → e ∈ cs → chain e xs → (cs ++ xs).Nodup → ∀ q : Q2, inL (rr s e xs) q.a q.b = true ↔ q ∈ cs ++ xs
  | [], s, e, cs, hS, _, _, _, q => by
    rw [rr, inL, List.any_cons, List.any_nil, Bool.or_false, inR_span, List.append_nil, hS.2 q]
  | x :: xs, s, e, cs, hS, he, hc, hn, q => by
    obtain ⟨hc1, hc2⟩ := hc
    have hxn : x ∉ cs := fun hh => by
      rw [List.nodup_append] at hn
      exact hn.2.2 x hh x (by simp) rfl
    cases h : strt s x with
    | true =>
      rw [rr_on h, rr_cells xs s x (cs ++ [x]) (hS.go hc1 h hxn) (by simp) hc2 (by simpa using hn) q]
      simp
    | false =>
      have hn2 : ([e, x] ++ xs).Nodup := by
        rw [List.nodup_append] at hn
        obtain ⟨n1, n2, n3⟩ := hn
        show (e :: x :: xs).Nodup
        rw [List.nodup_cons]
        exact ⟨fun hm => n3 e he e hm rfl, n2⟩
      rw [rr_off h, inL, List.any_cons, Bool.or_eq_true, inR_span, ← hS.2 q]
      have := rr_cells xs e x [e, x] (Strip.two hc1) (by simp) hc2 hn2 q
      rw [inL] at this
      rw [this]
      simp only [List.mem_append, List.mem_cons, List.not_mem_nil, or_false]
      constructor
      · rintro (h1 | (rfl | h1) | h1)
        · exact Or.inl h1
        · exact Or.inl he
        · exact Or.inr (Or.inl h1)
        · exact Or.inr (Or.inr h1)
      · rintro (h1 | h1 | h1)
        · exact Or.inl h1
        · exact Or.inr (Or.inl (Or.inr h1))
        · exact Or.inr (Or.inr h1)
theorem pcs_cells {p : Q2} {ps : List Q2} (hc : chain p ps) (hn : (p :: ps).Nodup) (q : Q2) : inL (pcs (p :: ps)) q.a q.b = true ↔ q ∈ p :: ps :=
  rr_cells ps p p [p] (Strip.one p) (by simp) hc (by simpa using hn) q
end Go.Proofs.Ytiljojpnbpdaeaa

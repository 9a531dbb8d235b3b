/- Plain laws: each unit cell at a distance has a neighbor nearer by one; the route that goes down the distances. No condition. -/
import Derived.Test.YtaigndaabmelhaaBfs
namespace Go.Proofs.Ytaigndaabmelhaa

theorem near_iff {p q : Q2} : q ∈ nearL p ↔ onC q.a q.b = true ∧ adjB p q = true := by
  constructor
  · intro h
    have hc := nearL_on h
    exact ⟨hc, by rw [← adj_near hc, decide_eq_true_eq]; exact h⟩
  · rintro ⟨hc, h⟩
    rw [← adj_near hc, decide_eq_true_eq] at h; exact h
theorem adj_comm (p q : Q2) : adjB p q = adjB q p := by
  rw [Bool.eq_iff_iff, adjB, adjB, decide_eq_true_eq, decide_eq_true_eq]; omega
theorem near_comm {p q : Q2} (hp : onC p.a p.b = true) (hq : onC q.a q.b = true) : q ∈ nearL p ↔ p ∈ nearL q := by
  rw [near_iff, near_iff, hp, hq, adj_comm]
/-- Distances go down to the source by neighbors. -/
structure Down (p : Q2) (s : St) : Prop where
  pred : ∀ q, 0 < s.1 q → ∃ r, q ∈ nearL r ∧ s.1 r = s.1 q - 1
  zero : ∀ q, s.1 q = 0 ↔ q = p
theorem down0 (p : Q2) : Down p (bfs0 p) := by
  refine ⟨fun q h => ?_, fun q => ?_⟩
  · simp only [bfs0] at h; split at h <;> omega
  · simp only [bfs0]; by_cases e : q = p <;> simp [e]
theorem Down.add {g : Grid} {p : Q2} {s : St} {q r : Q2} {v : Int} (h : Down p s) (ho : opn g s.1 q = true) (hn : q ∈ nearL r) (hv : s.1 r = v - 1) (h0 : 1 ≤ v) : Down p (updD s.1 q v, s.2 ++ [q]) := by
  rw [opn, Bool.and_eq_true, decide_eq_true_eq] at ho
  refine ⟨fun x hx => ?_, fun x => ?_⟩
  · show ∃ r, x ∈ nearL r ∧ updD s.1 q v r = updD s.1 q v x - 1
    have hx' : 0 < updD s.1 q v x := hx
    by_cases e : x = q
    · subst e
      refine ⟨r, hn, ?_⟩
      have : r ≠ x := fun e => by rw [e] at hv; omega
      rw [updD, if_neg this, updD, if_pos rfl, hv]
    · rw [updD, if_neg e] at hx'
      obtain ⟨r', h1, h2⟩ := h.pred x hx'
      refine ⟨r', h1, ?_⟩
      have : r' ≠ q := fun e => by rw [e] at h2; omega
      rw [updD, if_neg this, updD, if_neg e, h2]
  · show updD s.1 q v x = 0 ↔ x = p
    rw [updD]
    by_cases e : x = q
    · subst e
      have := h.zero x
      rw [if_pos rfl]
      constructor
      · intro hh; omega
      · intro hh; have := this.2 hh; omega
    · rw [if_neg e]; exact h.zero x
theorem Down.inn {g : Grid} {p r : Q2} {v : Int} (h0 : 1 ≤ v) : ∀ (qs : List Q2) (s : St), Down p s → (∀ q ∈ qs, q ∈ nearL r) → s.1 r = v - 1 → Down p (inn g v qs s)
  | [], _, h, _, _ => h
  | q :: qs, s, h, hq, h1 => by
    cases ho : opn g s.1 q with
    | true =>
      rw [inn_hit ho]
      have hne : r ≠ q := fun e => by rw [opn, Bool.and_eq_true, decide_eq_true_eq] at ho; rw [e] at h1; omega
      exact Down.inn h0 qs _ (h.add ho (hq q (by simp)) h1 h0) (fun x hx => hq x (by simp [hx])) (by show updD s.1 q v r = _; rw [updD, if_neg hne, h1])
    | false =>
      rw [inn_miss ho]
      exact Down.inn h0 qs s h (fun x hx => hq x (by simp [hx])) h1
theorem Down.outr {g : Grid} {p : Q2} : ∀ (n i : Nat) (s : St), Inv s → Down p s → Down p (outr g n i s)
  | 0, _, _, _, h => h
  | n + 1, i, s, hI, h => by
    cases hp : s.2[i]? with
    | none => rw [Go.Proofs.Ytaigndaabmelhaa.outr, hp]; exact h
    | some r =>
      rw [outr_go hp]
      have h1 := (hI.mem r).1 (List.mem_of_getElem? hp)
      have h2 := hI.bd r
      exact Down.outr n (i + 1) _ (Inv.inn (by omega) _ s hI (fun q hq => nearL_on hq) (by omega)) (Down.inn (r := r) (by omega) _ s h (fun q hq => hq) (by omega))
theorem down_bfs {g : Grid} {p : Q2} (h : onC p.a p.b = true) : Down p (bfs g p) := Down.outr _ _ _ (inv0 h) (down0 p)
/-- The first neighbor that is nearer by one. -/
def nextP (D : Q2 → Int) (a : Q2) : Q2 := ((nearL a).find? fun q => decide (D q = D a - 1)).getD a
/-- The route of n steps that goes down from a. -/
def pathN (D : Q2 → Int) : Nat → Q2 → List Q2
  | 0, a => [a]
  | n + 1, a => a :: pathN D n (nextP D a)
theorem pathN_len (D : Q2 → Int) : ∀ n a, (pathN D n a).length = n + 1
  | 0, _ => rfl
  | n + 1, a => by rw [pathN, List.length_cons, pathN_len D n]
theorem next_ok {g : Grid} {p a : Q2} (hp : onC p.a p.b = true) (h : 0 < (bfs g p).1 a) : nextP (bfs g p).1 a ∈ nearL a ∧ (bfs g p).1 (nextP (bfs g p).1 a) = (bfs g p).1 a - 1 := by
  obtain ⟨r, h1, h2⟩ := (down_bfs (g := g) hp).pred a h
  have hI := inv_bfs (g := g) hp
  have hr : onC r.a r.b = true := hI.on r ((hI.mem r).2 (by omega))
  have ha : onC a.a a.b = true := hI.on a ((hI.mem a).2 (by omega))
  have hra := (near_comm hr ha).1 h1
  rw [nextP]
  cases hf : (nearL a).find? fun q => decide ((bfs g p).1 q = (bfs g p).1 a - 1) with
  | none =>
    rw [List.find?_eq_none] at hf
    have := hf r hra
    simp at this; omega
  | some q =>
    have h3 := List.find?_some hf
    have h4 := List.mem_of_find?_eq_some hf
    simp at h3
    exact ⟨h4, h3⟩
theorem find_miss {α : Type} {f : α → Bool} {l : List α} {k : Nat} {x : α} (h : (l.take k).find? f = none) (hx : l[k]? = some x) (hf : f x = false) : (l.take (k + 1)).find? f = none := by
  rw [take_snoc hx, List.find?_append, h]; simp [hf]
theorem find_hit {α : Type} {f : α → Bool} {l : List α} {k : Nat} {x : α} (h : (l.take k).find? f = none) (hx : l[k]? = some x) (hf : f x = true) : l.find? f = some x := by
  have e : l = l.take k ++ x :: l.drop (k + 1) := by rw [← drop_get hx, List.take_append_drop]
  have h2 : (l.take k ++ x :: l.drop (k + 1)).find? f = some x := by rw [List.find?_append, h]; simp [hf]
  rw [← e] at h2; exact h2
end Go.Proofs.Ytaigndaabmelhaa

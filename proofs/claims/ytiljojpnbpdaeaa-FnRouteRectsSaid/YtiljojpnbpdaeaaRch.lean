/- Plain laws: the distances that a search from a unit cell finds. No condition. -/
import Derived.Test.YtiljojpnbpdaeaaIrt
namespace Go.Proofs.Ytiljojpnbpdaeaa

abbrev St := (Q2 → Int) × List Q2
def updD (D : Q2 → Int) (q : Q2) (v : Int) : Q2 → Int := fun x => if x = q then v else D x
def opn (g : Grid) (D : Q2 → Int) (q : Q2) : Bool := !gh g q.a q.b && decide (D q < 0)
/-- The neighbors qs are looked at; those that are free and new get the distance v. -/
def inn (g : Grid) (v : Int) : List Q2 → St → St
  | [], s => s
  | q :: qs, s => if opn g s.1 q = true then inn g v qs (updD s.1 q v, s.2 ++ [q]) else inn g v qs s
def outr (g : Grid) : Nat → Nat → St → St
  | 0, _, s => s
  | n + 1, i, s => match s.2[i]? with
    | none => s
    | some p => outr g n (i + 1) (inn g (s.1 p + 1) (nearL p) s)
def bfs0 (p : Q2) : St := (fun x => if x = p then 0 else -1, [p])
def bfs (g : Grid) (p : Q2) : St := outr g 6401 0 (bfs0 p)
theorem inn_nil (g : Grid) (v : Int) (s : St) : inn g v [] s = s := rfl
theorem inn_hit {g : Grid} {v : Int} {q : Q2} {qs : List Q2} {s : St} (h : opn g s.1 q = true) : inn g v (q :: qs) s = inn g v qs (updD s.1 q v, s.2 ++ [q]) := by rw [inn, if_pos h]
theorem inn_miss {g : Grid} {v : Int} {q : Q2} {qs : List Q2} {s : St} (h : opn g s.1 q = false) : inn g v (q :: qs) s = inn g v qs s := by rw [inn, if_neg (by rw [h]; simp)]
theorem outr_go {g : Grid} {n i : Nat} {s : St} {p : Q2} (h : s.2[i]? = some p) : outr g (n + 1) i s = outr g n (i + 1) (inn g (s.1 p + 1) (nearL p) s) := by rw [outr, h]
theorem outr_stop {g : Grid} {n i : Nat} {s : St} (h : s.2.length ≤ i) : outr g n i s = s := by
  cases n with
  | zero => rfl
  | succ n => rw [outr, List.getElem?_eq_none h]
theorem nodup_len : ∀ (n : Nat) (l : List Nat), l.Nodup → (∀ x ∈ l, x < n) → l.length ≤ n
  | 0, l, _, h => by cases l with | nil => simp | cons x l => exact absurd (h x (by simp)) (by omega)
  | n + 1, l, hd, h => by
    have h1 := nodup_len n (l.erase n) (hd.erase n) (fun x hx => by
      have h2 := h x (List.mem_of_mem_erase hx)
      have h3 := (hd.mem_erase_iff.1 hx).1
      omega)
    by_cases hn : n ∈ l
    · rw [List.length_erase_of_mem hn] at h1; omega
    · rw [List.erase_of_not_mem hn] at h1; omega
/-- What holds of the search. -/
structure Inv (s : St) : Prop where
  nd : s.2.Nodup
  mem : ∀ q, q ∈ s.2 ↔ 0 ≤ s.1 q
  on : ∀ q ∈ s.2, onC q.a q.b = true
  bd : ∀ q, -1 ≤ s.1 q ∧ s.1 q < s.2.length
theorem Inv.len {s : St} (h : Inv s) : s.2.length ≤ 6400 := by
  have h1 : (s.2.map fun q => atG q.a q.b).Nodup := by
    rw [List.nodup_iff_pairwise_ne, List.pairwise_map]
    refine (List.nodup_iff_pairwise_ne.1 h.nd).imp_of_mem fun {a b} ha hb hne he => hne ?_
    have := atG_inj (h.on a ha) (h.on b hb) he
    cases a; cases b; simp at this; simp [this]
  have := nodup_len 6400 _ h1 (fun x hx => by
    rw [List.mem_map] at hx
    obtain ⟨q, hq, rfl⟩ := hx
    exact atG_lt (h.on q hq))
  simpa using this
theorem inv0 {p : Q2} (h : onC p.a p.b = true) : Inv (bfs0 p) := by
  refine ⟨by simp [bfs0], fun q => ?_, fun q hq => ?_, fun q => ?_⟩
  · simp only [bfs0, List.mem_singleton]; by_cases e : q = p <;> simp [e]
  · simp only [bfs0, List.mem_singleton] at hq; rw [hq]; exact h
  · simp only [bfs0]; by_cases e : q = p <;> simp [e]
theorem Inv.add {g : Grid} {s : St} {q : Q2} {v : Int} (h : Inv s) (ho : opn g s.1 q = true) (hc : onC q.a q.b = true) (h0 : 0 ≤ v) (h1 : v ≤ s.2.length) : Inv (updD s.1 q v, s.2 ++ [q]) := by
  rw [opn, Bool.and_eq_true, decide_eq_true_eq] at ho
  have hn : q ∉ s.2 := fun hq => by have := (h.mem q).1 hq; omega
  refine ⟨?_, fun x => ?_, fun x hx => ?_, fun x => ?_⟩
  · show (s.2 ++ [q]).Nodup
    rw [List.nodup_append]
    exact ⟨h.nd, by simp, fun a ha b hb => by simp at hb; subst hb; exact fun e => hn (e ▸ ha)⟩
  · show x ∈ s.2 ++ [q] ↔ 0 ≤ updD s.1 q v x
    rw [List.mem_append, List.mem_singleton, updD]
    by_cases e : x = q
    · simp [e, h0]
    · simp [e, h.mem]
  · have hx' : x ∈ s.2 ++ [q] := hx
    rw [List.mem_append, List.mem_singleton] at hx'
    rcases hx' with hx' | rfl
    · exact h.on x hx'
    · exact hc
  · show -1 ≤ updD s.1 q v x ∧ updD s.1 q v x < ((s.2 ++ [q]).length : Int)
    rw [updD, List.length_append]
    have := h.bd x
    by_cases e : x = q
    · simp only [if_pos e, List.length_singleton]; omega
    · simp only [if_neg e, List.length_singleton]; omega
theorem Inv.inn {g : Grid} {v : Int} (h0 : 0 ≤ v) : ∀ (qs : List Q2) (s : St), Inv s → (∀ q ∈ qs, onC q.a q.b = true) → v ≤ s.2.length → Inv (inn g v qs s)
  | [], _, h, _, _ => h
  | q :: qs, s, h, hq, h1 => by
    cases ho : opn g s.1 q with
    | true =>
      rw [inn_hit ho]
      exact Inv.inn h0 qs _ (h.add ho (hq q (by simp)) h0 h1) (fun x hx => hq x (by simp [hx])) (by show v ≤ ((s.2 ++ [q]).length : Int); rw [List.length_append]; omega)
    | false =>
      rw [inn_miss ho]
      exact Inv.inn h0 qs s h (fun x hx => hq x (by simp [hx])) h1
theorem nearL_on {p q : Q2} (h : q ∈ nearL p) : onC q.a q.b = true := (List.mem_filter.1 h).2
theorem Inv.outr {g : Grid} : ∀ (n i : Nat) (s : St), Inv s → Inv (outr g n i s)
  | 0, _, _, h => h
  | n + 1, i, s, h => by
    cases hp : s.2[i]? with
    | none => rw [Go.Proofs.Ytiljojpnbpdaeaa.outr, hp]; exact h
    | some p =>
      rw [outr_go hp]
      have h1 := (h.mem p).1 (List.mem_of_getElem? hp)
      have h2 := h.bd p
      exact Inv.outr n (i + 1) _ (Inv.inn (by omega) _ s h (fun q hq => nearL_on hq) (by omega))
theorem inv_bfs {g : Grid} {p : Q2} (h : onC p.a p.b = true) : Inv (bfs g p) := Inv.outr _ _ _ (inv0 h)
/-- The distances from p around the unit cells of g, -1 where there is no route. -/
def distF (g : Grid) (p : Q2) : Q2 → Int := if gh g p.a p.b = true then fun _ => -1 else (bfs g p).1
/-- As a map. -/
def mapF (D : Q2 → Int) : Q2 → Option Int := fun q => if D q < 0 then none else some (D q)
theorem mapF_upd {D : Q2 → Int} {q : Q2} {v : Int} (h : 0 ≤ v) : upd (mapF D) q v = mapF (updD D q v) := by
  funext x
  rw [upd, mapF, mapF, updD]
  by_cases e : x = q
  · rw [if_pos e, if_pos e, if_neg (by omega)]
  · rw [if_neg e, if_neg e]
theorem mapF_none {D : Q2 → Int} {q : Q2} (h : D q < 0) : mapF D q = none := by rw [mapF, if_pos h]
theorem mapF_some {D : Q2 → Int} {q : Q2} (h : 0 ≤ D q) : mapF D q = some (D q) := by rw [mapF, if_neg (by omega)]
theorem drop_get {α : Type} {l : List α} {j : Nat} {x : α} (h : l[j]? = some x) : l.drop j = x :: l.drop (j + 1) := by
  obtain ⟨h1, rfl⟩ := List.getElem?_eq_some_iff.1 h
  exact List.drop_eq_getElem_cons h1
end Go.Proofs.Ytiljojpnbpdaeaa
/- Plain laws: each unit cell at a distance has a neighbor nearer by one; the route that goes down the distances. No condition. -/
namespace Go.Proofs.Ytiljojpnbpdaeaa

theorem near_iff {p q : Q2} : q ∈ nearL p ↔ onC q.a q.b = true ∧ adjB p q = true := by
  constructor
  · intro h
    have hc := nearL_on h
    exact ⟨hc, by rw [← adj_near hc, decide_eq_true_eq]; exact h⟩
  · rintro ⟨hc, h⟩
    rw [← adj_near hc, decide_eq_true_eq] at h; exact h
theorem adj_comm (p q : Q2) : adjB p q = adjB q p := by
  rw [Bool.eq_iff_iff, adjB, adjB, decide_eq_true_eq, decide_eq_true_eq]; omega
theorem near_comm {p q : Q2} (hp : onC p.a p.b = true) (hq : onC q.a q.b = true) : q ∈ nearL p ↔ p ∈ nearL q := by
  rw [near_iff, near_iff, hp, hq, adj_comm]
/-- Distances go down to the source by neighbors. -/
structure Down (p : Q2) (s : St) : Prop where
  pred : ∀ q, 0 < s.1 q → ∃ r, q ∈ nearL r ∧ s.1 r = s.1 q - 1
  zero : ∀ q, s.1 q = 0 ↔ q = p
theorem down0 (p : Q2) : Down p (bfs0 p) := by
  refine ⟨fun q h => ?_, fun q => ?_⟩
  · simp only [bfs0] at h; split at h <;> omega
  · simp only [bfs0]; by_cases e : q = p <;> simp [e]
theorem Down.add {g : Grid} {p : Q2} {s : St} {q r : Q2} {v : Int} (h : Down p s) (ho : opn g s.1 q = true) (hn : q ∈ nearL r) (hv : s.1 r = v - 1) (h0 : 1 ≤ v) : Down p (updD s.1 q v, s.2 ++ [q]) := by
  rw [opn, Bool.and_eq_true, decide_eq_true_eq] at ho
  refine ⟨fun x hx => ?_, fun x => ?_⟩
  · show ∃ r, x ∈ nearL r ∧ updD s.1 q v r = updD s.1 q v x - 1
    have hx' : 0 < updD s.1 q v x := hx
    by_cases e : x = q
    · subst e
      refine ⟨r, hn, ?_⟩
      have : r ≠ x := fun e => by rw [e] at hv; omega
      rw [updD, if_neg this, updD, if_pos rfl, hv]
    · rw [updD, if_neg e] at hx'
      obtain ⟨r', h1, h2⟩ := h.pred x hx'
      refine ⟨r', h1, ?_⟩
      have : r' ≠ q := fun e => by rw [e] at h2; omega
      rw [updD, if_neg this, updD, if_neg e, h2]
  · show updD s.1 q v x = 0 ↔ x = p
    rw [updD]
    by_cases e : x = q
    · subst e
      have := h.zero x
      rw [if_pos rfl]
      constructor
      · intro hh; omega
      · intro hh; have := this.2 hh; omega
    · rw [if_neg e]; exact h.zero x
theorem Down.inn {g : Grid} {p r : Q2} {v : Int} (h0 : 1 ≤ v) : ∀ (qs : List Q2) (s : St), Down p s → (∀ q ∈ qs, q ∈ nearL r) → s.1 r = v - 1 → Down p (inn g v qs s)
  | [], _, h, _, _ => h
  | q :: qs, s, h, hq, h1 => by
    cases ho : opn g s.1 q with
    | true =>
      rw [inn_hit ho]
      have hne : r ≠ q := fun e => by rw [opn, Bool.and_eq_true, decide_eq_true_eq] at ho; rw [e] at h1; omega
      exact Down.inn h0 qs _ (h.add ho (hq q (by simp)) h1 h0) (fun x hx => hq x (by simp [hx])) (by show updD s.1 q v r = _; rw [updD, if_neg hne, h1])
    | false =>
      rw [inn_miss ho]
      exact Down.inn h0 qs s h (fun x hx => hq x (by simp [hx])) h1
theorem Down.outr {g : Grid} {p : Q2} : ∀ (n i : Nat) (s : St), Inv s → Down p s → Down p (outr g n i s)
  | 0, _, _, _, h => h
  | n + 1, i, s, hI, h => by
    cases hp : s.2[i]? with
    | none => rw [Go.Proofs.Ytiljojpnbpdaeaa.outr, hp]; exact h
    | some r =>
      rw [outr_go hp]
      have h1 := (hI.mem r).1 (List.mem_of_getElem? hp)
      have h2 := hI.bd r
      exact Down.outr n (i + 1) _ (Inv.inn (by omega) _ s hI (fun q hq => nearL_on hq) (by omega)) (Down.inn (r := r) (by omega) _ s h (fun q hq => hq) (by omega))
theorem down_bfs {g : Grid} {p : Q2} (h : onC p.a p.b = true) : Down p (bfs g p) := Down.outr _ _ _ (inv0 h) (down0 p)
/-- The first neighbor that is nearer by one. -/
def nextP (D : Q2 → Int) (a : Q2) : Q2 := ((nearL a).find? fun q => decide (D q = D a - 1)).getD a
/-- The route of n steps that goes down from a. -/
def pathN (D : Q2 → Int) : Nat → Q2 → List Q2
  | 0, a => [a]
  | n + 1, a => a :: pathN D n (nextP D a)
theorem pathN_len (D : Q2 → Int) : ∀ n a, (pathN D n a).length = n + 1
  | 0, _ => rfl
  | n + 1, a => by rw [pathN, List.length_cons, pathN_len D n]
theorem next_ok {g : Grid} {p a : Q2} (hp : onC p.a p.b = true) (h : 0 < (bfs g p).1 a) : nextP (bfs g p).1 a ∈ nearL a ∧ (bfs g p).1 (nextP (bfs g p).1 a) = (bfs g p).1 a - 1 := by
  obtain ⟨r, h1, h2⟩ := (down_bfs (g := g) hp).pred a h
  have hI := inv_bfs (g := g) hp
  have hr : onC r.a r.b = true := hI.on r ((hI.mem r).2 (by omega))
  have ha : onC a.a a.b = true := hI.on a ((hI.mem a).2 (by omega))
  have hra := (near_comm hr ha).1 h1
  rw [nextP]
  cases hf : (nearL a).find? fun q => decide ((bfs g p).1 q = (bfs g p).1 a - 1) with
  | none =>
    rw [List.find?_eq_none] at hf
    have := hf r hra
    simp at this; omega
  | some q =>
    have h3 := List.find?_some hf
    have h4 := List.mem_of_find?_eq_some hf
    simp at h3
    exact ⟨h4, h3⟩
theorem find_miss {α : Type} {f : α → Bool} {l : List α} {k : Nat} {x : α} (h : (l.take k).find? f = none) (hx : l[k]? = some x) (hf : f x = false) : (l.take (k + 1)).find? f = none := by
  rw [take_snoc hx, List.find?_append, h]; simp [hf]
theorem find_hit {α : Type} {f : α → Bool} {l : List α} {k : Nat} {x : α} (h : (l.take k).find? f = none) (hx : l[k]? = some x) (hf : f x = true) : l.find? f = some x := by
  have e : l = l.take k ++ x :: l.drop (k + 1) := by rw [← drop_get hx, List.take_append_drop]
  have h2 : (l.take k ++ x :: l.drop (k + 1)).find? f = some x := by rw [List.find?_append, h]; simp [hf]
  rw [← e] at h2; exact h2
end Go.Proofs.Ytiljojpnbpdaeaa
/- Plain laws: what searches reach; the lengths of walks. No condition. -/
namespace Go.Proofs.Ytiljojpnbpdaeaa

/-- A search: each unit cell of the queue in its turn is put through ex. -/
def outE (ex : Q2 → St → St) : Nat → Nat → St → St
  | 0, _, s => s
  | n + 1, i, s => match s.2[i]? with
    | none => s
    | some p => outE ex n (i + 1) (ex p s)
theorem outE_go {ex : Q2 → St → St} {n i : Nat} {s : St} {p : Q2} (h : s.2[i]? = some p) : outE ex (n + 1) i s = outE ex n (i + 1) (ex p s) := by rw [outE, h]
theorem outE_stop {ex : Q2 → St → St} {n i : Nat} {s : St} (h : s.2.length ≤ i) : outE ex n i s = s := by
  cases n with
  | zero => rfl
  | succ n => rw [outE, List.getElem?_eq_none h]
theorem outr_eq (g : Grid) : ∀ (n i : Nat) (s : St), outr g n i s = outE (fun p s => inn g (s.1 p + 1) (nearL p) s) n i s
  | 0, _, _ => rfl
  | n + 1, i, s => by
    cases h : s.2[i]? with
    | none => rw [outr, outE, h]
    | some p => rw [outr_go h, outE_go h, outr_eq g n]
/-- What is reached from p by steps of nb to free unit cells. -/
inductive Rch (nb : Q2 → Q2 → Prop) (free : Q2 → Prop) (p : Q2) : Q2 → Prop
  | refl : Rch nb free p p
  | step {r q : Q2} : Rch nb free p r → nb r q → free q → Rch nb free p q
/-- What one unit cell's turn does. -/
structure Turn (ex : Q2 → St → St) (nb : Q2 → Q2 → Prop) (free : Q2 → Prop) : Prop where
  inv : ∀ p s, Inv s → p ∈ s.2 → Inv (ex p s)
  pre : ∀ p s, Inv s → p ∈ s.2 → ∃ t, (ex p s).2 = s.2 ++ t
  old : ∀ p s, Inv s → p ∈ s.2 → ∀ q, 0 ≤ s.1 q → (ex p s).1 q = s.1 q
  sound : ∀ p s, Inv s → p ∈ s.2 → ∀ q, 0 ≤ (ex p s).1 q → 0 ≤ s.1 q ∨ (nb p q ∧ free q)
  full : ∀ p s, Inv s → p ∈ s.2 → ∀ q, nb p q → free q → 0 ≤ (ex p s).1 q
/-- What holds of a search when i unit cells had their turn. -/
structure Srch (nb : Q2 → Q2 → Prop) (free : Q2 → Prop) (p : Q2) (i : Nat) (s : St) : Prop where
  inv : Inv s
  at0 : p ∈ s.2
  sound : ∀ q, 0 ≤ s.1 q → Rch nb free p q
  done : ∀ (j : Nat) r, j < i → s.2[j]? = some r → ∀ q, nb r q → free q → 0 ≤ s.1 q
section
variable {ex : Q2 → St → St} {nb : Q2 → Q2 → Prop} {free : Q2 → Prop} {p : Q2}
theorem Srch.start (h : onC p.a p.b = true) : Srch nb free p 0 (bfs0 p) := by
  refine ⟨inv0 h, by simp [bfs0], fun q hq => ?_, fun j r hj => by omega⟩
  simp only [bfs0] at hq
  split at hq
  · rename_i e; rw [e]; exact Rch.refl
  · omega
theorem Srch.go (hT : Turn ex nb free) {i : Nat} {s : St} {r : Q2} (h : Srch nb free p i s) (hr : s.2[i]? = some r) : Srch nb free p (i + 1) (ex r s) := by
  have hm := List.mem_of_getElem? hr
  obtain ⟨t, ht⟩ := hT.pre r s h.inv hm
  have hlt : i < s.2.length := (List.getElem?_eq_some_iff.1 hr).1
  refine ⟨hT.inv r s h.inv hm, by rw [ht]; exact List.mem_append.2 (Or.inl h.at0), fun q hq => ?_, fun j x hj hx q hn hf => ?_⟩
  · rcases hT.sound r s h.inv hm q hq with h1 | ⟨h1, h2⟩
    · exact h.sound q h1
    · exact Rch.step (h.sound r ((h.inv.mem r).1 hm)) h1 h2
  · by_cases hji : j = i
    · subst hji
      rw [ht, List.getElem?_append_left hlt, hr] at hx
      cases hx
      exact hT.full r s h.inv hm q hn hf
    · have hj' : j < i := by omega
      rw [ht, List.getElem?_append_left (by omega)] at hx
      have h1 := h.done j x hj' hx q hn hf
      rw [hT.old r s h.inv hm q h1]; exact h1
theorem Srch.out (hT : Turn ex nb free) : ∀ (n i : Nat) (s : St), Srch nb free p i s → 6401 ≤ n + i → ∃ k, Srch nb free p k (outE ex n i s) ∧ (outE ex n i s).2.length ≤ k
  | 0, i, s, h, hn => ⟨i, h, by have := h.inv.len; show s.2.length ≤ i; omega⟩
  | n + 1, i, s, h, hn => by
    cases hr : s.2[i]? with
    | none => rw [outE, hr]; exact ⟨i, h, List.getElem?_eq_none_iff.1 hr⟩
    | some r => rw [outE_go hr]; exact Srch.out hT n (i + 1) _ (h.go hT hr) (by omega)
theorem srch_rch (hT : Turn ex nb free) (h : onC p.a p.b = true) (q : Q2) : 0 ≤ (outE ex 6401 0 (bfs0 p)).1 q ↔ Rch nb free p q := by
  obtain ⟨k, hs, hk⟩ := Srch.out hT 6401 0 _ (Srch.start (nb := nb) (free := free) h) (by omega)
  refine ⟨hs.sound q, fun hR => ?_⟩
  induction hR with
  | refl => exact (hs.inv.mem p).1 hs.at0
  | step _ hn hf ih =>
    obtain ⟨j, hj⟩ := List.getElem?_of_mem ((hs.inv.mem _).2 ih)
    exact hs.done j _ (by have := (List.getElem?_eq_some_iff.1 hj).1; omega) hj _ hn hf
theorem Turn.inv_out (hT : Turn ex nb free) (h : onC p.a p.b = true) : Inv (outE ex 6401 0 (bfs0 p)) := by
  obtain ⟨k, hs, _⟩ := Srch.out hT 6401 0 _ (Srch.start (nb := nb) (free := free) h) (by omega)
  exact hs.inv
end

/-- Looking at a list of unit cells, one by one. -/
theorem inn_pre {g : Grid} {v : Int} : ∀ (qs : List Q2) (s : St), ∃ t, (inn g v qs s).2 = s.2 ++ t
  | [], s => ⟨[], by simp [inn_nil]⟩
  | q :: qs, s => by
    cases ho : opn g s.1 q with
    | true =>
      rw [inn_hit ho]
      obtain ⟨t, ht⟩ := inn_pre qs (updD s.1 q v, s.2 ++ [q])
      exact ⟨q :: t, by rw [ht]; simp⟩
    | false => rw [inn_miss ho]; exact inn_pre qs s
theorem opn_neg {g : Grid} {D : Q2 → Int} {q : Q2} (h : opn g D q = true) : gh g q.a q.b = false ∧ D q < 0 := by
  rw [opn, Bool.and_eq_true, decide_eq_true_eq] at h
  exact ⟨by simpa using h.1, h.2⟩
theorem inn_old {g : Grid} {v : Int} : ∀ (qs : List Q2) (s : St) (x : Q2), 0 ≤ s.1 x → (inn g v qs s).1 x = s.1 x
  | [], _, _, _ => rfl
  | q :: qs, s, x, hx => by
    cases ho : opn g s.1 q with
    | true =>
      have hne : x ≠ q := fun e => by have := (opn_neg ho).2; rw [← e] at this; omega
      have h1 : updD s.1 q v x = s.1 x := by rw [updD, if_neg hne]
      rw [inn_hit ho, inn_old qs _ x (by show 0 ≤ updD s.1 q v x; rw [h1]; exact hx)]
      exact h1
    | false => rw [inn_miss ho]; exact inn_old qs s x hx
theorem inn_new {g : Grid} {v : Int} : ∀ (qs : List Q2) (s : St) (x : Q2), (inn g v qs s).1 x = s.1 x ∨ (x ∈ qs ∧ gh g x.a x.b = false ∧ (inn g v qs s).1 x = v ∧ s.1 x < 0)
  | [], _, _ => Or.inl rfl
  | q :: qs, s, x => by
    cases ho : opn g s.1 q with
    | true =>
      rw [inn_hit ho]
      obtain ⟨h1, h2⟩ := opn_neg ho
      rcases inn_new qs (updD s.1 q v, s.2 ++ [q]) x with h | ⟨h3, h4, h5, h6⟩
      · by_cases e : x = q
        · subst e
          exact Or.inr ⟨by simp, h1, by rw [h]; show updD s.1 x v x = v; rw [updD, if_pos rfl], h2⟩
        · exact Or.inl (by rw [h]; show updD s.1 q v x = _; rw [updD, if_neg e])
      · refine Or.inr ⟨by simp [h3], h4, h5, ?_⟩
        by_cases e : x = q
        · rw [e]; exact h2
        · have h6' : updD s.1 q v x < 0 := h6
          rwa [updD, if_neg e] at h6'
    | false =>
      rw [inn_miss ho]
      rcases inn_new qs s x with h | ⟨h3, h4⟩
      · exact Or.inl h
      · exact Or.inr ⟨by simp [h3], h4⟩
theorem inn_full {g : Grid} {v : Int} (h0 : 0 ≤ v) : ∀ (qs : List Q2) (s : St) (x : Q2), x ∈ qs → gh g x.a x.b = false → 0 ≤ (inn g v qs s).1 x
  | [], _, _, h, _ => by simp at h
  | q :: qs, s, x, h, hg => by
    by_cases hx : 0 ≤ s.1 x
    · rw [inn_old _ _ _ hx]; exact hx
    · by_cases e : x = q
      · subst e
        have ho : opn g s.1 x = true := by rw [opn, hg]; simp; omega
        have h1 : updD s.1 x v x = v := by rw [updD, if_pos rfl]
        rw [inn_hit ho, inn_old qs _ x (by show 0 ≤ updD s.1 x v x; rw [h1]; exact h0)]
        show 0 ≤ updD s.1 x v x
        rw [h1]; exact h0
      · have hm : x ∈ qs := by simpa [e] using h
        cases ho : opn g s.1 q with
        | true => rw [inn_hit ho]; exact inn_full h0 qs _ x hm hg
        | false => rw [inn_miss ho]; exact inn_full h0 qs _ x hm hg
def freeB (g : Grid) (q : Q2) : Prop := gh g q.a q.b = false
theorem turn_bfs (g : Grid) : Turn (fun p s => inn g (s.1 p + 1) (nearL p) s) (fun r q => q ∈ nearL r) (freeB g) := by
  have key : ∀ p s, Inv s → p ∈ s.2 → 0 ≤ s.1 p ∧ s.1 p < s.2.length := fun p s hI hp => ⟨(hI.mem p).1 hp, (hI.bd p).2⟩
  refine ⟨fun p s hI hp => ?_, fun p s hI hp => inn_pre _ _, fun p s hI hp q hq => inn_old _ _ _ hq, fun p s hI hp q hq => ?_, fun p s hI hp q hn hf => inn_full (by have := key p s hI hp; omega) _ _ _ hn hf⟩
  · obtain ⟨h1, h2⟩ := key p s hI hp
    exact Inv.inn (by omega) _ s hI (fun q hq => nearL_on hq) (by omega)
  · rcases inn_new (nearL p) s q with h | ⟨h1, h2, _, _⟩
    · left; rw [← h]; exact hq
    · exact Or.inr ⟨h1, h2⟩
theorem bfs_eq (g : Grid) (p : Q2) : bfs g p = outE (fun p s => inn g (s.1 p + 1) (nearL p) s) 6401 0 (bfs0 p) := outr_eq g _ _ _
theorem bfs_rch {g : Grid} {p : Q2} (h : onC p.a p.b = true) (q : Q2) : 0 ≤ (bfs g p).1 q ↔ Rch (fun r q => q ∈ nearL r) (freeB g) p q := by
  rw [bfs_eq]; exact srch_rch (turn_bfs g) h q

/-- A walk of n steps, each but the first unit cell free. -/
inductive Wk (g : Grid) (p : Q2) : Nat → Q2 → Prop
  | refl : Wk g p 0 p
  | step {n : Nat} {r q : Q2} : Wk g p n r → q ∈ nearL r → gh g q.a q.b = false → Wk g p (n + 1) q
/-- The levels of the search. -/
structure Lev (g : Grid) (i : Nat) (s : St) : Prop where
  inv : Inv s
  sort : ∀ (j k : Nat) a b, j ≤ k → s.2[j]? = some a → s.2[k]? = some b → s.1 a ≤ s.1 b
  near : ∀ (k : Nat) a b, s.2[i]? = some a → s.2[k]? = some b → s.1 b ≤ s.1 a + 1
  done : ∀ (j : Nat) r, j < i → s.2[j]? = some r → ∀ q, q ∈ nearL r → gh g q.a q.b = false → 0 ≤ s.1 q ∧ s.1 q ≤ s.1 r + 1
theorem Lev.start {g : Grid} {p : Q2} (h : onC p.a p.b = true) : Lev g 0 (bfs0 p) := by
  have h1 : ∀ (k : Nat) a, (bfs0 p).2[k]? = some a → a = p := by
    intro k a hk
    cases k with
    | zero => simp [bfs0] at hk; exact hk.symm
    | succ k => simp [bfs0] at hk
  refine ⟨inv0 h, fun j k a b _ ha hb => ?_, fun k a b ha hb => ?_, fun j r hj => by omega⟩
  · rw [h1 _ _ ha, h1 _ _ hb]; omega
  · rw [h1 _ _ ha, h1 _ _ hb]; omega
theorem Lev.go {g : Grid} {i : Nat} {s : St} {r : Q2} (h : Lev g i s) (hr : s.2[i]? = some r) : Lev g (i + 1) (inn g (s.1 r + 1) (nearL r) s) := by
  have hm := List.mem_of_getElem? hr
  have hT := turn_bfs g
  have hD := (h.inv.mem r).1 hm
  obtain ⟨t, ht⟩ := inn_pre (g := g) (v := s.1 r + 1) (nearL r) s
  have hlt : i < s.2.length := (List.getElem?_eq_some_iff.1 hr).1
  have hinv := hT.inv r s h.inv hm
  have hold : ∀ q, 0 ≤ s.1 q → (inn g (s.1 r + 1) (nearL r) s).1 q = s.1 q := fun q hq => inn_old _ _ _ hq
  -- each one of the new queue: an old one, or at the level behind
  have hpos : ∀ (k : Nat) a, (inn g (s.1 r + 1) (nearL r) s).2[k]? = some a → (s.2[k]? = some a ∧ k < s.2.length ∧ (inn g (s.1 r + 1) (nearL r) s).1 a = s.1 a) ∨ (s.2.length ≤ k ∧ (inn g (s.1 r + 1) (nearL r) s).1 a = s.1 r + 1) := by
    intro k a hk
    have hma := List.mem_of_getElem? hk
    by_cases hkl : k < s.2.length
    · left
      rw [ht, List.getElem?_append_left hkl] at hk
      exact ⟨hk, hkl, hold a ((h.inv.mem a).1 (List.mem_of_getElem? hk))⟩
    · right
      refine ⟨by omega, ?_⟩
      rcases inn_new (g := g) (v := s.1 r + 1) (nearL r) s a with h1 | ⟨_, _, h3, _⟩
      · exfalso
        have h2 := (hinv.mem a).1 hma
        have h3 : 0 ≤ s.1 a := by rw [← h1]; exact h2
        obtain ⟨j, hj⟩ := List.getElem?_of_mem ((h.inv.mem a).2 h3)
        have hjl := (List.getElem?_eq_some_iff.1 hj).1
        have hnd := hinv.nd
        have e1 : (inn g (s.1 r + 1) (nearL r) s).2[j]? = some a := by rw [ht, List.getElem?_append_left hjl]; exact hj
        have hkl2 := (List.getElem?_eq_some_iff.1 hk).1
        have := (List.getElem?_inj (by rw [ht, List.length_append]; omega) hnd).1 (e1.trans hk.symm)
        omega
      · exact h3
  have hup : ∀ (k : Nat) a, s.2[k]? = some a → s.1 a ≤ s.1 r + 1 := fun k a ha => h.near k r a hr ha
  refine ⟨hinv, fun j k a b hjk ha hb => ?_, fun k a b ha hb => ?_, fun j x hj hx q hn hf => ?_⟩
  · rcases hpos j a ha with ⟨a1, a2, a3⟩ | ⟨a2, a3⟩ <;> rcases hpos k b hb with ⟨b1, b2, b3⟩ | ⟨b2, b3⟩
    · rw [a3, b3]; exact h.sort j k a b hjk a1 b1
    · rw [a3, b3]; exact hup j a a1
    · omega
    · rw [a3, b3]; omega
  · have hb' : (inn g (s.1 r + 1) (nearL r) s).1 b ≤ s.1 r + 1 := by
      rcases hpos k b hb with ⟨b1, b2, b3⟩ | ⟨b2, b3⟩
      · rw [b3]; exact hup k b b1
      · rw [b3]; omega
    have ha' : s.1 r ≤ (inn g (s.1 r + 1) (nearL r) s).1 a := by
      rcases hpos (i + 1) a ha with ⟨a1, a2, a3⟩ | ⟨a2, a3⟩
      · rw [a3]; exact h.sort i (i + 1) r a (by omega) hr a1
      · rw [a3]; omega
    omega
  · by_cases hji : j = i
    · subst hji
      rw [ht, List.getElem?_append_left hlt, hr] at hx
      cases hx
      refine ⟨inn_full (by omega) _ _ _ hn hf, ?_⟩
      rw [hold r hD]
      rcases inn_new (g := g) (v := s.1 r + 1) (nearL r) s q with h1 | ⟨_, _, h3, _⟩
      · rw [h1]
        by_cases h0 : 0 ≤ s.1 q
        · obtain ⟨k, hk⟩ := List.getElem?_of_mem ((h.inv.mem q).2 h0)
          exact hup k q hk
        · omega
      · rw [h3]; omega
    · have hj' : j < i := by omega
      rw [ht, List.getElem?_append_left (by omega)] at hx
      have h1 := h.done j x hj' hx q hn hf
      rw [hold q h1.1, hold x ((h.inv.mem x).1 (List.mem_of_getElem? hx))]; exact h1
theorem Lev.out {g : Grid} : ∀ (n i : Nat) (s : St), Lev g i s → 6401 ≤ n + i → ∃ k, Lev g k (outr g n i s) ∧ (outr g n i s).2.length ≤ k
  | 0, i, s, h, hn => ⟨i, h, by have := h.inv.len; show s.2.length ≤ i; omega⟩
  | n + 1, i, s, h, hn => by
    cases hr : s.2[i]? with
    | none => rw [outr, hr]; exact ⟨i, h, List.getElem?_eq_none_iff.1 hr⟩
    | some r => rw [outr_go hr]; exact Lev.out n (i + 1) _ (h.go hr) (by omega)
/-- A free neighbor of what is reached is reached, at most one step farther. -/
theorem bfs_step {g : Grid} {p : Q2} (h : onC p.a p.b = true) {r q : Q2} (hr : 0 ≤ (bfs g p).1 r) (hn : q ∈ nearL r) (hf : gh g q.a q.b = false) : 0 ≤ (bfs g p).1 q ∧ (bfs g p).1 q ≤ (bfs g p).1 r + 1 := by
  obtain ⟨k, hs, hk⟩ := Lev.out 6401 0 _ (Lev.start (g := g) h) (by omega)
  obtain ⟨j, hj⟩ := List.getElem?_of_mem ((hs.inv.mem _).2 hr)
  exact hs.done j _ (by have := (List.getElem?_eq_some_iff.1 hj).1; omega) hj _ hn hf
theorem bfs_zero {g : Grid} {p : Q2} (h : onC p.a p.b = true) : (bfs g p).1 p = 0 := ((down_bfs (g := g) h).zero p).2 rfl
theorem wk_le {g : Grid} {p : Q2} (h : onC p.a p.b = true) {n : Nat} {q : Q2} (hw : Wk g p n q) : 0 ≤ (bfs g p).1 q ∧ (bfs g p).1 q ≤ n := by
  induction hw with
  | refl => rw [bfs_zero h]; omega
  | step _ hn hf ih =>
    have := bfs_step h ih.1 hn hf
    omega
theorem bfs_free {g : Grid} {p : Q2} (h : onC p.a p.b = true) {q : Q2} (hq : 0 < (bfs g p).1 q) : gh g q.a q.b = false := by
  have h1 := (bfs_rch (g := g) h q).1 (by omega)
  cases h1 with
  | refl => rw [bfs_zero h] at hq; omega
  | step _ _ hf => exact hf
theorem bfs_wk {g : Grid} {p : Q2} (h : onC p.a p.b = true) : ∀ (n : Nat) (q : Q2), (bfs g p).1 q = n → Wk g p n q
  | 0, q, hq => by
    have := ((down_bfs (g := g) h).zero q).1 hq
    subst this; exact Wk.refl
  | n + 1, q, hq => by
    obtain ⟨r, h1, h2⟩ := (down_bfs (g := g) h).pred q (by omega)
    exact Wk.step (bfs_wk h n r (by omega)) h1 (bfs_free h (by omega))
theorem Wk.on {g : Grid} {p : Q2} (h : onC p.a p.b = true) {n : Nat} {q : Q2} (hw : Wk g p n q) : onC q.a q.b = true := by
  cases hw with
  | refl => exact h
  | step _ hn _ => exact nearL_on hn
theorem Wk.front {g : Grid} {p r : Q2} (hr : gh g r.a r.b = false) (hn : r ∈ nearL p) {n : Nat} {q : Q2} (hw : Wk g r n q) : Wk g p (n + 1) q := by
  induction hw with
  | refl => exact Wk.step Wk.refl hn hr
  | step _ hn' hf ih => exact Wk.step ih hn' hf
theorem Wk.turn {g : Grid} {p : Q2} (hp : onC p.a p.b = true) (hpf : gh g p.a p.b = false) {n : Nat} {q : Q2} (hw : Wk g p n q) : Wk g q n p := by
  induction hw with
  | refl => exact Wk.refl
  | step hw' hn hf ih =>
    rename_i m r q
    have hr := hw'.on hp
    have hrf : gh g r.a r.b = false := by
      cases hw' with
      | refl => exact hpf
      | step _ _ hf' => exact hf'
    exact Wk.front hrf ((near_comm hr (nearL_on hn)).1 hn) ih
/-- The distance is the same in both directions. -/
theorem bfs_sym {g : Grid} {p q : Q2} (hp : onC p.a p.b = true) (hq : onC q.a q.b = true) (hpf : gh g p.a p.b = false) (hqf : gh g q.a q.b = false) : (bfs g p).1 q = (bfs g q).1 p := by
  have hb1 := (inv_bfs (g := g) hp).bd q
  have hb2 := (inv_bfs (g := g) hq).bd p
  have k1 : 0 ≤ (bfs g p).1 q → 0 ≤ (bfs g q).1 p ∧ (bfs g q).1 p ≤ (bfs g p).1 q := by
    intro h0
    have h1 := wk_le hq ((bfs_wk hp ((bfs g p).1 q).toNat q (by omega)).turn hp hpf)
    omega
  have k2 : 0 ≤ (bfs g q).1 p → 0 ≤ (bfs g p).1 q ∧ (bfs g p).1 q ≤ (bfs g q).1 p := by
    intro h0
    have h1 := wk_le hp ((bfs_wk hq ((bfs g q).1 p).toNat p (by omega)).turn hq hqf)
    omega
  by_cases h0 : 0 ≤ (bfs g p).1 q
  · have := k1 h0; have := k2 (by omega); omega
  · by_cases h1 : 0 ≤ (bfs g q).1 p
    · have := k2 h1; omega
    · omega
/-- More blocked unit cells: no shorter walk. -/
theorem Wk.fewer {g g' : Grid} (hg : ∀ x y, gh g' x y = true → gh g x y = true) {p : Q2} {n : Nat} {q : Q2} (hw : Wk g p n q) : Wk g' p n q := by
  induction hw with
  | refl => exact Wk.refl
  | step hw0 hn hf ih =>
    refine Wk.step ih hn ?_
    rename_i q
    cases h : gh g' q.a q.b with
    | false => rfl
    | true => rw [hg _ _ h] at hf; cases hf
theorem Wk.far {g : Grid} {p : Q2} {n : Nat} {q : Q2} (hw : Wk g p n q) : q.a - p.a ≤ n ∧ p.a - q.a ≤ n := by
  induction hw with
  | refl => omega
  | step _ hn _ ih =>
    have h1 := (near_iff.1 hn).2
    rw [adjB, decide_eq_true_eq] at h1
    omega

/-! The search of flood. -/
/-- One neighbor is looked at. -/
def stF (c : Grid) (wide : Bool) (p : Q2) (dx dy : Int) (s : St) : St :=
  if ((decide (dx = 0) || decide (dy = 0) || wide) && gh c (p.a + dx) (p.b + dy) && decide (s.1 ⟨p.a + dx, p.b + dy⟩ < 0)) = true then (updD s.1 ⟨p.a + dx, p.b + dy⟩ 0, s.2 ++ [⟨p.a + dx, p.b + dy⟩]) else s
/-- The k last columns. -/
def colF (c : Grid) (wide : Bool) (p : Q2) (dy : Int) : Nat → St → St
  | 0, s => s
  | k + 1, s => colF c wide p dy k (stF c wide p (1 - k) dy s)
/-- The k last rows. -/
def rowF (c : Grid) (wide : Bool) (p : Q2) : Nat → St → St
  | 0, s => s
  | k + 1, s => rowF c wide p k (colF c wide p (1 - k) 3 s)
def outF (c : Grid) (wide : Bool) (n i : Nat) (s : St) : St := outE (fun p s => rowF c wide p 3 s) n i s
def floodS (c : Grid) (wide : Bool) (p : Q2) : St := outF c wide 6401 0 (bfs0 p)
def gD (D : Q2 → Int) : Grid := gmk fun x y => decide (0 ≤ D ⟨x, y⟩)
def floodG (c : Grid) (wide : Bool) (p : Q2) : Grid := gD (floodS c wide p).1
/-- The neighbors of flood. -/
def NbF (wide : Bool) (r q : Q2) : Prop := (-1 ≤ q.a - r.a ∧ q.a - r.a ≤ 1) ∧ (-1 ≤ q.b - r.b ∧ q.b - r.b ≤ 1) ∧ (q.a = r.a ∨ q.b = r.b ∨ wide = true)
def setC (c : Grid) (q : Q2) : Prop := gh c q.a q.b = true
theorem opn_none {D : Q2 → Int} {q : Q2} (h : D q < 0) : opn gnone D q = true := by
  rw [opn, Bool.and_eq_true, decide_eq_true_eq]
  refine ⟨?_, h⟩
  rw [gh]; simp [gnone]
/-- What a piece of a turn of p does: it looks at those that P tells. -/
structure Piece (c : Grid) (P : Q2 → Prop) (f : St → St) : Prop where
  inv : ∀ s, Inv s → s.2 ≠ [] → Inv (f s)
  pre : ∀ s, ∃ t, (f s).2 = s.2 ++ t
  old : ∀ s q, 0 ≤ s.1 q → (f s).1 q = s.1 q
  sound : ∀ s q, 0 ≤ (f s).1 q → 0 ≤ s.1 q ∨ (P q ∧ setC c q)
  full : ∀ s q, P q → setC c q → 0 ≤ (f s).1 q
theorem Piece.comp {c : Grid} {P Q : Q2 → Prop} {f k : St → St} (h : Piece c P f) (h2 : Piece c Q k) : Piece c (fun q => P q ∨ Q q) (fun s => k (f s)) := by
  refine ⟨fun s hI hn => h2.inv _ (h.inv s hI hn) ?_, fun s => ?_, fun s q hq => ?_, fun s q hq => ?_, fun s q hP hc => ?_⟩
  · obtain ⟨t, ht⟩ := h.pre s
    rw [ht]; simp [hn]
  · obtain ⟨t, ht⟩ := h.pre s
    obtain ⟨u, hu⟩ := h2.pre (f s)
    exact ⟨t ++ u, by rw [hu, ht, List.append_assoc]⟩
  · have h1 := h.old s q hq
    rw [h2.old (f s) q (by rw [h1]; exact hq), h1]
  · rcases h2.sound (f s) q hq with h1 | ⟨h1, h3⟩
    · rcases h.sound s q h1 with h4 | ⟨h4, h5⟩
      · exact Or.inl h4
      · exact Or.inr ⟨Or.inl h4, h5⟩
    · exact Or.inr ⟨Or.inr h1, h3⟩
  · rcases hP with hP | hP
    · have h1 := h.full s q hP hc
      rw [h2.old _ _ h1]; exact h1
    · exact h2.full _ q hP hc
theorem Piece.nil (c : Grid) : Piece c (fun _ => False) (fun s => s) :=
  ⟨fun _ h _ => h, fun s => ⟨[], by simp⟩, fun _ _ _ => rfl, fun _ _ h => Or.inl h, fun _ _ h => h.elim⟩
theorem Piece.congr {c : Grid} {P Q : Q2 → Prop} {f : St → St} (h : Piece c P f) (hq : ∀ q, P q ↔ Q q) : Piece c Q f :=
  ⟨h.inv, h.pre, h.old, fun s q hs => (h.sound s q hs).imp id (fun ⟨a, b⟩ => ⟨(hq q).1 a, b⟩), fun s q hP hc => h.full s q ((hq q).2 hP) hc⟩
theorem stF_hit {c : Grid} {wide : Bool} {p : Q2} {dx dy : Int} {s : St} (h1 : (dx = 0 ∨ dy = 0) ∨ wide = true) (h2 : gh c (p.a + dx) (p.b + dy) = true) (h3 : s.1 ⟨p.a + dx, p.b + dy⟩ < 0) : stF c wide p dx dy s = (updD s.1 ⟨p.a + dx, p.b + dy⟩ 0, s.2 ++ [⟨p.a + dx, p.b + dy⟩]) := by
  rw [stF, if_pos]
  simp only [Bool.and_eq_true, Bool.or_eq_true, decide_eq_true_eq]
  exact ⟨⟨h1, h2⟩, h3⟩
theorem stF_miss {c : Grid} {wide : Bool} {p : Q2} {dx dy : Int} {s : St} (h : (¬ (dx = 0 ∨ dy = 0) ∧ wide = false) ∨ gh c (p.a + dx) (p.b + dy) = false ∨ 0 ≤ s.1 ⟨p.a + dx, p.b + dy⟩) : stF c wide p dx dy s = s := by
  rw [stF, if_neg]
  simp only [Bool.and_eq_true, Bool.or_eq_true, decide_eq_true_eq]
  rintro ⟨⟨h1, h2⟩, h3⟩
  rcases h with ⟨h, hw⟩ | h | h
  · rcases h1 with h1 | h1
    · exact h h1
    · rw [hw] at h1; cases h1
  · rw [h] at h2; cases h2
  · omega
theorem piece_st (c : Grid) (wide : Bool) (p : Q2) (dx dy : Int) : Piece c (fun q => ((dx = 0 ∨ dy = 0) ∨ wide = true) ∧ q.a = p.a + dx ∧ q.b = p.b + dy) (stF c wide p dx dy) := by
  have hq2 : ∀ q : Q2, q.a = p.a + dx → q.b = p.b + dy → q = ⟨p.a + dx, p.b + dy⟩ := by rintro ⟨a, b⟩ h1 h2; simp only at h1 h2; rw [h1, h2]
  by_cases h : ((dx = 0 ∨ dy = 0) ∨ wide = true) ∧ gh c (p.a + dx) (p.b + dy) = true
  · obtain ⟨h1, h2⟩ := h
    refine ⟨fun s hI hn => ?_, fun s => ?_, fun s q hq => ?_, fun s q hq => ?_, fun s q hP hc => ?_⟩
    · by_cases h3 : s.1 ⟨p.a + dx, p.b + dy⟩ < 0
      · rw [stF_hit h1 h2 h3]
        refine hI.add (g := gnone) (opn_none h3) ?_ (by omega) (by omega)
        cases ho : onC (p.a + dx) (p.b + dy) with
        | true => rfl
        | false => rw [gh_off ho] at h2; cases h2
      · rw [stF_miss (Or.inr (Or.inr (by omega)))]; exact hI
    · by_cases h3 : s.1 ⟨p.a + dx, p.b + dy⟩ < 0
      · rw [stF_hit h1 h2 h3]; exact ⟨_, rfl⟩
      · rw [stF_miss (Or.inr (Or.inr (by omega)))]; exact ⟨[], by simp⟩
    · by_cases h3 : s.1 ⟨p.a + dx, p.b + dy⟩ < 0
      · rw [stF_hit h1 h2 h3]
        show updD _ _ _ q = _
        rw [updD, if_neg (fun e => by rw [e] at hq; omega)]
      · rw [stF_miss (Or.inr (Or.inr (by omega)))]
    · by_cases h3 : s.1 ⟨p.a + dx, p.b + dy⟩ < 0
      · rw [stF_hit h1 h2 h3] at hq
        have hq' : 0 ≤ updD s.1 ⟨p.a + dx, p.b + dy⟩ 0 q := hq
        rw [updD] at hq'
        split at hq'
        · rename_i e
          subst e
          exact Or.inr ⟨⟨h1, rfl, rfl⟩, h2⟩
        · exact Or.inl hq'
      · rw [stF_miss (Or.inr (Or.inr (by omega)))] at hq; exact Or.inl hq
    · obtain ⟨_, e1, e2⟩ := hP
      rw [hq2 q e1 e2]
      by_cases h3 : s.1 ⟨p.a + dx, p.b + dy⟩ < 0
      · rw [stF_hit h1 h2 h3]
        show 0 ≤ updD _ _ _ _
        rw [updD, if_pos rfl]; omega
      · rw [stF_miss (Or.inr (Or.inr (by omega)))]; omega
  · have hm : ∀ s, stF c wide p dx dy s = s := by
      intro s
      apply stF_miss
      by_cases h1 : (dx = 0 ∨ dy = 0) ∨ wide = true
      · right; left
        cases hg : gh c (p.a + dx) (p.b + dy) with
        | false => rfl
        | true => exact absurd ⟨h1, hg⟩ h
      · left
        refine ⟨fun h2 => h1 (Or.inl h2), ?_⟩
        cases hw : wide with
        | false => rfl
        | true => exact absurd (Or.inr hw) h1
    refine ⟨fun s hI _ => by rw [hm]; exact hI, fun s => ⟨[], by rw [hm]; simp⟩, fun s q _ => by rw [hm], fun s q hq => by rw [hm] at hq; exact Or.inl hq, fun s q hP hc => ?_⟩
    obtain ⟨h1, e1, e2⟩ := hP
    rw [hq2 q e1 e2] at hc
    exact absurd ⟨h1, hc⟩ h
theorem piece_col (c : Grid) (wide : Bool) (p : Q2) (dy : Int) : ∀ k : Nat, Piece c (fun q => (2 - (k : Int) ≤ q.a - p.a ∧ q.a - p.a ≤ 1) ∧ q.b = p.b + dy ∧ ((q.a = p.a ∨ dy = 0) ∨ wide = true)) (colF c wide p dy k)
  | 0 => (Piece.nil c).congr fun q => ⟨fun h => h.elim, fun h => by omega⟩
  | k + 1 => ((piece_st c wide p (1 - k) dy).comp (piece_col c wide p dy k)).congr fun q => by
    constructor
    · rintro (⟨h1, h2, h3⟩ | ⟨h1, h2, h3⟩)
      · refine ⟨by omega, h3, ?_⟩
        rcases h1 with (h1 | h1) | h1
        · left; left; omega
        · left; right; exact h1
        · right; exact h1
      · exact ⟨by omega, h2, h3⟩
    · rintro ⟨h1, h2, h3⟩
      by_cases he : q.a = p.a + (1 - (k : Int))
      · left
        refine ⟨?_, he, h2⟩
        rcases h3 with (h3 | h3) | h3
        · left; left; omega
        · left; right; exact h3
        · right; exact h3
      · right; exact ⟨by omega, h2, h3⟩
theorem piece_row (c : Grid) (wide : Bool) (p : Q2) : ∀ k : Nat, Piece c (fun q => (2 - (k : Int) ≤ q.b - p.b ∧ q.b - p.b ≤ 1) ∧ (-1 ≤ q.a - p.a ∧ q.a - p.a ≤ 1) ∧ ((q.a = p.a ∨ q.b = p.b) ∨ wide = true)) (rowF c wide p k)
  | 0 => (Piece.nil c).congr fun q => ⟨fun h => h.elim, fun h => by omega⟩
  | k + 1 => ((piece_col c wide p (1 - k) 3).comp (piece_row c wide p k)).congr fun q => by
    constructor
    · rintro (⟨h1, h2, h3⟩ | ⟨h1, h2, h3⟩)
      · refine ⟨by omega, by omega, ?_⟩
        rcases h3 with (h3 | h3) | h3
        · left; left; exact h3
        · left; right; omega
        · right; exact h3
      · exact ⟨by omega, h2, h3⟩
    · rintro ⟨h1, h2, h3⟩
      by_cases he : q.b = p.b + (1 - (k : Int))
      · left
        refine ⟨by omega, he, ?_⟩
        rcases h3 with (h3 | h3) | h3
        · left; left; exact h3
        · left; right; omega
        · right; exact h3
      · right; exact ⟨by omega, h2, h3⟩
theorem turn_flood (c : Grid) (wide : Bool) : Turn (fun p s => rowF c wide p 3 s) (NbF wide) (setC c) := by
  have hp := fun p => piece_row c wide p 3
  have hn : ∀ p q, NbF wide p q ↔ ((2 - ((3 : Nat) : Int) ≤ q.b - p.b ∧ q.b - p.b ≤ 1) ∧ (-1 ≤ q.a - p.a ∧ q.a - p.a ≤ 1) ∧ ((q.a = p.a ∨ q.b = p.b) ∨ wide = true)) := by
    intro p q
    unfold NbF
    constructor
    · rintro ⟨h1, h2, h3⟩
      refine ⟨by omega, by omega, ?_⟩
      rcases h3 with h3 | h3 | h3
      · left; left; exact h3
      · left; right; exact h3
      · right; exact h3
    · rintro ⟨h1, h2, h3⟩
      refine ⟨by omega, by omega, ?_⟩
      rcases h3 with (h3 | h3) | h3
      · left; exact h3
      · right; left; exact h3
      · right; right; exact h3
  refine ⟨fun p s hI hm => (hp p).inv s hI (fun e => by rw [e] at hm; simp at hm), fun p s _ _ => (hp p).pre s, fun p s _ _ q hq => (hp p).old s q hq, fun p s _ _ q hq => ?_, fun p s _ _ q hN hc => (hp p).full s q ((hn p q).1 hN) hc⟩
  rcases (hp p).sound s q hq with h | ⟨h1, h2⟩
  · exact Or.inl h
  · exact Or.inr ⟨(hn p q).2 h1, h2⟩
theorem flood_rch (c : Grid) (wide : Bool) {p : Q2} (h : onC p.a p.b = true) (q : Q2) : 0 ≤ (floodS c wide p).1 q ↔ Rch (NbF wide) (setC c) p q := srch_rch (turn_flood c wide) h q
theorem inv_flood (c : Grid) (wide : Bool) {p : Q2} (h : onC p.a p.b = true) : Inv (floodS c wide p) := (turn_flood c wide).inv_out h
/-- Those that are not in the set. -/
def gnot (g : Grid) : Grid := gmk fun x y => !gh g x y
theorem gh_gnot {g : Grid} {x y : Int} (h : onC x y = true) : gh (gnot g) x y = !gh g x y := gh_gmk _ h
/-- The flood of the free unit cells has just those to which there is a distance. -/
theorem flood_bfs (g : Grid) {p : Q2} (h : onC p.a p.b = true) (q : Q2) : 0 ≤ (floodS (gnot g) false p).1 q ↔ 0 ≤ (bfs g p).1 q := by
  rw [flood_rch _ _ h, bfs_rch h]
  have hset : ∀ x : Q2, setC (gnot g) x ↔ onC x.a x.b = true ∧ gh g x.a x.b = false := by
    intro x
    rw [setC]
    cases ho : onC x.a x.b with
    | true => rw [gh_gnot ho]; simp
    | false => rw [gh_off ho]; simp
  constructor
  · intro hR
    induction hR with
    | refl => exact Rch.refl
    | step hw0 hn hf ih =>
      rename_i r x
      obtain ⟨h1, h2⟩ := (hset x).1 hf
      by_cases he : x = r
      · rw [he]; exact ih
      · refine Rch.step ih ?_ h2
        rw [near_iff]
        refine ⟨h1, ?_⟩
        rw [adjB, decide_eq_true_eq]
        obtain ⟨n1, n2, n3⟩ := hn
        have he' : ¬ (x.a = r.a ∧ x.b = r.b) := fun ⟨e1, e2⟩ => he (by cases x; cases r; simp only at e1 e2; rw [e1, e2])
        rcases n3 with n3 | n3 | n3
        · omega
        · omega
        · cases n3
  · intro hR
    induction hR with
    | refl => exact Rch.refl
    | step hw0 hn hf ih =>
      rename_i r x
      obtain ⟨h1, h2⟩ := near_iff.1 hn
      rw [adjB, decide_eq_true_eq] at h2
      exact Rch.step ih ⟨by omega, by omega, by omega⟩ ((hset x).2 ⟨h1, hf⟩)
end Go.Proofs.Ytiljojpnbpdaeaa

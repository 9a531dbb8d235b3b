/- Plain laws: the distances that a search from a unit cell finds. No condition. -/
import Derived.Test.YtaigndaabmelhaaIrt
namespace Go.Proofs.Ytaigndaabmelhaa

abbrev St := (Q2 → Int) × List Q2
def updD (D : Q2 → Int) (q : Q2) (v : Int) : Q2 → Int := fun x => if x = q then v else D x
def opn (g : Grid) (D : Q2 → Int) (q : Q2) : Bool := !gh g q.a q.b && decide (D q < 0)
/-- The neighbors qs are looked at; those that are free and new get the distance v. -/
def inn (g : Grid) (v : Int) : List Q2 → St → St
  | [], s => s
  | q :: qs, s => if opn g s.1 q = true then inn g v qs (updD s.1 q v, s.2 ++ [q]) else inn g v qs s
def outr (g : Grid) : Nat → Nat → St → St
  | 0, _, s => s
  | n + 1, i, s => match s.2[i]? with
    | none => s
    | some p => outr g n (i + 1) (inn g (s.1 p + 1) (nearL p) s)
def bfs0 (p : Q2) : St := (fun x => if x = p then 0 else -1, [p])
def bfs (g : Grid) (p : Q2) : St := outr g 6401 0 (bfs0 p)
theorem inn_nil (g : Grid) (v : Int) (s : St) : inn g v [] s = s := rfl
theorem inn_hit {g : Grid} {v : Int} {q : Q2} {qs : List Q2} {s : St} (h : opn g s.1 q = true) : inn g v (q :: qs) s = inn g v qs (updD s.1 q v, s.2 ++ [q]) := by rw [inn, if_pos h]
theorem inn_miss {g : Grid} {v : Int} {q : Q2} {qs : List Q2} {s : St} (h : opn g s.1 q = false) : inn g v (q :: qs) s = inn g v qs s := by rw [inn, if_neg (by rw [h]; simp)]
theorem outr_go {g : Grid} {n i : Nat} {s : St} {p : Q2} (h : s.2[i]? = some p) : outr g (n + 1) i s = outr g n (i + 1) (inn g (s.1 p + 1) (nearL p) s) := by rw [outr, h]
theorem outr_stop {g : Grid} {n i : Nat} {s : St} (h : s.2.length ≤ i) : outr g n i s = s := by
  cases n with
  | zero => rfl
  | succ n => rw [outr, List.getElem?_eq_none h]
theorem nodup_len : ∀ (n : Nat) (l : List Nat), l.Nodup → (∀ x ∈ l, x < n) → l.length ≤ n
  | 0, l, _, h => by cases l with | nil => simp | cons x l => exact absurd (h x (by simp)) (by omega)
  | n + 1, l, hd, h => by
    have h1 := nodup_len n (l.erase n) (hd.erase n) (fun x hx => by
      have h2 := h x (List.mem_of_mem_erase hx)
      have h3 := (hd.mem_erase_iff.1 hx).1
      omega)
    by_cases hn : n ∈ l
    · rw [List.length_erase_of_mem hn] at h1; omega
    · rw [List.erase_of_not_mem hn] at h1; omega
/-- What holds of the search. -/
structure Inv (s : St) : Prop where
  nd : s.2.Nodup
  mem : ∀ q, q ∈ s.2 ↔ 0 ≤ s.1 q
  on : ∀ q ∈ s.2, onC q.a q.b = true
  bd : ∀ q, -1 ≤ s.1 q ∧ s.1 q < s.2.length
theorem Inv.len {s : St} (h : Inv s) : s.2.length ≤ 6400 := by
  have h1 : (s.2.map fun q => atG q.a q.b).Nodup := by
    rw [List.nodup_iff_pairwise_ne, List.pairwise_map]
    refine (List.nodup_iff_pairwise_ne.1 h.nd).imp_of_mem fun {a b} ha hb hne he => hne ?_
    have := atG_inj (h.on a ha) (h.on b hb) he
    cases a; cases b; simp at this; simp [this]
  have := nodup_len 6400 _ h1 (fun x hx => by
    rw [List.mem_map] at hx
    obtain ⟨q, hq, rfl⟩ := hx
    exact atG_lt (h.on q hq))
  simpa using this
theorem inv0 {p : Q2} (h : onC p.a p.b = true) : Inv (bfs0 p) := by
  refine ⟨by simp [bfs0], fun q => ?_, fun q hq => ?_, fun q => ?_⟩
  · simp only [bfs0, List.mem_singleton]; by_cases e : q = p <;> simp [e]
  · simp only [bfs0, List.mem_singleton] at hq; rw [hq]; exact h
  · simp only [bfs0]; by_cases e : q = p <;> simp [e]
theorem Inv.add {g : Grid} {s : St} {q : Q2} {v : Int} (h : Inv s) (ho : opn g s.1 q = true) (hc : onC q.a q.b = true) (h0 : 0 ≤ v) (h1 : v ≤ s.2.length) : Inv (updD s.1 q v, s.2 ++ [q]) := by
  rw [opn, Bool.and_eq_true, decide_eq_true_eq] at ho
  have hn : q ∉ s.2 := fun hq => by have := (h.mem q).1 hq; omega
  refine ⟨?_, fun x => ?_, fun x hx => ?_, fun x => ?_⟩
  · show (s.2 ++ [q]).Nodup
    rw [List.nodup_append]
    exact ⟨h.nd, by simp, fun a ha b hb => by simp at hb; subst hb; exact fun e => hn (e ▸ ha)⟩
  · show x ∈ s.2 ++ [q] ↔ 0 ≤ updD s.1 q v x
    rw [List.mem_append, List.mem_singleton, updD]
    by_cases e : x = q
    · simp [e, h0]
    · simp [e, h.mem]
  · have hx' : x ∈ s.2 ++ [q] := hx
    rw [List.mem_append, List.mem_singleton] at hx'
    rcases hx' with hx' | rfl
    · exact h.on x hx'
    · exact hc
  · show -1 ≤ updD s.1 q v x ∧ updD s.1 q v x < ((s.2 ++ [q]).length : Int)
    rw [updD, List.length_append]
    have := h.bd x
    by_cases e : x = q
    · simp only [if_pos e, List.length_singleton]; omega
    · simp only [if_neg e, List.length_singleton]; omega
theorem Inv.inn {g : Grid} {v : Int} (h0 : 0 ≤ v) : ∀ (qs : List Q2) (s : St), Inv s → (∀ q ∈ qs, onC q.a q.b = true) → v ≤ s.2.length → Inv (inn g v qs s)
  | [], _, h, _, _ => h
  | q :: qs, s, h, hq, h1 => by
    cases ho : opn g s.1 q with
    | true =>
      rw [inn_hit ho]
      exact Inv.inn h0 qs _ (h.add ho (hq q (by simp)) h0 h1) (fun x hx => hq x (by simp [hx])) (by show v ≤ ((s.2 ++ [q]).length : Int); rw [List.length_append]; omega)
    | false =>
      rw [inn_miss ho]
      exact Inv.inn h0 qs s h (fun x hx => hq x (by simp [hx])) h1
theorem nearL_on {p q : Q2} (h : q ∈ nearL p) : onC q.a q.b = true := (List.mem_filter.1 h).2
theorem Inv.outr {g : Grid} : ∀ (n i : Nat) (s : St), Inv s → Inv (outr g n i s)
  | 0, _, _, h => h
  | n + 1, i, s, h => by
    cases hp : s.2[i]? with
    | none => rw [Go.Proofs.Ytaigndaabmelhaa.outr, hp]; exact h
    | some p =>
      rw [outr_go hp]
      have h1 := (h.mem p).1 (List.mem_of_getElem? hp)
      have h2 := h.bd p
      exact Inv.outr n (i + 1) _ (Inv.inn (by omega) _ s h (fun q hq => nearL_on hq) (by omega))
theorem inv_bfs {g : Grid} {p : Q2} (h : onC p.a p.b = true) : Inv (bfs g p) := Inv.outr _ _ _ (inv0 h)
/-- The distances from p around the unit cells of g, -1 where there is no route. -/
def distF (g : Grid) (p : Q2) : Q2 → Int := if gh g p.a p.b = true then fun _ => -1 else (bfs g p).1
/-- As a map. -/
def mapF (D : Q2 → Int) : Q2 → Option Int := fun q => if D q < 0 then none else some (D q)
theorem mapF_upd {D : Q2 → Int} {q : Q2} {v : Int} (h : 0 ≤ v) : upd (mapF D) q v = mapF (updD D q v) := by
  funext x
  rw [upd, mapF, mapF, updD]
  by_cases e : x = q
  · rw [if_pos e, if_pos e, if_neg (by omega)]
  · rw [if_neg e, if_neg e]
theorem mapF_none {D : Q2 → Int} {q : Q2} (h : D q < 0) : mapF D q = none := by rw [mapF, if_pos h]
theorem mapF_some {D : Q2 → Int} {q : Q2} (h : 0 ≤ D q) : mapF D q = some (D q) := by rw [mapF, if_neg (by omega)]
theorem drop_get {α : Type} {l : List α} {j : Nat} {x : α} (h : l[j]? = some x) : l.drop j = x :: l.drop (j + 1) := by
  obtain ⟨h1, rfl⟩ := List.getElem?_eq_some_iff.1 h
  exact List.drop_eq_getElem_cons h1
end Go.Proofs.Ytaigndaabmelhaa

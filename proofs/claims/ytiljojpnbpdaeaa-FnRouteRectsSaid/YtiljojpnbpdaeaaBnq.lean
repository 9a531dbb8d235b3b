/- PLAIN: the unit cells of a route and its straight pieces are the same set, all valid rectangles. No condition. -/
import Derived.Test.YtiljojpnbpdaeaaRrp
namespace Go.Proofs.Ytiljojpnbpdaeaa

theorem chain_of : ∀ (xs : List Q2) (p : Q2), (∀ k u v, (p :: xs)[k]? = some u → (p :: xs)[k + 1]? = some v → adjB u v = true) → chain p xs
  | [], _, _ => trivial
  | x :: xs, p, h => ⟨h 0 p x rfl rfl, chain_of xs x (fun k u v hu hv => h (k + 1) u v (by simpa using hu) (by simpa using hv))⟩
theorem span_v {s e : Q2} (h1 : onC s.a s.b = true) (h2 : onC e.a e.b = true) : vR (span s e) = true := by
  rw [onC_iff] at h1 h2
  rw [vR_iff]
  simp only [span]
  omega
theorem rr_v : ∀ (xs : List Q2) (s e : Q2), onC s.a s.b = true → onC e.a e.b = true → (∀ x ∈ xs, onC x.a x.b = true) → ∀ r ∈ rr s e xs, vR r = true
  | [], s, e, hs, he, _, r, hr => by
    rw [rr, List.mem_singleton] at hr
    subst hr; exact span_v hs he
  | x :: xs, s, e, hs, he, hx, r, hr => by
    have h1 := hx x List.mem_cons_self
    have h2 := fun y hy => hx y (List.mem_cons_of_mem _ hy)
    rw [rr] at hr
    split at hr
    · exact rr_v xs s x hs h1 h2 r hr
    · rcases List.mem_cons.1 hr with hr | hr
      · subst hr; exact span_v hs he
      · exact rr_v xs e x he h1 h2 r hr
theorem isRt_on {ps : List Q2} (h : isRt [] ps = true) : ∀ p ∈ ps, onC p.a p.b = true := fun p hp => by
  obtain ⟨k, hk⟩ := List.mem_iff_getElem?.1 hp
  exact (isRt_at h hk).1
theorem isRt_nodup {ps : List Q2} (h : isRt [] ps = true) : ps.Nodup := by
  rw [List.Nodup, List.pairwise_iff_getElem]
  intro i j hi hj hij he
  have := (isRt_at h (List.getElem?_eq_getElem hj)).2.2.1
  apply this
  rw [← he]
  exact List.mem_iff_getElem?.2 ⟨i, by rw [List.getElem?_take, if_pos hij]; exact List.getElem?_eq_getElem hi⟩
theorem inL_uQ {ps : List Q2} {x y : Int} : inL (ps.map uQ) x y = true ↔ (⟨x, y⟩ : Q2) ∈ ps := by
  rw [inL, List.any_eq_true]
  constructor
  · rintro ⟨r, hr, hi⟩
    obtain ⟨p, hp, rfl⟩ := List.mem_map.1 hr
    rw [inR_iff] at hi
    simp only [uQ] at hi
    obtain ⟨pa, pb⟩ := p
    simp only at hi
    obtain rfl : pa = x := by omega
    obtain rfl : pb = y := by omega
    exact hp
  · intro hp
    exact ⟨uQ ⟨x, y⟩, List.mem_map.2 ⟨_, hp, rfl⟩, by rw [inR_iff]; simp only [uQ]; omega⟩
theorem pieces_same {ps : List Q2} (h : isRt [] ps = true) : gL (ps.map uQ) = gL (pcs ps) := by
  rw [gL, gL]
  congr 1
  funext x y
  rw [Bool.eq_iff_iff, inL_uQ]
  cases ps with
  | nil => have := (isRt_parts h).2.1; simp at this
  | cons p xs =>
    have hc : chain p xs := chain_of xs p (fun k u v hu hv => isRt_adj h hu hv)
    exact (pcs_cells hc (isRt_nodup h) ⟨x, y⟩).symm
theorem pieces_v {ps : List Q2} (h : isRt [] ps = true) (hl : ps.length ≤ 3003) : vRs (ps.map uQ) = true ∧ vRs (pcs ps) = true := by
  have hon := isRt_on h
  constructor
  · rw [vRs, Bool.and_eq_true, decide_eq_true_eq, List.all_eq_true]
    refine ⟨by rw [List.length_map]; omega, fun r hr => ?_⟩
    obtain ⟨p, hp, rfl⟩ := List.mem_map.1 hr
    have := onC_iff.1 (hon p hp)
    rw [vR_iff]
    simp only [uQ]
    omega
  · rw [vRs, Bool.and_eq_true, decide_eq_true_eq, List.all_eq_true]
    have hpl := pcs_len ps
    refine ⟨by omega, fun r hr => ?_⟩
    cases ps with
    | nil => simp [pcs] at hr
    | cons p xs =>
      have h0 := hon p List.mem_cons_self
      exact rr_v xs p p h0 h0 (fun x hx => hon x (List.mem_cons_of_mem _ hx)) r (by simpa [pcs] using hr)
end Go.Proofs.Ytiljojpnbpdaeaa

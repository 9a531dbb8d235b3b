/- PLAIN: the connected parts of a set, in the order of their first unit cells. No condition. -/
import Derived.Test.YtaigndaabmelhaaRch
namespace Go.Proofs.Ytaigndaabmelhaa

/-- The unit cell of an index. -/
def p2 (i : Nat) : Q2 := ⟨xOf i, yOf i⟩
def orG (g h : Grid) : Grid := fun i => g i || h i
def subG (g h : Grid) : Grid := fun i => g i && !h i
theorem gh_or (g h : Grid) (x y : Int) : gh (orG g h) x y = (gh g x y || gh h x y) := by
  rw [gh, gh, gh, orG]; cases onC x y <;> simp
theorem gh_sub (g h : Grid) (x y : Int) : gh (subG g h) x y = (gh g x y && !gh h x y) := by
  rw [gh, gh, gh, subG]; cases onC x y <;> simp
/-- The parts from an index on, but for those that are done. -/
def partsN (g : Grid) : Nat → Nat → Grid → List Grid
  | 0, _, _ => []
  | n + 1, i, d => if (g i && !d i) = true then floodG g false (p2 i) :: partsN g n (i + 1) (orG d (floodG g false (p2 i))) else partsN g n (i + 1) d
def partsG (g : Grid) : List Grid := partsN g 6400 0 gnone
theorem partsN_hit {g d : Grid} {n i : Nat} (h : g i = true) (h2 : d i = false) : partsN g (n + 1) i d = floodG g false (p2 i) :: partsN g n (i + 1) (orG d (floodG g false (p2 i))) := by rw [partsN, if_pos (by rw [h, h2]; rfl)]
theorem partsN_miss {g d : Grid} {n i : Nat} (h : (g i && !d i) = false) : partsN g (n + 1) i d = partsN g n (i + 1) d := by rw [partsN, if_neg (by rw [h]; simp)]
theorem p2_on {i : Nat} (h : i < 6400) : onC (p2 i).a (p2 i).b = true := on_of h
theorem p2_gh {g : Grid} {i : Nat} (h : i < 6400) : gh g (p2 i).a (p2 i).b = g i := gh_of h
theorem nbF_sym {r q : Q2} (h : NbF false r q) : NbF false q r := by
  obtain ⟨h1, h2, h3⟩ := h
  refine ⟨by omega, by omega, ?_⟩
  rcases h3 with h | h | h
  · exact Or.inl h.symm
  · exact Or.inr (Or.inl h.symm)
  · cases h
theorem at_p2 {q : Q2} (h : onC q.a q.b = true) : p2 (atG q.a q.b) = q := by
  cases q; simp only [p2]; rw [xOf_at h, yOf_at h]
theorem setC_iff {g : Grid} {q : Q2} : setC g q ↔ onC q.a q.b = true ∧ g (atG q.a q.b) = true := by
  rw [setC, gh, Bool.and_eq_true]
theorem flo_iff {g : Grid} {p : Q2} (h : onC p.a p.b = true) (q : Q2) (hq : onC q.a q.b = true) : setC (floodG g false p) q ↔ Rch (NbF false) (setC g) p q := by
  rw [setC, floodG, gD, gh_gmk _ hq, decide_eq_true_eq]
  exact flood_rch g false h q
theorem flo_at {g : Grid} {p : Q2} (h : onC p.a p.b = true) {i : Nat} (hi : i < 6400) : floodG g false p i = true ↔ Rch (NbF false) (setC g) p (p2 i) := by
  rw [← flo_iff h _ (p2_on hi), setC, p2_gh hi]
theorem rch_in {nb : Q2 → Q2 → Prop} {g : Grid} {p q : Q2} (hp : setC g p) (h : Rch nb (setC g) p q) : setC g q := by
  cases h with
  | refl => exact hp
  | step _ _ h => exact h
theorem Rch.trans {nb : Q2 → Q2 → Prop} {fr : Q2 → Prop} {p q r : Q2} (h : Rch nb fr p q) (k : Rch nb fr q r) : Rch nb fr p r := by
  induction k with
  | refl => exact h
  | step _ h2 h3 ih => exact Rch.step ih h2 h3
theorem Rch.turn {g : Grid} {p q : Q2} (hp : setC g p) (h : Rch (NbF false) (setC g) p q) : Rch (NbF false) (setC g) q p := by
  induction h with
  | refl => exact Rch.refl
  | step h1 h2 h3 ih => exact (Rch.step Rch.refl (nbF_sym h2) (rch_in hp h1)).trans ih
/-- What holds of the done ones when the unit cells below i had their turn. -/
structure Scan (g : Grid) (i : Nat) (d : Grid) : Prop where
  sub : ∀ q, setC d q → setC g q
  closed : ∀ q r, setC d q → NbF false q r → setC g r → setC d r
  seen : ∀ j, j < i → j < 6400 → g j = true → d j = true
  own : ∀ q, setC d q → ∃ j, j < i ∧ Rch (NbF false) (setC g) (p2 j) q ∧ g j = true ∧ j < 6400
theorem Scan.start (g : Grid) : Scan g 0 gnone := by
  have h : ∀ q, ¬ setC gnone q := fun q h => by rw [setC_iff] at h; exact absurd h.2 (by simp [gnone])
  exact ⟨fun q hq => absurd hq (h q), fun q _ hq => absurd hq (h q), fun j hj => absurd hj (by omega), fun q hq => absurd hq (h q)⟩
theorem Scan.closedR {g d : Grid} {i : Nat} (h : Scan g i d) {q r : Q2} (hq : setC d q) (hr : Rch (NbF false) (setC g) q r) : setC d r := by
  induction hr with
  | refl => exact hq
  | step _ h2 h3 ih => exact h.closed _ _ ih h2 h3
theorem Scan.miss {g d : Grid} {i : Nat} (h : Scan g i d) (hm : (g i && !d i) = false) : Scan g (i + 1) d := by
  refine ⟨h.sub, h.closed, fun j hj h6 hg => ?_, fun q hq => ?_⟩
  · by_cases he : j = i
    · subst he; rw [hg] at hm; simpa using hm
    · exact h.seen j (by omega) h6 hg
  · obtain ⟨j, h1, h2⟩ := h.own q hq; exact ⟨j, by omega, h2⟩
theorem Scan.hit {g d : Grid} {i : Nat} (h : Scan g i d) (h6 : i < 6400) (hg : g i = true) : Scan g (i + 1) (orG d (floodG g false (p2 i))) := by
  have hp := p2_on h6
  have hpg : setC g (p2 i) := by rw [setC, p2_gh h6]; exact hg
  have hor : ∀ q, setC (orG d (floodG g false (p2 i))) q ↔ setC d q ∨ setC (floodG g false (p2 i)) q := fun q => by rw [setC, gh_or, Bool.or_eq_true]; exact Iff.rfl
  have hon : ∀ {c : Grid} {q : Q2}, setC c q → onC q.a q.b = true := fun h => (setC_iff.1 h).1
  refine ⟨fun q hq => ?_, fun q r hq hn hr => ?_, fun j hj hj6 hgj => ?_, fun q hq => ?_⟩
  · rcases (hor q).1 hq with h1 | h1
    · exact h.sub q h1
    · exact rch_in hpg ((flo_iff hp q (hon h1)).1 h1)
  · rw [hor] at hq ⊢
    rcases hq with h1 | h1
    · exact Or.inl (h.closed q r h1 hn hr)
    · exact Or.inr ((flo_iff hp r (hon hr)).2 (Rch.step ((flo_iff hp q (hon h1)).1 h1) hn hr))
  · show (d j || floodG g false (p2 i) j) = true
    rw [Bool.or_eq_true]
    by_cases he : j = i
    · subst he; exact Or.inr ((flo_at hp hj6).2 Rch.refl)
    · exact Or.inl (h.seen j (by omega) hj6 hgj)
  · rcases (hor q).1 hq with h1 | h1
    · obtain ⟨j, h1, h2⟩ := h.own q h1; exact ⟨j, by omega, h2⟩
    · exact ⟨i, by omega, (flo_iff hp q (hon h1)).1 h1, hg, h6⟩
/-- The part of a unit cell that is not done has none that is done. -/
theorem Scan.apart {g d : Grid} {i : Nat} (h : Scan g i d) (h6 : i < 6400) (hg : g i = true) (hd : d i = false) {q : Q2} (hq : Rch (NbF false) (setC g) (p2 i) q) : ¬ setC d q := by
  intro hdq
  have hpg : setC g (p2 i) := by rw [setC, p2_gh h6]; exact hg
  have := h.closedR hdq (hq.turn hpg)
  rw [setC, p2_gh h6, hd] at this
  cases this
/-- The flood among what is left is the flood of the whole set. -/
theorem Scan.left {g d l : Grid} {i : Nat} (h : Scan g i d) (h6 : i < 6400) (hg : g i = true) (hd : d i = false) (hl : ∀ x y, gh l x y = (gh g x y && !gh d x y)) : gcells (floodG l false (p2 i)) = gcells (floodG g false (p2 i)) := by
  have hp := p2_on h6
  refine gcells_ext fun j hj => ?_
  rw [Bool.eq_iff_iff, flo_at hp hj, flo_at hp hj]
  constructor
  · intro hr
    generalize p2 j = q at hr
    induction hr with
    | refl => exact Rch.refl
    | step _ h2 h3 ih =>
      refine Rch.step ih h2 ?_
      rw [setC, hl, Bool.and_eq_true] at h3
      exact h3.1
  · intro hr
    generalize p2 j = q at hr
    induction hr with
    | refl => exact Rch.refl
    | step h1 h2 h3 ih =>
      refine Rch.step ih h2 ?_
      have hn := h.apart h6 hg hd (Rch.step h1 h2 h3)
      rw [setC] at hn h3
      rw [setC, hl, h3]
      simpa using hn
/-- A set's first unit cell. -/
def First (c : Grid) (i : Nat) : Prop := i < 6400 ∧ c i = true ∧ ∀ j, j < 6400 → c j = true → i ≤ j
theorem Scan.first {g d : Grid} {i : Nat} (h : Scan g i d) (h6 : i < 6400) (hg : g i = true) (hd : d i = false) : First (floodG g false (p2 i)) i := by
  have hp := p2_on h6
  have hpg : setC g (p2 i) := by rw [setC, p2_gh h6]; exact hg
  refine ⟨h6, (flo_at hp h6).2 Rch.refl, fun j hj hc => ?_⟩
  rcases Nat.lt_or_ge j i with hlt | hge
  · have hr := (flo_at hp hj).1 hc
    have hgj : g j = true := by have := rch_in hpg hr; rwa [setC, p2_gh hj] at this
    exact absurd (by rw [setC, p2_gh hj]; exact h.seen j hlt hj hgj) (h.apart h6 hg hd hr)
  · exact hge
/-- A part: all that can be reached from one of its unit cells. -/
def Part (g : Grid) (c : Grid) (i : Nat) : Prop := First c i ∧ g i = true ∧ ∀ q, onC q.a q.b = true → (setC c q ↔ Rch (NbF false) (setC g) (p2 i) q)
theorem Scan.part {g d : Grid} {i : Nat} (h : Scan g i d) (h6 : i < 6400) (hg : g i = true) (hd : d i = false) : Part g (floodG g false (p2 i)) i :=
  ⟨h.first h6 hg hd, hg, fun q hq => flo_iff (p2_on h6) q hq⟩
/-- Each of the list is a part, with its index at least i; the indexes increase. -/
theorem partsN_ok {g : Grid} : ∀ (n i : Nat) (d : Grid), n + i = 6400 → Scan g i d → (∀ c ∈ partsN g n i d, ∃ k, i ≤ k ∧ Part g c k ∧ d k = false) ∧ (partsN g n i d).Pairwise (fun c c' => ∃ k k', Part g c k ∧ Part g c' k' ∧ k < k' ∧ ¬ Rch (NbF false) (setC g) (p2 k) (p2 k')) ∧ (∀ j, j < 6400 → g j = true → d j = true ∨ ∃ c ∈ partsN g n i d, c j = true) ∧ (partsN g n i d).length ≤ n
  | 0, i, d, hn, hs => by
    refine ⟨(fun c hc => by cases hc), List.Pairwise.nil, (fun j hj hg => Or.inl (hs.seen j (by omega) hj hg)), Nat.le_refl _⟩
  | n + 1, i, d, hn, hs => by
    have h6 : i < 6400 := by omega
    by_cases hh : (g i && !d i) = true
    · have hh2 := hh
      rw [Bool.and_eq_true, Bool.not_eq_true'] at hh2
      obtain ⟨hg, hd⟩ := hh2
      have hsn := hs.hit h6 hg
      obtain ⟨ih1, ih2, ih3, ih4⟩ := partsN_ok n (i + 1) _ (by omega) hsn
      rw [partsN_hit hg hd]
      refine ⟨fun c hc => ?_, List.Pairwise.cons (fun c hc => ?_) ih2, fun j hj hgj => ?_, by rw [List.length_cons]; omega⟩
      · rw [List.mem_cons] at hc
        rcases hc with rfl | hc
        · exact ⟨i, Nat.le_refl _, hs.part h6 hg hd, hd⟩
        · obtain ⟨k, h1, h2, h3⟩ := ih1 c hc
          simp only [orG, Bool.or_eq_false_iff] at h3
          exact ⟨k, by omega, h2, h3.1⟩
      · obtain ⟨k, h1, h2, h3⟩ := ih1 c hc
        simp only [orG, Bool.or_eq_false_iff] at h3
        refine ⟨i, k, hs.part h6 hg hd, h2, by omega, fun hr => ?_⟩
        have := (flo_at (g := g) (p2_on h6) h2.1.1).2 hr
        rw [this] at h3
        exact absurd h3.2 (by simp)
      · rcases ih3 j hj hgj with h1 | ⟨c, h1, h2⟩
        · simp only [orG, Bool.or_eq_true] at h1
          rcases h1 with h1 | h1
          · exact Or.inl h1
          · exact Or.inr ⟨_, List.mem_cons_self, h1⟩
        · exact Or.inr ⟨c, List.mem_cons_of_mem _ h1, h2⟩
    · rw [Bool.not_eq_true] at hh
      obtain ⟨ih1, ih2, ih3, ih4⟩ := partsN_ok n (i + 1) d (by omega) (hs.miss hh)
      rw [partsN_miss hh]
      refine ⟨fun c hc => ?_, ih2, ih3, by omega⟩
      obtain ⟨k, h1, h2⟩ := ih1 c hc
      exact ⟨k, by omega, h2⟩
theorem partsG_ok (g : Grid) : (∀ c ∈ partsG g, ∃ k, Part g c k) ∧ (partsG g).Pairwise (fun c c' => ∃ k k', Part g c k ∧ Part g c' k' ∧ k < k' ∧ ¬ Rch (NbF false) (setC g) (p2 k) (p2 k')) ∧ (∀ j, j < 6400 → g j = true → ∃ c ∈ partsG g, c j = true) ∧ (partsG g).length ≤ 6400 := by
  obtain ⟨h1, h2, h3, h4⟩ := partsN_ok (g := g) 6400 0 gnone rfl (Scan.start g)
  refine ⟨fun c hc => ?_, h2, fun j hj hg => ?_, h4⟩
  · obtain ⟨k, _, h, _⟩ := h1 c hc; exact ⟨k, h⟩
  · rcases h3 j hj hg with h | h
    · simp [gnone] at h
    · exact h
/-- First by row, then by column. -/
def rcLe (r s : Q4) : Prop := r.b < s.b ∨ (r.b = s.b ∧ r.a ≤ s.a)
theorem pairs_head : ∀ (l : List Int) (lo : Int), Inc lo l → ∀ p ps, pairs l = p :: ps → ∀ s ∈ pairs l, p.1 ≤ s.1
  | [], lo, _, p, ps, h, _, _ => by simp [pairs] at h
  | [a], lo, _, p, ps, h, _, _ => by simp [pairs] at h
  | a :: b :: l, lo, hi, p, ps, h, s, hs => by
    rw [pairs] at h hs
    obtain ⟨rfl, rfl⟩ := List.cons.inj h
    obtain ⟨h1, h2, h3, h4, h5⟩ := hi
    rw [List.mem_cons] at hs
    rcases hs with rfl | hs
    · exact Int.le_refl _
    · obtain ⟨_, _, _, k⟩ := pairs_inc l (b + 1) h5 (by omega)
      have := k s hs
      show a ≤ s.1
      omega
theorem canonY_head (g : Grid) : ∀ (n : Nat) (y : Int), (40 - y).toNat ≤ n → y ≤ 40 → (∀ r ∈ canonY g y, y ≤ r.b) ∧ ∀ r rs, canonY g y = r :: rs → ∀ s ∈ canonY g y, rcLe r s := by
  intro n
  induction n with
  | zero => intro y hn h40; rw [canonY_stop (by omega)]; exact ⟨(fun r hr => by cases hr), (fun r rs h => by cases h)⟩
  | succ n ih =>
    intro y hn h40
    by_cases h : y < 40
    · have g1 := rowEnd_ge g y (y + 1)
      have g2 := rowEnd_le g y (y + 1) (by omega)
      obtain ⟨i1, i2⟩ := ih (rowEnd g y (y + 1)) (by omega) g2
      have hb : ∀ r ∈ band g y, r.b = y := fun r hr => by
        rw [band, List.mem_map] at hr; obtain ⟨p, _, rfl⟩ := hr; rfl
      rw [canonY_step h]
      refine ⟨fun r hr => ?_, fun r rs hrs s hs => ?_⟩
      · rw [List.mem_append] at hr
        rcases hr with hr | hr
        · rw [hb r hr]; exact Int.le_refl _
        · have := i1 r hr; omega
      · cases hpp : pairs (runs g y) with
        | nil =>
          have hbn : band g y = [] := by rw [band, hpp]; rfl
          rw [hbn, List.nil_append] at hrs hs
          exact i2 r rs hrs s hs
        | cons p ps =>
          have hbn : band g y = ⟨p.1, y, p.2, rowEnd g y (y + 1)⟩ :: ps.map fun p => ⟨p.1, y, p.2, rowEnd g y (y + 1)⟩ := by rw [band, hpp]; rfl
          have hr : r = ⟨p.1, y, p.2, rowEnd g y (y + 1)⟩ := by
            rw [hbn, List.cons_append] at hrs
            exact (List.cons.inj hrs).1.symm
          subst hr
          rw [List.mem_append] at hs
          rcases hs with hs | hs
          · right
            refine ⟨(hb s hs).symm, ?_⟩
            rw [band, List.mem_map] at hs
            obtain ⟨t, ht, rfl⟩ := hs
            exact pairs_head _ _ (runs_inc g y) p ps hpp t ht
          · left
            have := i1 s hs
            show y < s.b
            omega
    · rw [canonY_stop (by omega)]; exact ⟨(fun r hr => by cases hr), (fun r rs h => by cases h)⟩
theorem vRs_parts2 {l : List Q4} (h : vRs l = true) : ∀ r ∈ l, vR r = true := by rw [vRs, Bool.and_eq_true, List.all_eq_true] at h; exact h.2
/-- The region of a set begins at the set's first unit cell. -/
theorem canon_first {c : Grid} {i : Nat} (h : First c i) : ∃ r rs, canon c = r :: rs ∧ r.a = xOf i ∧ r.b = yOf i := by
  obtain ⟨h6, hc, hmin⟩ := h
  have hin : inL (canon c) (xOf i) (yOf i) = true := by rw [canon_in, gh_of h6]; exact hc
  rw [inL, List.any_eq_true] at hin
  obtain ⟨s, hs, hsi⟩ := hin
  cases hcn : canon c with
  | nil => rw [hcn] at hs; cases hs
  | cons r rs =>
    refine ⟨r, rs, rfl, ?_⟩
    have hle := (canonY_head c _ (-40) (Nat.le_refl _) (by omega)).2 r rs hcn s hs
    have hv := vR_iff.1 ((vRs_parts2 (canon_valid c)) r (by rw [hcn]; exact List.mem_cons_self))
    have hr : gh c r.a r.b = true := by
      rw [← canon_in, inL, List.any_eq_true]
      exact ⟨r, by rw [hcn]; exact List.mem_cons_self, by rw [inR_iff]; omega⟩
    have hon : onC r.a r.b = true := by
      cases ho : onC r.a r.b with
      | true => rfl
      | false => rw [gh_off ho] at hr; cases hr
    rw [gh_on hon] at hr
    have hm := hmin _ (atG_lt hon) hr
    rw [inR_iff] at hsi
    rw [onC_iff] at hon
    unfold rcLe at hle
    unfold atG at hm
    unfold xOf yOf at hsi ⊢
    omega
end Go.Proofs.Ytaigndaabmelhaa
/- PLAIN: the scan for the connected parts of a set, as the program does it; the order of the parts. No condition. -/
namespace Go.Proofs.Ytaigndaabmelhaa

/-- A set less those of another one with an index below m. -/
def subN (l c : Grid) (m : Nat) : Grid := fun j => l j && !(decide (j < m) && c j)
theorem subN_zero (l c : Grid) : gcells l = gcells (subN l c 0) := gcells_ext fun i _ => by simp [subN]
theorem subN_all (l c : Grid) : gcells (subN l c 6400) = gcells (subG l c) := gcells_ext fun i hi => by simp [subN, subG, hi]
theorem subN_set (l c : Grid) (m : Nat) : (gcells (subN l c m)).set m (.bool (l m && !c m)) = gcells (subN l c (m + 1)) := by
  rw [gcells_set]
  refine gcells_ext fun i _ => ?_
  rw [gset, subN, subN]
  by_cases e : i = m
  · subst e; simp
  · rw [if_neg e]
    have : decide (i < m) = decide (i < m + 1) := by rw [Bool.eq_iff_iff]; simp; omega
    rw [this]
theorem subN_miss {l c : Grid} {m : Nat} (h : l m = false) : gcells (subN l c m) = gcells (subN l c (m + 1)) := gcells_ext fun i _ => by
  rw [subN, subN]
  by_cases e : i = m
  · subst e; rw [h]; rfl
  · have : decide (i < m) = decide (i < m + 1) := by rw [Bool.eq_iff_iff]; simp; omega
    rw [this]
theorem subN_at (l c : Grid) (m : Nat) : subN l c m m = l m := by simp [subN]
/-- What holds of the scan when the unit cells below i had their turn: l is left, d is done, G are the parts. -/
structure PtI (g : Grid) (i : Nat) (l d : Grid) (G : List Grid) : Prop where
  scan : Scan g i d
  split : partsG g = G ++ partsN g (6400 - i) i d
  left : ∀ x y, gh l x y = (gh g x y && !gh d x y)
theorem PtI.start (g : Grid) : PtI g 0 g gnone [] := ⟨Scan.start g, rfl, fun x y => by simp [gh, gnone]⟩
theorem PtI.val {g l d : Grid} {i : Nat} {G : List Grid} (h : PtI g i l d G) (h6 : i < 6400) : l i = (g i && !d i) := by
  have := h.left (xOf i) (yOf i)
  rwa [gh_of h6, gh_of h6, gh_of h6] at this
theorem PtI.miss {g l d : Grid} {i : Nat} {G : List Grid} (h : PtI g i l d G) (h6 : i < 6400) (hl : l i = false) : PtI g (i + 1) l d G := by
  have hv := h.val h6
  rw [hl] at hv
  refine ⟨h.scan.miss hv.symm, ?_, h.left⟩
  rw [h.split, show 6400 - i = (6400 - (i + 1)) + 1 by omega, partsN_miss hv.symm]
theorem PtI.hit {g l d : Grid} {i : Nat} {G : List Grid} (h : PtI g i l d G) (h6 : i < 6400) (hl : l i = true) :
    gcells (floodG l false (p2 i)) = gcells (floodG g false (p2 i)) ∧ PtI g (i + 1) (subG l (floodG g false (p2 i))) (orG d (floodG g false (p2 i))) (G ++ [floodG g false (p2 i)]) := by
  have hv := h.val h6
  rw [hl] at hv
  have h2 := hv.symm
  rw [Bool.and_eq_true, Bool.not_eq_true'] at h2
  refine ⟨h.scan.left h6 h2.1 h2.2 h.left, h.scan.hit h6 h2.1, ?_, fun x y => ?_⟩
  · rw [h.split, show 6400 - i = (6400 - (i + 1)) + 1 by omega, partsN_hit h2.1 h2.2, List.append_assoc, List.singleton_append]
  · rw [gh_sub, gh_or, h.left, Bool.not_or, Bool.and_assoc]
theorem PtI.done {g l d : Grid} {G : List Grid} (h : PtI g 6400 l d G) : partsG g = G := by
  rw [h.split]; exact List.append_nil _
theorem PtI.len {g l d : Grid} {i : Nat} {G : List Grid} (h : PtI g i l d G) : G.length ≤ 6400 := by
  have := (partsG_ok g).2.2.2
  rw [h.split, List.length_append] at this
  omega
theorem PtI.room {g l d : Grid} {i : Nat} {G : List Grid} (h : PtI g i l d G) (h6 : i < 6400) (hl : l i = true) : G.length + 1 ≤ 6400 := by
  have := (h.hit h6 hl).2.len
  rwa [List.length_append] at this
def rcLt (r s : Q4) : Prop := r.b < s.b ∨ (r.b = s.b ∧ r.a < s.a)
/-- The parts stand in the order of their first rectangles. -/
theorem parts_order (g : Grid) : ∃ f : Nat → Q4, (∀ k l, ((partsG g).map canon)[k]? = some l → ∃ rs, l = f k :: rs) ∧ (∀ j k, j < k → k < (partsG g).length → rcLt (f j) (f k)) := by
  obtain ⟨h1, h2, _, _⟩ := partsG_ok g
  refine ⟨fun k => (((partsG g).map canon).getD k []).headD ⟨0, 0, 0, 0⟩, fun k l hl => ?_, fun j k hjk hk => ?_⟩
  · have hl2 := hl
    rw [List.getElem?_map, Option.map_eq_some_iff] at hl2
    obtain ⟨c, hc, rfl⟩ := hl2
    obtain ⟨i, hi⟩ := h1 c (List.mem_of_getElem? hc)
    obtain ⟨r, rs, hr, _⟩ := canon_first hi.1
    refine ⟨rs, ?_⟩
    show canon c = (((partsG g).map canon).getD k []).headD ⟨0, 0, 0, 0⟩ :: rs
    rw [List.getD_eq_getElem?_getD, hl, hr]; rfl
  · rw [List.pairwise_iff_getElem] at h2
    obtain ⟨i, i', hi, hi', hlt, _⟩ := h2 j k (by omega) hk hjk
    obtain ⟨r, rs, hr, ha, hb⟩ := canon_first hi.1
    obtain ⟨s, ss, hs, ha', hb'⟩ := canon_first hi'.1
    have e : ∀ {k : Nat} (hk : k < (partsG g).length) {r rs}, canon (partsG g)[k] = r :: rs → (((partsG g).map canon).getD k []).headD ⟨0, 0, 0, 0⟩ = r := fun hk r rs hr => by
      rw [List.getD_eq_getElem?_getD, List.getElem?_map, List.getElem?_eq_getElem hk, Option.map_some, hr]; rfl
    show rcLt ((((partsG g).map canon).getD j []).headD ⟨0, 0, 0, 0⟩) ((((partsG g).map canon).getD k []).headD ⟨0, 0, 0, 0⟩)
    rw [e (by omega) hr, e hk hs, rcLt, ha, hb, ha', hb']
    unfold xOf yOf
    omega
end Go.Proofs.Ytaigndaabmelhaa
/- PLAIN: scattering the cells of a set: what the reference's l33Grow computes. No condition. -/
namespace Go.Proofs.Ytaigndaabmelhaa

/-- Those that the sources below m reach, and those that m reaches with a coordinate below t. -/
def scat (g : Grid) (rel : Nat → Nat → Bool) (cut : Nat → Int) (m : Nat) (t : Int) : Grid := fun i => (List.range m).any (fun j => g j && rel j i) || (g m && rel m i && decide (cut i < t))
def scatA (g : Grid) (rel : Nat → Nat → Bool) : Grid := fun i => (List.range 6400).any fun j => g j && rel j i
section
variable {g : Grid} {rel : Nat → Nat → Bool} {cut : Nat → Int} {m : Nat} {t : Int}
theorem scat_zero (ht : ∀ i, i < 6400 → t ≤ cut i) : gcells gnone = gcells (scat g rel cut 0 t) := gcells_ext fun i hi => by
  have := ht i hi
  simp [gnone, scat]; intro _ _; omega
theorem scat_done (h : ∀ i, i < 6400 → g m = true → rel m i = true → cut i < t) (t' : Int) (ht : ∀ i, i < 6400 → t' ≤ cut i) : gcells (scat g rel cut m t) = gcells (scat g rel cut (m + 1) t') := gcells_ext fun i hi => by
  rw [scat, scat, List.range_succ, List.any_append]
  have h1 : decide (cut i < t') = false := by have := ht i hi; simp; omega
  have h2 : (g m && rel m i && decide (cut i < t)) = (g m && rel m i) := by
    cases hg : g m <;> cases hr : rel m i
    · rfl
    · rfl
    · rfl
    · have := h i hi hg hr; simp [this]
  rw [h1, h2]
  simp
theorem scat_skip (h : ∀ i, i < 6400 → ¬ (g m = true ∧ rel m i = true ∧ cut i = t)) : gcells (scat g rel cut m t) = gcells (scat g rel cut m (t + 1)) := gcells_ext fun i hi => by
  rw [scat, scat]
  congr 1
  cases hg : g m <;> cases hr : rel m i
  · rfl
  · rfl
  · rfl
  · have := h i hi
    have h2 : decide (cut i < t) = decide (cut i < t + 1) := by
      rw [decide_eq_decide]
      have : cut i ≠ t := fun e => this ⟨hg, hr, e⟩
      omega
    rw [h2]
theorem scat_set {i0 : Nat} (hg : g m = true) (hr : rel m i0 = true) (hc : cut i0 = t) (hu : ∀ i, i < 6400 → rel m i = true → cut i = t → i = i0) : (gcells (scat g rel cut m t)).set i0 (.bool true) = gcells (scat g rel cut m (t + 1)) := by
  rw [gcells_set]
  refine gcells_ext fun i hi => ?_
  rw [gset, scat, scat]
  by_cases e : i = i0
  · subst e
    rw [if_pos rfl, hg, hr, hc]
    simp; right; omega
  · rw [if_neg e]
    congr 1
    cases hri : rel m i
    · simp
    · have h2 : decide (cut i < t) = decide (cut i < t + 1) := by
        rw [decide_eq_decide]
        have : cut i ≠ t := fun e' => e (hu i hi hri e')
        omega
      rw [h2]
theorem scat_all (ht : ∀ i, i < 6400 → t ≤ cut i) : gcells (scat g rel cut 6400 t) = gcells (scatA g rel) := gcells_ext fun i hi => by
  have h1 : decide (cut i < t) = false := by have := ht i hi; simp; omega
  rw [scat, scatA, h1]; simp
end
/-- In one row, at most k columns away; in one column, at most k rows away. -/
def relH (k : Int) (j i : Nat) : Bool := decide (yOf j = yOf i) && decide (xOf i - xOf j ≤ k) && decide (xOf j - xOf i ≤ k)
def relV (k : Int) (j i : Nat) : Bool := decide (xOf j = xOf i) && decide (yOf i - yOf j ≤ k) && decide (yOf j - yOf i ≤ k)
theorem relH_iff {k : Int} {j i : Nat} : relH k j i = true ↔ yOf j = yOf i ∧ xOf i - xOf j ≤ k ∧ xOf j - xOf i ≤ k := by simp [relH, and_assoc]
theorem relV_iff {k : Int} {j i : Nat} : relV k j i = true ↔ xOf j = xOf i ∧ yOf i - yOf j ≤ k ∧ yOf j - yOf i ≤ k := by simp [relV, and_assoc]
/-- The unit cells at most k away. -/
def growC (g : Grid) (k : Int) : Grid := scatA (scatA g (relH k)) (relV k)
theorem growC_iff (g : Grid) (k : Int) {u v : Int} : gh (growC g k) u v = true ↔ onC u v = true ∧ ∃ x y, gh g x y = true ∧ (x - u ≤ k ∧ u - x ≤ k) ∧ (y - v ≤ k ∧ v - y ≤ k) := by
  cases hc : onC u v with
  | false => rw [gh_off hc]; simp
  | true =>
    have hb := onC_iff.1 hc
    have e1 := xOf_at hc
    have e2 := yOf_at hc
    rw [gh_on hc, growC, scatA, List.any_eq_true]
    simp only [true_and, Bool.and_eq_true, relV_iff, scatA, List.any_eq_true, relH_iff, List.mem_range, e1, e2]
    constructor
    · rintro ⟨j, hj, ⟨i, hi, hg, h1, h2, h3⟩, h4, h5, h6⟩
      refine ⟨xOf i, yOf i, by rw [gh_of hi]; exact hg, ?_, ?_⟩ <;> omega
    · rintro ⟨x, y, hg, h1, h2⟩
      have hon : onC x y = true := by
        cases ho : onC x y with
        | true => rfl
        | false => rw [gh_off ho] at hg; cases hg
      have hb2 := onC_iff.1 hon
      have hon2 : onC u y = true := by rw [onC_iff]; omega
      have a1 := xOf_at hon
      have a2 := yOf_at hon
      have a3 := xOf_at hon2
      have a4 := yOf_at hon2
      rw [gh_on hon] at hg
      refine ⟨atG u y, atG_lt hon2, ⟨atG x y, atG_lt hon, hg, ?_, ?_, ?_⟩, ?_, ?_, ?_⟩ <;> omega
end Go.Proofs.Ytaigndaabmelhaa

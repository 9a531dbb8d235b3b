/- PLAIN: a channel's routing is legal, needs at least as many tracks as the density, and no more if no net is above another. No condition. -/
import Derived.Test.YtiljojpnbpdaeaaRcq
import Derived.Test.YtiljojpnbpdaeaaDen
namespace Go.Proofs.Ytiljojpnbpdaeaa
open Go.RowKit

theorem zer_pos {T : List Int} (h : 0 < zer T) : ∃ i, i < T.length ∧ Tn T i = 0 := by
  obtain ⟨x, hx, h0⟩ := List.countP_pos_iff.1 h
  obtain ⟨i, hi⟩ := List.mem_iff_getElem?.1 hx
  exact ⟨i, (List.getElem?_eq_some_iff.1 hi).1, by rw [Tn_of hi]; exact of_decide_eq_true h0⟩
theorem zer_none {T : List Int} (h : zer T = 0) {i : Nat} (hi : i < T.length) : Tn T i ≠ 0 := by
  intro h0
  have : 0 < zer T := List.countP_pos_iff.2 ⟨T[i], List.getElem_mem _, decide_eq_true (by rw [Tn_of (List.getElem?_eq_getElem hi)] at h0; exact h0)⟩
  omega
theorem zer_rep (n : Nat) : zer (List.replicate n 0) = n := by simp [zer, List.countP_replicate]
theorem Tn_rep (n i : Nat) : Tn (List.replicate n 0) i = 0 := by
  rw [Tn, List.getD_eq_getElem?_getD, List.getElem?_replicate]; split <;> rfl
/-- The tracks so far are legal; all are below tr, or tr itself up to the column r. -/
structure Leg (t b : List Int) (S : List Q3) (tr : Int) (s : FS) : Prop where
  len : s.T.length = S.length
  bd : ∀ i, i < S.length → 0 ≤ Tn s.T i ∧ Tn s.T i ≤ tr
  cur : ∀ i, i < S.length → Tn s.T i = tr → (Sb S i).c ≤ s.r
  apart : ∀ i k, i < S.length → k < S.length → i ≠ k → Tn s.T i ≠ 0 → Tn s.T i = Tn s.T k → ¬ ((Sb S i).b ≤ (Sb S k).c ∧ (Sb S k).b ≤ (Sb S i).c)
  abv : ∀ i k, i < S.length → k < S.length → aboveB t b (Sb S i).a (Sb S k).a = true → Tn s.T k ≠ 0 → Tn s.T i ≠ 0 ∧ Tn s.T i < Tn s.T k
theorem Leg.step {t b : List Int} {S : List Q3} {tr : Int} {s : FS} (h : Leg t b S tr s) (h1 : 1 ≤ tr) {k : Nat} (hk : k < S.length) (hv : (Sb S k).b ≤ (Sb S k).c) : Leg t b S tr (fstep t b S tr s k) := by
  rw [fstep]
  split
  · rename_i hc
    simp only [canB, Bool.and_eq_true, decide_eq_true_eq] at hc
    obtain ⟨c1, c2, c3⟩ := hc
    have hkT : k < s.T.length := by rw [h.len]; exact hk
    rw [freeB, List.all_eq_true] at c3
    simp only [freeP] at c3
    refine ⟨by simpa using h.len, fun i hi => ?_, fun i hi he => ?_, fun i j hi hj hij h0 he => ?_, fun i j hi hj hA h0 => ?_⟩
    · show 0 ≤ Tn (s.T.set k tr) i ∧ _
      rw [Tn_set hkT]
      split
      · omega
      · exact h.bd i hi
    · show (Sb S i).c ≤ (Sb S k).c
      have he' : Tn (s.T.set k tr) i = tr := he
      rw [Tn_set hkT] at he'
      split at he'
      · subst_vars; omega
      · have := h.cur i hi he'; omega
    · have he' : Tn (s.T.set k tr) i = Tn (s.T.set k tr) j := he
      have h0' : Tn (s.T.set k tr) i ≠ 0 := h0
      rw [Tn_set hkT] at he' h0'
      rw [Tn_set hkT] at he'
      by_cases hik : i = k
      · have hjk : ¬ j = k := fun e => hij (by omega)
        rw [if_pos hik, if_neg hjk] at he'
        have := h.cur j hj he'.symm
        subst hik
        omega
      · rw [if_neg hik] at he' h0'
        by_cases hjk : j = k
        · rw [if_pos hjk] at he'
          have := h.cur i hi he'
          subst hjk
          omega
        · rw [if_neg hjk] at he'
          exact h.apart i j hi hj hij h0' he'
    · have h0' : Tn (s.T.set k tr) j ≠ 0 := h0
      show Tn (s.T.set k tr) i ≠ 0 ∧ Tn (s.T.set k tr) i < Tn (s.T.set k tr) j
      rw [Tn_set hkT] at h0'
      rw [Tn_set hkT, Tn_set hkT]
      by_cases hjk : j = k
      · subst hjk
        have hf := c3 i (List.mem_range.2 hi)
        rw [hA] at hf
        simp at hf
        have hik : ¬ i = j := fun e => by subst e; exact hf.1 c1
        rw [if_neg hik, if_pos rfl]
        exact ⟨hf.1, by omega⟩
      · rw [if_neg hjk] at h0'
        have := h.abv i j hi hj hA h0'
        have hik : ¬ i = k := fun e => by subst e; exact this.1 c1
        rw [if_neg hik, if_neg hjk]
        exact this
  · exact h
theorem Leg.fold {t b : List Int} {S : List Q3} {tr : Int} (h1 : 1 ≤ tr) (hv : ∀ k, k < S.length → (Sb S k).b ≤ (Sb S k).c) : ∀ (l : List Nat) (s : FS), (∀ k ∈ l, k < S.length) → Leg t b S tr s → Leg t b S tr (l.foldl (fstep t b S tr) s)
  | [], _, _, h => h
  | k :: l, _, hl, h => Leg.fold h1 hv l _ (fun j hj => hl j (List.mem_cons_of_mem _ hj)) (h.step h1 (hl k List.mem_cons_self) (hv k (hl k List.mem_cons_self)))
theorem Leg.next {t b : List Int} {S : List Q3} {tr : Int} {s : FS} (h : Leg t b S tr s) : Leg t b S (tr + 1) ⟨s.T, -1, 0⟩ :=
  ⟨h.len, fun i hi => by have := h.bd i hi; exact ⟨this.1, by show Tn s.T i ≤ tr + 1; omega⟩, fun i hi he => by have := (h.bd i hi).2; have he' : Tn s.T i = tr + 1 := he; omega, h.apart, h.abv⟩
/-- What a whole run answers is legal, and uses at most as many tracks as there are nets. -/
theorem chanRun_leg {t b : List Int} {S : List Q3} {n : Nat} (hv : ∀ k, k < S.length → (Sb S k).b ≤ (Sb S k).c) : ∀ {f : Nat} {tr : Int} {T R : List Int} {left : Int}, 1 ≤ tr → Leg t b S tr ⟨T, -1, 0⟩ → (∀ i, i < S.length → Tn T i < tr) → left = zer T → tr + left ≤ S.length + 1 → chanRun t b S n f tr T left = some R →
    ∃ tr' : Int, 1 ≤ tr' ∧ tr' ≤ S.length + 1 ∧ Leg t b S tr' ⟨R, -1, 0⟩ ∧ (∀ i, i < S.length → Tn R i < tr') ∧ zer R = 0
  | f, tr, T, R, left, h1, hL, hb, hz, ht, h => by
    by_cases h0 : left ≤ 0
    · rw [chanRun_end h0] at h
      cases h
      exact ⟨tr, h1, by omega, hL, hb, by omega⟩
    · cases f with
      | zero => rw [chanRun, if_neg h0] at h; cases h
      | succ f =>
        rw [chanRun, if_neg h0] at h
        split at h
        · cases h
        · rename_i hc
          have hF : Leg t b S tr (fillS t b S n tr T) := Leg.fold h1 hv _ _ (fun k hk => (bk_mem hk).2) hL
          have hZ := zer_fold (t := t) (b := b) (S := S) h1 (bk S S.length n) ⟨T, -1, 0⟩ (fun k hk => by rw [hL.len]; exact (bk_mem hk).2)
          have hC := (ffold_bd t b S tr (bk S S.length n) ⟨T, -1, 0⟩).2.1
          rw [← fillS] at hZ hC
          simp only at hZ hC
          exact chanRun_leg hv (by omega) hF.next (fun i hi => by have := (hF.bd i hi).2; omega) (by omega) (by omega) h
theorem Leg.start (t b : List Int) (S : List Q3) : Leg t b S 1 ⟨List.replicate S.length 0, -1, 0⟩ :=
  ⟨by simp, fun i hi => by show 0 ≤ Tn _ i ∧ Tn _ i ≤ 1; rw [Tn_rep]; omega, fun i hi he => by have he' : Tn (List.replicate S.length 0) i = 1 := he; rw [Tn_rep] at he'; omega, fun i k hi hk hik h0 => absurd (Tn_rep _ _) h0, fun i k hi hk hA h0 => absurd (Tn_rep _ _) h0⟩
theorem span_ok {t b : List Int} : ∀ k, k < (spansL t b).length → (Sb (spansL t b) k).b ≤ (Sb (spansL t b) k).c := by
  intro k hk
  have hs : (spansL t b)[k]? = some (Sb (spansL t b) k) := by rw [Sb, List.getD_eq_getElem?_getD, List.getElem?_eq_getElem hk]; rfl
  have := net_at (show (spansK t b t.length 12)[k]? = _ from hs)
  omega
theorem rcR_leg {t b R : List Int} (h : rcR t b = some R) : ∃ tr : Int, 1 ≤ tr ∧ tr ≤ (spansL t b).length + 1 ∧ Leg t b (spansL t b) tr ⟨R, -1, 0⟩ ∧ (∀ i, i < (spansL t b).length → Tn R i < tr) ∧ zer R = 0 :=
  chanRun_leg span_ok (by omega) (Leg.start t b _) (fun i hi => by rw [Tn_rep]; omega) (by rw [zer_rep]) (by omega) h
theorem rcR_len {t b R : List Int} (h : rcR t b = some R) : R.length = (spansL t b).length := by rw [chanRun_len h]; simp
theorem rcR_legal {t b R : List Int} (hok : chOk t b = true) (h : rcR t b = some R) : isCRs t b R := by
  obtain ⟨tr, h1, h2, hL, hb, hz⟩ := rcR_leg h
  have h12 : (spansL t b).length ≤ 12 := spansK_len _ _ _ _
  refine ⟨hok, rcR_len h, fun i hi s x hs hx => ?_⟩
  have hxe : Tn R i = x := Tn_of hx
  have hse := Sb_of hs
  have hRl := rcR_len h
  have h0 : Tn R i ≠ 0 := zer_none hz (by omega)
  have h3 := hL.bd i hi
  have h4 := hb i hi
  refine ⟨by simp only at h3; omega, fun k hk u y hu hy => ⟨?_, ?_⟩⟩
  · rintro ⟨hik, rfl, o1, o2⟩
    have hue := Sb_of hu
    have hye : Tn R k = x := Tn_of hy
    exact hL.apart i k hi hk hik h0 (by simp only; omega) ⟨by rw [hse, hue]; exact o1, by rw [hse, hue]; exact o2⟩
  · rintro ⟨hA, hyx⟩
    have hue := Sb_of hu
    have hye : Tn R k = y := Tn_of hy
    have := (hL.abv i k hi hk (by rw [hse, hue]; exact hA) (zer_none hz (by omega))).2
    simp only at this
    omega
/-- The nets without a track that contain a column. -/
def cnt0 (S : List Q3) (T : List Int) (l : Int) : Nat := (List.range S.length).countP fun i => decide (Tn T i = 0) && wit l (Sb S i).b (Sb S i).c
theorem cnt_le {P Q : Nat → Bool} : ∀ {n : Nat}, (∀ i, i < n → P i = true → Q i = true) → (List.range n).countP P ≤ (List.range n).countP Q
  | 0, _ => Nat.le_refl _
  | n + 1, h => by
    have ih := cnt_le (P := P) (Q := Q) (n := n) (fun i hi => h i (by omega))
    have := h n (by omega)
    rw [List.range_succ, List.countP_append, List.countP_append, List.countP_singleton, List.countP_singleton]
    cases hP : P n
    · simp; omega
    · rw [this hP]; simp; omega
theorem cnt_lt {P Q : Nat → Bool} {p : Nat} : ∀ {n : Nat}, (∀ i, i < n → P i = true → Q i = true) → p < n → Q p = true → P p = false → (List.range n).countP P + 1 ≤ (List.range n).countP Q
  | 0, _, hp, _, _ => absurd hp (Nat.not_lt_zero _)
  | n + 1, h, hp, hQ, hP => by
    rw [List.range_succ, List.countP_append, List.countP_append, List.countP_singleton, List.countP_singleton]
    by_cases he : p = n
    · subst he
      have := cnt_le (P := P) (Q := Q) (n := p) (fun i hi => h i (by omega))
      rw [hQ, hP]
      simp; omega
    · have ih := cnt_lt (P := P) (Q := Q) (p := p) (n := n) (fun i hi => h i (by omega)) (by omega) hQ hP
      have := h n (by omega)
      cases hP : P n
      · simp; omega
      · rw [this hP]; simp; omega
theorem cnt_ex {P : Nat → Bool} : ∀ {n : Nat}, 0 < (List.range n).countP P → ∃ i, i < n ∧ P i = true := by
  intro n h
  obtain ⟨i, hi, hP⟩ := List.countP_pos_iff.1 h
  exact ⟨i, List.mem_range.1 hi, hP⟩
/-- A member with the greatest value. -/
theorem most_of {P : Nat → Bool} (f : Nat → Int) : ∀ {n : Nat}, (∃ i, i < n ∧ P i = true) → ∃ s, s < n ∧ P s = true ∧ ∀ i, i < n → P i = true → f i ≤ f s
  | 0, h => by obtain ⟨i, hi, _⟩ := h; omega
  | n + 1, h => by
    by_cases hn : ∃ i, i < n ∧ P i = true
    · obtain ⟨s, h1, h2, h3⟩ := most_of f hn
      by_cases hP : P n = true ∧ f s < f n
      · refine ⟨n, by omega, hP.1, fun i hi hPi => ?_⟩
        by_cases he : i = n
        · subst he; exact Int.le_refl _
        · have := h3 i (by omega) hPi; omega
      · refine ⟨s, by omega, h2, fun i hi hPi => ?_⟩
        by_cases he : i = n
        · subst he
          have : ¬ f s < f i := fun hh => hP ⟨hPi, hh⟩
          omega
        · exact h3 i (by omega) hPi
    · obtain ⟨i, hi, hPi⟩ := h
      have he : i = n := by
        by_cases he : i = n
        · exact he
        · exact absurd ⟨i, by omega, hPi⟩ hn
      subst he
      refine ⟨i, hi, hPi, fun j hj hPj => ?_⟩
      by_cases he : j = i
      · subst he; exact Int.le_refl _
      · exact absurd ⟨j, by omega, hPj⟩ hn
theorem bk_sorted (S : List Q3) (m : Nat) : ∀ c, (bk S m c).Pairwise fun i k => (Sb S i).b ≤ (Sb S k).b
  | 0 => List.Pairwise.nil
  | c + 1 => by
    rw [bk, List.pairwise_append]
    refine ⟨bk_sorted S m c, ?_, fun i hi k hk => ?_⟩
    · refine List.Pairwise.imp_of_mem (R := fun _ _ => True) ?_ (List.pairwise_of_forall (fun _ _ => trivial))
      intro i k hi hk _
      have h1 := of_decide_eq_true (List.mem_filter.1 hi).2
      have h2 := of_decide_eq_true (List.mem_filter.1 hk).2
      omega
    · have h1 := (bk_mem hi).1
      have h2 := of_decide_eq_true (List.mem_filter.1 hk).2
      omega
/-- While a track is filled with nothing above anything: who was passed over begins within a net that was placed. -/
structure Grd (S : List Q3) (T : List Int) (s : FS) (done : List Nat) : Prop where
  keep : ∀ i, Tn s.T i = 0 → Tn T i = 0
  len : s.T.length = S.length
  rt : s.r = -1 ∨ ∃ p ∈ done, p < S.length ∧ Tn T p = 0 ∧ Tn s.T p ≠ 0 ∧ s.r = (Sb S p).c
  pas : ∀ k ∈ done, Tn s.T k = 0 → ∃ p, p < S.length ∧ Tn T p = 0 ∧ Tn s.T p ≠ 0 ∧ (Sb S p).b ≤ (Sb S k).b ∧ (Sb S k).b ≤ (Sb S p).c
theorem Grd.step {t b : List Int} {S : List Q3} {tr : Int} {T : List Int} {s : FS} {done : List Nat} (h : Grd S T s done) (h1 : 1 ≤ tr) (hfree : ∀ T k, k < S.length → freeB t b S T k tr = true) {k : Nat} (hk : k < S.length) (h0 : 0 ≤ (Sb S k).b)
    (hs : ∀ p ∈ done, (Sb S p).b ≤ (Sb S k).b) : Grd S T (fstep t b S tr s k) (done ++ [k]) := by
  have hkT : k < s.T.length := by rw [h.len]; exact hk
  rw [fstep]
  split
  · rename_i hc
    simp only [canB, Bool.and_eq_true, decide_eq_true_eq] at hc
    have hon : ∀ p, Tn s.T p ≠ 0 → Tn (s.T.set k tr) p ≠ 0 := fun p hp => by
      rw [Tn_set hkT]; split
      · omega
      · exact hp
    have hof : ∀ p, Tn (s.T.set k tr) p = 0 → Tn s.T p = 0 := fun p hp => by
      rw [Tn_set hkT] at hp; split at hp
      · omega
      · exact hp
    refine ⟨fun i hi => h.keep i (hof i hi), by simpa using h.len, Or.inr ⟨k, by simp, hk, h.keep k hc.1, ?_, rfl⟩, fun j hj hj0 => ?_⟩
    · show Tn (s.T.set k tr) k ≠ 0
      rw [Tn_set hkT, if_pos rfl]; omega
    · have hj0' := hof j hj0
      rcases List.mem_append.1 hj with hj | hj
      · obtain ⟨p, p1, p2, p3, p4⟩ := h.pas j hj hj0'
        exact ⟨p, p1, p2, hon p p3, p4⟩
      · obtain rfl : j = k := by simpa using hj
        have : Tn (s.T.set j tr) j = 0 := hj0
        rw [Tn_set hkT, if_pos rfl] at this
        omega
  · rename_i hc
    refine ⟨h.keep, h.len, ?_, fun j hj hj0 => ?_⟩
    · rcases h.rt with h | ⟨p, p0, p1⟩
      · exact Or.inl h
      · exact Or.inr ⟨p, by simp [p0], p1⟩
    · rcases List.mem_append.1 hj with hj | hj
      · exact h.pas j hj hj0
      · obtain rfl : j = k := by simpa using hj
        have hr : (Sb S j).b ≤ s.r := by
          by_cases hr : s.r < (Sb S j).b
          · exfalso; apply hc; simp [canB, hj0, hr, hfree s.T j hk]
          · omega
        rcases h.rt with h | ⟨p, p0, p1, p2, p3, p4⟩
        · omega
        · exact ⟨p, p1, p2, p3, hs p p0, by omega⟩
theorem Grd.fold {t b : List Int} {S : List Q3} {tr : Int} {T : List Int} (h1 : 1 ≤ tr) (hfree : ∀ T k, k < S.length → freeB t b S T k tr = true) : ∀ (l : List Nat) (s : FS) (done : List Nat), Grd S T s done → (∀ k ∈ l, k < S.length ∧ 0 ≤ (Sb S k).b) → (done ++ l).Pairwise (fun i k => (Sb S i).b ≤ (Sb S k).b) → Grd S T (l.foldl (fstep t b S tr) s) (done ++ l)
  | [], s, done, h, _, _ => by simpa using h
  | k :: l, s, done, h, hl, hp => by
    have hk := hl k List.mem_cons_self
    have hp2 : (done ++ [k] ++ l).Pairwise (fun i k => (Sb S i).b ≤ (Sb S k).b) := by simpa using hp
    have := Grd.fold h1 hfree l _ (done ++ [k]) (h.step h1 hfree hk.1 hk.2 (fun p hp' => (List.pairwise_append.1 hp).2.2 p hp' k List.mem_cons_self)) (fun j hj => hl j (List.mem_cons_of_mem _ hj)) hp2
    simpa using this
/-- Each track takes one of the nets of the densest column. -/
theorem fill_less {t b : List Int} {tr : Int} {T : List Int} (h1 : 1 ≤ tr) (hfree : ∀ T k, k < (spansL t b).length → freeB t b (spansL t b) T k tr = true) (hT : T.length = (spansL t b).length) {d : Nat} (hd : ∀ l, cnt0 (spansL t b) T l ≤ d + 1) (l : Int) : cnt0 (spansL t b) (fillS t b (spansL t b) t.length tr T).T l ≤ d := by
  have hG : Grd (spansL t b) T (fillS t b (spansL t b) t.length tr T) ([] ++ bk (spansL t b) (spansL t b).length t.length) := by
    refine Grd.fold h1 hfree _ _ [] ⟨fun i hi => hi, hT, Or.inl rfl, fun k hk => absurd hk (by simp)⟩ (fun k hk => ?_) (by simpa using bk_sorted _ _ _)
    have hk2 := (bk_mem hk).2
    obtain ⟨c, hc, _⟩ := left_at hk2
    exact ⟨hk2, by omega⟩
  generalize fillS t b (spansL t b) t.length tr T = s at hG ⊢
  rw [List.nil_append] at hG
  by_cases hpos : 0 < cnt0 (spansL t b) s.T l
  · obtain ⟨z, z1, z2, z3⟩ := most_of (fun i => (Sb (spansL t b) i).b) (cnt_ex hpos)
    simp only [Bool.and_eq_true, decide_eq_true_eq] at z2
    obtain ⟨c, hc, hcn⟩ := left_at z1
    obtain ⟨p, p1, p2, p3, p4, p5⟩ := hG.pas z (bk_in z1 hc hcn) z2.1
    have hzw := wit_iff.1 z2.2
    have : cnt0 (spansL t b) s.T l + 1 ≤ cnt0 (spansL t b) T (Sb (spansL t b) z).b := by
      refine cnt_lt (p := p) (fun i hi hP => ?_) p1 ?_ ?_
      · have hm := z3 i hi hP
        simp only [Bool.and_eq_true, decide_eq_true_eq] at hP ⊢
        have hw := wit_iff.1 hP.2
        exact ⟨hG.keep i hP.1, wit_iff.2 ⟨by omega, by omega⟩⟩
      · simp only [Bool.and_eq_true, decide_eq_true_eq]
        exact ⟨p2, wit_iff.2 ⟨p4, p5⟩⟩
      · simp [p3]
    have := hd (Sb (spansL t b) z).b
    omega
  · omega
theorem fold_bd {t b : List Int} {S : List Q3} {tr : Int} (h1 : 1 ≤ tr) : ∀ (l : List Nat) (s : FS), (∀ k ∈ l, k < s.T.length) → (∀ i, i < S.length → 0 ≤ Tn s.T i ∧ Tn s.T i ≤ tr) → ∀ i, i < S.length → 0 ≤ Tn (l.foldl (fstep t b S tr) s).T i ∧ Tn (l.foldl (fstep t b S tr) s).T i ≤ tr
  | [], _, _, h => h
  | k :: l, s, hl, h => by
    refine fold_bd h1 l _ (fun j hj => by rw [fstep_len]; exact hl j (List.mem_cons_of_mem _ hj)) (fun i hi => ?_)
    rw [fstep]
    split
    · show 0 ≤ Tn (s.T.set k tr) i ∧ Tn (s.T.set k tr) i ≤ tr
      rw [Tn_set (hl k List.mem_cons_self)]
      split
      · omega
      · exact h i hi
    · exact h i hi
theorem chanRun_few {t b : List Int} : ∀ {f : Nat} {tr : Int} {T R : List Int} {left : Int} {d : Nat}, (∀ tr T k, k < (spansL t b).length → freeB t b (spansL t b) T k tr = true) → 1 ≤ tr → T.length = (spansL t b).length → left = zer T → (∀ i, i < (spansL t b).length → Tn T i < tr) → (∀ i, i < (spansL t b).length → 0 ≤ Tn T i) → (∀ l, cnt0 (spansL t b) T l ≤ d) → chanRun t b (spansL t b) t.length f tr T left = some R → ∀ i, i < (spansL t b).length → Tn R i < tr + d
  | f, tr, T, R, left, d, hfree, h1, hT, hz, hb, hp, hd, h => by
    by_cases h0 : left ≤ 0
    · rw [chanRun_end h0] at h
      cases h
      intro i hi
      have := hb i hi
      omega
    · cases f with
      | zero => rw [chanRun, if_neg h0] at h; cases h
      | succ f =>
        rw [chanRun, if_neg h0] at h
        split at h
        · cases h
        · rename_i hc
          cases d with
          | zero =>
            obtain ⟨i, hi, hi0⟩ := zer_pos (T := T) (by omega)
            rw [hT] at hi
            have hh := hd (Sb (spansL t b) i).b
            have : 0 < cnt0 (spansL t b) T (Sb (spansL t b) i).b := by
              refine List.countP_pos_iff.2 ⟨i, List.mem_range.2 hi, ?_⟩
              simp only [Bool.and_eq_true, decide_eq_true_eq]
              exact ⟨hi0, wit_iff.2 ⟨Int.le_refl _, span_ok i hi⟩⟩
            omega
          | succ d =>
            have hl := (ffold_bd t b (spansL t b) tr (bk (spansL t b) (spansL t b).length t.length) ⟨T, -1, 0⟩).1
            have hZ := zer_fold (t := t) (b := b) (S := spansL t b) h1 (bk (spansL t b) (spansL t b).length t.length) ⟨T, -1, 0⟩ (fun k hk => by rw [hT]; exact (bk_mem hk).2)
            have hbd := fold_bd (t := t) (b := b) (S := spansL t b) (tr := tr) h1 (bk (spansL t b) (spansL t b).length t.length) ⟨T, -1, 0⟩ (fun k hk => by rw [hT]; exact (bk_mem hk).2) (fun i hi => ⟨hp i hi, by have := hb i hi; simp only; omega⟩)
            have hless := fill_less h1 (hfree tr) hT hd
            rw [← fillS] at hl hZ hbd
            simp only at hl hZ
            have := chanRun_few (d := d) hfree (show 1 ≤ tr + 1 by omega) (by rw [hl]; exact hT) (by omega) (fun i hi => by have := hbd i hi; omega) (fun i hi => (hbd i hi).1) hless h
            intro i hi
            have := this i hi
            omega
theorem cnt_take (S : List Q3) (P : Q3 → Bool) : ∀ k, k ≤ S.length → ((S.take k).filter P).length = (List.range k).countP fun i => P (Sb S i)
  | 0, _ => by simp
  | k + 1, h => by
    have hk : S[k]? = some (Sb S k) := by rw [Sb, List.getD_eq_getElem?_getD, List.getElem?_eq_getElem (by omega)]; rfl
    rw [take_snoc hk, List.filter_append, List.length_append, cnt_take S P k (by omega), List.range_succ, List.countP_append, List.countP_singleton]
    cases hP : P (Sb S k) <;> simp [hP]
theorem cntK_cnt (S : List Q3) (l : Int) : cntK S l S.length = ((List.range S.length).countP fun i => wit l (Sb S i).b (Sb S i).c : Nat) := by
  rw [cntK, cnt_take S (fun s => wit l s.b s.c) _ (Nat.le_refl _)]
theorem cnt0_rep (S : List Q3) (l : Int) : cnt0 S (List.replicate S.length 0) l = (List.range S.length).countP fun i => wit l (Sb S i).b (Sb S i).c := by
  rw [cnt0]
  simp only [Tn_rep, decide_true, Bool.true_and]
theorem denK_ge (S : List Q3) : ∀ {n c : Nat}, c < n → cntK S c S.length ≤ denK S n
  | 0, c, h => absurd h (Nat.not_lt_zero _)
  | n + 1, c, h => by
    rw [denK]
    by_cases he : c = n
    · subst he; omega
    · have := denK_ge S (n := n) (c := c) (by omega); omega
theorem denK_at (S : List Q3) : ∀ n, denK S n = 0 ∨ ∃ c : Nat, c < n ∧ denK S n = cntK S c S.length
  | 0 => Or.inl rfl
  | n + 1 => by
    rw [denK]
    have h := denK_at S n
    have h2 := denK_bd S n
    by_cases hm : cntK S n S.length ≤ denK S n
    · rw [show max (denK S n) (cntK S n S.length) = denK S n by omega]
      rcases h with h | ⟨c, hc, h⟩
      · exact Or.inl h
      · exact Or.inr ⟨c, by omega, h⟩
    · exact Or.inr ⟨n, by omega, by omega⟩
theorem den_cnt (t b : List Int) (l : Int) : (cnt0 (spansL t b) (List.replicate (spansL t b).length 0) l : Int) ≤ denK (spansL t b) t.length := by
  have h0 := denK_bd (spansL t b) t.length
  by_cases hpos : 0 < cnt0 (spansL t b) (List.replicate (spansL t b).length 0) l
  · obtain ⟨i, hi, hw⟩ := cnt_ex hpos
    simp only [Bool.and_eq_true, decide_eq_true_eq] at hw
    have hw := wit_iff.1 hw.2
    have hs : (spansL t b)[i]? = some (Sb (spansL t b) i) := by rw [Sb, List.getD_eq_getElem?_getD, List.getElem?_eq_getElem hi]; rfl
    have hn := net_at (show (spansK t b t.length 12)[i]? = _ from hs)
    obtain ⟨c, rfl⟩ : ∃ c : Nat, l = c := ⟨l.toNat, by omega⟩
    have := denK_ge (spansL t b) (n := t.length) (c := c) (by omega)
    rw [cntK_cnt] at this
    rw [cnt0_rep]
    exact this
  · omega
def mxK (R : List Int) (k : Nat) : Int := (R.take k).foldl max 0
theorem mxK_succ {R : List Int} {k : Nat} {x : Int} (h : R[k]? = some x) : mxK R (k + 1) = max (mxK R k) x := by
  rw [mxK, take_snoc h, List.foldl_append]; rfl
def mxL (R : List Int) : Int := mxK R R.length
theorem foldl_max_le {m : Int} : ∀ (l : List Int) (a : Int), l.foldl max a ≤ m ↔ a ≤ m ∧ ∀ x ∈ l, x ≤ m
  | [], a => by simp
  | y :: l, a => by
    rw [List.foldl_cons, foldl_max_le l]
    simp only [List.mem_cons, forall_eq_or_imp, Int.max_le, and_assoc]
theorem mxL_le {R : List Int} {m : Int} : mxL R ≤ m ↔ 0 ≤ m ∧ ∀ x ∈ R, x ≤ m := by
  rw [mxL, mxK, List.take_length, foldl_max_le]
theorem mxL_in {R : List Int} {x : Int} (h : x ∈ R) : x ≤ mxL R := (mxL_le.1 (Int.le_refl _)).2 x h
theorem mxL_pos (R : List Int) : 0 ≤ mxL R := (mxL_le.1 (Int.le_refl _)).1
theorem pig : ∀ (m : Nat) (l : List Int), l.Nodup → (∀ x ∈ l, 1 ≤ x ∧ x ≤ m) → l.length ≤ m
  | 0, l, _, h => by
    cases l with
    | nil => simp
    | cons x l => have := h x List.mem_cons_self; omega
  | m + 1, l, hn, h => by
    have ih := pig m (l.erase ((m : Int) + 1)) (hn.erase _) (fun x hx => by
      have h1 := (List.Nodup.mem_erase_iff hn).1 hx
      have h2 := h x h1.2
      have := h1.1
      omega)
    by_cases hm : ((m : Int) + 1) ∈ l
    · rw [List.length_erase_of_mem hm] at ih; omega
    · rw [List.erase_of_not_mem hm] at ih; omega
theorem den_le {t b R : List Int} (h : rcR t b = some R) : denK (spansL t b) t.length ≤ mxL R := by
  obtain ⟨tr, h1, h2, hL, hb, hz⟩ := rcR_leg h
  have hRl := rcR_len h
  rcases denK_at (spansL t b) t.length with h0 | ⟨c, hc, hd⟩
  · rw [h0]; exact mxL_pos R
  · rw [hd, cntK_cnt, List.countP_eq_length_filter]
    have hnd : (((List.range (spansL t b).length).filter fun i => wit c (Sb (spansL t b) i).b (Sb (spansL t b) i).c).map (Tn R)).Nodup := by
      rw [List.Nodup, List.pairwise_map]
      refine List.Pairwise.imp_of_mem (R := fun i k => i ≠ k) ?_ ((List.nodup_range).filter _)
      intro i k hi hk hne he
      obtain ⟨i1, i2⟩ := List.mem_filter.1 hi
      obtain ⟨k1, k2⟩ := List.mem_filter.1 hk
      have i3 := wit_iff.1 i2
      have k3 := wit_iff.1 k2
      have i4 := List.mem_range.1 i1
      have k4 := List.mem_range.1 k1
      exact hL.apart i k i4 k4 hne (zer_none hz (by omega)) he ⟨by omega, by omega⟩
    have := pig (mxL R).toNat _ hnd (fun x hx => by
      obtain ⟨i, hi, rfl⟩ := List.mem_map.1 hx
      have i1 := List.mem_range.1 (List.mem_filter.1 hi).1
      have h3 := (hL.bd i i1).1
      have h4 : Tn R i ≠ 0 := zer_none hz (by omega)
      have hR : R[i]? = some (Tn R i) := by rw [Tn, List.getD_eq_getElem?_getD, List.getElem?_eq_getElem (by omega)]; rfl
      have h5 := mxL_in (List.mem_of_getElem? hR)
      simp only at h3
      omega)
    rw [List.length_map] at this
    have := mxL_pos R
    omega
/-- No column has two different nets. -/
def plB (t b : List Int) : Bool := (List.range t.length).all fun c => decide (Tn t c = 0) || (decide (Tn b c = 0) || decide (Tn t c = Tn b c))
theorem plain_free {t b : List Int} (hok : chOk t b = true) (hp : plB t b = true) (tr : Int) (T : List Int) (k : Nat) (hk : k < (spansL t b).length) : freeB t b (spansL t b) T k tr = true := by
  have hl := (chOk_len hok).1
  rw [freeB, List.all_eq_true]
  intro i hi
  have hi' := List.mem_range.1 hi
  rw [freeP]
  cases hA : aboveB t b (Sb (spansL t b) i).a (Sb (spansL t b) k).a with
  | false => rfl
  | true =>
    exfalso
    obtain ⟨hne, c, hx, hy⟩ := (aboveB_iff hl).1 hA
    have hc : c < t.length := (List.getElem?_eq_some_iff.1 hx).1
    have hs : (spansL t b)[i]? = some (Sb (spansL t b) i) := by rw [Sb, List.getD_eq_getElem?_getD, List.getElem?_eq_getElem hi']; rfl
    have hu : (spansL t b)[k]? = some (Sb (spansL t b) k) := by rw [Sb, List.getD_eq_getElem?_getD, List.getElem?_eq_getElem hk]; rfl
    have n1 := (spansK_sorted t b t.length 12).2 _ (List.mem_of_getElem? hs)
    have n2 := (spansK_sorted t b t.length 12).2 _ (List.mem_of_getElem? hu)
    rw [plB, List.all_eq_true] at hp
    have := hp c (List.mem_range.2 hc)
    rw [Tn_of hx, Tn_of hy] at this
    simp only [Bool.or_eq_true, decide_eq_true_eq] at this
    omega
theorem few_tracks {t b R : List Int} (hok : chOk t b = true) (hp : plB t b = true) (h : rcR t b = some R) : mxL R ≤ denK (spansL t b) t.length := by
  have h0 := denK_bd (spansL t b) t.length
  have hRl := rcR_len h
  have := chanRun_few (d := (denK (spansL t b) t.length).toNat) (fun tr T k hk => plain_free hok hp tr T k hk) (show (1 : Int) ≤ 1 by omega) (by simp) (by rw [zer_rep]) (fun i hi => by rw [Tn_rep]; omega) (fun i hi => by rw [Tn_rep]; omega) (fun l => by have := den_cnt t b l; omega) h
  refine mxL_le.2 ⟨h0.1, fun x hx => ?_⟩
  obtain ⟨i, hi⟩ := List.mem_iff_getElem?.1 hx
  have hiR := (List.getElem?_eq_some_iff.1 hi).1
  have := this i (by omega)
  rw [Tn_of hi] at this
  omega
end Go.Proofs.Ytiljojpnbpdaeaa

/- PLAIN: what the reference's IsMaskPair computes is what the program's does. Contract of l33Count. Condition of the contract: unit cells of the chip. -/
import Derived.Test.YtaigndaabmelhaaMpp
namespace Go.Proofs.Ytaigndaabmelhaa
open Go.RowKit

theorem ptC_prts {l : List Q4} {s : Int} (h : ptC l s = 0) : ptL l s = (partsG (gL l)).map canon ∧ isReg l = true ∧ (partsG (gL l)).length ≤ 12 ∧ 1 ≤ s ∧ s ≤ 8 := by
  have h1 : ppC l = 0 := by
    by_cases h0 : ppC l = 0
    · exact h0
    · rw [(ptC_no h0).1] at h; exact h
  have hs : 1 ≤ s ∧ s ≤ 8 := by
    apply Classical.byContradiction
    intro hn
    rw [(ptC_range h1 hn).1] at h; omega
  cases hr : isReg l with
  | false => rw [(ppC_no hr).1] at h1; omega
  | true =>
    by_cases h12 : 12 < (partsG (gL l)).length
    · rw [(ppC_many hr h12).1] at h1; omega
    · exact ⟨by rw [(ptC_ok h1 hs).2, (ppC_ok hr h12).2], rfl, by omega, hs⟩
theorem ptL_neq (l : List Q4) (s : Int) : ∀ x ∈ ptL l s, x ≠ [] := by
  intro x hx
  by_cases h : ptC l s = 0
  · rw [(ptC_prts h).1, List.mem_map] at hx
    obtain ⟨g, hg, rfl⟩ := hx
    obtain ⟨k, hk⟩ := (partsG_ok (gL l)).1 g hg
    obtain ⟨r, rs, hr, _⟩ := canon_first hk.1
    rw [hr]; simp
  · rw [ptL, if_neg h] at hx; cases hx
/-- How many of the unit cells are set. -/
def cntP (g : Grid) (ps : List Q2) : Nat := (ps.filter fun p => gh g p.a p.b).length
theorem cntP_le (g : Grid) (ps : List Q2) : cntP g ps ≤ ps.length := List.length_filter_le _ _
theorem cntP_all {g : Grid} {ps : List Q2} : cntP g ps = ps.length ↔ ∀ p ∈ ps, gh g p.a p.b = true := List.length_filter_eq_length_iff
theorem cntP_none {g : Grid} {ps : List Q2} : cntP g ps = 0 ↔ ∀ p ∈ ps, gh g p.a p.b = false := by
  rw [cntP, List.length_eq_zero_iff, List.filter_eq_nil_iff]
  constructor
  · intro h p hp; have := h p hp; simpa using this
  · intro h p hp; rw [h p hp]; simp
theorem cntP_snoc {g : Grid} {ps : List Q2} {k : Nat} {p : Q2} (h : ps[k]? = some p) : cntP g (ps.take (k + 1)) = cntP g (ps.take k) + (if gh g p.a p.b = true then 1 else 0) := by
  rw [cntP, cntP, take_snoc h, List.filter_append, List.length_append]
  congr 1
  rw [List.filter_cons]
  cases gh g p.a p.b <;> simp
/-- Part i lies in a, and apart from b. -/
def mfst (L : List (List Q4)) (a b : List Q4) (i : Nat) : Bool := decide (cntP (gL a) (cellsP (L.getD i [])) = (cellsP (L.getD i [])).length) && decide (cntP (gL b) (cellsP (L.getD i [])) = 0)
def msnd (L : List (List Q4)) (a b : List Q4) (i : Nat) : Bool := decide (cntP (gL a) (cellsP (L.getD i [])) = 0) && decide (cntP (gL b) (cellsP (L.getD i [])) = (cellsP (L.getD i [])).length)
def mfAll (L : List (List Q4)) (a b : List Q4) (m : Nat) : Bool := (List.range m).all fun i => mfst L a b i || msnd L a b i
def mfSep (T : List (List Bool)) (L : List (List Q4)) (a b : List Q4) (n m : Nat) : Bool := (List.range m).all fun i => (List.range n).all fun k => !(edg T i k && (mfst L a b i == mfst L a b k))
def mrV (l : List Q4) (s : Int) (a b : List Q4) : Bool :=
  decide (ptC l s = 0) && isReg a && isReg b && mfAll (ptL l s) a b (ptL l s).length && decide (cntP (gL l) (cellsP a) = (cellsP a).length) && decide (cntP (gL l) (cellsP b) = (cellsP b).length) && mfSep (tabL (ptL l s) s) (ptL l s) a b (ptL l s).length (ptL l s).length
theorem gh_gL {l : List Q4} (hv : ∀ r ∈ l, vR r = true) (x y : Int) : gh (gL l) x y = inL l x y := by
  cases hc : onC x y with
  | true => rw [gL, gh_gmk _ hc]
  | false =>
    rw [gh_off hc]
    cases hi : inL l x y with
    | false => rfl
    | true =>
      rw [inL, List.any_eq_true] at hi
      obtain ⟨r, hr, hi⟩ := hi
      rw [inR_on (hv r hr) hi] at hc; cases hc
theorem cnt_sub {l a : List Q4} (hl : ∀ r ∈ l, vR r = true) : cntP (gL l) (cellsP a) = (cellsP a).length ↔ ∀ x y, inL a x y = true → inL l x y = true := by
  rw [cntP_all]
  constructor
  · intro h x y hi
    have := h ⟨x, y⟩ (mem_cellsP.2 hi)
    rwa [gh_gL hl] at this
  · intro h p hp
    rw [gh_gL hl]; exact h _ _ (mem_cellsP.1 hp)
theorem cnt_off {l a : List Q4} (hl : ∀ r ∈ l, vR r = true) : cntP (gL l) (cellsP a) = 0 ↔ ∀ x y, inL a x y = true → inL l x y = false := by
  rw [cntP_none]
  constructor
  · intro h x y hi
    have := h ⟨x, y⟩ (mem_cellsP.2 hi)
    rwa [gh_gL hl] at this
  · intro h p hp
    rw [gh_gL hl]; exact h _ _ (mem_cellsP.1 hp)
theorem meet_iff {a b : List Q4} (ha : ∀ r ∈ a, vR r = true) (hb : ∀ r ∈ b, vR r = true) : meetL a b = true ↔ ∃ x y, inL a x y = true ∧ inL b x y = true := by
  rw [meetL, List.any_eq_true]
  constructor
  · rintro ⟨r, hr, h⟩
    rw [List.any_eq_true] at h
    obtain ⟨t, ht, h⟩ := h
    obtain ⟨x, y, h1, h2⟩ := (ovl_iff (ha r hr) (hb t ht)).1 h
    exact ⟨x, y, List.any_eq_true.2 ⟨r, hr, h1⟩, List.any_eq_true.2 ⟨t, ht, h2⟩⟩
  · rintro ⟨x, y, h1, h2⟩
    rw [inL, List.any_eq_true] at h1 h2
    obtain ⟨r, hr, h1⟩ := h1
    obtain ⟨t, ht, h2⟩ := h2
    exact ⟨r, hr, List.any_eq_true.2 ⟨t, ht, (ovl_iff (ha r hr) (hb t ht)).2 ⟨x, y, h1, h2⟩⟩⟩
/-- Each unit cell of a region lies in a part. -/
theorem part_cover {l : List Q4} {s : Int} (h : ptC l s = 0) {x y : Int} (hi : inL l x y = true) : ∃ i, i < (ptL l s).length ∧ inL ((ptL l s).getD i []) x y = true := by
  obtain ⟨hL, hreg, _, _⟩ := ptC_prts h
  have hv := (vRs_parts (isReg_iff.1 hreg).1).2
  have hg : gh (gL l) x y = true := by rw [gh_gL hv]; exact hi
  have hc : onC x y = true := by
    cases hc : onC x y with
    | true => rfl
    | false => rw [gh_off hc] at hg; cases hg
  rw [gh_on hc] at hg
  obtain ⟨c, hc1, hc2⟩ := (partsG_ok (gL l)).2.2.1 _ (atG_lt hc) hg
  obtain ⟨i, hi1⟩ := List.getElem?_of_mem hc1
  have hi2 : (ptL l s)[i]? = some (canon c) := by rw [hL, List.getElem?_map, hi1]; rfl
  refine ⟨i, (List.getElem?_eq_some_iff.1 hi2).1, ?_⟩
  rw [getD_of hi2, canon_in, gh_on hc]; exact hc2
/-- Each part has a unit cell. -/
theorem part_some {l : List Q4} {s : Int} {i : Nat} (h : i < (ptL l s).length) : ∃ x y, inL ((ptL l s).getD i []) x y = true := by
  have hi : (ptL l s)[i]? = some (ptL l s)[i] := List.getElem?_eq_getElem h
  have hne := ptL_neq l s _ (List.mem_of_getElem? hi)
  have hv := (ptL_ok l s _ (List.mem_of_getElem? hi)).2
  rw [getD_of hi]
  obtain ⟨r, rs, hr⟩ := List.exists_cons_of_ne_nil hne
  have hrv := vR_iff.1 (hv r (by rw [hr]; simp))
  refine ⟨r.a, r.b, ?_⟩
  rw [hr, inL, List.any_eq_true]
  exact ⟨r, by simp, inR_iff.2 (by omega)⟩
theorem mp_eq (l : List Q4) (s : Int) (a b : List Q4) : mrV l s a b = mpV l s a b := by
  by_cases h0 : ptC l s = 0
  · obtain ⟨_, hreg, _, _⟩ := ptC_prts h0
    cases h1 : isReg a with
    | false => rw [mrV, mpV, h1]; simp
    | true =>
      cases h2 : isReg b with
      | false => rw [mrV, mpV, h1, h2]; simp
      | true =>
        have vl := (vRs_parts (isReg_iff.1 hreg).1).2
        have va := (vRs_parts (isReg_iff.1 h1).1).2
        have vb := (vRs_parts (isReg_iff.1 h2).1).2
        have vp : ∀ i, ∀ r ∈ (ptL l s).getD i [], vR r = true := getD_ok (ptL_ok l s)
        have hcov : ∀ (c : List Q4), (∀ r ∈ c, vR r = true) → ∀ i, mcov (ptL l s) c i = true ↔ ∀ x y, inL ((ptL l s).getD i []) x y = true → inL c x y = true := fun c hc i => by
          rw [mcov, covB_iff (vp i)]
          constructor
          · intro h x y hi; have := h x y hi; rwa [gh_gL hc] at this
          · intro h x y hi; rw [gh_gL hc]; exact h x y hi
        have hfst : ∀ i, mfst (ptL l s) a b i = true ↔ (∀ x y, inL ((ptL l s).getD i []) x y = true → inL a x y = true) ∧ ∀ x y, inL ((ptL l s).getD i []) x y = true → inL b x y = false := fun i => by
          rw [mfst, Bool.and_eq_true, decide_eq_true_eq, decide_eq_true_eq, cnt_sub va, cnt_off vb]
        have hsnd : ∀ i, msnd (ptL l s) a b i = true ↔ (∀ x y, inL ((ptL l s).getD i []) x y = true → inL a x y = false) ∧ ∀ x y, inL ((ptL l s).getD i []) x y = true → inL b x y = true := fun i => by
          rw [msnd, Bool.and_eq_true, decide_eq_true_eq, decide_eq_true_eq, cnt_off va, cnt_sub vb]
        have hun : ∀ x y, inL [a, b].flatten x y = (inL a x y || inL b x y) := fun x y => by
          rw [inL, inL, inL, List.flatten_cons, List.flatten_cons, List.flatten_nil, List.append_nil, List.any_append]
        have vu : ∀ r ∈ [a, b].flatten, vR r = true := fun r hr => by
          rw [List.flatten_cons, List.flatten_cons, List.flatten_nil, List.append_nil, List.mem_append] at hr
          rcases hr with hr | hr
          · exact va r hr
          · exact vb r hr
        -- where they hold, the sides agree
        have hsame : meetL a b = false → ∀ i, i < (ptL l s).length → (mcov (ptL l s) a i = true ∨ mcov (ptL l s) b i = true) → (mfst (ptL l s) a b i = mcov (ptL l s) a i ∧ (mfst (ptL l s) a b i = true ∨ msnd (ptL l s) a b i = true)) := by
          intro hm i hi hc
          have hno : ∀ x y, inL a x y = true → inL b x y = false := fun x y h3 => by
            cases h4 : inL b x y with
            | false => rfl
            | true => rw [(meet_iff va vb).2 ⟨x, y, h3, h4⟩] at hm; cases hm
          cases hca : mcov (ptL l s) a i with
          | true =>
            have h3 := (hcov a va i).1 hca
            have h4 : mfst (ptL l s) a b i = true := (hfst i).2 ⟨h3, fun x y h5 => hno x y (h3 x y h5)⟩
            exact ⟨h4, Or.inl h4⟩
          | false =>
            rw [hca] at hc
            have h3 := (hcov b vb i).1 (hc.resolve_left (by simp))
            refine ⟨?_, Or.inr ((hsnd i).2 ⟨fun x y h5 => ?_, h3⟩)⟩
            · cases h4 : mfst (ptL l s) a b i with
              | false => rfl
              | true => rw [(hcov a va i).2 ((hfst i).1 h4).1] at hca; cases hca
            · cases h4 : inL a x y with
              | false => rfl
              | true => have := hno x y h4; rw [h3 x y h5] at this; cases this
        have hsep : (∀ i, i < (ptL l s).length → mfst (ptL l s) a b i = mcov (ptL l s) a i) → mfSep (tabL (ptL l s) s) (ptL l s) a b (ptL l s).length (ptL l s).length = mcSep (tabL (ptL l s) s) (ptL l s) a (ptL l s).length (ptL l s).length := by
          intro h
          rw [Bool.eq_iff_iff, mfSep, mcSep, List.all_eq_true, List.all_eq_true]
          refine forall_congr' fun i => forall_congr' fun hi => ?_
          rw [List.all_eq_true, List.all_eq_true]
          refine forall_congr' fun k => forall_congr' fun hk => ?_
          rw [h i (List.mem_range.1 hi), h k (List.mem_range.1 hk)]
        rw [Bool.eq_iff_iff]
        constructor
        · intro h
          simp only [mrV, Bool.and_eq_true, decide_eq_true_eq] at h
          obtain ⟨⟨⟨⟨_, h3⟩, h4⟩, h5⟩, h6⟩ := h
          rw [mfAll, List.all_eq_true] at h3
          have h3 : ∀ i, i < (ptL l s).length → mfst (ptL l s) a b i = true ∨ msnd (ptL l s) a b i = true := fun i hi => by have := h3 i (List.mem_range.2 hi); rwa [Bool.or_eq_true] at this
          rw [cnt_sub vl] at h4 h5
          have hm : meetL a b = false := by
            cases hm : meetL a b with
            | false => rfl
            | true =>
              obtain ⟨x, y, e1, e2⟩ := (meet_iff va vb).1 hm
              obtain ⟨i, hi, e3⟩ := part_cover h0 (h4 x y e1)
              rcases h3 i hi with e4 | e4
              · have := ((hfst i).1 e4).2 x y e3; rw [e2] at this; cases this
              · have := ((hsnd i).1 e4).1 x y e3; rw [e1] at this; cases this
          have hall : ∀ i, i < (ptL l s).length → mcov (ptL l s) a i = true ∨ mcov (ptL l s) b i = true := fun i hi => by
            rcases h3 i hi with e4 | e4
            · exact Or.inl ((hcov a va i).2 ((hfst i).1 e4).1)
            · exact Or.inr ((hcov b vb i).2 ((hsnd i).1 e4).2)
          have heq : canon (gL [a, b].flatten) = l := by
            rw [← (isReg_iff.1 hreg).2]
            refine canon_congr fun x y => ?_
            rw [gh_gL vu, gh_gL vl, hun, Bool.eq_iff_iff, Bool.or_eq_true]
            constructor
            · rintro (e | e)
              · exact h4 x y e
              · exact h5 x y e
            · intro e
              obtain ⟨i, hi, e3⟩ := part_cover h0 e
              rcases hall i hi with e4 | e4
              · exact Or.inl ((hcov a va i).1 e4 x y e3)
              · exact Or.inr ((hcov b vb i).1 e4 x y e3)
          rw [hsep fun i hi => (hsame hm i hi (hall i hi)).1] at h6
          simp only [mpV, Bool.and_eq_true, decide_eq_true_eq, Bool.not_eq_true']
          refine ⟨⟨⟨⟨⟨⟨h0, h1⟩, h2⟩, hm⟩, heq⟩, ?_⟩, h6⟩
          rw [mcAll, List.all_eq_true]
          intro i hi
          rw [Bool.or_eq_true]
          exact hall i (List.mem_range.1 hi)
        · intro h
          simp only [mpV, Bool.and_eq_true, decide_eq_true_eq, Bool.not_eq_true'] at h
          obtain ⟨⟨⟨⟨_, hm⟩, heq⟩, h5⟩, h6⟩ := h
          rw [mcAll, List.all_eq_true] at h5
          have hall : ∀ i, i < (ptL l s).length → mcov (ptL l s) a i = true ∨ mcov (ptL l s) b i = true := fun i hi => by have := h5 i (List.mem_range.2 hi); rwa [Bool.or_eq_true] at this
          have hsub : ∀ x y, (inL a x y = true ∨ inL b x y = true) → inL l x y = true := fun x y e => by
            rw [← heq, canon_in, gh_gL vu, hun, Bool.or_eq_true]; exact e
          rw [← hsep fun i hi => (hsame hm i hi (hall i hi)).1] at h6
          simp only [mrV, Bool.and_eq_true, decide_eq_true_eq]
          refine ⟨⟨⟨⟨⟨⟨h0, h1⟩, h2⟩, ?_⟩, (cnt_sub vl).2 fun x y e => hsub x y (Or.inl e)⟩, (cnt_sub vl).2 fun x y e => hsub x y (Or.inr e)⟩, h6⟩
          rw [mfAll, List.all_eq_true]
          intro i hi
          rw [Bool.or_eq_true]
          exact (hsame hm i (List.mem_range.1 hi) (hall i (List.mem_range.1 hi))).2
  · rw [mrV, mpV, decide_eq_false h0]; simp
set_option maxRecDepth 100000 in
set_option maxHeartbeats 4000000 in
theorem l33Count_any (B cb : Nat) (g : Grid) (q : Option Addr) (n c : Nat) (ps : List Q2) (w : World) (hb : Bits w B g) (h : SlT enc2 2 w q n ps) (hn : n ≤ 100000000) (hv : ∀ p ∈ ps, onC p.a p.b = true) :
    Calls Try.prog 85 #[.slice (some ⟨B, 0, none⟩) 6400 cb, .slice q n c] w fun e w' => e = .returned (.int .i64 (cntP g ps : Nat)) ∧ Ext w w' := by
  have hl := hid h.length
  have hbw := hid hb
  have hv := hid hv
  clear hb
  go_enter Try.func85, Try.ntmps85
  go_wp2
  go_loopw [5, 6] (fun vn i wr => ∃ k : Nat, k ≤ n ∧ i = .int .i64 k ∧ vn = .int .i64 (cntP g (ps.take k) : Nat) ∧ Hid (Ext w wr)) (fun _ i _ => n - (intOf i).toNat)
  case atStart => exact ⟨0, by omega, rfl, rfl, Ext.refl _⟩
  case round =>
    obtain ⟨k, hk, rfl, rfl, hE⟩ := hrel
    by_cases hlt : k < n
    · have hltI : (k : Int) < (n : Int) := by omega
      obtain ⟨b, off, p, rfl, hb, hp, z0, z1⟩ := (h.ext hE.out).two hlt
      have hon := hid (hv.out p (List.mem_of_getElem? hp.out))
      have hat := atG_lt hon.out
      have hbb := hbw.out.ext hE.out
      have zg := hbb.2 _ hat
      have hgl := hbb.1
      have hgo := gh_on (g := g) hon.out
      have hst := cntP_snoc (g := g) hp.out
      have hcl := cntP_le g (ps.take k)
      have htl : (ps.take k).length ≤ k := by rw [List.length_take]; omega
      obtain ⟨C, hC⟩ : ∃ C, C = cntP g (ps.take k) := ⟨_, rfl⟩
      rw [← hC] at hst hcl ⊢
      have hCk : C ≤ k := by omega
      clear hbb hcl htl hC
      cases hg : g (atG p.a p.b) with
      | true =>
        rw [hg] at zg
        rw [hgo.trans hg, if_pos rfl] at hst
        replace hst := hid hst
        clear hgo hg
        go_wp2_with fail
        refine wp_region_later (by kernel_rfl) (by kernel_rfl) ?_
        repeat (go_big_quiet_step ((go_at_call 125; exact later_same (l03At_any _ _ _ hon.out))))
        refine wpQuiet_nil ?_
        rintro w1 ⟨⟨_, E1⟩, rfl⟩
        have hE1 := hid (hE.out.trans E1)
        clear E1
        go_wp2_with fail
        go_roundw
        case rel => exact ⟨k + 1, by omega, by go_num, by rw [hst.out]; go_num, hE1⟩
        case measure => simp [intOf]; omega
      | false =>
        rw [hg] at zg
        rw [hgo.trans hg, if_neg (by simp)] at hst
        replace hst := hid hst
        clear hgo hg
        go_wp2_with fail
        refine wp_region_later (by kernel_rfl) (by kernel_rfl) ?_
        repeat (go_big_quiet_step ((go_at_call 125; exact later_same (l03At_any _ _ _ hon.out))))
        refine wpQuiet_nil ?_
        rintro w1 ⟨⟨_, E1⟩, rfl⟩
        have hE1 := hid (hE.out.trans E1)
        clear E1
        go_wp2_with fail
        go_roundw
        case rel => exact ⟨k + 1, by omega, by go_num, by rw [hst.out]; go_num, hE1⟩
        case measure => simp [intOf]; omega
    · have hltI : ¬ (k : Int) < (n : Int) := by omega
      rw [take_all hl.out (by omega)]
      obtain ⟨C, hC⟩ : ∃ C, C = cntP g ps := ⟨_, rfl⟩
      rw [← hC]
      go_wp2_with fail
      go_ret
      exact ⟨rfl, hE.out⟩
end Go.Proofs.Ytaigndaabmelhaa

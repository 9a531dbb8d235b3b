/- What the laws on compaction say, as plain facts on what the program computes. Condition: valid blocks and gap. -/
import Derived.Test.YtnhiepgfgnemkaaCr2
namespace Go.Proofs.Ytnhiepgfgnemkaa

theorem rnds_upper {E : List Q3} {b U : Int → Int} {S : Int → Prop} (hb : ∀ i, S i → b i ≤ U i) (hE : ∀ e ∈ E, S e.a ∧ U e.a + e.c ≤ U e.b) : ∀ (k : Nat) (i : Int), S i → rnds E b k i ≤ U i
  | 0, i, hi => hb i hi
  | k + 1, i, hi => rlxs_le (S := S) E _ (rnds_upper hb hE k) hE i hi
theorem foldl_max_ge {α : Type} (h : α → Int) : ∀ (L : List α) (m : Int), m ≤ L.foldl (fun m y => max m (h y)) m ∧ ∀ y ∈ L, h y ≤ L.foldl (fun m y => max m (h y)) m
  | [], m => ⟨Int.le_refl _, fun y hy => by cases hy⟩
  | x :: L, m => by
    obtain ⟨h1, h2⟩ := foldl_max_ge h L (max m (h x))
    rw [List.foldl_cons]
    refine ⟨by omega, fun y hy => ?_⟩
    rcases List.mem_cons.1 hy with rfl | hy
    · omega
    · exact h2 y hy
theorem foldl_max_le {α : Type} (h : α → Int) (M : Int) : ∀ (L : List α) (m : Int), m ≤ M → (∀ y ∈ L, h y ≤ M) → L.foldl (fun m y => max m (h y)) m ≤ M
  | [], m, hm, _ => hm
  | x :: L, m, hm, hL => by
    rw [List.foldl_cons]
    exact foldl_max_le h M L _ (by have := hL x (by simp); omega) (fun y hy => hL y (List.mem_cons_of_mem _ hy))
theorem zip_tab {l : List Q4} {f : Int → Int} {y : Q4 × Int} : y ∈ l.zip (tab l.length f) ↔ ∃ i : Nat, i < l.length ∧ y = (bA l i, f i) := by
  rw [List.mem_iff_getElem?]
  constructor
  · rintro ⟨i, hi⟩
    rw [List.getElem?_zip_eq_some] at hi
    obtain ⟨h1, h2⟩ := hi
    have hil : i < l.length := (List.getElem?_eq_some_iff.1 h1).1
    rw [tab_get f hil] at h2
    exact ⟨i, hil, Prod.ext (bA_at h1).symm (Option.some.inj h2).symm⟩
  · rintro ⟨i, hi, rfl⟩
    have hx : l[i]? = some l[i] := List.getElem?_eq_getElem hi
    exact ⟨i, by rw [List.getElem?_zip_eq_some]; exact ⟨by rw [bA_at hx]; exact hx, tab_get f hi⟩⟩
theorem widB_eq (l : List Q4) (f : Int → Int) : widB l (tab l.length f) = (l.zip (tab l.length f)).foldl (fun m y => max m (y.2 + y.1.c)) 0 := by
  rw [widB, widK, List.take_of_length_le (by rw [List.length_zip]; omega)]
theorem wid_ge {l : List Q4} (f : Int → Int) {i : Nat} (hi : i < l.length) : f i + (bA l i).c ≤ widB l (tab l.length f) := by
  rw [widB_eq]
  exact (foldl_max_ge (fun y : Q4 × Int => y.2 + y.1.c) _ 0).2 (bA l i, f i) (zip_tab.2 ⟨i, hi, rfl⟩)
theorem wid_nonneg (l : List Q4) (f : Int → Int) : 0 ≤ widB l (tab l.length f) := by
  rw [widB_eq]; exact (foldl_max_ge (fun y : Q4 × Int => y.2 + y.1.c) _ 0).1
theorem wid_le {l : List Q4} (f : Int → Int) {M : Int} (h0 : 0 ≤ M) (h : ∀ i : Nat, i < l.length → f i + (bA l i).c ≤ M) : widB l (tab l.length f) ≤ M := by
  rw [widB_eq]
  refine foldl_max_le (fun y : Q4 × Int => y.2 + y.1.c) M _ 0 h0 fun y hy => ?_
  obtain ⟨i, hi, rfl⟩ := zip_tab.1 hy
  exact h i hi
theorem xA_tab {n : Nat} (f : Int → Int) {i : Nat} (hi : i < n) : xA (tab n f) i = f i := xA_at (tab_get f hi)
section
variable {l : List Q4} {g : Int} (hl : isBL l = true) (hg : wit g 0 8 = true)
include hl hg
omit hl hg in
theorem pos_edge {e : Q3} (he : e ∈ csL l g) : posF l g e.a + e.c ≤ posF l g e.b := by
  have hF := pass_is (b := fun _ => 0) (csL_topo l g) e.b ((csL_topo l g).memB e he)
  have := fx_ge (posF l g) e.b (csL l g) 0 e he rfl
  have hF' : posF l g e.b = fx (csL l g) (posF l g) e.b 0 := hF
  omega
theorem comp_of {f : Int → Int} (hb : ∀ i : Nat, i < l.length → 0 ≤ f i ∧ f i ≤ 800) (he : ∀ e ∈ csL l g, f e.a + e.c ≤ f e.b) : compB l g (tab l.length f) = true := by
  have hok : xsOk (tab l.length f) = true := by
    rw [xsOk, List.all_eq_true]
    intro x hx
    obtain ⟨i, hi, rfl⟩ := List.mem_map.1 hx
    obtain ⟨k, rfl, hk⟩ := upto_mem hi
    exact wit_iff.2 (hb k hk)
  have hv : validXsB l (tab l.length f) = true := by rw [validXsB, hok, tab_len]; simp
  have ha : (csL l g).any (badC (tab l.length f)) = false := by
    rw [List.any_eq_false]
    intro e hm
    obtain ⟨⟨i, hi, hil⟩, ⟨k, hk, hkl⟩, -, -⟩ := csL_edge hl hg e hm
    have := he e hm
    rw [badC, hi, hk, xA_tab f hil, xA_tab f hkl]
    rw [hi, hk] at this
    simp; omega
  rw [compB, codeB_ok hl hg, hv, ha]; rfl
theorem pos_comp : compB l g (tab l.length (posF l g)) = true :=
  comp_of hl hg (fun i _ => by have := posF_btw hl hg i; omega) (fun e he => pos_edge he)
theorem widF_le : widF l g ≤ 616 := wid_le _ (by omega) fun i _ => by have := posF_btw hl hg i; have := bA_btw hl i; omega
omit hl hg in
theorem lat_lower {i : Nat} (hi : i < l.length) : (bA l i).c - widF l g ≤ latF l g i := by
  have := lat_rnds (l := l) (g := g) (mem_upto hi)
  rw [← this]; exact rnds_base (b := latB l g) (E := rev (csL l g)) i _
omit hl hg in
theorem lat_edge {e : Q3} (he : e ∈ csL l g) : latF l g e.b + e.c ≤ latF l g e.a := by
  have T := rev_topo l g
  have hm : (⟨e.b, e.a, e.c⟩ : Q3) ∈ rev (csL l g) := List.mem_map.2 ⟨e, he, rfl⟩
  have hF := passB_is (b := latB l g) T (fun i => - posF l g i) e.a (T.memB _ hm)
  have h2 := fx_ge (latF l g) e.a (rev (csL l g)) (latB l g e.a) _ hm rfl
  have hF' : latF l g e.a = fx (rev (csL l g)) (latF l g) e.a (latB l g e.a) := hF
  have h3 : latF l g e.b + e.c ≤ fx (rev (csL l g)) (latF l g) e.a (latB l g e.a) := h2
  omega
theorem lat_upper {i : Nat} (hi : i < l.length) : latF l g i ≤ - posF l g i := by
  have := lat_rnds (l := l) (g := g) (mem_upto hi)
  rw [← this]
  refine rnds_upper (U := fun i => - posF l g i) (S := fun i => i ∈ upto l.length) (fun i hi => ?_) (fun e' he' => ?_) _ _ (mem_upto hi)
  · obtain ⟨k, rfl, hk⟩ := upto_mem hi
    have := wid_ge (l := l) (posF l g) hk
    show latB l g k ≤ _
    rw [latB, widF]; omega
  · obtain ⟨e, he, rfl⟩ := List.mem_map.1 he'
    have h1 := pos_edge he
    obtain ⟨-, ⟨k, hk, hkl⟩, -, -⟩ := csL_edge hl hg e he
    refine ⟨?_, ?_⟩
    · show e.b ∈ _; rw [hk]; exact mem_upto hkl
    · show - posF l g e.b + e.c ≤ - posF l g e.a; omega
theorem slack_nonneg {i : Nat} (hi : i < l.length) : 0 ≤ slackF l g i := by have := lat_upper hl hg hi; rw [slackF]; omega
/-- The latest positions. -/
def lateF (l : List Q4) (g : Int) (i : Int) : Int := posF l g i + slackF l g i
omit hl hg in
theorem late_eq (i : Int) : lateF l g i = - latF l g i := by rw [lateF, slackF]; omega
theorem late_comp : compB l g (tab l.length (lateF l g)) = true := by
  have hW := widF_le hl hg
  refine comp_of hl hg (fun i hi => ?_) (fun e he => ?_)
  · have h1 := lat_lower (g := g) hi; have h2 := lat_upper hl hg hi; have h3 := posF_btw hl hg i; have h4 := wid_bd hl hi
    rw [late_eq]; omega
  · have := lat_edge he; rw [late_eq, late_eq]; omega
theorem late_wid : widB l (tab l.length (lateF l g)) = widF l g := by
  have h1 : widB l (tab l.length (lateF l g)) ≤ widF l g := wid_le _ (wid_nonneg l _) fun i hi => by
    have := lat_lower (g := g) hi; rw [late_eq]; omega
  have h2 : widF l g ≤ widB l (tab l.length (lateF l g)) := wid_le _ (wid_nonneg l _) fun i hi => by
    have h3 := lat_upper hl hg hi; have h4 := wid_ge (lateF l g) hi; rw [late_eq] at h4; omega
  omega
theorem late_widR : widthR l (tab l.length (lateF l g)) = widthR l (tab l.length (posF l g)) := by
  have hv : ∀ f, compB l g (tab l.length f) = true → widthR l (tab l.length f) = widB l (tab l.length f) := fun f h => by
    rw [compB, Bool.and_eq_true, Bool.and_eq_true] at h
    rw [widthR, hl, h.2.1]; rfl
  rw [hv _ (late_comp hl hg), hv _ (pos_comp hl hg), late_wid hl hg]; rfl
end
end Go.Proofs.Ytnhiepgfgnemkaa

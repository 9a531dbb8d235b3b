/- The constraints turned round: what SlackOf and CompactMirror compute, as plain functions; bounds. No condition. -/
import Derived.Test.YtnhiepgfgnemkaaCp2
namespace Go.Proofs.Ytnhiepgfgnemkaa

theorem no_self {R : Int → Int → Prop} {E : List Q3} {o : List Int} (T : Topo R E o) (i : Int) : ∀ e ∈ E, e.b = i → e.a ≠ i := fun e he hb ha => by have := T.edge e he; rw [hb, ha] at this; exact T.irr i this
theorem visit_btw {R : Int → Int → Prop} {E : List Q3} {o : List Int} (T : Topo R E o) (hc : ∀ e ∈ E, e.c ≤ 48) {f : Int → Int} {L U : Int} (h : Btw f L U) (i : Int) : Btw (E.foldl (vst i) f) L (U + 48) := fun j => by
  by_cases hj : j = i
  · subst hj
    rw [vst_at E f (no_self T j)]
    have h1 := fx_base f j E (f j)
    have h2 := h j
    have h3 := fx_le f j (U + 48) E (f j) (by omega) fun e he _ => by have := hc e he; have := (h e.a).2; omega
    omega
  · rw [vst_ne hj]; have := h j; omega
theorem pass_btw {R : Int → Int → Prop} {E : List Q3} {o : List Int} (T : Topo R E o) (hc : ∀ e ∈ E, e.c ≤ 48) {L : Int} : ∀ (p : List Int) (f : Int → Int) (U : Int), Btw f L U → Btw (pass E p f) L (U + 48 * p.length)
  | [], f, U, h => by simpa [pass] using h
  | i :: p, f, U, h => by
    have := pass_btw T hc p _ _ (visit_btw T hc h i)
    rw [show U + 48 + 48 * (p.length : Int) = U + 48 * ((i :: p).length : Int) by simp; omega] at this
    exact this
theorem passB_btw {R : Int → Int → Prop} {E : List Q3} {o : List Int} {b : Int → Int} (T : Topo R E o) (hc : ∀ e ∈ E, e.c ≤ 48) {L : Int} : ∀ (p : List Int) (f : Int → Int) (U : Int), Btw f L U → Btw b L U → Btw (passB E b p f) L (U + 48 * p.length)
  | [], f, U, h, _ => by simpa [passB] using h
  | i :: p, f, U, h, hb => by
    have h1 : Btw (updI f i (b i)) L U := fun j => by rw [updI]; split; exact hb i; exact h j
    have := passB_btw T hc p _ _ (visit_btw T hc h1 i) (hb.mono (by omega))
    rw [show U + 48 + 48 * (p.length : Int) = U + 48 * ((i :: p).length : Int) by simp; omega] at this
    exact this
theorem csL_small {l : List Q4} {g : Int} (hl : isBL l = true) (hg : wit g 0 8 = true) : ∀ e ∈ csL l g, e.c ≤ 48 := fun e he => (csL_edges hl hg e he).2.2.2
theorem posF_btw {l : List Q4} {g : Int} (hl : isBL l = true) (hg : wit g 0 8 = true) : Btw (posF l g) 0 576 := by
  have := pass_btw (csL_topo l g) (csL_small hl hg) (ltr l) (fun _ => 0) 0 (L := 0) (fun _ => ⟨Int.le_refl _, Int.le_refl _⟩)
  refine this.mono ?_
  rw [ltr_len]; have := (isBL_parts hl).1; omega
theorem tab_ok {n : Nat} {f : Int → Int} (h : Btw f 0 800) : xsOk (tab n f) = true := by
  rw [xsOk, List.all_eq_true]
  intro x hx
  obtain ⟨i, _, rfl⟩ := List.mem_map.1 hx
  exact wit_iff.2 (h i)
theorem posF_ok {l : List Q4} {g : Int} (hl : isBL l = true) (hg : wit g 0 8 = true) (n : Nat) : xsOk (tab n (posF l g)) = true := tab_ok ((posF_btw hl hg).mono (by omega))

/-- The edges turned round. -/
def rev (E : List Q3) : List Q3 := E.map fun e => ⟨e.b, e.a, e.c⟩
/-- Turned round, each with the width of the block it came to. -/
def revW (l : List Q4) (g : Int) (E : List Q3) : List Q3 := E.map fun e => ⟨e.b, e.a, (bA l e.b).c + g⟩
def ltrR (l : List Q4) : List Int := (ltr l).reverse
theorem ltrR_len (l : List Q4) : (ltrR l).length = l.length := by rw [ltrR, List.length_reverse, ltr_len]
theorem mem_ltrR {l : List Q4} {i : Int} : i ∈ ltrR l ↔ i ∈ upto l.length := by rw [ltrR, List.mem_reverse]; exact (ltr_is l).perm.mem_iff
theorem turn_topo {l : List Q4} {g : Int} {E : List Q3} (h : ∀ e' ∈ E, ∃ e ∈ csL l g, e'.a = e.b ∧ e'.b = e.a) : Topo (fun x y => Lft l y x) E (ltrR l) where
  asym := fun h h' => Lft.asymm h h'
  pair := by rw [ltrR, List.pairwise_reverse]; exact (ltr_is l).pair
  edge := fun e' he => by obtain ⟨e, he, h1, h2⟩ := h e' he; rw [h1, h2]; exact (csL_topo l g).edge e he
  memA := fun e' he => by obtain ⟨e, he, h1, h2⟩ := h e' he; rw [h1, ltrR, List.mem_reverse]; exact (csL_topo l g).memB e he
  memB := fun e' he => by obtain ⟨e, he, h1, h2⟩ := h e' he; rw [h2, ltrR, List.mem_reverse]; exact (csL_topo l g).memA e he
theorem rev_topo (l : List Q4) (g : Int) : Topo (fun x y => Lft l y x) (rev (csL l g)) (ltrR l) := turn_topo (g := g) fun e' he => by
  obtain ⟨e, hm, rfl⟩ := List.mem_map.1 he; exact ⟨e, hm, rfl, rfl⟩
theorem revW_topo (l : List Q4) (g : Int) : Topo (fun x y => Lft l y x) (revW l g (csL l g)) (ltrR l) := turn_topo (g := g) fun e' he => by
  obtain ⟨e, hm, rfl⟩ := List.mem_map.1 he; exact ⟨e, hm, rfl, rfl⟩
theorem rev_edges {l : List Q4} {g : Int} {n : Nat} (hn : l.length = n) (hl : isBL l = true) (hg : wit g 0 8 = true) : EdgesOk (rev (csL l g)) n := fun e' he => by
  subst hn
  obtain ⟨e, hm, rfl⟩ := List.mem_map.1 he
  obtain ⟨h1, h2, h3⟩ := csL_edges hl hg e hm
  exact ⟨h2, h1, h3⟩
theorem wid_bd {l : List Q4} (hl : isBL l = true) {k : Nat} (hk : k < l.length) : 1 ≤ (bA l k).c ∧ (bA l k).c ≤ 40 := by
  have hx : l[k]? = some l[k] := List.getElem?_eq_getElem hk
  have hv := vblk_iff.1 ((isBL_parts hl).2 _ (List.mem_of_getElem? hx))
  rw [bA_at hx]; exact hv.2.2.1
theorem revW_edges {l : List Q4} {g : Int} {n : Nat} (hn : l.length = n) (hl : isBL l = true) (hg : wit g 0 8 = true) : EdgesOk (revW l g (csL l g)) n := fun e' he => by
  subst hn
  obtain ⟨e, hm, rfl⟩ := List.mem_map.1 he
  obtain ⟨h1, ⟨k, hk, hk'⟩, h3⟩ := csL_edges hl hg e hm
  have hg' := wit_iff.1 hg
  have := wid_bd hl hk'
  rw [← hk] at this
  exact ⟨⟨k, hk, hk'⟩, h1, by show 0 ≤ _ + g; omega, by show _ + g ≤ 48; omega⟩
/-- The width of the compacted arrangement. -/
def widF (l : List Q4) (g : Int) : Int := widB l (tab l.length (posF l g))
def latB (l : List Q4) (g : Int) (i : Int) : Int := (bA l i).c - widF l g
/-- Minus the latest positions. -/
def latF (l : List Q4) (g : Int) : Int → Int := passB (rev (csL l g)) (latB l g) (ltrR l) (fun i => - posF l g i)
def slackF (l : List Q4) (g : Int) (i : Int) : Int := - latF l g i - posF l g i
/-- The distances to the axis. -/
def mirF (l : List Q4) (g : Int) : Int → Int := passB (revW l g (csL l g)) (fun _ => (g + 1) / 2) (ltrR l) (fun _ => 0)
def axisF (l : List Q4) (g : Int) : Int := widB l (tab l.length (mirF l g))
def leftF (l : List Q4) (g : Int) (i : Int) : Int := axisF l g - mirF l g i - (bA l i).c
def rightF (l : List Q4) (g : Int) (i : Int) : Int := axisF l g + mirF l g i
theorem mirF_btw {l : List Q4} {g : Int} (hl : isBL l = true) (hg : wit g 0 8 = true) : Btw (mirF l g) 0 580 := by
  have hg' := wit_iff.1 hg
  have := passB_btw (b := fun _ => (g + 1) / 2) (revW_topo l g) (fun e he => (revW_edges rfl hl hg e he).2.2.2) (ltrR l) (fun _ => 0) 4 (L := 0) (fun _ => ⟨Int.le_refl _, by show (0 : Int) ≤ 4; omega⟩) (fun _ => ⟨by show 0 ≤ (g + 1) / 2; omega, by show (g + 1) / 2 ≤ 4; omega⟩)
  refine this.mono ?_
  rw [ltrR_len]; have := (isBL_parts hl).1; omega
theorem mirF_ok {l : List Q4} {g : Int} (hl : isBL l = true) (hg : wit g 0 8 = true) (n : Nat) : xsOk (tab n (mirF l g)) = true := tab_ok ((mirF_btw hl hg).mono (by omega))
theorem mir_rnds {l : List Q4} {g : Int} {n : Nat} (hn : l.length = n) : tab n (rnds (revW l g (csL l g)) (fun _ => (g + 1) / 2) (n + 1)) = tab n (mirF l g) := by
  subst hn
  exact tab_congr fun i hi => rnds_eq (revW_topo l g) (passB_is (revW_topo l g) _) _ (by rw [ltrR_len]; omega) i (mem_ltrR.2 hi)
theorem lat_rnds {l : List Q4} {g : Int} {i : Int} (hi : i ∈ upto l.length) : rnds (rev (csL l g)) (latB l g) (l.length + 1) i = latF l g i :=
  rnds_eq (rev_topo l g) (passB_is (rev_topo l g) _) _ (by rw [ltrR_len]; omega) i (mem_ltrR.2 hi)
theorem widK_bd {l : List Q4} {xs : List Int} (hl : ∀ x ∈ l, vblk x = true) (hx : xsOk xs = true) : ∀ k, 0 ≤ widK l xs k ∧ widK l xs k ≤ 840 := by
  intro k
  have : ∀ (L : List (Q4 × Int)) (m : Int), (∀ y ∈ L, y.2 + y.1.c ≤ 840) → 0 ≤ m → m ≤ 840 → 0 ≤ L.foldl (fun m y => max m (y.2 + y.1.c)) m ∧ L.foldl (fun m y => max m (y.2 + y.1.c)) m ≤ 840 := by
    intro L
    induction L with
    | nil => intro m _ h0 h1; exact ⟨h0, h1⟩
    | cons y L ih => intro m h h0 h1; have := h y (by simp); exact ih _ (fun z hz => h z (List.mem_cons_of_mem _ hz)) (by show 0 ≤ max m _; omega) (by show max m _ ≤ 840; omega)
  refine this _ 0 (fun y hy => ?_) (by omega) (by omega)
  have hm := List.mem_of_mem_take hy
  obtain ⟨h1, h2⟩ := List.of_mem_zip hm
  have := (vblk_iff.1 (hl _ h1)).2.2.1
  have := wit_iff.1 (List.all_eq_true.1 hx _ h2)
  omega
theorem widF_bd {l : List Q4} {g : Int} (hl : isBL l = true) (hg : wit g 0 8 = true) : 0 ≤ widF l g ∧ widF l g ≤ 840 := widK_bd (isBL_parts hl).2 (posF_ok hl hg _) _
theorem axisF_bd {l : List Q4} {g : Int} (hl : isBL l = true) (hg : wit g 0 8 = true) : 0 ≤ axisF l g ∧ axisF l g ≤ 840 := widK_bd (isBL_parts hl).2 (mirF_ok hl hg _) _
end Go.Proofs.Ytnhiepgfgnemkaa

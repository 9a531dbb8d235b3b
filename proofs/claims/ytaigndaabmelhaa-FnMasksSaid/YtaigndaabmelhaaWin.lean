/- Plain laws: windows; how many unit cells of a box are set, counted cell by cell and by a region's rectangles. No condition. -/
import Derived.Test.YtaigndaabmelhaaGr2
namespace Go.Proofs.Ytaigndaabmelhaa

/-- Sum over a ≤ i < b. -/
def sumI (f : Int → Int) (a b : Int) : Int := if _h : a < b then f a + sumI f (a + 1) b else 0
termination_by (b - a).toNat
theorem sumI_cons {f : Int → Int} {a b : Int} (h : a < b) : sumI f a b = f a + sumI f (a + 1) b := by rw [sumI, dif_pos h]
theorem sumI_nil {f : Int → Int} {a b : Int} (h : b ≤ a) : sumI f a b = 0 := by rw [sumI, dif_neg (by omega)]
theorem sumI_snoc (f : Int → Int) : ∀ (n : Nat) (a b : Int), (b - a).toNat = n → a ≤ b → sumI f a (b + 1) = sumI f a b + f b := by
  intro n
  induction n with
  | zero => intro a b hn h; have : a = b := by omega
            subst this; rw [sumI_cons (by omega), sumI_nil (by omega), sumI_nil (by omega)]; omega
  | succ n ih => intro a b hn h; rw [sumI_cons (by omega), ih (a + 1) b (by omega) (by omega), sumI_cons (a := a) (b := b) (by omega)]; omega
theorem sumI_to (f : Int → Int) {a b : Int} (h : a ≤ b) : sumI f a (b + 1) = sumI f a b + f b := sumI_snoc f _ a b rfl h
theorem sumI_congr {f g : Int → Int} : ∀ (n : Nat) (a b : Int), (b - a).toNat = n → (∀ i, a ≤ i → i < b → f i = g i) → sumI f a b = sumI g a b := by
  intro n
  induction n with
  | zero => intro a b hn h; rw [sumI_nil (by omega), sumI_nil (by omega)]
  | succ n ih => intro a b hn h; rw [sumI_cons (by omega), sumI_cons (f := g) (by omega), h a (by omega) (by omega), ih (a + 1) b (by omega) (fun i h1 h2 => h i (by omega) h2)]
theorem sumI_ext {f g : Int → Int} {a b : Int} (h : ∀ i, a ≤ i → i < b → f i = g i) : sumI f a b = sumI g a b := sumI_congr _ a b rfl h
theorem sumI_add (f g : Int → Int) : ∀ (n : Nat) (a b : Int), (b - a).toNat = n → sumI (fun i => f i + g i) a b = sumI f a b + sumI g a b := by
  intro n
  induction n with
  | zero => intro a b hn; rw [sumI_nil (by omega), sumI_nil (by omega), sumI_nil (by omega)]; rfl
  | succ n ih => intro a b hn; rw [sumI_cons (by omega), sumI_cons (f := f) (by omega), sumI_cons (f := g) (by omega), ih (a + 1) b (by omega)]; omega
theorem sumI_bd {f : Int → Int} {m : Int} (_hm : 0 ≤ m) (hf : ∀ i, 0 ≤ f i ∧ f i ≤ m) : ∀ (n : Nat) (a b : Int), (b - a).toNat = n → 0 ≤ sumI f a b ∧ sumI f a b ≤ m * ((b - a).toNat : Int) := by
  intro n
  induction n with
  | zero => intro a b hn; rw [sumI_nil (by omega), hn]; simp
  | succ n ih =>
    intro a b hn
    have h1 := hf a
    have h2 := ih (a + 1) b (by omega)
    have e : (((b - a).toNat : Nat) : Int) = ((b - (a + 1)).toNat : Int) + 1 := by omega
    rw [sumI_cons (by omega), e, Int.mul_add]
    generalize m * ((b - (a + 1)).toNat : Int) = M at *
    omega
def b2i (b : Bool) : Int := if b then 1 else 0
theorem b2i_bd (b : Bool) : 0 ≤ b2i b ∧ b2i b ≤ 1 := by cases b <;> simp [b2i]
/-- How many i with lo ≤ i < hi lie in a ≤ i < b, times m. -/
theorem sumI_ind (lo hi m : Int) : ∀ (n : Nat) (a b : Int), (b - a).toNat = n → sumI (fun i => if lo ≤ i ∧ i < hi then m else 0) a b = ((min hi b - max lo a).toNat : Int) * m := by
  intro n
  induction n with
  | zero =>
    intro a b hn
    rw [sumI_nil (by omega), show (min hi b - max lo a).toNat = 0 by omega]; simp
  | succ n ih =>
    intro a b hn
    rw [sumI_cons (by omega), ih (a + 1) b (by omega)]
    by_cases h : lo ≤ a ∧ a < hi
    · rw [if_pos h, show (min hi b - max lo a).toNat = (min hi b - max lo (a + 1)).toNat + 1 by omega, Int.natCast_add, Int.add_mul]
      simp; omega
    · rw [if_neg h]
      by_cases h2 : a < lo
      · rw [show max lo (a + 1) = max lo a by omega]; omega
      · rw [show (min hi b - max lo (a + 1)).toNat = 0 by omega, show (min hi b - max lo a).toNat = 0 by omega]; simp
/-- How many unit cells of a box f has. -/
def cntB (f : Int → Int → Bool) (r : Q4) : Int := sumI (fun y => sumI (fun x => b2i (f x y)) r.a r.c) r.b r.d
/-- The unit cells of the common part of two rectangles. -/
def comA (s r : Q4) : Int := ((min s.d r.d - max s.b r.b).toNat : Int) * ((min s.c r.c - max s.a r.a).toNat : Int)
theorem cntB_one (s r : Q4) : cntB (inR s) r = comA s r := by
  rw [cntB, comA]
  have h1 : ∀ y, sumI (fun x => b2i (inR s x y)) r.a r.c = if s.b ≤ y ∧ y < s.d then ((min s.c r.c - max s.a r.a).toNat : Int) else 0 := by
    intro y
    by_cases hy : s.b ≤ y ∧ y < s.d
    · rw [if_pos hy]
      rw [sumI_ext (g := fun x => if s.a ≤ x ∧ x < s.c then 1 else 0), sumI_ind s.a s.c 1 _ _ _ rfl]
      · omega
      · intro x _ _
        by_cases hx : s.a ≤ x ∧ x < s.c
        · have : inR s x y = true := inR_iff.2 ⟨hx, hy⟩
          rw [this, if_pos hx]; rfl
        · have : inR s x y = false := by rw [← Bool.not_eq_true, inR_iff]; exact fun h => hx h.1
          rw [this, if_neg hx]; rfl
    · rw [if_neg hy]
      rw [sumI_ext (g := fun x => if (0 : Int) ≤ x ∧ x < 0 then 1 else 0), sumI_ind 0 0 1 _ _ _ rfl]
      · rw [show (min (0 : Int) r.c - max 0 r.a).toNat = 0 by omega]; rfl
      · intro x _ _
        have : inR s x y = false := by rw [← Bool.not_eq_true, inR_iff]; exact fun h => hy h.2
        rw [this, if_neg (by omega)]; rfl
  rw [sumI_ext (fun y _ _ => h1 y), sumI_ind s.b s.d _ _ _ _ rfl]
/-- Lists whose rectangles have no unit cell in common. -/
def Dis : List Q4 → Prop
  | [] => True
  | r :: l => (∀ x y, inR r x y = true → inL l x y = false) ∧ Dis l
def covL (l : List Q4) (r : Q4) : Int := (l.map fun s => comA s r).sum
theorem covL_cons (s : Q4) (l : List Q4) (r : Q4) : covL (s :: l) r = comA s r + covL l r := by simp [covL]
theorem cntB_add {f g h : Int → Int → Bool} (r : Q4) (hfg : ∀ x y, b2i (h x y) = b2i (f x y) + b2i (g x y)) : cntB h r = cntB f r + cntB g r := by
  rw [cntB, cntB, cntB, ← sumI_add _ _ _ _ _ rfl]
  refine sumI_ext fun y _ _ => ?_
  rw [← sumI_add _ _ _ _ _ rfl]
  exact sumI_ext fun x _ _ => hfg x y
theorem cntB_nil (r : Q4) : cntB (inL []) r = 0 := by
  have h := sumI_ind 0 0 0
  rw [cntB, sumI_ext (g := fun _ => if (0 : Int) ≤ 0 ∧ (0 : Int) < 0 then 0 else 0)]
  · rw [sumI_ext (g := fun i => if (0 : Int) ≤ i ∧ i < 0 then 0 else 0) (fun i _ _ => by split <;> simp), h _ _ _ rfl]; simp
  · intro y _ _
    rw [sumI_ext (g := fun i => if (0 : Int) ≤ i ∧ i < 0 then 0 else 0) (fun i _ _ => by show b2i false = _; split <;> rfl), h _ _ _ rfl]; simp
theorem cntB_dis : ∀ (l : List Q4), Dis l → ∀ r, cntB (inL l) r = covL l r
  | [], _, r => cntB_nil r
  | s :: l, h, r => by
    rw [covL_cons, ← cntB_one, ← cntB_dis l h.2 r]
    refine cntB_add r fun x y => ?_
    have e : inL (s :: l) x y = (inR s x y || inL l x y) := by simp [inL]
    rw [e]
    cases hs : inR s x y with
    | true => rw [h.1 x y hs]; rfl
    | false => simp [b2i]
theorem Dis.append {l m : List Q4} (hl : Dis l) (hm : Dis m) (h : ∀ x y, inL l x y = true → inL m x y = false) : Dis (l ++ m) := by
  induction l with
  | nil => exact hm
  | cons r l ih =>
    refine ⟨fun x y hr => ?_, ih hl.2 (fun x y hx => h x y (by simp [inL] at hx ⊢; exact Or.inr hx))⟩
    show inL (l ++ m) x y = false
    rw [inL_append, hl.1 x y hr, h x y (by simp [inL, hr])]; rfl
theorem dis_pairs (y e : Int) : ∀ (l : List Int) (lo : Int), Inc lo l → lo ≤ 41 → Dis ((pairs l).map fun p => ⟨p.1, y, p.2, e⟩)
  | [], _, _, _ => trivial
  | [_], _, _, _ => trivial
  | a :: b :: l, lo, hi, h => by
    obtain ⟨h1, h2, h3, h4, h5⟩ := hi
    rw [pairs, List.map_cons]
    refine ⟨fun x z hr => ?_, dis_pairs y e l (b + 1) h5 (by omega)⟩
    rw [← Bool.not_eq_true, inL, List.any_eq_true]
    rintro ⟨s, hs, hs2⟩
    rw [List.mem_map] at hs
    obtain ⟨p, hp, rfl⟩ := hs
    have := (pairs_inc l (b + 1) h5 (by omega)).2.2.2 p hp
    rw [inR_iff] at hr hs2
    simp only at hr hs2
    omega
theorem dis_canonY (g : Grid) : ∀ (n : Nat) (y0 : Int), (40 - y0).toNat ≤ n → y0 ≤ 40 → Dis (canonY g y0) := by
  intro n
  induction n with
  | zero => intro y0 hn h40; rw [canonY_stop (by omega)]; trivial
  | succ n ih =>
    intro y0 hn h40
    by_cases h : y0 < 40
    · have g1 := rowEnd_ge g y0 (y0 + 1)
      have g2 := rowEnd_le g y0 (y0 + 1) (by omega)
      rw [canonY_step h]
      refine (dis_pairs _ _ _ _ (runs_inc g y0) (by omega)).append (ih _ (by omega) g2) fun x y hx => ?_
      have h1 := ((band_in g y0 x y).1 hx).1
      rw [← Bool.not_eq_true, canonY_in g _ _ (Nat.le_refl _) g2]
      rintro ⟨h2, -⟩
      omega
    · rw [canonY_stop (by omega)]; trivial
theorem dis_canon (g : Grid) : Dis (canon g) := dis_canonY g _ _ (Nat.le_refl _) (by omega)
theorem isReg_dis {l : List Q4} (h : isReg l = true) : Dis l := by rw [isReg_iff] at h; rw [← h.2]; exact dis_canon _
theorem cntB_congr {f g : Int → Int → Bool} {r : Q4} (h : ∀ x y, (r.a ≤ x ∧ x < r.c) → (r.b ≤ y ∧ y < r.d) → f x y = g x y) : cntB f r = cntB g r :=
  sumI_ext fun y h1 h2 => sumI_ext fun x h3 h4 => by rw [h x y ⟨h3, h4⟩ ⟨h1, h2⟩]
/-- A region's unit cells in a box on the chip, counted by its rectangles. -/
theorem cov_reg {l : List Q4} (h : isReg l = true) (r : Q4) (hr : (-40 ≤ r.a ∧ r.c ≤ 40) ∧ (-40 ≤ r.b ∧ r.d ≤ 40)) : covL l r = cntB (gh (gL l)) r := by
  rw [← cntB_dis l (isReg_dis h)]
  refine cntB_congr fun x y h1 h2 => ?_
  rw [gL, gh_gmk _ (by rw [onC_iff]; omega)]
theorem cntB_bd (f : Int → Int → Bool) (r : Q4) (hr : (-40 ≤ r.a ∧ r.c ≤ 40) ∧ (-40 ≤ r.b ∧ r.d ≤ 40)) : 0 ≤ cntB f r ∧ cntB f r ≤ 6400 := by
  have h1 : ∀ y, 0 ≤ sumI (fun x => b2i (f x y)) r.a r.c ∧ sumI (fun x => b2i (f x y)) r.a r.c ≤ 80 := fun y => by
    have := sumI_bd (m := 1) (f := fun x => b2i (f x y)) (by omega) (fun x => b2i_bd _) _ r.a r.c rfl
    omega
  have := sumI_bd (m := 80) (by omega) h1 _ r.b r.d rfl
  rw [cntB]
  omega

/-- The windows of side s of a row, from x on. -/
def winX (s y : Int) : Nat → Int → List Q4
  | 0, _ => []
  | k + 1, x => if x < 40 then ⟨x, y, min (x + s) 40, min (y + s) 40⟩ :: winX s y k (x + s) else []
def winY (s : Int) : Nat → Int → List Q4
  | 0, _ => []
  | k + 1, y => if y < 40 then winX s y 80 (-40) ++ winY s k (y + s) else []
def winL (s : Int) : List Q4 := winY s 80 (-40)
theorem winX_fuel {s y : Int} (hs : 1 ≤ s) : ∀ (k m : Nat) (x : Int), 40 - x ≤ k → 40 - x ≤ m → winX s y k x = winX s y m x
  | 0, 0, _, _, _ => rfl
  | 0, m + 1, x, h, _ => by rw [winX, winX, if_neg (by omega)]
  | k + 1, 0, x, _, h => by rw [winX, winX, if_neg (by omega)]
  | k + 1, m + 1, x, h1, h2 => by
    rw [winX, winX]
    split
    · rw [winX_fuel hs k m (x + s) (by omega) (by omega)]
    · rfl
theorem winY_fuel {s : Int} (hs : 1 ≤ s) : ∀ (k m : Nat) (y : Int), 40 - y ≤ k → 40 - y ≤ m → winY s k y = winY s m y
  | 0, 0, _, _, _ => rfl
  | 0, m + 1, y, h, _ => by rw [winY, winY, if_neg (by omega)]
  | k + 1, 0, y, _, h => by rw [winY, winY, if_neg (by omega)]
  | k + 1, m + 1, y, h1, h2 => by
    rw [winY, winY]
    split
    · rw [winY_fuel hs k m (y + s) (by omega) (by omega)]
    · rfl
def winXs (s y x : Int) : List Q4 := winX s y 80 x
def winYs (s y : Int) : List Q4 := winY s 80 y
theorem winXs_step {s y x : Int} (hs : 1 ≤ s) (h0 : -40 ≤ x) (h : x < 40) : winXs s y x = ⟨x, y, min (x + s) 40, min (y + s) 40⟩ :: winXs s y (x + s) := by
  rw [winXs, winX, if_pos h, winXs, winX_fuel hs 79 80 (x + s) (by omega) (by omega)]
theorem winXs_stop {s y x : Int} (h : 40 ≤ x) : winXs s y x = [] := by rw [winXs, winX, if_neg (by omega)]
theorem winYs_step {s y : Int} (hs : 1 ≤ s) (h0 : -40 ≤ y) (h : y < 40) : winYs s y = winXs s y (-40) ++ winYs s (y + s) := by
  rw [winYs, winY, if_pos h, winYs, winY_fuel hs 79 80 (y + s) (by omega) (by omega)]; rfl
theorem winYs_stop {s y : Int} (h : 40 ≤ y) : winYs s y = [] := by rw [winYs, winY, if_neg (by omega)]
theorem winXs_in {s y : Int} (hs : 1 ≤ s) (hy0 : -40 ≤ y) (hy : y < 40) : ∀ (n : Nat) (x : Int), (40 - x).toNat ≤ n → -40 ≤ x → ∀ r ∈ winXs s y x, vR r = true := by
  intro n
  induction n with
  | zero => intro x hx _; rw [winXs_stop (by omega)]; simp
  | succ n ih =>
    intro x hx h0 r hr
    by_cases h : x < 40
    · rw [winXs_step hs h0 h, List.mem_cons] at hr
      rcases hr with rfl | hr
      · rw [vR_iff]; simp only; omega
      · exact ih (x + s) (by omega) (by omega) r hr
    · rw [winXs_stop (by omega)] at hr; cases hr
theorem winYs_in {s : Int} (hs : 1 ≤ s) : ∀ (n : Nat) (y : Int), (40 - y).toNat ≤ n → -40 ≤ y → ∀ r ∈ winYs s y, vR r = true := by
  intro n
  induction n with
  | zero => intro y hy _; rw [winYs_stop (by omega)]; simp
  | succ n ih =>
    intro y hy h0 r hr
    by_cases h : y < 40
    · rw [winYs_step hs h0 h, List.mem_append] at hr
      rcases hr with hr | hr
      · exact winXs_in hs h0 h _ (-40) (Nat.le_refl _) (by omega) r hr
      · exact ih (y + s) (by omega) (by omega) r hr
    · rw [winYs_stop (by omega)] at hr; cases hr
theorem winL_eq (s : Int) : winL s = winYs s (-40) := rfl
theorem winL_in {s : Int} (hs : 1 ≤ s) : ∀ r ∈ winL s, vR r = true := winYs_in hs _ _ (Nat.le_refl _) (by omega)
theorem winXs_len {s y : Int} (hs : 4 ≤ s) : ∀ (n : Nat) (x : Int), (40 - x).toNat ≤ n → -40 ≤ x → (winXs s y x).length * 4 ≤ (40 - x).toNat + 3 := by
  intro n
  induction n with
  | zero => intro x hx _; rw [winXs_stop (by omega)]; simp
  | succ n ih =>
    intro x hx h0
    by_cases h : x < 40
    · have := ih (x + s) (by omega) (by omega)
      rw [winXs_step (by omega) h0 h, List.length_cons]; omega
    · rw [winXs_stop (by omega)]; simp
theorem winYs_len {s : Int} (hs : 4 ≤ s) : ∀ (n : Nat) (y : Int), (40 - y).toNat ≤ n → -40 ≤ y → (winYs s y).length * 4 ≤ 20 * ((40 - y).toNat + 3) := by
  intro n
  induction n with
  | zero => intro y hy _; rw [winYs_stop (by omega)]; simp
  | succ n ih =>
    intro y hy h0
    by_cases h : y < 40
    · have h1 := ih (y + s) (by omega) (by omega)
      have h2 := winXs_len (y := y) hs _ (-40) (Nat.le_refl _) (by omega)
      by_cases h3 : y + s < 40
      · rw [winYs_step (by omega) h0 h, List.length_append]; omega
      · rw [winYs_step (by omega) h0 h, List.length_append, winYs_stop (y := y + s) (by omega)]; simp; omega
    · rw [winYs_stop (by omega)]; simp
theorem winL_len {s : Int} (hs : 4 ≤ s) : (winL s).length ≤ 420 := by have := winYs_len hs _ (-40) (Nat.le_refl _) (by omega); rw [winL_eq]; omega
def areaQ (r : Q4) : Int := (r.c - r.a) * (r.d - r.b)
/-- A window with so many unit cells is dense. -/
def denseB (covered : Int) (r : Q4) (percent : Int) : Bool := decide (percent * areaQ r ≤ 100 * covered)
end Go.Proofs.Ytaigndaabmelhaa

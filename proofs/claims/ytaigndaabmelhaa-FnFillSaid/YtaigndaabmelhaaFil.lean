/- Plain laws: filling windows with squares. No condition. -/
import Derived.Test.YtaigndaabmelhaaClr
import Derived.Test.YtaigndaabmelhaaWnd
namespace Go.Proofs.Ytaigndaabmelhaa

/-- The set, the squares, how many they are. -/
abbrev FS := Grid × Grid × Int
def orR (g : Grid) (r : Q4) : Grid := gmk fun x y => gh g x y || inR r x y
theorem gh_orR {g : Grid} {r : Q4} (hv : vR r = true) (x y : Int) : gh (orR g r) x y = (gh g x y || inR r x y) := by
  cases ho : onC x y with
  | true => rw [orR, gh_gmk _ ho]
  | false =>
    rw [gh_off ho, gh_off ho]
    cases hr : inR r x y with
    | false => rfl
    | true => rw [inR_on hv hr] at ho; cases ho
def sqQ (u v sz : Int) : Q4 := ⟨u, v, u + sz, v + sz⟩
def grQ (u v sz gap : Int) : Q4 := ⟨u - gap, v - gap, u + sz + gap, v + sz + gap⟩
def skipS (r : Q4) (p sz gap u v : Int) (s : FS) : Bool := denseB (cntB (gh s.1) r) r p || !clearB s.1 (grQ u v sz gap)
def stepS (r : Q4) (p sz gap u v : Int) (s : FS) : FS := if skipS r p sz gap u v s = true then s else (orR s.1 (sqQ u v sz), orR s.2.1 (sqQ u v sz), s.2.2 + 1)
theorem stepS_skip {r : Q4} {p sz gap u v : Int} {s : FS} (h : skipS r p sz gap u v s = true) : stepS r p sz gap u v s = s := by rw [stepS, if_pos h]
theorem stepS_put {r : Q4} {p sz gap u v : Int} {s : FS} (h : skipS r p sz gap u v s = false) : stepS r p sz gap u v s = (orR s.1 (sqQ u v sz), orR s.2.1 (sqQ u v sz), s.2.2 + 1) := by rw [stepS, if_neg (by rw [h]; simp)]
def fX (r : Q4) (p sz gap v : Int) (u : Int) (s : FS) : FS :=
  if _h : (1 ≤ sz ∧ 0 ≤ gap) ∧ u + sz ≤ r.c then fX r p sz gap v (u + sz + gap) (stepS r p sz gap u v s) else s
termination_by (r.c + 1 - u).toNat
def fY (r : Q4) (p sz gap : Int) (v : Int) (s : FS) : FS :=
  if _h : (1 ≤ sz ∧ 0 ≤ gap) ∧ v + sz ≤ r.d then fY r p sz gap (v + sz + gap) (fX r p sz gap v r.a s) else s
termination_by (r.d + 1 - v).toNat
def fillR (r : Q4) (p sz gap : Int) (s : FS) : FS := fY r p sz gap r.b s
def fillL (p sz gap : Int) : List Q4 → FS → FS
  | [], s => s
  | r :: rs, s => fillL p sz gap rs (fillR r p sz gap s)
theorem fX_go {r : Q4} {p sz gap v u : Int} {s : FS} (h1 : 1 ≤ sz) (h2 : 0 ≤ gap) (h : u + sz ≤ r.c) : fX r p sz gap v u s = fX r p sz gap v (u + sz + gap) (stepS r p sz gap u v s) := by
  rw [fX, dif_pos ⟨⟨h1, h2⟩, h⟩]
theorem fX_stop {r : Q4} {p sz gap v u : Int} {s : FS} (h : ¬ u + sz ≤ r.c) : fX r p sz gap v u s = s := by
  rw [fX, dif_neg (fun hh => h hh.2)]
theorem fY_go {r : Q4} {p sz gap v : Int} {s : FS} (h1 : 1 ≤ sz) (h2 : 0 ≤ gap) (h : v + sz ≤ r.d) : fY r p sz gap v s = fY r p sz gap (v + sz + gap) (fX r p sz gap v r.a s) := by
  rw [fY, dif_pos ⟨⟨h1, h2⟩, h⟩]
theorem fY_stop {r : Q4} {p sz gap v : Int} {s : FS} (h : ¬ v + sz ≤ r.d) : fY r p sz gap v s = s := by
  rw [fY, dif_neg (fun hh => h hh.2)]
/-- A square in a window. -/
theorem sq_valid {r : Q4} {u v sz : Int} (hr : vR r = true) (h1 : 1 ≤ sz) (hu : r.a ≤ u) (huc : u + sz ≤ r.c) (hv : r.b ≤ v) (hvd : v + sz ≤ r.d) : vR (sqQ u v sz) = true := by
  rw [vR_iff] at hr ⊢; simp only [sqQ]; omega
theorem sq_in {r : Q4} {u v sz : Int} (hu : r.a ≤ u) (huc : u + sz ≤ r.c) (hv : r.b ≤ v) (hvd : v + sz ≤ r.d) {x y : Int} (h : inR (sqQ u v sz) x y = true) : inR r x y = true := by
  rw [inR_iff] at h ⊢; simp only [sqQ] at h; omega
theorem sq_gr {u v sz gap : Int} (hg : 0 ≤ gap) {x y : Int} (h : inR (sqQ u v sz) x y = true) : inR (grQ u v sz gap) x y = true := by
  rw [inR_iff] at h ⊢; simp only [sqQ, grQ] at h ⊢; omega
/-- The count goes up by the square's unit cells. -/
theorem cnt_put {r : Q4} {g : Grid} {u v sz gap : Int} (hr : vR r = true) (h1 : 1 ≤ sz) (hg : 0 ≤ gap) (hu : r.a ≤ u) (huc : u + sz ≤ r.c) (hv : r.b ≤ v) (hvd : v + sz ≤ r.d) (hc : clearB g (grQ u v sz gap) = true) :
    cntB (gh (orR g (sqQ u v sz))) r = cntB (gh g) r + areaQ (sqQ u v sz) := by
  have hsv := sq_valid hr h1 hu huc hv hvd
  have h2 := cntB_add (f := gh g) (g := inR (sqQ u v sz)) (h := gh (orR g (sqQ u v sz))) r (fun x y => by
    rw [gh_orR hsv]
    cases hi : inR (sqQ u v sz) x y with
    | false => cases gh g x y <;> rfl
    | true => rw [clearB_iff.1 hc x y (sq_gr hg hi)]; rfl)
  rw [h2, cntB_one, comA, areaQ]
  simp only [sqQ]
  have e1 : (((min (v + sz) r.d - max v r.b).toNat : Nat) : Int) = sz := by omega
  have e2 : (((min (u + sz) r.c - max u r.a).toNat : Nat) : Int) = sz := by omega
  rw [e1, e2]
  have e3 : u + sz - u = sz := by omega
  have e4 : v + sz - v = sz := by omega
  rw [e3, e4]
/-- Outside the window nothing changes. -/
theorem stepS_out {r : Q4} {p sz gap u v : Int} {s : FS} (hr : vR r = true) (h1 : 1 ≤ sz) (hu : r.a ≤ u) (huc : u + sz ≤ r.c) (hv : r.b ≤ v) (hvd : v + sz ≤ r.d) {x y : Int} (h : inR r x y = false) : gh (stepS r p sz gap u v s).1 x y = gh s.1 x y := by
  cases hs : skipS r p sz gap u v s with
  | true => rw [stepS_skip hs]
  | false =>
    rw [stepS_put hs]
    show gh (orR s.1 (sqQ u v sz)) x y = _
    rw [gh_orR (sq_valid hr h1 hu huc hv hvd)]
    cases hi : inR (sqQ u v sz) x y with
    | false => simp
    | true => rw [sq_in hu huc hv hvd hi] at h; cases h
theorem fX_out {r : Q4} {p sz gap v : Int} (hr : vR r = true) (h1 : 1 ≤ sz) (h2 : 0 ≤ gap) (hv : r.b ≤ v) (hvd : v + sz ≤ r.d) {x y : Int} (h : inR r x y = false) : ∀ (n : Nat) (u : Int) (s : FS), (r.c + 1 - u).toNat ≤ n → r.a ≤ u → gh (fX r p sz gap v u s).1 x y = gh s.1 x y
  | 0, u, s, hn, _ => by rw [fX_stop (by omega)]
  | n + 1, u, s, hn, hu => by
    by_cases hc : u + sz ≤ r.c
    · rw [fX_go h1 h2 hc, fX_out hr h1 h2 hv hvd h n _ _ (by omega) (by omega), stepS_out hr h1 hu hc hv hvd h]
    · rw [fX_stop hc]
theorem fY_out {r : Q4} {p sz gap : Int} (hr : vR r = true) (h1 : 1 ≤ sz) (h2 : 0 ≤ gap) {x y : Int} (h : inR r x y = false) : ∀ (n : Nat) (v : Int) (s : FS), (r.d + 1 - v).toNat ≤ n → r.b ≤ v → gh (fY r p sz gap v s).1 x y = gh s.1 x y
  | 0, v, s, hn, _ => by rw [fY_stop (by omega)]
  | n + 1, v, s, hn, hv => by
    by_cases hc : v + sz ≤ r.d
    · rw [fY_go h1 h2 hc, fY_out hr h1 h2 h n _ _ (by omega) (by omega), fX_out hr h1 h2 hv hc h _ _ _ (Nat.le_refl _) (Int.le_refl _)]
    · rw [fY_stop hc]
theorem fillR_out {r : Q4} {p sz gap : Int} (hr : vR r = true) (h1 : 1 ≤ sz) (h2 : 0 ≤ gap) {x y : Int} (h : inR r x y = false) (s : FS) : gh (fillR r p sz gap s).1 x y = gh s.1 x y := fY_out hr h1 h2 h _ _ _ (Nat.le_refl _) (Int.le_refl _)
/-- Two windows have no unit cell in common. -/
def DisQ (r t : Q4) : Prop := ∀ x y, inR r x y = true → inR t x y = false
theorem dis_of {r t : Q4} (h : r.c ≤ t.a ∨ r.d ≤ t.b) : DisQ r t := fun x y hr => by
  cases hi : inR t x y with
  | false => rfl
  | true => rw [inR_iff] at hr hi; omega
theorem winXs_from {s y : Int} (hs : 1 ≤ s) : ∀ (n : Nat) (x : Int), (40 - x).toNat ≤ n → -40 ≤ x → ∀ r ∈ winXs s y x, x ≤ r.a ∧ r.b = y ∧ r.d = min (y + s) 40 := by
  intro n
  induction n with
  | zero => intro x hx _; rw [winXs_stop (by omega)]; simp
  | succ n ih =>
    intro x hx h0 r hr
    by_cases h : x < 40
    · rw [winXs_step hs h0 h, List.mem_cons] at hr
      rcases hr with rfl | hr
      · exact ⟨Int.le_refl _, rfl, rfl⟩
      · have := ih (x + s) (by omega) (by omega) r hr; exact ⟨by omega, this.2⟩
    · rw [winXs_stop (by omega)] at hr; cases hr
theorem winXs_dis {s y : Int} (hs : 1 ≤ s) : ∀ (n : Nat) (x : Int), (40 - x).toNat ≤ n → -40 ≤ x → (winXs s y x).Pairwise DisQ := by
  intro n
  induction n with
  | zero => intro x hx _; rw [winXs_stop (by omega)]; exact List.Pairwise.nil
  | succ n ih =>
    intro x hx h0
    by_cases h : x < 40
    · rw [winXs_step hs h0 h, List.pairwise_cons]
      refine ⟨fun r hr => dis_of (Or.inl ?_), ih (x + s) (by omega) (by omega)⟩
      have := (winXs_from hs _ (x + s) (Nat.le_refl _) (by omega) r hr).1
      simp only; omega
    · rw [winXs_stop (by omega)]; exact List.Pairwise.nil
theorem winYs_from {s : Int} (hs : 1 ≤ s) : ∀ (n : Nat) (y : Int), (40 - y).toNat ≤ n → -40 ≤ y → ∀ r ∈ winYs s y, y ≤ r.b := by
  intro n
  induction n with
  | zero => intro y hy _; rw [winYs_stop (by omega)]; simp
  | succ n ih =>
    intro y hy h0 r hr
    by_cases h : y < 40
    · rw [winYs_step hs h0 h, List.mem_append] at hr
      rcases hr with hr | hr
      · have := (winXs_from hs _ (-40) (Nat.le_refl _) (by omega) r hr).2.1; omega
      · have := ih (y + s) (by omega) (by omega) r hr; omega
    · rw [winYs_stop (by omega)] at hr; cases hr
theorem winYs_dis {s : Int} (hs : 1 ≤ s) : ∀ (n : Nat) (y : Int), (40 - y).toNat ≤ n → -40 ≤ y → (winYs s y).Pairwise DisQ := by
  intro n
  induction n with
  | zero => intro y hy _; rw [winYs_stop (by omega)]; exact List.Pairwise.nil
  | succ n ih =>
    intro y hy h0
    by_cases h : y < 40
    · rw [winYs_step hs h0 h, List.pairwise_append]
      refine ⟨winXs_dis hs _ _ (Nat.le_refl _) (by omega), ih (y + s) (by omega) (by omega), fun r hr t ht => dis_of (Or.inr ?_)⟩
      have h1 := (winXs_from hs _ (-40) (Nat.le_refl _) (by omega) r hr).2.2
      have h2 := winYs_from hs _ (y + s) (Nat.le_refl _) (by omega) t ht
      omega
    · rw [winYs_stop (by omega)]; exact List.Pairwise.nil
theorem winL_dis {s : Int} (hs : 1 ≤ s) : (winL s).Pairwise DisQ := by rw [winL_eq]; exact winYs_dis hs _ _ (Nat.le_refl _) (by omega)
/-- In a window that is yet to come the count is that of the region. -/
theorem cnt_later {r t : Q4} {p sz gap : Int} (hr : vR r = true) (h1 : 1 ≤ sz) (h2 : 0 ≤ gap) (hd : DisQ r t) (s : FS) : cntB (gh (fillR r p sz gap s).1) t = cntB (gh s.1) t := by
  refine cntB_congr fun x y hx hy => fillR_out hr h1 h2 ?_ s
  cases hi : inR r x y with
  | false => rfl
  | true =>
    have h3 := hd x y hi
    rw [inR_iff.2 ⟨hx, hy⟩] at h3; cases h3
end Go.Proofs.Ytaigndaabmelhaa

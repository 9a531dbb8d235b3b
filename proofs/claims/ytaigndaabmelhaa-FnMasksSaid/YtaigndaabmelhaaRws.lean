/- Rows of rows of rectangles: their headers and what they hold, owned and read; contracts of eqRectSS, markRectSS, heldRectSS. Condition: at most 6400 rows of at most 3200 rectangles. -/
import Derived.Test.YtaigndaabmelhaaArR
import Derived.Test.YtaigndaabmelhaaWor
namespace Go.Proofs.Ytaigndaabmelhaa
open Go.RowKit

/-- The header of a row: where it lies, its length, its capacity. -/
abbrev Hd := Option Addr × Nat × Nat
def hdV (h : Hd) : Value := .slice h.1 h.2.1 h.2.2
def encH (h : Hd) : List Value := [hdV h]
theorem encH_len (h : Hd) : (encH h).length = 1 := rfl
theorem one_hd (h : Hd) : ∀ u ∈ encH h, u.oneCell' = true := fun u hu => by simp [encH] at hu; subst hu; rfl
/-- A row of rows that a call owns. -/
structure OwnS (base : Nat) (w : World) (q : Option Addr) (n c : Nat) (H : List Hd) (V : List (List Value)) : Prop where
  len : H.length = n
  lenV : V.length = n
  top : w.ownsRow base 27 1 (.slice q n c) n (H.flatMap encH)
  row : ∀ (k : Nat) (h : Hd) (v : List Value), H[k]? = some h → V[k]? = some v → w.ownsRow base 50 4 (hdV h) h.2.1 v
  apart : ∀ (j k : Nat) (h h' : Hd), j ≠ k → H[j]? = some h → H[k]? = some h' → ∀ b, b ∈ blkOf h.1 → b ∉ blkOf h'.1
  under : ∀ (k : Nat) (h : Hd), H[k]? = some h → ∀ b, b ∈ blkOf h.1 → b ∉ blkOf q
/-- The blocks of the rows. -/
def rowsB (H : List Hd) : List Nat := H.flatMap fun (h : Hd) => blkOf h.1
theorem mem_rowsB {H : List Hd} {b : Nat} : b ∈ rowsB H ↔ ∃ (k : Nat) (h : Hd), H[k]? = some h ∧ b ∈ blkOf h.1 := by
  rw [rowsB, List.mem_flatMap]
  constructor
  · rintro ⟨h, hh, hb⟩
    obtain ⟨k, hk⟩ := List.getElem?_of_mem hh
    exact ⟨k, h, hk, hb⟩
  · rintro ⟨k, h, hk, hb⟩
    exact ⟨h, List.mem_of_getElem? hk, hb⟩
theorem own_blk {h : Hd} : (hdV h).ownBlock = h.1.map (·.block) := own_blkOf
section
variable {base n c : Nat} {w w' : World} {q : Option Addr} {H : List Hd} {V : List (List Value)}
theorem OwnS.nil (base : Nat) (w : World) : OwnS base w none 0 0 [] [] := ⟨rfl, rfl, World.ownsRow_nil _ _ _ _, (fun k h v hk => by simp at hk), (fun j k h h' _ hj => by simp at hj), (fun k h hk => by simp at hk)⟩
theorem OwnS.mut {S : List Nat} (h : OwnS base w q n c H V) (M : Mut w w' S) (h1 : ∀ b, b ∈ blkOf q → b ∉ S) (h2 : ∀ b, b ∈ rowsB H → b ∉ S) : OwnS base w' q n c H V := by
  refine ⟨h.len, h.lenV, M.grownBy (fun g hg => h1 g ?_) h.top, fun k x v hx hv => M.grownBy (fun g hg => h2 g ?_) (h.row k x v hx hv), h.apart, h.under⟩
  · rw [own_blkOf, Option.map_eq_some_iff] at hg
    exact mem_blkOf.2 hg
  · rw [own_blk, Option.map_eq_some_iff] at hg
    exact mem_rowsB.2 ⟨k, x, hx, mem_blkOf.2 hg⟩
theorem OwnS.ext (h : OwnS base w q n c H V) (hE : Ext w w') : OwnS base w' q n c H V := h.mut (hE.mut []) (by simp) (by simp)
theorem OwnS.low {b' : Nat} (h : OwnS base w q n c H V) (hb : b' ≤ base) : OwnS b' w q n c H V := by
  have lo : ∀ {size m : Nat} {e : TypeId} {v : Value} {xs : List Value}, w.ownsRow base e size v m xs → w.ownsRow b' e size v m xs := fun h => ⟨h.1, h.2.elim Or.inl (fun ⟨g, cap, cur, hv, hg, r⟩ => Or.inr ⟨g, cap, cur, hv, Nat.le_trans hb hg, r⟩)⟩
  exact ⟨h.len, h.lenV, lo h.top, fun k x v hx hv => lo (h.row k x v hx hv), h.apart, h.under⟩
theorem OwnS.geTop (h : OwnS base w q n c H V) : ∀ b, b ∈ blkOf q → base ≤ b ∧ b < w.heap.size := owns_ge h.top
theorem OwnS.at (h : OwnS base w q n c H V) {k : Nat} (hk : k < n) : ∃ x v, H[k]? = some x ∧ V[k]? = some v :=
  ⟨_, _, List.getElem?_eq_getElem (by rw [h.len]; exact hk), List.getElem?_eq_getElem (by rw [h.lenV]; exact hk)⟩
theorem OwnS.geRow (h : OwnS base w q n c H V) : ∀ b, b ∈ rowsB H → base ≤ b ∧ b < w.heap.size := by
  intro b hb
  obtain ⟨k, x, hx, hb⟩ := mem_rowsB.1 hb
  obtain ⟨_, v, _, hv⟩ := h.at (k := k) (by have := (List.getElem?_eq_some_iff.1 hx).1; rw [h.len] at this; exact this)
  exact owns_ge (h.row k x v hx hv) b hb
/-- One row written anew. -/
theorem OwnS.setRow (h : OwnS base w q n c H V) {j : Nat} {x : Hd} {v : List Value} (hx : H[j]? = some x) (M : Mut w w' (blkOf x.1)) (hr : w'.ownsRow base 50 4 (hdV x) x.2.1 v) : OwnS base w' q n c H (V.set j v) := by
  refine ⟨h.len, by rw [List.length_set]; exact h.lenV, M.grownBy (fun g hg hh => ?_) h.top, fun k y u hy hu => ?_, h.apart, h.under⟩
  · rw [own_blkOf, Option.map_eq_some_iff] at hg
    exact h.under j x hx g hh (mem_blkOf.2 hg)
  · by_cases hjk : j = k
    · subst hjk
      rw [hx] at hy
      cases hy
      have hl : j < V.length := by rw [h.lenV, ← h.len]; exact (List.getElem?_eq_some_iff.1 hx).1
      rw [List.getElem?_set_self hl] at hu
      cases hu
      exact hr
    · rw [List.getElem?_set_ne hjk] at hu
      refine M.grownBy (fun g hg hh => ?_) (h.row k y u hy hu)
      rw [own_blk, Option.map_eq_some_iff] at hg
      exact h.apart j k x y hjk hx hy g hh (mem_blkOf.2 hg)
/-- A row more, at the end: the top row as append leaves it. -/
theorem OwnS.push {qa : Option Addr} {ca : Nat} {x : Hd} {v : List Value} (h : OwnS base w q n c H V) (hr : w.ownsRow base 50 4 (hdV x) x.2.1 v) (hx : ∀ b, b ∈ blkOf x.1 → b ∉ blkOf q ∧ b ∉ rowsB H)
    (ht : w'.ownsRow base 27 1 (.slice qa (n + 1) ca) (n + 1) (H.flatMap encH ++ encH x)) (hg : w.grownBy w' (Value.slice q n c).ownBlock) (hq : ∀ b, b ∈ blkOf qa → b ∈ blkOf q ∨ w.heap.size ≤ b) : OwnS base w' qa (n + 1) ca (H ++ [x]) (V ++ [v]) := by
  have hkeep : ∀ {m : Nat} {y : Hd} {u : List Value}, (∀ b, b ∈ blkOf y.1 → b ∉ blkOf q) → w.ownsRow base 50 4 (hdV y) m u → w'.ownsRow base 50 4 (hdV y) m u := by
    intro m y u hy ho
    refine ho.kept hg ?_
    rw [own_blk, own_blkOf]
    cases hy1 : y.1 with
    | none => simp
    | some a =>
      cases hq1 : q with
      | none => simp
      | some b =>
        have := hy a.block (mem_blkOf.2 ⟨a, hy1, rfl⟩)
        rw [hq1, mem_blkOf] at this
        simp only [Option.map_some]
        exact Or.inr fun e => this ⟨b, rfl, Option.some.inj e.symm⟩
  have hrow : ∀ (k : Nat) (y : Hd), H[k]? = some y → ∀ b, b ∈ blkOf y.1 → b ∈ rowsB H := fun k y hy b hb => mem_rowsB.2 ⟨k, y, hy, hb⟩
  have hcase : ∀ {α : Type} {l : List α} {z y : α} {k : Nat}, (l ++ [z])[k]? = some y → (k < l.length ∧ l[k]? = some y) ∨ (k = l.length ∧ y = z) := by
    intro α l z y k hk
    rcases Nat.lt_trichotomy k l.length with hlt | he | hgt
    · rw [List.getElem?_append_left hlt] at hk; exact Or.inl ⟨hlt, hk⟩
    · subst he; simp at hk; exact Or.inr ⟨rfl, hk.symm⟩
    · rw [List.getElem?_eq_none (by simp; omega)] at hk; cases hk
  have hnew : ∀ b, b ∈ blkOf x.1 → b < w.heap.size := fun b hb => (owns_ge hr b hb).2
  refine ⟨by rw [List.length_append, h.len]; rfl, by rw [List.length_append, h.lenV]; rfl, ?_, fun k y u hy hu => ?_, fun j k y z hjk hy hz b hb => ?_, fun k y hy b hb => ?_⟩
  · rw [List.flatMap_append]; simpa using ht
  · rcases hcase hy with ⟨h1, h2⟩ | ⟨h1, rfl⟩
    · rcases hcase hu with ⟨h3, h4⟩ | ⟨h3, _⟩
      · exact hkeep (h.under k y h2) (h.row k y u h2 h4)
      · rw [h.lenV] at h3; rw [h.len] at h1; omega
    · rcases hcase hu with ⟨h3, _⟩ | ⟨_, rfl⟩
      · rw [h.lenV] at h3; rw [h.len] at h1; omega
      · exact hkeep (fun b hb => (hx b hb).1) hr
  · rcases hcase hy with ⟨h1, h2⟩ | ⟨h1, rfl⟩
    · rcases hcase hz with ⟨h3, h4⟩ | ⟨h3, rfl⟩
      · exact h.apart j k y z hjk h2 h4 b hb
      · exact fun hh => (hx b hh).2 (hrow j y h2 b hb)
    · rcases hcase hz with ⟨h3, h4⟩ | ⟨h3, rfl⟩
      · exact fun hh => (hx b hb).2 (hrow k z h4 b hh)
      · omega
  · intro hh
    rcases hcase hy with ⟨h1, h2⟩ | ⟨h1, rfl⟩
    · rcases hq b hh with h3 | h3
      · exact h.under k y h2 b hb h3
      · have := (h.geRow b (hrow k y h2 b hb)).2; omega
    · rcases hq b hh with h3 | h3
      · exact (hx b hb).1 h3
      · have := hnew b hb; omega
end
/-- Rows of rows, read. -/
def SlS (w : World) (q : Option Addr) (n : Nat) (L : List (List Q4)) : Prop := ∃ H : List Hd, SlT encH 1 w q n H ∧ L.length = n ∧ ∀ (k : Nat) (h : Hd) (l : List Q4), H[k]? = some h → L[k]? = some l → SlT enc4 4 w h.1 h.2.1 l
theorem SlS.length {w : World} {q : Option Addr} {n : Nat} {L : List (List Q4)} (h : SlS w q n L) : L.length = n := let ⟨_, _, h, _⟩ := h; h
theorem SlS.ext {w w' : World} {q : Option Addr} {n : Nat} {L : List (List Q4)} (h : SlS w q n L) (hE : Ext w w') : SlS w' q n L := by
  obtain ⟨H, h1, h2, h3⟩ := h
  exact ⟨H, h1.ext hE, h2, fun k x l hx hl => (h3 k x l hx hl).ext hE⟩
theorem SlS.get {w : World} {q : Option Addr} {n : Nat} {L : List (List Q4)} (h : SlS w q n L) {k : Nat} (hk : k < n) :
    ∃ b off q1 n1 c1 l, q = some ⟨b, off, none⟩ ∧ b < w.heap.size ∧ Hid (L[k]? = some l) ∧ w.cell? ⟨b, off + k, none⟩ = some (.slice q1 n1 c1) ∧ SlT enc4 4 w q1 n1 l := by
  obtain ⟨H, h1, h2, h3⟩ := h
  obtain ⟨b, off, x, e1, e2, e3, e4⟩ := h1.get hk
  have hl : L[k]? = some L[k] := List.getElem?_eq_getElem (by omega)
  exact ⟨b, off, x.1, x.2.1, x.2.2, L[k], e1, e2, hl, by have := e4 0 _ rfl; simpa [encH, hdV] using this, h3 k x _ e3.out hl⟩
theorem SlS.nil (w : World) (q : Option Addr) : SlS w q 0 [] := ⟨[], SlT.zero _ _, rfl, fun k x l hx => by simp at hx⟩
/-- The lists of an owned row of rows. -/
def flV (L : List (List Q4)) : List (List Value) := L.map (·.flatMap enc4)
theorem OwnS.hd {base n c : Nat} {w : World} {q : Option Addr} {H : List Hd} {L : List (List Q4)} (h : OwnS base w q n c H (flV L)) {k : Nat} {x : Hd} {l : List Q4} (hx : H[k]? = some x) (hl : L[k]? = some l) : l.length = x.2.1 := by
  have h1 := (h.row k x (l.flatMap enc4) hx (by rw [flV, List.getElem?_map, hl]; rfl)).1
  rw [flatMap_len enc4_len] at h1
  omega
theorem OwnS.toS {base n c : Nat} {w : World} {q : Option Addr} {H : List Hd} {L : List (List Q4)} (h : OwnS base w q n c H (flV L)) : SlS w q n L := by
  have hL : L.length = n := by rw [← h.lenV, flV, List.length_map]
  refine ⟨H, SlT.of_owns encH_len h.len h.top, hL, fun k x l hx hl => ?_⟩
  exact SlT.of_owns enc4_len (h.hd hx hl) (h.row k x (l.flatMap enc4) hx (by rw [flV, List.getElem?_map, hl]; rfl))
theorem OwnS.mono {base n c : Nat} {w : World} {q : Option Addr} {H : List Hd} {V V' : List (List Value)} (h : OwnS base w q n c H V) (e : V = V') : OwnS base w q n c H V' := e ▸ h
set_option maxRecDepth 100000 in
set_option maxHeartbeats 1000000 in
theorem eqRectSS_same (q1 q2 : Option Addr) (n c1 c2 : Nat) (L : List (List Q4)) (w : World) (h1 : SlS w q1 n L) (h2 : SlS w q2 n L) (hn : n ≤ 1048576) (hb : ∀ l ∈ L, l.length ≤ 1048576) :
    Calls Try.prog 19 #[.slice q1 n c1, .slice q2 n c2] w fun e w' => e = .returned (.bool true) ∧ Ext w w' := by
  have hl := hid h1.length
  have hb := hid hb
  go_enter Try.func19, Try.ntmps19
  go_wp2
  go_loopw [5] (fun i wr => ∃ k : Nat, k ≤ n ∧ i = .int .i64 k ∧ Ext w wr) (fun i _ => n - (intOf i).toNat)
  case atStart => exact ⟨0, by omega, rfl, Ext.refl _⟩
  case round =>
    obtain ⟨k, hk, rfl, hE⟩ := hrel
    by_cases hlt : k < n
    · obtain ⟨b1, o1, p1, m1, d1, l1, rfl, hb1, hx1, z1, s1⟩ := (h1.ext hE).get hlt
      obtain ⟨b2, o2, p2, m2, d2, l2, rfl, hb2, hx2, z2, s2⟩ := (h2.ext hE).get hlt
      obtain rfl : l1 = l2 := by have := hx1.out; rw [hx2.out] at this; exact (Option.some.inj this).symm
      obtain rfl : m1 = m2 := by rw [← s1.length, ← s2.length]
      have hm := hb.out l1 (List.mem_of_getElem? hx1.out)
      rw [s1.length] at hm
      have hS1 := hid s1
      have hS2 := hid s2
      clear s1 s2
      go_wp2
      refine wp_region_later (by kernel_rfl) (by kernel_rfl) ?_
      repeat (go_big_quiet_step ((go_at_call 20; exact later_of (eqRectS_same _ _ _ _ _ l1 _ (hS1.out.ext (Later.ok _)) (hS2.out.ext (Later.ok _)) hm))))
      refine wpQuiet_nil ?_
      rintro w1 ⟨⟨_, E1⟩, rfl⟩
      go_wp2
      go_roundw
      case rel => exact ⟨k + 1, by omega, by go_num, hE.trans E1⟩
      case measure => simp [intOf]; omega
    · go_wp2
      go_ret
      exact ⟨rfl, hE⟩
def sumH (H : List Hd) : Int := (H.map fun h => (h.2.1 : Int) * 4).sum
theorem sumH_snoc {H : List Hd} {k : Nat} {x : Hd} (h : H[k]? = some x) : sumH (H.take (k + 1)) = sumH (H.take k) + (x.2.1 : Int) * 4 := by
  rw [take_snoc h, sumH, sumH, List.map_append, List.sum_append]; simp
theorem sumH_bd {H : List Hd} (hb : ∀ h ∈ H, h.2.1 ≤ 3200) : 0 ≤ sumH H ∧ sumH H ≤ 12800 * (H.length : Int) := by
  induction H with
  | nil => simp [sumH]
  | cons h H ih =>
    have h1 := hb h (by simp)
    have h2 := ih (fun x hx => hb x (by simp [hx]))
    have e : sumH (h :: H) = (h.2.1 : Int) * 4 + sumH H := by simp [sumH]
    rw [e, List.length_cons]
    omega
theorem sumH_take {H : List Hd} (hb : ∀ h ∈ H, h.2.1 ≤ 3200) {k n : Nat} (hl : H.length = n) (hn : n ≤ 6400) : 0 ≤ sumH (H.take k) ∧ sumH (H.take k) ≤ 100000000 := by
  have := sumH_bd (H := H.take k) (fun h hh => hb h (List.mem_of_mem_take hh))
  have h2 : (H.take k).length ≤ 6400 := by rw [List.length_take]; omega
  omega
/-- What the rows hold when they have been marked. -/
def mkV (k : Int) : List Hd → List (List Value)
  | [] => []
  | h :: H => marks k (h.2.1 * 4) :: mkV (k + (h.2.1 : Int) * 4) H
theorem mkV_len : ∀ (H : List Hd) (k : Int), (mkV k H).length = H.length
  | [], _ => rfl
  | h :: H, k => by rw [mkV, List.length_cons, mkV_len H, List.length_cons]
theorem mkV_get : ∀ (H : List Hd) (k : Int) (j : Nat) (x : Hd), H[j]? = some x → (mkV k H)[j]? = some (marks (k + sumH (H.take j)) (x.2.1 * 4))
  | [], k, j, x, h => by simp at h
  | h :: H, k, 0, x, hx => by simp at hx; subst hx; simp [mkV, sumH]
  | h :: H, k, j + 1, x, hx => by
    rw [List.getElem?_cons_succ] at hx
    rw [mkV, List.getElem?_cons_succ, mkV_get H _ j x hx, List.take_succ_cons]
    have e : sumH (h :: H.take j) = (h.2.1 : Int) * 4 + sumH (H.take j) := by simp [sumH]
    rw [e, Int.add_assoc]
theorem mkV_step {V M : List (List Value)} {j : Nat} {v : List Value} (hM : M[j]? = some v) (hl : V.length = M.length) : (M.take j ++ V.drop j).set j v = M.take (j + 1) ++ V.drop (j + 1) := by
  have hj : j < M.length := (List.getElem?_eq_some_iff.1 hM).1
  rw [take_snoc hM, List.drop_eq_getElem_cons (by omega), List.set_append_right _ _ (by rw [List.length_take]; omega), List.length_take, Nat.min_eq_left (by omega), Nat.sub_self, List.set_cons_zero, List.append_assoc, List.singleton_append]
theorem Mut.wide {a b : World} {S T : List Nat} (h : Mut a b S) (hs : ∀ k, k ∈ S → k ∈ T) : Mut a b T := ⟨h.os, h.tape, h.output, h.size, fun k hk hn => h.block k hk (fun hh => hn (hs k hh))⟩
set_option maxRecDepth 100000 in
set_option maxHeartbeats 1000000 in
theorem markRectSS_any (q : Option Addr) (n c : Nat) (k : Int) (base : Nat) (H : List Hd) (V : List (List Value)) (w : World) (h : OwnS base w q n c H V) (hn : n ≤ 6400) (hb : ∀ x ∈ H, x.2.1 ≤ 3200) (hk0 : 0 ≤ k) (hk1 : k ≤ 1000000000) :
    Calls Try.prog 22 #[.slice q n c, .int .i64 k] w fun e w' => e = .returned (.int .i64 (k + sumH H)) ∧ OwnS base w' q n c H (mkV k H) ∧ Mut w w' (rowsB H) := by
  have hbb := hid hb
  have hlv : Hid (V.length = (mkV k H).length) := hid (by rw [h.lenV, mkV_len, h.len])
  have hlen := hid h.len
  clear hb
  go_enter Try.func22, Try.ntmps22
  go_wp2
  go_loopw [1, 5] (fun t i wr => ∃ j : Nat, j ≤ n ∧ i = .int .i64 j ∧ t = .int .i64 (k + sumH (H.take j)) ∧ OwnS base wr q n c H ((mkV k H).take j ++ V.drop j) ∧ Mut w wr (rowsB H)) (fun _ i _ => n - (intOf i).toNat)
  case atStart => exact ⟨0, by omega, rfl, by simp [sumH], by simpa using h, Mut.refl _ _⟩
  case round =>
    clear h
    obtain ⟨j, hj, rfl, rfl, ho, M⟩ := hrel
    have hbd := sumH_take (k := j) hbb.out hlen.out hn
    by_cases hlt : j < n
    · obtain ⟨x, v, hx, hv⟩ := ho.at hlt
      have hr := ho.row j x v hx hv
      have hs := SlT.of_owns (l := H) encH_len ho.len ho.top
      obtain ⟨b, off, x', rfl, hbs, hx', z⟩ := hs.get hlt
      obtain rfl : x = x' := by have := hx'.out; rw [hx] at this; exact Option.some.inj this
      have z0 := z 0 _ rfl
      have hb3 := hbb.out x (List.mem_of_getElem? hx)
      obtain ⟨p1, m1, d1⟩ := x
      simp only [hdV, Nat.mul_one, Nat.add_zero] at z0 hr hb3
      have hstep := hid (sumH_snoc hx)
      have hmk := hid (mkV_get H k j _ hx)
      obtain ⟨T, hT⟩ : ∃ T, T = sumH (H.take j) := ⟨_, rfl⟩
      rw [← hT] at hbd hstep hmk
      rw [← hT]
      replace hT := hid hT
      have ho := hid ho
      have hxx := hid hx
      have hr := hid hr
      clear hx hv z hs hx'
      go_wp2_with fail
      refine (markRectS_any p1 m1 d1 (k + T) base _ _ _ hr.out (by omega) (by omega) (by omega)).mono ?_
      rintro e w1 ⟨rfl, o1, M1⟩
      have ho2 := ho.out.setRow hxx.out M1 o1
      rw [mkV_step hmk.out hlv.out] at ho2
      have M2 := hid (M.same (M1.wide (T := rowsB H) (fun b hb => mem_rowsB.2 ⟨j, _, hxx.out, hb⟩)))
      have ho2 := hid ho2
      clear o1 M1 M
      go_wp2_with fail
      go_roundw
      case rel => exact ⟨j + 1, by omega, by go_num, by rw [hstep.out, Int.add_assoc], ho2.out, M2.out⟩
      case measure => simp [intOf]; omega
    · have hjn : j = n := by omega
      subst hjn
      rw [take_all (l := H) hlen.out (Nat.le_refl _)]
      rw [take_all (l := mkV k H) (n := j) (by rw [mkV_len]; exact hlen.out) (Nat.le_refl _), List.drop_of_length_le (by rw [ho.lenV.symm.trans (by rw [ho.lenV])] <;> rw [hlv.out, mkV_len, hlen.out]; exact Nat.le_refl _), List.append_nil] at ho
      go_wp2_with fail
      go_ret
      exact ⟨rfl, ho, M⟩
set_option maxRecDepth 100000 in
set_option maxHeartbeats 1000000 in
theorem heldRectSS_any (q : Option Addr) (n c : Nat) (k : Int) (base : Nat) (H : List Hd) (w : World) (h : OwnS base w q n c H (mkV k H)) (hn : n ≤ 6400) (hb : ∀ x ∈ H, x.2.1 ≤ 3200) (hk0 : 0 ≤ k) (hk1 : k ≤ 1000000000) :
    Calls Try.prog 23 #[.slice q n c, .int .i64 k] w fun e w' => e = .returned (.int .i64 (k + sumH H)) ∧ w = w' := by
  have hbb := hid hb
  have hlen := hid h.len
  clear hb
  go_enter Try.func23, Try.ntmps23
  go_wp2
  go_loop [1, 5] (fun t i => ∃ j : Nat, j ≤ n ∧ i = .int .i64 j ∧ t = .int .i64 (k + sumH (H.take j))) (fun _ i => n - (intOf i).toNat)
  case atStart => exact ⟨0, by omega, rfl, by simp [sumH]⟩
  case round =>
    obtain ⟨j, hj, rfl, rfl⟩ := hrel
    have hbd := sumH_take (k := j) hbb.out hlen.out hn
    by_cases hlt : j < n
    · obtain ⟨x, v, hx, hv⟩ := h.at hlt
      have hr := h.row j x v hx hv
      have hs := SlT.of_owns (l := H) encH_len h.len h.top
      obtain ⟨b, off, x', rfl, hbs, hx', z⟩ := hs.get hlt
      obtain rfl : x = x' := by have := hx'.out; rw [hx] at this; exact Option.some.inj this
      have z0 := z 0 _ rfl
      have hb3 := hbb.out x (List.mem_of_getElem? hx)
      rw [mkV_get H k j _ hx] at hv
      cases hv
      obtain ⟨p1, m1, d1⟩ := x
      simp only [hdV, Nat.mul_one, Nat.add_zero] at z0 hr hb3
      have hstep := hid (sumH_snoc hx)
      obtain ⟨T, hT⟩ : ∃ T, T = sumH (H.take j) := ⟨_, rfl⟩
      rw [← hT] at hbd hstep hr
      rw [← hT]
      replace hT := hid hT
      have hr := hid hr
      have hneg : ¬ (k + T + (m1 : Int) * 4 < 0) := by omega
      clear hx z hs hx'
      go_wp2_with fail
      refine (heldRectS_any p1 m1 d1 (k + T) base _ _ hr.out (by omega) (by omega) (by omega)).mono ?_
      rintro e w1 ⟨rfl, rfl⟩
      go_wp2_with fail
      go_round
      case rel => exact ⟨j + 1, by omega, by go_num, by rw [hstep.out, Int.add_assoc]⟩
      case measure => simp [intOf]; omega
    · have hjn : j = n := by omega
      subst hjn
      rw [take_all (l := H) hlen.out (Nat.le_refl _)]
      go_wp2_with fail
      go_ret
      exact ⟨rfl, rfl⟩
end Go.Proofs.Ytaigndaabmelhaa

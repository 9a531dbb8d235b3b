/- Rows of rows of whatever elements: owned and read. No condition. -/
import Derived.Test.YtaigndaabmelhaaPts
namespace Go.Proofs.Ytaigndaabmelhaa
open Go.RowKit

/-- A row of rows that a call owns. -/
structure OwnG (tr te : TypeId) (sz base : Nat) (w : World) (q : Option Addr) (n c : Nat) (H : List Hd) (V : List (List Value)) : Prop where
  len : H.length = n
  lenV : V.length = n
  top : w.ownsRow base tr 1 (.slice q n c) n (H.flatMap encH)
  row : ∀ (k : Nat) (h : Hd) (v : List Value), H[k]? = some h → V[k]? = some v → w.ownsRow base te sz (hdV h) h.2.1 v
  apart : ∀ (j k : Nat) (h h' : Hd), j ≠ k → H[j]? = some h → H[k]? = some h' → ∀ b, b ∈ blkOf h.1 → b ∉ blkOf h'.1
  under : ∀ (k : Nat) (h : Hd), H[k]? = some h → ∀ b, b ∈ blkOf h.1 → b ∉ blkOf q
section
variable {tr te : TypeId} {sz base n c : Nat} {w w' : World} {q : Option Addr} {H : List Hd} {V : List (List Value)}
theorem OwnG.nil (tr te : TypeId) (sz base : Nat) (w : World) : OwnG tr te sz base w none 0 0 [] [] := ⟨rfl, rfl, World.ownsRow_nil _ _ _ _, (fun k h v hk => by simp at hk), (fun j k h h' _ hj => by simp at hj), (fun k h hk => by simp at hk)⟩
theorem OwnG.mut {S : List Nat} (h : OwnG tr te sz base w q n c H V) (M : Mut w w' S) (h1 : ∀ b, b ∈ blkOf q → b ∉ S) (h2 : ∀ b, b ∈ rowsB H → b ∉ S) : OwnG tr te sz base w' q n c H V := by
  refine ⟨h.len, h.lenV, M.grownBy (fun g hg => h1 g ?_) h.top, fun k x v hx hv => M.grownBy (fun g hg => h2 g ?_) (h.row k x v hx hv), h.apart, h.under⟩
  · rw [own_blkOf, Option.map_eq_some_iff] at hg
    exact mem_blkOf.2 hg
  · rw [own_blk, Option.map_eq_some_iff] at hg
    exact mem_rowsB.2 ⟨k, x, hx, mem_blkOf.2 hg⟩
theorem OwnG.ext (h : OwnG tr te sz base w q n c H V) (hE : Ext w w') : OwnG tr te sz base w' q n c H V := h.mut (hE.mut []) (by simp) (by simp)
theorem OwnG.low {b' : Nat} (h : OwnG tr te sz base w q n c H V) (hb : b' ≤ base) : OwnG tr te sz b' w q n c H V := by
  have lo : ∀ {size m : Nat} {e : TypeId} {v : Value} {xs : List Value}, w.ownsRow base e size v m xs → w.ownsRow b' e size v m xs := fun h => ⟨h.1, h.2.elim Or.inl (fun ⟨g, cap, cur, hv, hg, r⟩ => Or.inr ⟨g, cap, cur, hv, Nat.le_trans hb hg, r⟩)⟩
  exact ⟨h.len, h.lenV, lo h.top, fun k x v hx hv => lo (h.row k x v hx hv), h.apart, h.under⟩
theorem OwnG.geTop (h : OwnG tr te sz base w q n c H V) : ∀ b, b ∈ blkOf q → base ≤ b ∧ b < w.heap.size := owns_ge h.top
theorem OwnG.at (h : OwnG tr te sz base w q n c H V) {k : Nat} (hk : k < n) : ∃ x v, H[k]? = some x ∧ V[k]? = some v :=
  ⟨_, _, List.getElem?_eq_getElem (by rw [h.len]; exact hk), List.getElem?_eq_getElem (by rw [h.lenV]; exact hk)⟩
theorem OwnG.geRow (h : OwnG tr te sz base w q n c H V) : ∀ b, b ∈ rowsB H → base ≤ b ∧ b < w.heap.size := by
  intro b hb
  obtain ⟨k, x, hx, hb⟩ := mem_rowsB.1 hb
  obtain ⟨_, v, _, hv⟩ := h.at (k := k) (by have := (List.getElem?_eq_some_iff.1 hx).1; rw [h.len] at this; exact this)
  exact owns_ge (h.row k x v hx hv) b hb
/-- One row written anew. -/
theorem OwnG.setRow (h : OwnG tr te sz base w q n c H V) {j : Nat} {x : Hd} {v : List Value} (hx : H[j]? = some x) (M : Mut w w' (blkOf x.1)) (hr : w'.ownsRow base te sz (hdV x) x.2.1 v) : OwnG tr te sz base w' q n c H (V.set j v) := by
  refine ⟨h.len, by rw [List.length_set]; exact h.lenV, M.grownBy (fun g hg hh => ?_) h.top, fun k y u hy hu => ?_, h.apart, h.under⟩
  · rw [own_blkOf, Option.map_eq_some_iff] at hg
    exact h.under j x hx g hh (mem_blkOf.2 hg)
  · by_cases hjk : j = k
    · subst hjk
      rw [hx] at hy
      cases hy
      have hl : j < V.length := by rw [h.lenV, ← h.len]; exact (List.getElem?_eq_some_iff.1 hx).1
      rw [List.getElem?_set_self hl] at hu
      cases hu
      exact hr
    · rw [List.getElem?_set_ne hjk] at hu
      refine M.grownBy (fun g hg hh => ?_) (h.row k y u hy hu)
      rw [own_blk, Option.map_eq_some_iff] at hg
      exact h.apart j k x y hjk hx hy g hh (mem_blkOf.2 hg)
/-- A row more, at the end: the top row as append leaves it. -/
theorem OwnG.push {qa : Option Addr} {ca : Nat} {x : Hd} {v : List Value} (h : OwnG tr te sz base w q n c H V) (hr : w.ownsRow base te sz (hdV x) x.2.1 v) (hx : ∀ b, b ∈ blkOf x.1 → b ∉ blkOf q ∧ b ∉ rowsB H)
    (ht : w'.ownsRow base tr 1 (.slice qa (n + 1) ca) (n + 1) (H.flatMap encH ++ encH x)) (hg : w.grownBy w' (Value.slice q n c).ownBlock) (hq : ∀ b, b ∈ blkOf qa → b ∈ blkOf q ∨ w.heap.size ≤ b) : OwnG tr te sz base w' qa (n + 1) ca (H ++ [x]) (V ++ [v]) := by
  have hkeep : ∀ {m : Nat} {y : Hd} {u : List Value}, (∀ b, b ∈ blkOf y.1 → b ∉ blkOf q) → w.ownsRow base te sz (hdV y) m u → w'.ownsRow base te sz (hdV y) m u := by
    intro m y u hy ho
    refine ho.kept hg ?_
    rw [own_blk, own_blkOf]
    cases hy1 : y.1 with
    | none => simp
    | some a =>
      cases hq1 : q with
      | none => simp
      | some b =>
        have := hy a.block (mem_blkOf.2 ⟨a, hy1, rfl⟩)
        rw [hq1, mem_blkOf] at this
        simp only [Option.map_some]
        exact Or.inr fun e => this ⟨b, rfl, Option.some.inj e.symm⟩
  have hrow : ∀ (k : Nat) (y : Hd), H[k]? = some y → ∀ b, b ∈ blkOf y.1 → b ∈ rowsB H := fun k y hy b hb => mem_rowsB.2 ⟨k, y, hy, hb⟩
  have hcase : ∀ {α : Type} {l : List α} {z y : α} {k : Nat}, (l ++ [z])[k]? = some y → (k < l.length ∧ l[k]? = some y) ∨ (k = l.length ∧ y = z) := by
    intro α l z y k hk
    rcases Nat.lt_trichotomy k l.length with hlt | he | hgt
    · rw [List.getElem?_append_left hlt] at hk; exact Or.inl ⟨hlt, hk⟩
    · subst he; simp at hk; exact Or.inr ⟨rfl, hk.symm⟩
    · rw [List.getElem?_eq_none (by simp; omega)] at hk; cases hk
  have hnew : ∀ b, b ∈ blkOf x.1 → b < w.heap.size := fun b hb => (owns_ge hr b hb).2
  refine ⟨by rw [List.length_append, h.len]; rfl, by rw [List.length_append, h.lenV]; rfl, ?_, fun k y u hy hu => ?_, fun j k y z hjk hy hz b hb => ?_, fun k y hy b hb => ?_⟩
  · rw [List.flatMap_append]; simpa using ht
  · rcases hcase hy with ⟨h1, h2⟩ | ⟨h1, rfl⟩
    · rcases hcase hu with ⟨h3, h4⟩ | ⟨h3, _⟩
      · exact hkeep (h.under k y h2) (h.row k y u h2 h4)
      · rw [h.lenV] at h3; rw [h.len] at h1; omega
    · rcases hcase hu with ⟨h3, _⟩ | ⟨_, rfl⟩
      · rw [h.lenV] at h3; rw [h.len] at h1; omega
      · exact hkeep (fun b hb => (hx b hb).1) hr
  · rcases hcase hy with ⟨h1, h2⟩ | ⟨h1, rfl⟩
    · rcases hcase hz with ⟨h3, h4⟩ | ⟨h3, rfl⟩
      · exact h.apart j k y z hjk h2 h4 b hb
      · exact fun hh => (hx b hh).2 (hrow j y h2 b hb)
    · rcases hcase hz with ⟨h3, h4⟩ | ⟨h3, rfl⟩
      · exact fun hh => (hx b hb).2 (hrow k z h4 b hh)
      · omega
  · intro hh
    rcases hcase hy with ⟨h1, h2⟩ | ⟨h1, rfl⟩
    · rcases hq b hh with h3 | h3
      · exact h.under k y h2 b hb h3
      · have := (h.geRow b (hrow k y h2 b hb)).2; omega
    · rcases hq b hh with h3 | h3
      · exact (hx b hb).1 h3
      · have := hnew b hb; omega
end
theorem OwnG.start {tr te : TypeId} {sz base c : Nat} {w : World} {q : Option Addr} (h : w.ownsRow base tr 1 (.slice q 0 c) 0 []) : OwnG tr te sz base w q 0 c [] [] := ⟨rfl, rfl, h, (fun k h v hk => by simp at hk), (fun j k h h' _ hj => by simp at hj), (fun k h hk => by simp at hk)⟩
/-- A row more at the end, of new memory. -/
theorem OwnG.more {tr te : TypeId} {sz base n c n5 c5 ca : Nat} {w1 w2 W' : World} {q q5 qa : Option Addr} {H : List Hd} {V : List (List Value)} {v : List Value} (h : OwnG tr te sz base w1 q n c H V) (hb : base ≤ w1.heap.size)
    (o5 : w2.ownsRow w1.heap.size te sz (.slice q5 n5 c5) n5 v) (hE2 : Ext w1 w2) (o : Obj)
    (ht : W'.ownsRow base tr 1 (.slice qa (n + 1) ca) (n + 1) (H.flatMap encH ++ [.slice q5 n5 c5])) (hg : (w2.alloc o).grownBy W' (Value.slice q n c).ownBlock)
    (hq : (Value.slice qa (n + 1) ca).ownBlock = (Value.slice q n c).ownBlock ∨ (Value.slice qa (n + 1) ca).ownBlock = some (w2.alloc o).heap.size) : OwnG tr te sz base W' qa (n + 1) ca (H ++ [(q5, n5, c5)]) (V ++ [v]) := by
  have hE3 := (hE2.trans ((Ext.refl w2).alloc o))
  have hfar : ∀ b, b ∈ blkOf q5 → w1.heap.size ≤ b := fun b hb => (owns_ge o5 b hb).1
  refine (h.ext hE3).push (x := (q5, n5, c5)) (owns_lowP (owns_ext o5 ((Ext.refl w2).alloc o)) hb) (fun b hb => ⟨fun h' => by have := h.geTop b h'; have := hfar b hb; omega, fun h' => by have := h.geRow b h'; have := hfar b hb; omega⟩) ht hg (fun b hb => ?_)
  rw [own_blkOf, own_blkOf] at hq
  obtain ⟨a, rfl, rfl⟩ := mem_blkOf.1 hb
  rcases hq with hq | hq
  · left
    rw [Option.map_some, eq_comm, Option.map_eq_some_iff] at hq
    obtain ⟨a', h1, h2⟩ := hq
    exact mem_blkOf.2 ⟨a', h1, h2⟩
  · right
    simp only [Option.map_some, Option.some.injEq] at hq
    rw [hq]; exact Nat.le_refl _
/-- Rows of rows, read. -/
def SlR {α : Type} (enc : α → List Value) (sz : Nat) (w : World) (q : Option Addr) (n : Nat) (L : List (List α)) : Prop := ∃ H : List Hd, SlT encH 1 w q n H ∧ L.length = n ∧ ∀ (k : Nat) (h : Hd) (l : List α), H[k]? = some h → L[k]? = some l → SlT enc sz w h.1 h.2.1 l
section
variable {α : Type} {enc : α → List Value} {sz : Nat} {w w' : World} {q : Option Addr} {n : Nat} {L : List (List α)}
theorem SlR.length (h : SlR enc sz w q n L) : L.length = n := let ⟨_, _, h, _⟩ := h; h
theorem SlR.ext (h : SlR enc sz w q n L) (hE : Ext w w') : SlR enc sz w' q n L := by
  obtain ⟨H, h1, h2, h3⟩ := h
  exact ⟨H, h1.ext hE, h2, fun k x l hx hl => (h3 k x l hx hl).ext hE⟩
theorem SlR.get (h : SlR enc sz w q n L) {k : Nat} (hk : k < n) :
    ∃ b off q1 n1 c1 l, q = some ⟨b, off, none⟩ ∧ b < w.heap.size ∧ Hid (L[k]? = some l) ∧ w.cell? ⟨b, off + k, none⟩ = some (.slice q1 n1 c1) ∧ SlT enc sz w q1 n1 l := by
  obtain ⟨H, h1, h2, h3⟩ := h
  obtain ⟨b, off, x, e1, e2, e3, e4⟩ := h1.get hk
  have hl : L[k]? = some L[k] := List.getElem?_eq_getElem (by omega)
  exact ⟨b, off, x.1, x.2.1, x.2.2, L[k], e1, e2, hl, by have := e4 0 _ rfl; simpa [encH, hdV] using this, h3 k x _ e3.out hl⟩
theorem SlR.nil (w : World) (q : Option Addr) : SlR enc sz w q 0 [] := ⟨[], SlT.zero _ _, rfl, fun k x l hx => by simp at hx⟩
theorem OwnG.hd {tr te : TypeId} {base c : Nat} {H : List Hd} (hpos : 0 < sz) (hsz : ∀ x, (enc x).length = sz) (h : OwnG tr te sz base w q n c H (L.map (·.flatMap enc))) {k : Nat} {x : Hd} {l : List α} (hx : H[k]? = some x) (hl : L[k]? = some l) : l.length = x.2.1 := by
  have h1 := (h.row k x (l.flatMap enc) hx (by rw [List.getElem?_map, hl]; rfl)).1
  rw [flatMap_len hsz] at h1
  exact Nat.eq_of_mul_eq_mul_right hpos h1
theorem OwnG.toR {tr te : TypeId} {base c : Nat} {H : List Hd} (hpos : 0 < sz) (hsz : ∀ x, (enc x).length = sz) (h : OwnG tr te sz base w q n c H (L.map (·.flatMap enc))) : SlR enc sz w q n L := by
  have hL : L.length = n := by have := h.lenV; rw [List.length_map] at this; exact this
  refine ⟨H, SlT.of_owns encH_len h.len h.top, hL, fun k x l hx hl => ?_⟩
  exact SlT.of_owns hsz (h.hd hpos hsz hx hl) (h.row k x (l.flatMap enc) hx (by rw [List.getElem?_map, hl]; rfl))
end
theorem SlS.toR {w : World} {q : Option Addr} {n : Nat} {L : List (List Q4)} (h : SlS w q n L) : SlR enc4 4 w q n L := h
/-- One bool. -/
def encb (b : Bool) : List Value := [.bool b]
theorem encb_len (b : Bool) : (encb b).length = 1 := rfl
theorem SlT.flag {w : World} {p : Option Addr} {n : Nat} {l : List Bool} (h : SlT encb 1 w p n l) {k : Nat} (hk : k < n) :
    ∃ b off x, p = some ⟨b, off, none⟩ ∧ b < w.heap.size ∧ Hid (l[k]? = some x) ∧ w.cell? ⟨b, off + k, none⟩ = some (.bool x) := by
  obtain ⟨b, off, x, h1, h2, h3, h4⟩ := h.get hk
  exact ⟨b, off, x, h1, h2, h3, by have := h4 0 _ rfl; simpa using this⟩
theorem one_b (b : Bool) : ∀ u ∈ [Value.bool b], u.oneCell' = true := fun u hu => by simp at hu; subst hu; rfl
theorem one_hd1 (q : Option Addr) (n c : Nat) : ∀ u ∈ [Value.slice q n c], u.oneCell' = true := fun u hu => by simp at hu; subst hu; rfl
end Go.Proofs.Ytaigndaabmelhaa

/- Lemmas on sources and rows beside them. No condition. -/
import Derived.Test.YtaigndaabmelhaaSrc
import Derived.Test.YtaigndaabmelhaaRg4
namespace Go.Proofs.Ytaigndaabmelhaa
open Go.RowKit

theorem Src.young {w : World} {B P : Nat} (h : Src w B) (hP : B < P) (j : Nat) (v : Value) : Src (w.setCell ⟨P, j, none⟩ v) B := h.mut ((Mut.refl _ [P]).setCell (p := ⟨P, j, none⟩) (by simp) v) (by simp; omega)
theorem Src.mutNone {w w' : World} {B : Nat} {row : Option Nat} (h : Src w B) (hg : w.grownBy w' row) (hr : ∀ k, row = some k → B < k) : Src w' B := by
  cases row with
  | none => exact h.mut (S := []) ⟨hg.os, hg.tape, hg.output, hg.size, fun k hk _ => hg.block k hk (by simp)⟩ (by simp)
  | some r => exact h.mut (S := [r]) ⟨hg.os, hg.tape, hg.output, hg.size, fun k hk hn => hg.block k hk (fun e => hn (by cases e; simp))⟩ (fun k hk => by simp at hk; rw [hk]; exact hr r rfl)
theorem owns_lowD {w : World} {b b' size n : Nat} {e : TypeId} {v : Value} {xs : List Value} (h : w.ownsRow b e size v n xs) (hb : b' ≤ b) : w.ownsRow b' e size v n xs :=
  ⟨h.1, h.2.elim Or.inl (fun ⟨g, cap, cur, hv, hg, r⟩ => Or.inr ⟨g, cap, cur, hv, Nat.le_trans hb hg, r⟩)⟩
/-- What a draw of rectangles leaves. -/
def DrwL (B : Nat) (w : World) (e : Ending) (w' : World) : Prop := ∃ (q : Option Addr) (n c : Nat) (l : List Q4), e = .returned (.slice q n c) ∧ SlT enc4 4 w' q n l ∧ n ≤ 3201 ∧ (∀ a, q = some a → w.heap.size ≤ a.block) ∧ Src w' B ∧ Mut w w' [B]
end Go.Proofs.Ytaigndaabmelhaa

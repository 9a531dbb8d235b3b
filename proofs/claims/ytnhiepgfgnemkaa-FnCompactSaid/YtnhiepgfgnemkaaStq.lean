/- More steps: a region cut from what follows it; rows told as functions. No condition. -/
import Derived.Test.YtnhiepgfgnemkaaDul
import Derived.Test.YtnhiepgfgnemkaaIcm
namespace Go.Proofs.Ytnhiepgfgnemkaa
open Go.RowKit

/-- A region, and what follows it, apart: Mid is what the region leaves. -/
theorem wp_cut {P : Program} {c : Code} {Q : Exit → Act → World → Prop} {a : Act} {w : World} (Mid : Act → Act → World → Prop) (h1 : c.wp P (fun e a' w' => match e with | .normal => Mid a a' w' | _ => False) a w) (h2 : ∀ a' w', Mid a a' w' → Q .normal a' w') : c.wp P Q a w :=
  Code.wp_mono (fun e _ _ hm => by cases e <;> first | exact h2 _ _ hm | exact (hm : False).elim) h1
theorem SlT.tab {w : World} {q : Option Addr} {n : Nat} {f : Int → Int} (h : SlT enc1 1 w q n (tab n f)) {i : Nat} (hi : i < n) : ∃ b off, q = some ⟨b, off, none⟩ ∧ b < w.heap.size ∧ w.cell? ⟨b, off + i, none⟩ = some (.int .i64 (f i)) := by
  obtain ⟨b, off, x, rfl, hb, hx, hc⟩ := h.int hi
  have := hx.out
  rw [tab_get f hi] at this
  cases this
  exact ⟨b, off, rfl, hb, hc⟩
theorem tab_put {w : World} {base n c g : Nat} {e : TypeId} {f f' : Int → Int} (h : w.ownsRow base e 1 (.slice (some ⟨g, 0, none⟩) n c) n (ints (tab n f))) (i : Nat) (v : Int) (hf : updI f i v = f') :
    (w.setCell ⟨g, i, none⟩ (.int .i64 v)).ownsRow base e 1 (.slice (some ⟨g, 0, none⟩) n c) n (ints (tab n f')) := hf ▸ tab_store h i v
theorem ltrR_at {l : List Q4} {n k : Nat} {x : Int} (hn : l.length = n) (hk : k < n) (h : (ltr l)[k]? = some x) : (ltrR l)[n - (k + 1)]? = some x := by
  have hl := ltr_len l
  rw [ltrR, List.getElem?_reverse (by omega), show (ltr l).length - 1 - (n - (k + 1)) = k by omega, h]
/-- What SlackOf stores for F. -/
def slk (x F : Int → Int) (i : Int) : Int := - F i - x i
theorem slk_upd {x F : Int → Int} {i u v : Int} (h : v = - u - x i) : updI (slk x F) i v = slk x (updI F i u) := by
  funext j
  rw [slk, updI, updI]
  split
  · rename_i hj; subst hj; exact h
  · rfl
theorem updI_congr {f : Int → Int} {i u v : Int} (h : u = v) : updI f i u = updI f i v := by rw [h]
theorem Btw.upd {f : Int → Int} {L U i v : Int} (h : Btw f L U) (h0 : L ≤ v) (h1 : v ≤ U) : Btw (updI f i v) L U := fun j => by
  rw [updI]; split
  · exact ⟨h0, h1⟩
  · exact h j
theorem rev_at {E : List Q3} {t : Nat} {e : Q3} (h : E[t]? = some e) : (rev E)[t]? = some ⟨e.b, e.a, e.c⟩ := by rw [rev, List.getElem?_map, h]; rfl
theorem revW_at {l : List Q4} {g : Int} {E : List Q3} {t : Nat} {e : Q3} (h : E[t]? = some e) : (revW l g E)[t]? = some ⟨e.b, e.a, (bA l e.b).c + g⟩ := by rw [revW, List.getElem?_map, h]; rfl
theorem rev_len (E : List Q3) : (rev E).length = E.length := List.length_map _
theorem revW_len (l : List Q4) (g : Int) (E : List Q3) : (revW l g E).length = E.length := List.length_map _
theorem isBL_vblk {l : List Q4} (h : isBL l = true) : l.all vblk = true := by rw [isBL, Bool.and_eq_true] at h; exact h.2
theorem codeB_ok {l : List Q4} {g : Int} (hl : isBL l = true) (hg : wit g 0 8 = true) : codeB l g = 0 := by rw [codeB, if_pos hl, if_pos hg]
theorem codeB_bad {l : List Q4} {g : Int} (h : ¬ (isBL l = true ∧ wit g 0 8 = true)) : codeB l g ≠ 0 := by
  rw [codeB]; split
  · split
    · exact absurd ⟨‹_›, ‹_›⟩ h
    · omega
  · omega
end Go.Proofs.Ytnhiepgfgnemkaa

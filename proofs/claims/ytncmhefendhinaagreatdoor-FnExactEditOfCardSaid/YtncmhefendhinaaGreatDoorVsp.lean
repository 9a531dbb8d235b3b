/- PLAIN: the words of a line: where they begin and end. No condition. -/
import Derived.Test.YtncmhefendhinaaGreatDoorMrk
import Derived.PlainAid
namespace Go.Proofs.YtncmhefendhinaaGreatDoor
open Go.RowKit Go.PlainAid

/-- The first place from i on that is blank or the end. -/
def wEndF (s : ByteArray) : Nat → Nat → Nat
  | 0, i => i
  | f + 1, i => if i < s.size ∧ bt s i ≠ 32 then wEndF s f (i + 1) else i
def wEnd (s : ByteArray) (i : Nat) : Nat := wEndF s (s.size - i) i
theorem wEnd_step {s : ByteArray} {i : Nat} (h : i < s.size) (hb : bt s i ≠ 32) : wEnd s i = wEnd s (i + 1) := by
  unfold wEnd
  rw [show s.size - i = (s.size - (i + 1)) + 1 by omega, wEndF, if_pos ⟨h, hb⟩]
theorem wEnd_stop {s : ByteArray} {i : Nat} (h : ¬ (i < s.size ∧ bt s i ≠ 32)) : wEnd s i = i := by
  unfold wEnd
  cases s.size - i with
  | zero => rfl
  | succ f => rw [wEndF, if_neg h]
theorem wEndF_ge (s : ByteArray) : ∀ (f i : Nat), i ≤ wEndF s f i
  | 0, i => Nat.le_refl _
  | f + 1, i => by
    rw [wEndF]
    split
    · have := wEndF_ge s f (i + 1); omega
    · exact Nat.le_refl _
theorem wEnd_ge (s : ByteArray) (i : Nat) : i ≤ wEnd s i := wEndF_ge s _ i
theorem wEndF_le (s : ByteArray) : ∀ (f i : Nat), i ≤ s.size → wEndF s f i ≤ s.size
  | 0, i, h => h
  | f + 1, i, h => by
    rw [wEndF]
    split
    · rename_i hc; exact wEndF_le s f (i + 1) hc.1
    · exact h
theorem wEnd_le {s : ByteArray} {i : Nat} (h : i ≤ s.size) : wEnd s i ≤ s.size := wEndF_le s _ i h
/-- Beginnings and ends of the words from i on. -/
def spansF (s : ByteArray) : Nat → Nat → List (Nat × Nat)
  | 0, _ => []
  | f + 1, i => if i < s.size then (if bt s i = 32 then spansF s f (i + 1) else (i, wEnd s i) :: spansF s f (wEnd s i)) else []
def spans (s : ByteArray) (i : Nat) : List (Nat × Nat) := spansF s (s.size - i) i
theorem spansF_fuel (s : ByteArray) : ∀ (f g i : Nat), s.size - i ≤ f → s.size - i ≤ g → spansF s f i = spansF s g i
  | 0, g, i, hf, _ => by
    cases g with
    | zero => rfl
    | succ g => rw [spansF, spansF, if_neg (by omega)]
  | f + 1, 0, i, _, hg => by rw [spansF, spansF, if_neg (by omega)]
  | f + 1, g + 1, i, hf, hg => by
    rw [spansF, spansF]
    by_cases hi : i < s.size
    · rw [if_pos hi, if_pos hi]
      by_cases hb : bt s i = 32
      · rw [if_pos hb, if_pos hb]
        exact spansF_fuel s f g (i + 1) (by omega) (by omega)
      · rw [if_neg hb, if_neg hb]
        have := wEnd_ge s (i + 1)
        rw [← wEnd_step hi hb] at this
        rw [spansF_fuel s f g (wEnd s i) (by omega) (by omega)]
    · rw [if_neg hi, if_neg hi]
theorem spans_end {s : ByteArray} {i : Nat} (h : s.size ≤ i) : spans s i = [] := by
  unfold spans
  rw [show s.size - i = 0 by omega, spansF]
theorem spans_blank {s : ByteArray} {i : Nat} (h : i < s.size) (hb : bt s i = 32) : spans s i = spans s (i + 1) := by
  unfold spans
  rw [show s.size - i = (s.size - (i + 1)) + 1 by omega, spansF, if_pos h, if_pos hb]
theorem spans_word {s : ByteArray} {i : Nat} (h : i < s.size) (hb : bt s i ≠ 32) : spans s i = (i, wEnd s i) :: spans s (wEnd s i) := by
  unfold spans
  rw [show s.size - i = (s.size - (i + 1)) + 1 by omega, spansF, if_pos h, if_neg hb]
  have := wEnd_ge s (i + 1)
  rw [← wEnd_step h hb] at this
  rw [spansF_fuel s (s.size - (i + 1)) (s.size - wEnd s i) (wEnd s i) (by omega) (by omega)]
theorem spansF_len (s : ByteArray) : ∀ (f i : Nat), (spansF s f i).length ≤ f
  | 0, _ => Nat.le_refl _
  | f + 1, i => by
    rw [spansF]
    split
    · split
      · have := spansF_len s f (i + 1); omega
      · have := spansF_len s f (wEnd s i); rw [List.length_cons]; omega
    · exact Nat.zero_le _
def cutW (s : ByteArray) (p : Nat × Nat) : ByteArray := s.extract p.1 p.2
/-- The words of a line. -/
def wordsL (s : ByteArray) : List ByteArray := (spans s 0).map (cutW s)
theorem wordsL_len (s : ByteArray) : (wordsL s).length ≤ s.size := by
  rw [wordsL, List.length_map]
  exact Nat.le_trans (spansF_len s _ _) (by omega)
/-- What is found before i, and what lies from i on, between words. -/
def Spl (s : ByteArray) (W : List ByteArray) (i : Nat) : Prop := W ++ (spans s i).map (cutW s) = wordsL s
/-- .. in a word that began at f. -/
def SplIn (s : ByteArray) (W : List ByteArray) (f i : Nat) : Prop := W ++ (cutW s (f, wEnd s i) :: (spans s (wEnd s i)).map (cutW s)) = wordsL s
theorem Spl.start (s : ByteArray) : Spl s [] 0 := rfl
theorem Spl.blank {s : ByteArray} {W : List ByteArray} {i : Nat} (h : Spl s W i) (hi : i < s.size) (hb : bt s i = 32) : Spl s W (i + 1) := by
  unfold Spl at *
  rwa [spans_blank hi hb] at h
theorem Spl.past {s : ByteArray} {W : List ByteArray} {i : Nat} (h : Spl s W i) (hi : s.size ≤ i) : Spl s W (i + 1) := by
  unfold Spl at *
  rw [spans_end hi] at h
  rwa [spans_end (by omega)]
theorem Spl.enter {s : ByteArray} {W : List ByteArray} {i : Nat} (h : Spl s W i) (hi : i < s.size) (hb : bt s i ≠ 32) : SplIn s W i i := by
  unfold Spl at h
  unfold SplIn
  rw [spans_word hi hb, List.map_cons] at h
  exact h
theorem SplIn.step {s : ByteArray} {W : List ByteArray} {f i : Nat} (h : SplIn s W f i) (hi : i < s.size) (hb : bt s i ≠ 32) : SplIn s W f (i + 1) := by
  unfold SplIn at *
  rwa [wEnd_step hi hb] at h
theorem SplIn.leave {s : ByteArray} {W : List ByteArray} {f i : Nat} (h : SplIn s W f i) (hs : ¬ (i < s.size ∧ bt s i ≠ 32)) : Spl s (W ++ [cutW s (f, i)]) i := by
  unfold SplIn at h
  unfold Spl
  rw [wEnd_stop hs] at h
  rw [← h]; simp
theorem Spl.fin {s : ByteArray} {W : List ByteArray} {i : Nat} (h : Spl s W i) (hi : s.size ≤ i) : W = wordsL s := by
  unfold Spl at h
  rw [spans_end hi] at h
  simpa using h
theorem Spl.len {s : ByteArray} {W : List ByteArray} {i : Nat} (h : Spl s W i) : W.length ≤ s.size := by
  have h1 := wordsL_len s
  unfold Spl at h
  rw [← h, List.length_append] at h1
  omega
theorem SplIn.len {s : ByteArray} {W : List ByteArray} {f i : Nat} (h : SplIn s W f i) : W.length + 1 ≤ s.size := by
  have h1 := wordsL_len s
  unfold SplIn at h
  rw [← h, List.length_append, List.length_cons] at h1
  omega
end Go.Proofs.YtncmhefendhinaaGreatDoor

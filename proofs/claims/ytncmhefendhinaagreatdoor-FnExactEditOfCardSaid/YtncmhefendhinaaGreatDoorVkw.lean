/- PLAIN: the keywords of edits, and what the words behind them stand for. No condition. -/
import Derived.Test.YtncmhefendhinaaGreatDoorVrn
import Derived.Test.YtncmhefendhinaaGreatDoorVer
namespace Go.Proofs.YtncmhefendhinaaGreatDoor
open Go.RowKit Go.PlainAid

def eqW (s : ByteArray) (y : ByteArray) : Bool := y.toList == s.toList
def eqN (s : ByteArray) (y : CeD) : Bool := y.s.toList == s.toList
/-- The number for which a word of a kind stands: 0 a cell, 1 a layer, 2 an orientation, 3 a number, 4 a name. -/
def wN (l : List CeD) (k : Nat) (s : ByteArray) : Int :=
  match k with
  | 0 => idx (eqN s) l
  | 1 => idx (eqW s) layL
  | 2 => idx (eqW s) oriL
  | 3 => (nmV s).getD 0
  | _ => 0
/-- The code of such a word. -/
def wC (l : List CeD) (k : Nat) (s : ByteArray) : Int :=
  match k with
  | 0 => if idx (eqN s) l < 0 then 5 else 0
  | 1 => if idx (eqW s) layL < 0 then 5 else 0
  | 2 => if idx (eqW s) oriL < 0 then 5 else 0
  | 3 => if (nmV s).isSome then 0 else 4
  | _ => if nameB s then 0 else 4
/-- The code of words: the first one that is none. -/
def rwF (l : List CeD) : List Nat → List ByteArray → Int
  | k :: ks, s :: ws => if wC l k s = 0 then rwF l ks ws else wC l k s
  | _, _ => 0
def rwV (l : List CeD) (ks : List Nat) (ws : List ByteArray) : Int := if ws.length = ks.length then rwF l ks ws else 4
def vsV (l : List CeD) (ks : List Nat) (ws : List ByteArray) : List Int := List.zipWith (wN l) ks ws
theorem vsV_len {l : List CeD} {ks : List Nat} {ws : List ByteArray} (h : ws.length = ks.length) : (vsV l ks ws).length = ks.length := by
  rw [vsV, List.length_zipWith, h]; exact Nat.min_self _
theorem vsV_snoc {l : List CeD} {ks : List Nat} {ws : List ByteArray} {i k : Nat} {s : ByteArray} (hk : ks[i]? = some k) (hs : ws[i]? = some s) : vsV l (ks.take (i + 1)) (ws.take (i + 1)) = vsV l (ks.take i) (ws.take i) ++ [wN l k s] := by
  unfold vsV
  rw [take_snoc hk, take_snoc hs, List.zipWith_append]
  · rfl
  · rw [List.length_take, List.length_take]
    have h1 := (List.getElem?_eq_some_iff.1 hk).1
    have h2 := (List.getElem?_eq_some_iff.1 hs).1
    omega
/-- The codes of the first i words are none. -/
def rwI (l : List CeD) (ks : List Nat) (ws : List ByteArray) (i : Nat) : Prop := rwF l ks ws = rwF l (ks.drop i) (ws.drop i)
theorem rwI.start (l : List CeD) (ks : List Nat) (ws : List ByteArray) : rwI l ks ws 0 := rfl
theorem drop_get {α : Type} {l : List α} {i : Nat} {x : α} (h : l[i]? = some x) : l.drop i = x :: l.drop (i + 1) := by
  obtain ⟨hi, rfl⟩ := List.getElem?_eq_some_iff.1 h
  exact List.drop_eq_getElem_cons hi
theorem rwI.step {l : List CeD} {ks : List Nat} {ws : List ByteArray} {i k : Nat} {s : ByteArray} (h : rwI l ks ws i) (hk : ks[i]? = some k) (hs : ws[i]? = some s) (hc : wC l k s = 0) : rwI l ks ws (i + 1) := by
  unfold rwI at *
  rw [h, drop_get hk, drop_get hs, rwF, if_pos hc]
theorem rwI.stop {l : List CeD} {ks : List Nat} {ws : List ByteArray} {i k : Nat} {s : ByteArray} (h : rwI l ks ws i) (hk : ks[i]? = some k) (hs : ws[i]? = some s) (hc : wC l k s ≠ 0) : rwF l ks ws = wC l k s := by
  unfold rwI at h
  rw [h, drop_get hk, drop_get hs, rwF, if_neg hc]
theorem rwI.fin {l : List CeD} {ks : List Nat} {ws : List ByteArray} {i : Nat} (h : rwI l ks ws i) (hi : ks.length ≤ i) : rwF l ks ws = 0 := by
  unfold rwI at h
  rw [h, List.drop_of_length_le hi]
  cases ws.drop i <;> rfl
theorem rwV_at {l : List CeD} {ks : List Nat} {ws : List ByteArray} (h : ws.length = ks.length) : rwV l ks ws = rwF l ks ws := if_pos h
theorem rwV_no {l : List CeD} {ks : List Nat} {ws : List ByteArray} (h : ws.length ≠ ks.length) : rwV l ks ws = 4 := if_neg h

def kwL : List ByteArray := [⟨#[110, 101, 119]⟩, ⟨#[100, 114, 111, 112]⟩, ⟨#[114, 101, 110, 97, 109, 101]⟩, ⟨#[114, 101, 99, 116]⟩, ⟨#[108, 97, 98, 101, 108]⟩, ⟨#[112, 108, 97, 99, 101]⟩, ⟨#[97, 114, 114, 97, 121]⟩, ⟨#[117, 110, 114, 101, 99, 116]⟩, ⟨#[117, 110, 108, 97, 98, 101, 108]⟩, ⟨#[117, 110, 112, 108, 97, 99, 101]⟩]
def kdL : List (List Nat) := [[4], [0], [0, 4], [0, 1, 3, 3, 3, 3], [0, 1, 3, 3, 4], [0, 0, 2, 3, 3], [0, 0, 2, 3, 3, 3, 3, 3, 3], [0, 3], [0, 3], [0, 3]]
def kdJ (j : Nat) : List Nat := (kdL[j]?).getD []
def kwX (s : ByteArray) : Option Nat := kwL.findIdx? fun y => y.data.toList == s.data.toList
def cAt (l : List CeD) (i : Int) : CeD := (l[i.toNat]?).getD ⟨emp, [], [], []⟩
def vAt (v : List Int) (i : Nat) : Int := (v[i]?).getD 0
def sAt (v : List ByteArray) (i : Nat) : ByteArray := (v[i]?).getD emp
/-- The edit of a keyword with its words (behind it) and their values. -/
def mkE (l : List CeD) (j : Nat) (w : List ByteArray) (v : List Int) : EdD :=
  match j with
  | 0 => ⟨8, l.length, 0, sAt w 0, zS, zL, zI⟩
  | 1 => ⟨9, vAt v 0, 0, emp, zS, zL, zI⟩
  | 2 => ⟨7, vAt v 0, 0, sAt w 1, zS, zL, zI⟩
  | 3 => ⟨1, vAt v 0, (cAt l (vAt v 0)).shs.length, emp, ⟨vAt v 1, ⟨vAt v 2, vAt v 3, vAt v 4, vAt v 5⟩⟩, zL, zI⟩
  | 4 => ⟨3, vAt v 0, (cAt l (vAt v 0)).lbs.length, emp, zS, ⟨vAt v 1, ⟨vAt v 2, vAt v 3⟩, sAt w 4⟩, zI⟩
  | 5 => ⟨5, vAt v 0, (cAt l (vAt v 0)).ins.length, emp, zS, zL, ⟨vAt v 1, ⟨vAt v 2, vAt v 3, vAt v 4⟩, 1, 1, 0, 0⟩⟩
  | 6 => ⟨5, vAt v 0, (cAt l (vAt v 0)).ins.length, emp, zS, zL, ⟨vAt v 1, ⟨vAt v 2, vAt v 3, vAt v 4⟩, vAt v 5, vAt v 6, vAt v 7, vAt v 8⟩⟩
  | 7 => ⟨2, vAt v 0, vAt v 1, emp, zS, zL, zI⟩
  | 8 => ⟨4, vAt v 0, vAt v 1, emp, zS, zL, zI⟩
  | _ => ⟨6, vAt v 0, vAt v 1, emp, zS, zL, zI⟩
def zE : EdD := ⟨0, 0, 0, emp, zS, zL, zI⟩
/-- The edit that words describe, and a code. -/
def edV (l : List CeD) : List ByteArray → EdD × Int
  | [] => (zE, 4)
  | k :: ws =>
    match kwX k with
    | none => (zE, 4)
    | some j => if rwV l (kdJ j) ws = 0 then (if edP (mkE l j ws (vsV l (kdJ j) ws)) then (mkE l j ws (vsV l (kdJ j) ws), 0) else (zE, 1)) else (zE, rwV l (kdJ j) ws)
theorem edV_no {l : List CeD} {k : ByteArray} {ws : List ByteArray} (h : kwX k = none) : edV l (k :: ws) = (zE, 4) := by rw [edV, h]
theorem edV_bad {l : List CeD} {k : ByteArray} {ws : List ByteArray} {j : Nat} (h : kwX k = some j) (h2 : rwV l (kdJ j) ws ≠ 0) : edV l (k :: ws) = (zE, rwV l (kdJ j) ws) := by rw [edV, h]; exact if_neg h2
theorem edV_inv {l : List CeD} {k : ByteArray} {ws : List ByteArray} {j : Nat} (h : kwX k = some j) (h2 : rwV l (kdJ j) ws = 0) (h3 : edP (mkE l j ws (vsV l (kdJ j) ws)) = false) : edV l (k :: ws) = (zE, 1) := by rw [edV, h]; simp only [h2, h3, if_true]; rfl
theorem edV_ok {l : List CeD} {k : ByteArray} {ws : List ByteArray} {j : Nat} (h : kwX k = some j) (h2 : rwV l (kdJ j) ws = 0) (h3 : edP (mkE l j ws (vsV l (kdJ j) ws)) = true) : edV l (k :: ws) = (mkE l j ws (vsV l (kdJ j) ws), 0) := by rw [edV, h]; simp only [h2, h3, if_true]
theorem bytes_of_list {s t : ByteArray} (h : s.data.toList = t.data.toList) : s = t := by
  cases s; cases t
  congr 1
  exact Array.toList_inj.1 h
/-- A word is none of the keywords, or one of them. -/
theorem kw_cases (s : ByteArray) : (kwX s = none ∧ ∀ y ∈ kwL, (s.toList == y.toList) = false) ∨ ∃ j, j < 10 ∧ kwL[j]? = some s ∧ kwX s = some j := by
  cases h : kwX s with
  | none =>
    refine Or.inl ⟨rfl, fun y hy => ?_⟩
    unfold kwX at h
    rw [List.findIdx?_eq_none_iff] at h
    have h1 := h y hy
    rw [ByteArray.toList_eq, ByteArray.toList_eq]
    by_cases he : s.data.toList = y.data.toList
    · rw [he] at h1; simp at h1
    · simpa using he
  | some j =>
    refine Or.inr ⟨j, ?_, ?_, rfl⟩
    · unfold kwX at h
      rw [List.findIdx?_eq_some_iff_getElem] at h
      exact h.1
    · unfold kwX at h
      rw [List.findIdx?_eq_some_iff_getElem] at h
      obtain ⟨h1, h2, _⟩ := h
      rw [List.getElem?_eq_getElem h1]
      congr 1
      exact bytes_of_list (by simpa using h2)
end Go.Proofs.YtncmhefendhinaaGreatDoor

/- Drawn lists of blocks; DrawConstraints. Condition: at most 2^20 bytes of code. -/
import Derived.Test.YtnhiepgfgnemkaaDr2
import Derived.Test.YtnhiepgfgnemkaaCri
namespace Go.Proofs.Ytnhiepgfgnemkaa
open Go.RowKit

theorem Mut.own {w w' : World} {B base n size : Nat} {e : TypeId} {v : Value} {xs : List Value} (M : Mut w w' [B]) (hB : B < base) (ho : w.ownsRow base e size v n xs) : w'.ownsRow base e size v n xs :=
  M.grownBy (fun g hg hh => by have := (ho.lt g hg).1; simp at hh; omega) ho
def blkV (v : Value) : List Nat := match v.ownBlock with | some k => [k] | none => []
/-- What holds of the list while it is drawn. -/
def Part (B : Nat) (w wr : World) (v : Value) (out : List Q4) : Prop := Src wr B ∧ Mut w wr [B] ∧ (∀ b ∈ out, Smal b) ∧ wr.ownsRow w.heap.size 49 4 v out.length (out.flatMap enc4)
theorem Part.snoc {B : Nat} {w wr wd wA : World} {v v' : Value} {out : List Q4} {b : Q4} (hB : B < w.heap.size) (h : Part B w wr v out) (hS : Src wd B) (hM : Mut wr wd [B]) (hb : Smal b)
    (hoA : wA.ownsRow w.heap.size 49 4 v' (out.length + 1) (out.flatMap enc4 ++ [.int .i64 b.a, .int .i64 b.b, .int .i64 b.c, .int .i64 b.d])) (hgA : (wd.alloc (.cells #[.int .i64 b.a, .int .i64 b.b, .int .i64 b.c, .int .i64 b.d] 49)).grownBy wA v.ownBlock) : Part B w wA v' (out ++ [b]) := by
  obtain ⟨h1, h2, h3, h4⟩ := h
  have hv : ∀ k, v.ownBlock = some k → w.heap.size ≤ k := fun k hk => (h4.lt k hk).1
  have M1 : Mut wd wA (blkV v) := ⟨hgA.os, hgA.tape, hgA.output, by have := hgA.size; simp at this; omega, fun k hk hn => by
    rw [hgA.block k (by simp; omega) (fun e => hn (by rw [blkV, ← e]; simp))]
    exact Below.heap_alloc _ _ _ hk⟩
  refine ⟨hS.mut M1 (fun k hk => ?_), ((h2.same hM).alloc _).young hv hgA, fun x hx => ?_, ?_⟩
  · have := hv k (by rw [blkV] at hk; cases ho : v.ownBlock with | none => rw [ho] at hk; cases hk | some j => rw [ho] at hk; simp at hk; rw [hk])
    omega
  · rcases List.mem_append.1 hx with hx | hx
    · exact h3 x hx
    · simp at hx; rw [hx]; exact hb
  · rw [List.length_append, List.flatMap_append]; simpa [enc4] using hoA
set_option maxRecDepth 100000 in
set_option maxHeartbeats 8000000 in
theorem drawList_any (B : Nat) (w : World) (hS : Src w B) :
    Calls Try.prog 76 #[.pointer (some ⟨B, 0, none⟩)] w (DrawnL B w.heap.size w) := by
  obtain ⟨i0, hi, hz0, hz1, hz2⟩ := info_parts info_Block
  have hBl := hS.lt
  go_enter Try.func76, Try.ntmps76
  go_wp2_with fail
  have ho0 : (w.alloc (.cells #[] 49)).ownsRow w.heap.size 49 4 (.slice (some ⟨w.heap.size, 0, none⟩) 0 0) 0 [] := by
    have := World.ownsRow_made (base := w.heap.size) (e := 49) (size := 4) w #[] 0 (by simp) (by simp [maxLen]) (by simp)
    exact this
  refine (next_any B 7 _ (hS.ext ((Ext.refl _).alloc _)) (by omega) (by omega)).mono ?_
  rintro e w1 ⟨r1, rfl, h10, h11, S1, M1⟩
  have hP1 : Part B w w1 (.slice (some ⟨w.heap.size, 0, none⟩) 0 0) [] := ⟨S1, (((Ext.refl w).alloc (.cells #[] 49)).mut [B]).same M1, fun b hb => (by cases hb), M1.own hBl ho0⟩
  clear ho0 S1 M1
  obtain ⟨m1, rfl⟩ : ∃ m : Nat, r1 = m := ⟨r1.toNat, by omega⟩
  go_wp2_with fail
  go_loopw [3, 4] (fun v i wr => ∃ (m : Nat) (out : List Q4), i = .int .i64 m ∧ out.length + m ≤ 6 ∧ Part B w wr v out) (fun _ i _ => (intOf i).toNat)
  case atStart => exact ⟨m1, [], rfl, by simp; omega, hP1⟩
  case round =>
    clear hP1 h10 h11
    obtain ⟨m, out, rfl, hlen, hP⟩ := hrel
    by_cases hm : 0 < m
    · have hmI : (0 : Int) < m := by omega
      go_wp2_with fail
      refine (drawBlock_any B _ hP.1).mono ?_
      rintro e wd ⟨b, rfl, hb, Sd, Md⟩
      have hod := Md.own hBl hP.2.2.2
      have hbase : w.heap.size ≤ (wd.alloc (.cells #[.int .i64 b.a, .int .i64 b.b, .int .i64 b.c, .int .i64 b.d] 49)).heap.size := by have := hP.2.1.size; have := Md.size; simp; omega
      have hPd := hid (fun wA v' hoA hgA => Part.snoc (wA := wA) (v' := v') hBl hP Sd Md hb hoA hgA)
      have hwm : IntKind.i64.wrap ((m : Int) - 1) = (m : Int) - 1 := IntWalk.i64_in _ (by omega)
      clear hP Sd Md
      go_wp2_with (at_builtin; refine wpList_append_own_at (o := ⟨some 16, _, _, _, _, _⟩) _ rfl _ _ 26 rfl w.heap.size 49 i0 _ 4 32 Try.underlying26 hi hz0 hz1 hz2 rfl (by omega) _ _ _ rfl (hod.alloc _) ⟨wd.heap.size, 0, none⟩ 1 1 [.int .i64 b.a, .int .i64 b.b, .int .i64 b.c, .int .i64 b.d] rfl rfl (cells_new _ _ _) (one_int4 _ _ _ _) (len_le (by omega) (by omega)) (by omega) hbase ?_; intro v' wA hoA hgA hnA hbA)
      have hPA := hPd.out _ _ hoA hgA
      go_roundw
      case rel => exact ⟨m - 1, out ++ [b], by rw [show ((m - 1 : Nat) : Int) = (m : Int) - 1 by omega], by simp; omega, hPA⟩
      case measure => simp [intOf]; omega
    · have hm0 : m = 0 := by omega
      subst hm0
      obtain ⟨pv, cv, rfl⟩ := owns_forms hP.2.2.2
      go_wp2_with fail
      refine (next_any B 24 _ hP.1 (by omega) (by omega)).mono ?_
      rintro e w2 ⟨r2, rfl, h20, h21, S2, M2⟩
      have hP2 : Part B w w2 (.slice pv out.length cv) out := ⟨S2, hP.2.1.same M2, hP.2.2.1, M2.own hBl hP.2.2.2⟩
      clear hP S2 M2
      by_cases hr0 : r2 = 0
      · subst hr0
        go_wp2_with fail
        go_loopw [3] (fun v wr => ∃ out : List Q4, out.length ≤ 13 ∧ Part B w wr v out) (fun v _ => 14 - sLen v)
        case atStart => exact ⟨out, by omega, hP2⟩
        case round =>
          clear hP2 hlen
          obtain ⟨out, hlen, hP⟩ := hrel
          obtain ⟨pv, cv, rfl⟩ := owns_forms hP.2.2.2
          go_wp2_with fail
          refine (next_any B 3 _ hP.1 (by omega) (by omega)).mono ?_
          rintro e w3 ⟨r3, rfl, h30, h31, S3, M3⟩
          have hP3 : Part B w w3 (.slice pv out.length cv) out := ⟨S3, hP.2.1.same M3, hP.2.2.1, M3.own hBl hP.2.2.2⟩
          clear hP S3 M3
          by_cases hlt : (out.length : Int) < 11 + r3
          · go_wp2_with fail
            refine (drawBlock_any B _ hP3.1).mono ?_
            rintro e wd ⟨b, rfl, hb, Sd, Md⟩
            have hod := Md.own hBl hP3.2.2.2
            have hbase : w.heap.size ≤ (wd.alloc (.cells #[.int .i64 b.a, .int .i64 b.b, .int .i64 b.c, .int .i64 b.d] 49)).heap.size := by have := hP3.2.1.size; have := Md.size; simp; omega
            have hPd := hid (fun wA v' hoA hgA => Part.snoc (wA := wA) (v' := v') hBl hP3 Sd Md hb hoA hgA)
            clear hP3 Sd Md
            go_wp2_with (at_builtin; refine wpList_append_own_at (o := ⟨some 31, _, _, _, _, _⟩) _ rfl _ _ 26 rfl w.heap.size 49 i0 _ 4 32 Try.underlying26 hi hz0 hz1 hz2 rfl (by omega) _ _ _ rfl (hod.alloc _) ⟨wd.heap.size, 0, none⟩ 1 1 [.int .i64 b.a, .int .i64 b.b, .int .i64 b.c, .int .i64 b.d] rfl rfl (cells_new _ _ _) (one_int4 _ _ _ _) (len_le (by omega) (by omega)) (by omega) hbase ?_; intro v' wA hoA hgA hnA hbA)
            have hPA := hPd.out _ _ hoA hgA
            obtain ⟨pA, cA, rfl⟩ := owns_forms hoA
            go_roundw
            case rel => exact ⟨out ++ [b], by simp; omega, hPA⟩
            case measure => simp [sLen]; omega
          · go_wp2_with fail
            go_ret
            exact ⟨pv, cv, out, rfl, by omega, hP3.2.2.1, hP3.2.2.2, hP3.1, hP3.2.1⟩
      · have hd0 : (r2 == 0) = false := by simpa using hr0
        by_cases hr1 : r2 = 1
        · subst hr1
          go_wp2_with fail
          refine (next_any B 402 _ hP2.1 (by omega) (by omega)).mono ?_
          rintro e w3 ⟨r3, rfl, h30, h31, S3, M3⟩
          go_wp2_with fail
          refine (next_any B 42 _ S3 (by omega) (by omega)).mono ?_
          rintro e wd ⟨r4, rfl, h40, h41, S4, M4⟩
          have M34 := M3.same M4
          have hod := M34.own hBl hP2.2.2.2
          have hbase : w.heap.size ≤ (wd.alloc (.cells #[.int .i64 (r3 - 1), .int .i64 3, .int .i64 r4, .int .i64 2] 49)).heap.size := by have := hP2.2.1.size; have := M34.size; simp; omega
          have hPd := hid (fun wA v' hoA hgA => Part.snoc (wA := wA) (v' := v') (b := ⟨r3 - 1, 3, r4, 2⟩) hBl hP2 S4 M34 ⟨⟨by show -1 ≤ r3 - 1; omega, by show r3 - 1 ≤ 401; omega⟩, ⟨by show (-1 : Int) ≤ 3; omega, by show (3 : Int) ≤ 401; omega⟩, ⟨by show -1 ≤ r4; omega, by show r4 ≤ 401; omega⟩, ⟨by show (-1 : Int) ≤ 2; omega, by show (2 : Int) ≤ 401; omega⟩⟩ hoA hgA)
          clear hP2 S3 M3 S4 M4 M34
          go_wp2_with (at_builtin; refine wpList_append_own_at (o := ⟨some 42, _, _, _, _, _⟩) _ rfl _ _ 26 rfl w.heap.size 49 i0 _ 4 32 Try.underlying26 hi hz0 hz1 hz2 rfl (by omega) _ _ _ rfl (hod.alloc _) ⟨wd.heap.size, 0, none⟩ 1 1 [.int .i64 (r3 - 1), .int .i64 3, .int .i64 r4, .int .i64 2] rfl rfl (cells_new _ _ _) (one_int4 _ _ _ _) (len_le (by omega) (by omega)) (by omega) hbase ?_; intro v' wA hoA hgA hnA hbA)
          have hPA := hPd.out _ _ hoA hgA
          obtain ⟨pA, cA, rfl⟩ := owns_forms hoA
          go_ret
          have hL : out.length + 1 = (out ++ [(⟨r3 - 1, 3, r4, 2⟩ : Q4)]).length := by simp
          exact ⟨pA, cA, out ++ [⟨r3 - 1, 3, r4, 2⟩], by simp, by simp; omega, hPA.2.2.1, (by have h4 := hPA.2.2.2; rw [← hL] at h4 ⊢; exact h4), hPA.1, hPA.2.1⟩
        · have hd1 : (r2 == 1) = false := by simpa using hr1
          go_wp2_with fail
          go_ret
          exact ⟨pv, cv, out, rfl, by omega, hP2.2.2.1, hP2.2.2.2, hP2.1, hP2.2.1⟩
set_option maxRecDepth 100000 in
set_option maxHeartbeats 1000000 in
theorem drawConstraints_any (q : Option Addr) (n c : Nat) (l : List Int) (w : World) (h : SlT encU 1 w q n l) (hu : ∀ x ∈ l, 0 ≤ x ∧ x ≤ 255) (hn : n ≤ 1048576) :
    Calls Try.prog 73 #[.slice q n c] w fun e w' => ∃ (p : Option Addr) (d : Nat) (bl : List Q4) (g : Int), e = .returned (.tuple #[.slice p bl.length d, .int .i64 g]) ∧ bl.length ≤ 14 ∧ (∀ b ∈ bl, Smal b) ∧ -1 ≤ g ∧ g ≤ 9 ∧ SlT enc4 4 w' p bl.length bl ∧ Ext w w' := by
  go_enter Try.func73, Try.ntmps73
  go_wp2_with fail
  refine (from_any q n c l _ h hu hn).mono ?_
  rintro e w1 ⟨B, rfl, hwB, S1, E1⟩
  go_wp2_with fail
  refine (drawList_any B _ S1).mono ?_
  rintro e w2 ⟨p, d, bl, rfl, hl, hs, ho, S2, M2⟩
  go_wp2_with fail
  refine (drawGap_any B _ S2).mono ?_
  rintro e w3 ⟨g, rfl, hg0, hg1, S3, M3⟩
  go_wp2_with fail
  go_ret2
  exact ⟨p, d, bl, g, rfl, hl, hs, hg0, hg1, SlT.of_owns enc4_len rfl (M3.own S1.lt ho), E1.then (M2.same M3) (by intro k hk; simp at hk; omega)⟩
end Go.Proofs.Ytnhiepgfgnemkaa

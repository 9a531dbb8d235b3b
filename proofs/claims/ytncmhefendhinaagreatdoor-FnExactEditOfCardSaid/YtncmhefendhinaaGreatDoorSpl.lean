/- SplitColumns, program and reference: the words of a line. Condition: at most 2^20 bytes. -/
import Derived.Test.YtncmhefendhinaaGreatDoorVsp
import Derived.Test.YtncmhefendhinaaGreatDoorVlb
import Derived.Maps.AppendAt
namespace Go.Proofs.YtncmhefendhinaaGreatDoor
open Go.RowKit Go.PlainAid

theorem at_dst2 (d : Tmp) {P : Program} {ops : Array Oper} {rest : List Oper} {o : Op} {ty : TypeId} {po : String} {af : Array Edge} {gd : Option (Nat × Bool)} {a : Act} {w : World} {Q : Exit → Act → World → Prop} (h : wpList P ops Q (⟨some d, o, ty, po, af, gd⟩ :: rest) a w) : wpList P ops Q (⟨some d, o, ty, po, af, gd⟩ :: rest) a w := h
def encW (s : ByteArray) : List Value := [.string s]
theorem encW_len (s : ByteArray) : (encW s).length = 1 := rfl
theorem okStr : Rok (Fl encW) 1 := Fl.ok encW_len
theorem info_Str : (Tryz.prog.info? 9).map (fun i => (i.zero, i.size, i.bytes)) = some (some (.string ⟨#[]⟩), 1, 16) := by kernel_rfl
theorem info_I6 : (Tryz.prog.info? 2).map (fun i => (i.zero, i.size, i.bytes)) = some (some (.int .i64 0), 1, 8) := by kernel_rfl
theorem one_str (s : ByteArray) : ∀ u ∈ [Value.string s], u.oneCell' = true := fun u hu => by simp at hu; subst hu; rfl
theorem one_i64 (v : Int) : ∀ u ∈ [Value.int .i64 v], u.oneCell' = true := fun u hu => by simp at hu; subst hu; rfl
theorem cells_v (w : World) (v : Value) (t : TypeId) : ∀ j u, [v][j]? = some u → (w.alloc (.cells #[v] t)).cell? ((⟨w.heap.size, 0, none⟩ : Addr).add j) = some u := fun j u hu => by
  have h := (Blk.new w [v] t).cells j
  rw [Addr.add_lit, Nat.zero_add]
  exact h.trans hu
theorem owns_forms2 {w : World} {base size n : Nat} {e : TypeId} {v : Value} {xs : List Value} (h : w.ownsRow base e size v n xs) : ∃ q c, v = .slice q n c := by
  rcases Joins.ownsRow_forms h with ⟨rfl, rfl⟩ | ⟨g, c, rfl⟩
  · exact ⟨_, _, rfl⟩
  · exact ⟨_, _, rfl⟩
theorem owns_cap {w : World} {base size n c : Nat} {e : TypeId} {q : Option Addr} {xs : List Value} (h : w.ownsRow base e size (.slice q n c) n xs) : n ≤ c := by
  rcases h.2 with ⟨h1, h2⟩ | ⟨g, cap, cur, h1, _, _, h3, _⟩
  · omega
  · cases h1; exact h3
theorem grown_own2 {w wA : World} {o : Obj} {v v2 : Value} {base size n : Nat} {e : TypeId} {xs : List Value} (hg : (w.alloc o).grownBy wA v.ownBlock) (h : w.ownsRow base e size v2 n xs) (hne : ∀ k, v.ownBlock = some k → v2.ownBlock ≠ some k) : wA.ownsRow base e size v2 n xs := by
  have h2 := owns_ext h ((Ext.refl w).alloc o)
  have hM : Mut (w.alloc o) wA (match v.ownBlock with | some k => [k] | none => []) := ⟨hg.os, hg.tape, hg.output, hg.size, fun k hk hn => hg.block k hk (fun e => hn (by rw [← e]; simp))⟩
  refine hM.grownBy (fun g hg2 hh => ?_) h2
  cases hv : v.ownBlock with
  | none => rw [hv] at hh; cases hh
  | some k => rw [hv] at hh; simp at hh; subst hh; exact hne g hv hg2
/-- The words and the columns that are laid so far. -/
structure WdP (w wr : World) (v1 v2 : Value) (W : List ByteArray) (C : List Int) : Prop where
  ext : Ext w wr
  o1 : wr.ownsRow w.heap.size 9 1 v1 W.length (W.flatMap encW)
  o2 : wr.ownsRow w.heap.size 2 1 v2 C.length (C.flatMap enc1)
  ne : ∀ k, v1.ownBlock = some k → v2.ownBlock = some k → False
theorem WdP.push1 {w wr wA : World} {v1 v2 v' : Value} {W : List ByteArray} {C : List Int} {x : ByteArray} {o : Obj} (h : WdP w wr v1 v2 W C) (hoA : wA.ownsRow w.heap.size 9 1 v' (W.length + 1) (W.flatMap encW ++ [.string x])) (hgA : (wr.alloc o).grownBy wA v1.ownBlock) (hbA : v'.ownBlock = v1.ownBlock ∨ v'.ownBlock = some (wr.alloc o).heap.size) : WdP w wA v' v2 (W ++ [x]) C := by
  refine ⟨(h.ext.alloc o).grown hgA (fun k hk => (h.o1.lt k hk).1), ?_, grown_own2 hgA h.o2 (fun k hk hk2 => h.ne k hk hk2), fun k hk hk2 => ?_⟩
  · rw [List.length_append, List.flatMap_append]; exact hoA
  · rcases hbA with e | e
    · exact h.ne k (e ▸ hk) hk2
    · rw [e] at hk
      have := (h.o2.lt k hk2).2
      simp at hk; omega
theorem WdP.push2 {w wr wA : World} {v1 v2 v' : Value} {W : List ByteArray} {C : List Int} {x : Int} {o : Obj} (h : WdP w wr v1 v2 W C) (hoA : wA.ownsRow w.heap.size 2 1 v' (C.length + 1) (C.flatMap enc1 ++ [.int .i64 x])) (hgA : (wr.alloc o).grownBy wA v2.ownBlock) (hbA : v'.ownBlock = v2.ownBlock ∨ v'.ownBlock = some (wr.alloc o).heap.size) : WdP w wA v1 v' W (C ++ [x]) := by
  refine ⟨(h.ext.alloc o).grown hgA (fun k hk => (h.o2.lt k hk).1), grown_own2 hgA h.o1 (fun k hk hk2 => h.ne k hk2 hk), ?_, fun k hk hk2 => ?_⟩
  · rw [List.length_append, List.flatMap_append]; exact hoA
  · rcases hbA with e | e
    · exact h.ne k hk (e ▸ hk2)
    · rw [e] at hk2
      have := (h.o1.lt k hk).2
      simp at hk2; omega
theorem WdP.start (w : World) : WdP w ((w.alloc (.cells #[] 9)).alloc (.cells #[] 2)) (.slice (some ⟨w.heap.size, 0, none⟩) 0 0) (.slice (some ⟨w.heap.size + 1, 0, none⟩) 0 0) [] [] := by
  have h1 := World.ownsRow_lit (base := w.heap.size) (e := 9) (size := 1) w #[] 0 (Nat.le_refl _) (by simp [maxLen]) (by simp)
  have h2 := World.ownsRow_lit (base := w.heap.size) (e := 2) (size := 1) (w.alloc (.cells #[] 9)) #[] 0 (by simp) (by simp [maxLen]) (by simp)
  rw [World.size_alloc] at h2
  exact ⟨((Ext.refl w).alloc _).alloc _, h1.alloc _, h2, fun k hk hk2 => by simp [Value.ownBlock] at hk hk2; omega⟩
theorem len_m {k m : Nat} (h : k ≤ 1048576) (hm : m ≤ 1048576) : k + m ≤ maxLen := by unfold maxLen; omega

set_option maxRecDepth 100000 in
set_option maxHeartbeats 4000000 in
theorem pSplit_any (s : ByteArray) (w : World) (hs : s.size ≤ 1048576) :
    Calls Tryz.prog 16 #[.string s] w fun e w' => ∃ q c v2, e = .returned (.tuple #[.slice q (wordsL s).length c, v2]) ∧ SlD (Fl encW) 1 w.heap.size w' q (wordsL s).length (wordsL s) ∧ Ext w w' ∧ (wordsL s).length ≤ c := by
  have hbt := get_bt s
  obtain ⟨i0, hi, hz0, hz1, hz2⟩ := info_parts info_Str
  obtain ⟨j0, hj, hy0, hy1, hy2⟩ := info_parts info_I6
  go_enter Tryz.func16, Tryz.ntmps16
  go_upto_region 2 with (fail)
  have hP := hid (WdP.start w)
  generalize World.alloc (World.alloc w _) _ = W0 at hP ⊢
  go_wp2_with (fail)
  go_loopw [4, 5, 6, 7] (fun v1 v2 i _ wr => ∃ (k : Nat) (W : List ByteArray) (C : List Int), i = .int .i64 k ∧ k ≤ s.size ∧ Hid (Spl s W k) ∧ Hid (C.length = W.length) ∧ Hid (WdP w wr v1 v2 W C)) (fun _ _ i _ _ => s.size - (intOf i).toNat)
  case atStart => exact ⟨0, [], [], rfl, by omega, Spl.start s, rfl, hP⟩
  case round =>
    clear hP
    obtain ⟨k, W, C, rfl, hk, hsp, hC, hP⟩ := hrel
    obtain ⟨q1, c1, rfl⟩ := owns_forms2 hP.out.o1
    obtain ⟨q2, c2, rfl⟩ := owns_forms2 hP.out.o2
    by_cases hlt : k < s.size
    · have hltI : (k : Int) < s.size := by omega
      by_cases hb : bt s k = 32
      · have hS := hid (hsp.out.blank hlt hb)
        go_wp2
        go_roundw
        case rel => exact ⟨k + 1, W, C, by go_num, by omega, hS, hC, hP⟩
        case measure => simp [intOf]; omega
      · have hb2 : (bt s k == 32) = false := by simpa using hb
        have hin0 := hid (hsp.out.enter hlt hb)
        go_wp2
        go_loopw [7] (fun e wx => ∃ j : Nat, e = .int .i64 j ∧ k ≤ j ∧ j ≤ s.size ∧ Hid (SplIn s W k j) ∧ wx = wr ∧ Hid (j = k → bt s k ≠ 32)) (fun e _ => s.size - (intOf e).toNat)
        case atStart => exact ⟨k, rfl, by omega, by omega, hin0, by first | rfl | trivial, fun _ => hb⟩
        case round =>
          clear hin0
          obtain ⟨j, rfl, hj1, hj2, hin, rfl, hjk⟩ := hrel
          by_cases hjl : j < s.size
          · have hjI : (j : Int) < s.size := by omega
            by_cases hbj : bt s j = 32
            · have hkj : k < j := by
                rcases Nat.lt_or_ge k j with h | h
                · exact h
                · exact absurd (show bt s k = 32 by rw [show k = j by omega]; exact hbj) (hjk.out (by omega))
              have hstop : Hid (¬ (j < s.size ∧ bt s j ≠ 32)) := fun hh => hh.2 hbj
              have hbj2 : (bt s j != 32) = false := by simp [hbj]
              have hkI : (k : Int) < j := by omega
              have hS := hid (hin.out.leave hstop.out)
              have hWl := hid (Nat.le_trans (Nat.le_of_succ_le hin.out.len) hs)
              have hCl : Hid (C.length ≤ 1048576) := by show _ ≤ _; rw [hC.out]; exact hWl.out
              go_upto_region 10 with (first | (at_builtin; (with_reducible refine at_dst2 39 ?_); refine wpList_append_own_at _ rfl _ _ 51 rfl w.heap.size 9 i0 (.string ⟨#[]⟩) 1 16 Tryz.underlying51 hi hz0 hz1 hz2 rfl (by omega) _ _ _ rfl (hP.out.o1.alloc _) ⟨_, 0, none⟩ 1 1 [.string (s.extract k j)] rfl rfl (cells_v _ _ _) (one_str _) (len_m hWl.out (by omega)) (by have := hWl.out; omega) (by have := hP.out.ext.le; simp; omega) ?_; intro v' wA hoA hgA hnA hbA; obtain ⟨qA, cA, rfl⟩ := owns_forms2 hoA; have hP2 := hid (hP.out.push1 hoA hgA hbA); clear hoA hgA hnA hbA) | (at_builtin; (with_reducible refine at_dst2 44 ?_); refine wpList_append_own_at _ rfl _ _ 52 rfl w.heap.size 2 j0 (.int .i64 0) 1 8 Tryz.underlying52 hj hy0 hy1 hy2 rfl (by omega) _ _ _ rfl (hP2.out.o2.alloc _) ⟨_, 0, none⟩ 1 1 [.int .i64 ((k : Int) + 1)] rfl rfl (cells_v _ _ _) (one_i64 _) (len_m hCl.out (by omega)) (by have := hCl.out; omega) (by have := hP2.out.ext.le; simp; omega) ?_; intro v' wB hoB hgB hnB hbB; obtain ⟨qB, cB, rfl⟩ := owns_forms2 hoB; have hP3 := hid (hP2.out.push2 hoB hgB hbB); clear hoB hgB hnB hbB))
              go_wp2_with (fail)
              go_roundw
              case rel => exact ⟨j, _, _, rfl, hj2, hS, by show _ = _; rw [List.length_append, List.length_append, hC.out]; rfl, hP3⟩
              case measure => simp [intOf]; omega
            · have hbj2 : (bt s j == 32) = false := by simpa using hbj
              have hS := hid (hin.out.step hjl hbj)
              go_wp2
              go_roundw
              case rel => exact ⟨j + 1, by go_num, by omega, by omega, hS, by first | rfl | trivial, fun hh => by omega⟩
              case measure => simp [intOf]; omega
          · have hkj : k < j := by omega
            have hstop : Hid (¬ (j < s.size ∧ bt s j ≠ 32)) := fun hh => hjl hh.1
            have hkI : (k : Int) < j := by omega
            have hS := hid (hin.out.leave hstop.out)
            have hWl := hid (Nat.le_trans (Nat.le_of_succ_le hin.out.len) hs)
            have hCl : Hid (C.length ≤ 1048576) := by show _ ≤ _; rw [hC.out]; exact hWl.out
            go_upto_region 10 with (first | (at_builtin; (with_reducible refine at_dst2 39 ?_); refine wpList_append_own_at _ rfl _ _ 51 rfl w.heap.size 9 i0 (.string ⟨#[]⟩) 1 16 Tryz.underlying51 hi hz0 hz1 hz2 rfl (by omega) _ _ _ rfl (hP.out.o1.alloc _) ⟨_, 0, none⟩ 1 1 [.string (s.extract k j)] rfl rfl (cells_v _ _ _) (one_str _) (len_m hWl.out (by omega)) (by have := hWl.out; omega) (by have := hP.out.ext.le; simp; omega) ?_; intro v' wA hoA hgA hnA hbA; obtain ⟨qA, cA, rfl⟩ := owns_forms2 hoA; have hP2 := hid (hP.out.push1 hoA hgA hbA); clear hoA hgA hnA hbA) | (at_builtin; (with_reducible refine at_dst2 44 ?_); refine wpList_append_own_at _ rfl _ _ 52 rfl w.heap.size 2 j0 (.int .i64 0) 1 8 Tryz.underlying52 hj hy0 hy1 hy2 rfl (by omega) _ _ _ rfl (hP2.out.o2.alloc _) ⟨_, 0, none⟩ 1 1 [.int .i64 ((k : Int) + 1)] rfl rfl (cells_v _ _ _) (one_i64 _) (len_m hCl.out (by omega)) (by have := hCl.out; omega) (by have := hP2.out.ext.le; simp; omega) ?_; intro v' wB hoB hgB hnB hbB; obtain ⟨qB, cB, rfl⟩ := owns_forms2 hoB; have hP3 := hid (hP2.out.push2 hoB hgB hbB); clear hoB hgB hnB hbB))
            go_wp2_with (fail)
            go_roundw
            case rel => exact ⟨j, _, _, rfl, hj2, hS, by show _ = _; rw [List.length_append, List.length_append, hC.out]; rfl, hP3⟩
            case measure => simp [intOf]; omega
    · have hW : W = wordsL s := hsp.out.fin (by omega)
      have h8 := hP.out.o1
      have h9 := hP.out.ext
      go_wp2_with (fail)
      go_ret2
      subst hW
      exact ⟨q1, c1, _, rfl, SlD.of_owns encW_len rfl h8, h9, owns_cap h8⟩

set_option maxRecDepth 100000 in
set_option maxHeartbeats 4000000 in
theorem rSplit_any (s : ByteArray) (w : World) (hs : s.size ≤ 1048576) :
    Calls Tryz.prog 12 #[.string s] w fun e w' => ∃ q c v2, e = .returned (.tuple #[.slice q (wordsL s).length c, v2]) ∧ SlD (Fl encW) 1 w.heap.size w' q (wordsL s).length (wordsL s) ∧ Ext w w' ∧ (wordsL s).length ≤ c := by
  have hbt := get_bt s
  obtain ⟨i0, hi, hz0, hz1, hz2⟩ := info_parts info_Str
  obtain ⟨j0, hj, hy0, hy1, hy2⟩ := info_parts info_I6
  go_enter Tryz.func12, Tryz.ntmps12
  go_upto_region 3 with (fail)
  have hP := hid (WdP.start w)
  generalize World.alloc (World.alloc w _) _ = W0 at hP ⊢
  go_wp2_with (fail)
  go_loopw [4, 5, 6, 7, 8] (fun v1 v2 f i _ wr => ∃ (k : Nat) (W : List ByteArray) (C : List Int) (fr : Int), i = .int .i64 k ∧ k ≤ s.size + 1 ∧ f = .int .i64 fr ∧ Hid ((fr = -1 ∧ Spl s W k) ∨ ∃ g : Nat, fr = g ∧ g < k ∧ k ≤ s.size ∧ SplIn s W g k) ∧ Hid (C.length = W.length) ∧ Hid (WdP w wr v1 v2 W C)) (fun _ _ _ i _ _ => s.size + 1 - (intOf i).toNat)
  case atStart => exact ⟨0, [], [], -1, rfl, by omega, rfl, Or.inl ⟨rfl, Spl.start s⟩, rfl, hP⟩
  case round =>
    clear hP
    obtain ⟨k, W, C, fr, rfl, hk, rfl, hst, hC, hP⟩ := hrel
    obtain ⟨q1, c1, rfl⟩ := owns_forms2 hP.out.o1
    obtain ⟨q2, c2, rfl⟩ := owns_forms2 hP.out.o2
    by_cases hle : k ≤ s.size
    · have hleI : (k : Int) ≤ s.size := by omega
      rcases hst.out with ⟨rfl, hsp⟩ | ⟨g, rfl, hgk, _, hin⟩
      · clear hst
        replace hsp := hid hsp
        by_cases hlt : k < s.size
        · have hltI : (k : Int) < s.size := by omega
          have hne : ¬ ((k : Int) = s.size) := by omega
          have hneB : ((k : Int) == (s.size : Int)) = false := by simpa using hne
          by_cases hb : bt s k = 32
          · have hS := hid (hsp.out.blank hlt hb)
            go_wp2
            go_roundw
            case rel => exact ⟨k + 1, W, C, -1, by go_num, by omega, rfl, Or.inl ⟨rfl, hS.out⟩, hC, hP⟩
            case measure => simp [intOf]; omega
          · have hb2 : (bt s k == 32) = false := by simpa using hb
            have hS := hid ((hsp.out.enter hlt hb).step hlt hb)
            go_wp2
            go_roundw
            case rel => exact ⟨k + 1, W, C, (k : Int), by go_num, by omega, rfl, Or.inr ⟨k, rfl, by omega, by omega, hS.out⟩, hC, hP⟩
            case measure => simp [intOf]; omega
        · have hS := hid (hsp.out.past (by omega))
          have heq : (k : Int) = s.size := by omega
          obtain ⟨K, hK⟩ : ∃ K : Nat, K = k := ⟨k, rfl⟩
          obtain rfl : k = s.size := by omega
          clear hK heq
          obtain ⟨k, hk9⟩ : ∃ k : Nat, k = s.size := ⟨_, rfl⟩
          go_wp2
          go_roundw
          case rel => exact ⟨s.size + 1, W, C, -1, by go_num, by omega, rfl, Or.inl ⟨rfl, hS.out⟩, hC, hP⟩
          case measure => simp [intOf]
      · clear hst
        replace hin := hid hin
        have hgI : (0 : Int) ≤ g := by omega
        have hgkI : (g : Int) < k := by omega
        by_cases hlt : k < s.size
        · have hltI : (k : Int) < s.size := by omega
          have hne : ¬ ((k : Int) = s.size) := by omega
          have hneB : ((k : Int) == (s.size : Int)) = false := by simpa using hne
          by_cases hb : bt s k = 32
          · have hstop : Hid (¬ (k < s.size ∧ bt s k ≠ 32)) := fun hh => hh.2 hb
            have hS0 := hin.out.leave hstop.out
            have hS := hid (hS0.blank hlt hb)
            clear hS0
            have hWl := hid (Nat.le_trans (Nat.le_of_succ_le hin.out.len) hs)
            have hCl : Hid (C.length ≤ 1048576) := by show _ ≤ _; rw [hC.out]; exact hWl.out
            go_wp2_with (first | (at_builtin; (with_reducible refine at_dst2 45 ?_); refine wpList_append_own_at _ rfl _ _ 51 rfl w.heap.size 9 i0 (.string ⟨#[]⟩) 1 16 Tryz.underlying51 hi hz0 hz1 hz2 rfl (by omega) _ _ _ rfl (hP.out.o1.alloc _) ⟨_, 0, none⟩ 1 1 [.string (s.extract g k)] rfl rfl (cells_v _ _ _) (one_str _) (len_m hWl.out (by omega)) (by have := hWl.out; omega) (by have := hP.out.ext.le; simp; omega) ?_; intro v' wA hoA hgA hnA hbA; obtain ⟨qA, cA, rfl⟩ := owns_forms2 hoA; have hP2 := hid (hP.out.push1 hoA hgA hbA); clear hoA hgA hnA hbA) | (at_builtin; (with_reducible refine at_dst2 50 ?_); refine wpList_append_own_at _ rfl _ _ 52 rfl w.heap.size 2 j0 (.int .i64 0) 1 8 Tryz.underlying52 hj hy0 hy1 hy2 rfl (by omega) _ _ _ rfl (hP2.out.o2.alloc _) ⟨_, 0, none⟩ 1 1 [.int .i64 ((g : Int) + 1)] rfl rfl (cells_v _ _ _) (one_i64 _) (len_m hCl.out (by omega)) (by have := hCl.out; omega) (by have := hP2.out.ext.le; simp; omega) ?_; intro v' wB hoB hgB hnB hbB; obtain ⟨qB, cB, rfl⟩ := owns_forms2 hoB; have hP3 := hid (hP2.out.push2 hoB hgB hbB); clear hoB hgB hnB hbB))
            go_roundw
            case rel => exact ⟨k + 1, _, _, -1, by go_num, by omega, rfl, Or.inl ⟨rfl, hS.out⟩, by show _ = _; rw [List.length_append, List.length_append, hC.out]; rfl, hP3⟩
            case measure => simp [intOf]; omega
          · have hb2 : (bt s k == 32) = false := by simpa using hb
            have hS := hid (hin.out.step hlt hb)
            go_wp2
            go_roundw
            case rel => exact ⟨k + 1, W, C, (g : Int), by go_num, by omega, rfl, Or.inr ⟨g, rfl, by omega, by omega, hS.out⟩, hC, hP⟩
            case measure => simp [intOf]; omega
        · have hstop : Hid (¬ (k < s.size ∧ bt s k ≠ 32)) := fun hh => hlt hh.1
          have heq : (k : Int) = s.size := by omega
          have heqB : ((k : Int) == (s.size : Int)) = true := by simpa using heq
          replace heq := hid heq
          have hS0 := hin.out.leave hstop.out
          have hS := hid (hS0.past (by omega))
          clear hS0
          have hWl := hid (Nat.le_trans (Nat.le_of_succ_le hin.out.len) hs)
          have hCl : Hid (C.length ≤ 1048576) := by show _ ≤ _; rw [hC.out]; exact hWl.out
          go_wp2_with (first | (at_builtin; (with_reducible refine at_dst2 45 ?_); refine wpList_append_own_at _ rfl _ _ 51 rfl w.heap.size 9 i0 (.string ⟨#[]⟩) 1 16 Tryz.underlying51 hi hz0 hz1 hz2 rfl (by omega) _ _ _ rfl (hP.out.o1.alloc _) ⟨_, 0, none⟩ 1 1 [.string (s.extract g k)] rfl rfl (cells_v _ _ _) (one_str _) (len_m hWl.out (by omega)) (by have := hWl.out; omega) (by have := hP.out.ext.le; simp; omega) ?_; intro v' wA hoA hgA hnA hbA; obtain ⟨qA, cA, rfl⟩ := owns_forms2 hoA; have hP2 := hid (hP.out.push1 hoA hgA hbA); clear hoA hgA hnA hbA) | (at_builtin; (with_reducible refine at_dst2 50 ?_); refine wpList_append_own_at _ rfl _ _ 52 rfl w.heap.size 2 j0 (.int .i64 0) 1 8 Tryz.underlying52 hj hy0 hy1 hy2 rfl (by omega) _ _ _ rfl (hP2.out.o2.alloc _) ⟨_, 0, none⟩ 1 1 [.int .i64 ((g : Int) + 1)] rfl rfl (cells_v _ _ _) (one_i64 _) (len_m hCl.out (by omega)) (by have := hCl.out; omega) (by have := hP2.out.ext.le; simp; omega) ?_; intro v' wB hoB hgB hnB hbB; obtain ⟨qB, cB, rfl⟩ := owns_forms2 hoB; have hP3 := hid (hP2.out.push2 hoB hgB hbB); clear hoB hgB hnB hbB))
          go_roundw
          case rel => exact ⟨k + 1, _, _, -1, by go_num, by omega, rfl, Or.inl ⟨rfl, hS.out⟩, by show _ = _; rw [List.length_append, List.length_append, hC.out]; rfl, hP3⟩
          case measure => simp [intOf]; omega
    · have hW : W = wordsL s := by
        rcases hst.out with ⟨_, hsp⟩ | ⟨g, _, _, hk2, _⟩
        · exact hsp.fin (by omega)
        · omega
      have h8 := hP.out.o1
      have h9 := hP.out.ext
      go_wp2_with (fail)
      go_ret2
      subst hW
      exact ⟨q1, c1, _, rfl, SlD.of_owns encW_len rfl h8, h9, owns_cap h8⟩

end Go.Proofs.YtncmhefendhinaaGreatDoor

/- Contract of colored (program). Condition: a table of at most 20 rows, each as long as it has rows. -/
import Derived.Test.YtaigndaabmelhaaCol
import Derived.Test.YtaigndaabmelhaaArm
namespace Go.Proofs.Ytaigndaabmelhaa
open Go.RowKit

def cI (c : Nat → Int) (n : Nat) : List Value := (List.range n).map fun (x : Nat) => Value.int .i64 (c x)
theorem cI_len (c : Nat → Int) (n : Nat) : (cI c n).length = n := by simp [cI]
theorem cI_get (c : Nat → Int) {n j : Nat} (h : j < n) : (cI c n)[j]? = some (.int .i64 (c j)) := by rw [cI, List.getElem?_map, List.getElem?_range h]; rfl
theorem cI_ext {c d : Nat → Int} {n : Nat} (h : ∀ x, x < n → c x = d x) : cI c n = cI d n := List.map_congr_left fun x hx => by rw [h x (List.mem_range.1 hx)]
theorem cI_set (c : Nat → Int) {n j : Nat} (v : Int) (h : j < n) : (cI c n).set j (.int .i64 v) = cI (updN c j v) n := by
  apply List.ext_getElem?
  intro i
  rw [List.getElem?_set]
  by_cases hi : i < n
  · rw [cI_get _ hi, cI_get _ hi]
    by_cases e : j = i
    · subst e; rw [if_pos rfl, if_pos (by rw [cI_len]; exact h), updN_same]
    · rw [if_neg e, updN_ne _ _ (fun h => e h.symm)]
  · rw [List.getElem?_eq_none (by rw [cI_len]; omega), List.getElem?_eq_none (by rw [cI_len]; omega), if_neg (by omega)]
theorem cI_enc (c : Nat → Int) (n : Nat) : cI c n = ((List.range n).map c).flatMap enc1 := by rw [flat1, List.map_map]; rfl
def encN (x : Nat) : List Value := [.int .i64 (x : Int)]
theorem encN_len (x : Nat) : (encN x).length = 1 := rfl
theorem SlT.nat {w : World} {p : Option Addr} {n : Nat} {l : List Nat} (h : SlT encN 1 w p n l) {k : Nat} (hk : k < n) :
    ∃ b off x, p = some ⟨b, off, none⟩ ∧ b < w.heap.size ∧ Hid (l[k]? = some x) ∧ w.cell? ⟨b, off + k, none⟩ = some (.int .i64 (x : Nat)) := by
  obtain ⟨b, off, x, h1, h2, h3, h4⟩ := h.get hk
  exact ⟨b, off, x, h1, h2, h3, by have := h4 0 _ rfl; simpa using this⟩
section
variable {T : List (List Bool)} {n : Nat}
theorem mem_cbfs {s : CS} {x : Nat} (h : x ∈ s.2) : ∀ k, x ∈ (cbfs T n k s).2
  | 0 => h
  | k + 1 => by
    cases hi : (cbfs T n k s).2[k]? with
    | some i => rw [cbfs_go hi]; exact mem_crow (mem_cbfs h k) n
    | none =>
      have e : cbfs T n (k + 1) s = cbfs T n k s := by rw [cbfs, hi]
      rw [e]; exact mem_cbfs h k
theorem pre_cst (i j : Nat) (s : CS) : ∃ t, (cst T i j s).2 = s.2 ++ t := by
  by_cases hh : (edg T i j && decide (s.1 j < 0)) = true
  · rw [Bool.and_eq_true, decide_eq_true_eq] at hh
    rw [cst_hit hh.1 hh.2]; exact ⟨[j], rfl⟩
  · rw [cst, if_neg hh]; exact ⟨[], by simp⟩
theorem pre_crow (i : Nat) (s : CS) : ∀ m, ∃ t, (crow T i m s).2 = s.2 ++ t
  | 0 => ⟨[], by simp [crow]⟩
  | m + 1 => by
    obtain ⟨t, ht⟩ := pre_crow i s m
    obtain ⟨t2, ht2⟩ := pre_cst (T := T) i m (crow T i m s)
    exact ⟨t ++ t2, by rw [crow, ht2, ht, List.append_assoc]⟩
theorem lead_final {m k i j : Nat} (hm : m < n) (hc : ¬ 0 ≤ ccol T n m m) (hk : k ≤ n) (hj : j ≤ n) (hi : (cbfs T n k (updN (ccol T n m) m 0, [m])).2[k]? = some i) :
    Lead (crow T i j (cbfs T n k (updN (ccol T n m) m 0, [m]))).1 (ccol T n n) := by
  have h1 := lead_crow (T := T) i (cbfs T n k (updN (ccol T n m) m 0, [m])) j (n - j)
  rw [show j + (n - j) = n by omega, ← cbfs_go hi] at h1
  have h2 := lead_cbfs (T := T) (n := n) (updN (ccol T n m) m 0, [m]) (k + 1) (n - k)
  rw [show k + 1 + (n - k) = n + 1 by omega] at h2
  have e : ccol T n (m + 1) = (cbfs T n (n + 1) (updN (ccol T n m) m 0, [m])).1 := by rw [ccol, if_neg hc]
  rw [← e] at h2
  have h3 := lead_ccol (T := T) (n := n) (m + 1) (n - (m + 1))
  rw [show m + 1 + (n - (m + 1)) = n by omega] at h3
  exact (h1.trans h2).trans h3
/-- At the end of one search. -/
theorem bfs_end {m k : Nat} {s : CS} (hs : s = cbfs T n k (updN (ccol T n m) m 0, [m])) (hl : s.2.length ≤ k) (hk : k ≤ n) (hc : ¬ 0 ≤ ccol T n m m) : ccol T n (m + 1) = s.1 := by
  have h1 := cbfs_stop (T := T) (n := n) (s := (updN (ccol T n m) m 0, [m])) (k := k) (by rw [← hs]; exact hl) (n + 1 - k)
  rw [show k + (n + 1 - k) = n + 1 by omega] at h1
  rw [ccol, if_neg hc, h1, ← hs]
theorem bfs_done {m k : Nat} {s : CS} (hs : s = cbfs T n k (updN (ccol T n m) m 0, [m])) (hl : s.2.length ≤ k) (hD : ∀ t, t < k → ∀ i, s.2[t]? = some i → Done T n i) (hm : ∀ x, x < n → 0 ≤ ccol T n m x → Done T n x) :
    ∀ x, x < n → 0 ≤ s.1 x → Done T n x := by
  intro x hx h0
  have hq : ∀ y, y ∈ s.2 → Done T n y := fun y hy => by
    obtain ⟨t, ht⟩ := List.getElem?_of_mem hy
    exact hD t (by have := (List.getElem?_eq_some_iff.1 ht).1; omega) y ht
  rw [hs] at h0
  rcases from_cbfs k h0 with h | h
  · have h : 0 ≤ updN (ccol T n m) m 0 x := h
    by_cases e : x = m
    · subst e
      exact hq _ (by rw [hs]; exact mem_cbfs (by simp) k)
    · rw [updN_ne _ _ e] at h
      exact hm x hx h
  · exact hq x (by rw [hs]; exact h)
end
def clL (T : List (List Bool)) (n : Nat) : List Int := if okC T n = true then (List.range n).map (ccol T n n) else []
def ColB (T : List (List Bool)) (n : Nat) (w : World) (e : Ending) (w' : World) : Prop := ∃ (q : Option Addr) (c : Nat), e = .returned (.tuple #[.slice q (clL T n).length c, .bool (okC T n)]) ∧ w'.ownsRow w.heap.size 2 1 (.slice q (clL T n).length c) (clL T n).length ((clL T n).flatMap enc1) ∧ Ext w w'
/-- What holds of a search. -/
structure FcW (n : Nat) (w : World) (O co : Nat) (s : CS) (q : Option Addr) (c : Nat) (wr : World) : Prop where
  inv : CInv n s
  out : wr.ownsRow w.heap.size 2 1 (.slice (some ⟨O, 0, none⟩) n co) n (cI s.1 n)
  own : wr.ownsRow w.heap.size 3 1 (.slice q s.2.length c) s.2.length (s.2.flatMap encN)
  ne : Value.ownBlock (.slice q s.2.length c) ≠ some O
  ext : Ext w wr
theorem FcW.later {n : Nat} {w : World} {O co : Nat} {s : CS} {q : Option Addr} {c : Nat} {a b : World} (h : FcW n w O co s q c a) (hE : Ext a b) : FcW n w O co s q c b := ⟨h.inv, owns_ext h.out hE, owns_ext h.own hE, h.ne, h.ext.trans hE⟩
theorem info_I64 : (Try.prog.info? 2).map (fun i => (i.zero, i.size, i.bytes)) = some (some (.int .i64 0), 1, 8) := by kernel_rfl
theorem info_IntT : (Try.prog.info? 3).map (fun i => (i.zero, i.size, i.bytes)) = some (some (.int .i64 0), 1, 8) := by kernel_rfl
theorem edg_of {T : List (List Bool)} {i k : Nat} {row : List Bool} {b : Bool} (h : T[i]? = some row) (h2 : row[k]? = some b) : edg T i k = b := by rw [edg, getD_of h, getD_of h2]
set_option maxRecDepth 100000 in
set_option maxHeartbeats 8000000 in
theorem colored_any (q : Option Addr) (n c : Nat) (T : List (List Bool)) (w : World) (h : SlR encb 1 w q n T) (hn : n ≤ 1000) (hrows : ∀ r ∈ T, r.length = n) :
    Calls Try.prog 66 #[.slice q n c] w (ColB T n w) := by
  have hl := hid h.length
  replace hrows := hid hrows
  obtain ⟨i0, hi, hz0, hz1, hz2⟩ := info_parts info_I64
  obtain ⟨j0, hji, hy0, hy1, hy2⟩ := info_parts info_IntT
  go_enter Try.func66, Try.ntmps66
  go_wp2_with (refine wpList_make_full _ rfl _ _ 41 rfl w.heap.size 2 i0 _ 1 Try.underlying41 hi hz0 hz1 .i64 .i64 n n n rfl rfl rfl rfl (by rw [hz2]; omega) (by unfold maxLen; omega) (Nat.le_refl _) ?_; intro w1 ho hg)
  rw [made_const _ (.int .i64 0) _ (by simp [Value.cells]) (by intro j hj; simp [Value.cells] at hj ⊢; subst hj; rfl)] at ho
  have hE : Ext w w1 := (Ext.refl _).grown hg (fun _ h => by cases h)
  obtain ⟨O, hO⟩ : ∃ O, O = w.heap.size := ⟨_, rfl⟩
  have e0 : List.replicate (n * 1) (Value.int .i64 0) = cI (fun x => if x < 0 then -1 else 0) n := by rw [cI]; apply List.ext_getElem <;> simp
  rw [e0, ← hO] at ho
  rw [← hO]
  have hOw : w.heap.size ≤ O := by omega
  replace hO := hid hO
  replace ho := hid (show w1.ownsRow O _ _ _ _ _ from ho)
  replace hE := hid hE
  clear hg e0
  go_loopw [17] (fun i wr => ∃ k : Nat, k ≤ n ∧ i = .int .i64 k ∧ Hid (wr.ownsRow O 2 1 (.slice (some ⟨O, 0, none⟩) n n) n (cI (fun x => if x < k then -1 else 0) n)) ∧ Hid (Ext w wr)) (fun i _ => n - (intOf i).toNat)
  case atStart => exact ⟨0, by omega, rfl, ho, hE⟩
  case round =>
    clear ho hE
    obtain ⟨k, hk, rfl, ho, hE⟩ := hrel
    by_cases hlt : k < n
    · have hltI : (k : Int) < (n : Int) := by omega
      obtain ⟨v0, e0⟩ := owns_cell ho.out k (by omega)
      have hf := owns_free ho.out
      have hOl := (owns_lt ho.out).2
      have hst : Hid ((cI (fun x => if x < k then -1 else 0) n).set k (.int .i64 (-1)) = cI (fun x => if x < k + 1 then -1 else 0) n) := by
        show _ = _
        rw [cI_set _ _ hlt]
        refine cI_ext fun x _ => ?_
        by_cases e : x = k
        · subst e; rw [updN_same, if_pos (by omega)]
        · rw [updN_ne _ _ e]
          by_cases h1 : x < k
          · rw [if_pos h1, if_pos (by omega)]
          · rw [if_neg h1, if_neg (by omega)]
      go_wp2
      go_roundw
      case rel => exact ⟨k + 1, by omega, by go_num, by rw [← hst.out]; exact owns_set ho.out _ _, hE.out.setCell (p := ⟨O, k, none⟩) hOw _⟩
      case measure => simp [intOf]; omega
    · have hltI : ¬ (k : Int) < (n : Int) := by omega
      obtain rfl : k = n := by omega
      have ho2 : Hid (wr.ownsRow w.heap.size 2 1 (.slice (some ⟨O, 0, none⟩) k k) k (cI (ccol T k 0) k)) := by
        have h9 := ho.out
        rw [cI_ext (d := ccol T k 0) (fun x hx => by rw [if_pos hx]; rfl)] at h9
        exact owns_lowP h9 hOw
      clear ho
      have hm0 : Hid (∀ x, x < k → 0 ≤ ccol T k 0 x → Done T k x) := fun x _ h => by have h : (0 : Int) ≤ -1 := h; omega
      obtain ⟨n, hn9⟩ : ∃ n, n = k := ⟨_, rfl⟩
      rw [← hn9] at h hn hrows hl hm0 ho2 ⊢
      replace hn9 := hid hn9
      clear hltI hk hlt
      go_wp2
      go_loopw [26] (fun i wr => ∃ m : Nat, m ≤ n ∧ i = .int .i64 m ∧ Hid (wr.ownsRow w.heap.size 2 1 (.slice (some ⟨O, 0, none⟩) n n) n (cI (ccol T n m) n)) ∧ Hid (Ext w wr) ∧ Hid (∀ x, x < n → 0 ≤ ccol T n m x → Done T n x)) (fun i _ => n - (intOf i).toNat)
      case atStart => exact ⟨0, by omega, rfl, ho2, hE, hm0⟩
      case round =>
        clear ho2 hE hm0
        obtain ⟨m, hm, rfl, ho, hE, hm0⟩ := hrel
        by_cases hltm : m < n
        · have hltmI : (m : Int) < (n : Int) := by omega
          have z0 := ho.out.cellAt m (by omega)
          rw [cI_get _ hltm] at z0
          have hOl := (owns_lt ho.out).2
          have hf := owns_free ho.out
          by_cases hc : 0 ≤ ccol T n m m
          · have he : Hid (ccol T n (m + 1) = ccol T n m) := by show _ = _; rw [ccol, if_pos hc]
            go_wp2
            go_roundw
            case rel => exact ⟨m + 1, by omega, by go_num, by rw [he.out]; exact ho, hE, by rw [he.out]; exact hm0⟩
            case measure => simp [intOf]; omega
          · have hbd := ccol_ok (T := T) (n := n) m hm
            have hcl : ccol T n m m < 0 := by omega
            obtain ⟨s0, hs0⟩ : ∃ s0 : CS, s0 = (updN (ccol T n m) m 0, [m]) := ⟨_, rfl⟩
            have hiv : CInv n s0 := by rw [hs0]; exact CInv.start hbd hltm hcl
            obtain ⟨W2, hW2⟩ : ∃ W2, W2 = wr.setCell ⟨O, m, none⟩ (.int .i64 0) := ⟨_, rfl⟩
            have ho2 : W2.ownsRow w.heap.size 2 1 (.slice (some ⟨O, 0, none⟩) n n) n (cI s0.1 n) := by
              rw [hs0, hW2]
              have h9 := owns_set ho.out m (.int .i64 0)
              rw [cI_set _ _ hltm] at h9
              exact h9
            have hEs : Ext w W2 := by rw [hW2]; exact hE.out.setCell (p := ⟨O, m, none⟩) hOw _
            have hq0 : (W2.alloc (.cells #[.int .i64 m] 3)).ownsRow w.heap.size 3 1 (.slice (some ⟨W2.heap.size, 0, none⟩) 1 1) 1 ([m].flatMap encN) := by
              have := heap_new W2 (.cells #[.int .i64 m] 3)
              exact owns_blk (n := 1) (size := 1) (cs := [.int .i64 m]) this hEs.le rfl (by simp [maxLen])
            have hOl2 := (owns_lt ho2).2
            have hst : Hid (FcW n w O n s0 (some ⟨W2.heap.size, 0, none⟩) 1 (W2.alloc (.cells #[.int .i64 m] 3))) := by
              have e1 : s0.2 = [m] := by rw [hs0]
              exact ⟨hiv, owns_ext ho2 ((Ext.refl _).alloc _), by rw [e1]; exact hq0, by simp [Value.ownBlock]; omega, hEs.alloc _⟩
            have hlen0 : s0.2.length = 1 := by rw [hs0]; rfl
            replace hs0 := hid hs0
            replace hW2 := hid hW2.symm
            replace hcl := hid hcl
            have hc2 := hid hc
            have hbd := hid hbd
            clear hiv ho2 hEs hq0 hc hcl
            go_upto_region 12 with (fail)
            rw [hW2.out]
            go_wp2
            go_loopw [7, 8] (fun vq ik wr => ∃ (k : Nat) (s : CS) (qq : Option Addr) (cq : Nat), k ≤ s.2.length ∧ vq = .slice qq s.2.length cq ∧ ik = .int .i64 k ∧ Hid (s = cbfs T n k s0) ∧ Hid (FcW n w O n s qq cq wr) ∧ Hid (∀ t, t < k → ∀ i, s.2[t]? = some i → Done T n i)) (fun _ i _ => n + 1 - (intOf i).toNat)
            case atStart => exact ⟨0, s0, _, 1, by omega, by rw [hlen0], rfl, rfl, hst, fun t ht => by omega⟩
            case round =>
              clear hst hlen0 hOl2 z0 hOl hf ho hE
              obtain ⟨k', s, qq, cq, hk', rfl, rfl, hs, hw, hD⟩ := hrel
              have hcn := hw.out.inv.cnt
              have hsl : s.2.length ≤ n := by omega
              by_cases hlk : k' < s.2.length
              · have hlkI : (k' : Int) < (s.2.length : Int) := by omega
                have hsq := SlT.of_owns (l := s.2) encN_len rfl hw.out.own
                obtain ⟨bq, oq, i, rfl, hbq, hii, zq⟩ := hsq.nat hlk
                have him := hw.out.inv.mem i (List.mem_of_getElem? hii.out)
                obtain ⟨hin, hi0⟩ := him
                have hinI : (i : Int) < (n : Int) := by omega
                obtain ⟨b, off, q3, n3, c3, row, rfl, hb, hrow, z3, t3⟩ := h.get hin
                have hn3 : n3 = n := by rw [← t3.length]; exact hrows.out row (List.mem_of_getElem? hrow.out)
                subst hn3
                have hK : Hid (∀ V, Ext w V → b < V.heap.size ∧ V.cell? ⟨b, off + i, none⟩ = some (.slice q3 n3 c3) ∧ SlT encb 1 V q3 n3 row) := fun V hV => ⟨Nat.lt_of_lt_of_le hb hV.le, (hV.cells _ _ hb).trans z3, t3.ext hV⟩
                have hlf := hid (fun j (hj : j ≤ n3) => lead_final (T := T) hltm (by have := hc2.out; omega) (by omega : k' ≤ n3) hj (by rw [← hs0.out, ← hs.out]; exact hii.out))
                rw [← hs0.out, ← hs.out] at hlf
                have hpre := hid (pre_crow (T := T) i s n3)
                have hgo : Hid (cbfs T n3 (k' + 1) s0 = crow T i n3 s) := by
                  show _ = _
                  rw [cbfs_go (by rw [← hs.out]; exact hii.out), ← hs.out]
                have hia := hid (fun j => crow_at (T := T) i s j hi0)
                have hi0 := hid hi0
                obtain ⟨hb', z3', _⟩ := hK.out _ hw.out.ext
                clear hb z3 t3
                have hr0 : Hid (∀ k, k < 0 → edg T i k = true → ccol T n3 n3 k ≠ ccol T n3 n3 i) := fun k hk => by omega
                go_wp2
                go_loopw [7, 54] (fun vq ij wr => ∃ (j : Nat) (s' : CS) (qq : Option Addr) (cq : Nat), j ≤ n3 ∧ vq = .slice qq s'.2.length cq ∧ ij = .int .i64 j ∧ Hid (s' = crow T i j s) ∧ Hid (FcW n3 w O n3 s' qq cq wr) ∧ Hid (∀ k, k < j → edg T i k = true → ccol T n3 n3 k ≠ ccol T n3 n3 i)) (fun _ i _ => n3 - (intOf i).toNat)
                case atStart => exact ⟨0, s, _, _, by omega, rfl, rfl, rfl, hw, hr0⟩
                case round =>
                  clear hr0 hw zq hb' z3' hbq
                  obtain ⟨j, s', qq, cq, hj, rfl, rfl, hs', hw, hr⟩ := hrel
                  have hcn' := hw.out.inv.cnt
                  have hsl' : s'.2.length ≤ n3 := by omega
                  by_cases hjl : j < n3
                  · have hjI : (j : Int) < (n3 : Int) := by omega
                    obtain ⟨_, _, t4⟩ := hK.out _ hw.out.ext
                    obtain ⟨b4, o4, fb, rfl, hb4, hfb, z4⟩ := t4.flag hjl
                    have hed := hid (edg_of hrow.out hfb.out)
                    clear t4
                    cases fb with
                    | false =>
                      have hs2 : Hid (s' = crow T i (j + 1) s) := by show _ = _; rw [crow, ← hs'.out, cst_miss (Or.inl hed.out)]
                      have hr2 : Hid (∀ k, k < j + 1 → edg T i k = true → ccol T n3 n3 k ≠ ccol T n3 n3 i) := fun k hk he => by
                        by_cases e : k = j
                        · subst e; rw [hed.out] at he; cases he
                        · exact hr.out k (by omega) he
                      go_wp2
                      go_roundw
                      case rel => exact ⟨j + 1, s', _, _, by omega, rfl, by go_num, hs2, hw, hr2⟩
                      case measure => simp [intOf]; omega
                    | true =>
                      have zi := hw.out.out.cellAt i (by omega)
                      rw [cI_get _ hin] at zi
                      have zj := hw.out.out.cellAt j (by omega)
                      rw [cI_get _ hjl] at zj
                      have hOl := (owns_lt hw.out.out).2
                      have hbi := hw.out.inv.bd i
                      have hbj := hw.out.inv.bd j
                      have hic : s'.1 i = s.1 i := by rw [hs'.out]; exact hia.out j
                      obtain ⟨ci, hci⟩ : ∃ ci, ci = s'.1 i := ⟨_, rfl⟩
                      obtain ⟨cj, hcj⟩ : ∃ cj, cj = s'.1 j := ⟨_, rfl⟩
                      have hci0 : 0 ≤ ci := by rw [hci, hic]; exact hi0.out
                      rw [← hci] at zi hbi
                      rw [← hcj] at zj hbj
                      have hld := hlf.out j (by omega)
                      rw [← hs'.out] at hld
                      have hfi : ccol T n3 n3 i = ci := by rw [hci]; exact hld i (by rw [← hci]; exact hci0)
                      have hfj : 0 ≤ cj → ccol T n3 n3 j = cj := fun h => by rw [hcj]; exact hld j (by rw [← hcj]; exact h)
                      replace hci := hid hci
                      replace hcj := hid hcj
                      replace hfi := hid hfi
                      replace hfj := hid hfj
                      clear hld hic
                      by_cases heq : cj = ci
                      · subst heq
                        have hno := hid (okC_not hin hjl hed.out (by rw [hfi.out]; exact hfj.out hci0))
                        have hE9 := hid hw.out.ext
                        go_wp2
                        refine wp_region_later (by kernel_rfl) (by kernel_rfl) ?_
                        repeat (go_big_quiet_step (fail))
                        refine wpQuiet_nil ?_
                        rintro w4 ⟨⟨_, E4⟩, rfl⟩
                        have hE10 := hid (hE9.out.trans E4)
                        clear E4 hfj
                        go_wp2
                        go_ret2
                        have hcl0 : clL T n3 = [] := by rw [clL, hno.out]; rfl
                        rw [ColB, ← hn9.out, hcl0, hno.out]
                        exact ⟨none, 0, rfl, World.ownsRow_nil _ _ _ _, hE10.out⟩
                      · have hB1 : (cj == ci) = false := by simpa using heq
                        have hB2 : decide (cj = ci) = false := decide_eq_false heq
                        go_wp2
                        refine wp_region_later (by kernel_rfl) (by kernel_rfl) ?_
                        repeat (go_big_quiet_step (fail))
                        refine wpQuiet_nil ?_
                        rintro w4 ⟨⟨_, E4⟩, rfl⟩
                        have hw4 := hid (hw.out.later E4)
                        replace zi := hw4.out.out.cellAt i (by omega)
                        rw [cI_get _ hin, ← hci.out] at zi
                        replace zj := hw4.out.out.cellAt j (by omega)
                        rw [cI_get _ hjl, ← hcj.out] at zj
                        replace hOl := (owns_lt hw4.out.out).2
                        have hf := owns_free hw4.out.out
                        clear E4 hb4 z4
                        by_cases hcn : cj < 0
                        · have hjc : s'.1 j < 0 := by rw [← hcj.out]; exact hcn
                          have hcst := cst_hit (T := T) (s := s') hed.out hjc
                          rw [← hci.out] at hcst
                          have hs2 : Hid ((updN s'.1 j (1 - ci), s'.2 ++ [j]) = crow T i (j + 1) s) := by show _ = _; rw [crow, ← hs'.out, hcst]
                          have hinv2 := hid (hw4.out.inv.cst (T := T) (i := i) (j := j) (by rw [← hci.out]; exact hci0) hjl)
                          rw [hcst] at hinv2
                          have hfj2 : ccol T n3 n3 j = 1 - ci := by
                            have h9 := hlf.out (j + 1) (by omega) j
                            rw [← hs2.out] at h9
                            have h8 : (updN s'.1 j (1 - ci)) j = 1 - ci := updN_same _ _ _
                            rw [h9 (by show 0 ≤ updN s'.1 j (1 - ci) j; rw [h8]; omega)]
                            exact h8
                          have hr2 : Hid (∀ k, k < j + 1 → edg T i k = true → ccol T n3 n3 k ≠ ccol T n3 n3 i) := fun k hk he => by
                            by_cases e : k = j
                            · subst e; rw [hfj2, hfi.out]; omega
                            · exact hr.out k (by omega) he
                          obtain ⟨W5, hW5⟩ : ∃ W5, W5 = w4.setCell ⟨O, j, none⟩ (.int .i64 (1 - ci)) := ⟨_, rfl⟩
                          have r1 : W5.ownsRow w.heap.size 2 1 (.slice (some ⟨O, 0, none⟩) n3 n3) n3 (cI (updN s'.1 j (1 - ci)) n3) := by
                            rw [hW5]
                            have h9 := owns_set hw4.out.out j (.int .i64 (1 - ci))
                            rw [cI_set _ _ hjl] at h9
                            exact h9
                          have r2 := hid (show W5.ownsRow w.heap.size 3 1 (.slice qq s'.2.length cq) s'.2.length (s'.2.flatMap encN) from by rw [hW5]; exact owns_other hw4.out.own hw4.out.ne j _)
                          have r4 := hid (show Ext w W5 from by rw [hW5]; exact hw4.out.ext.setCell (p := ⟨O, j, none⟩) hOw _)
                          have hOl5 := (owns_lt r1).2
                          have r1 := hid r1
                          have hne9 := hid hw4.out.ne
                          have hsz := r4.out.le
                          replace hW5 := hid hW5.symm
                          clear hcst hjc hfj2
                          go_upto_region 25 with (fail)
                          rw [hW5.out]
                          go_wp2_with (at_builtin; refine wpList_append_own_at _ rfl _ _ 124 rfl w.heap.size 3 j0 (.int .i64 0) 1 8 Try.underlying124 hji hy0 hy1 hy2 rfl (by omega) _ _ _ rfl (r2.out.alloc _) ⟨_, 0, none⟩ 1 1 [.int .i64 j] rfl rfl (cells_new1 _ _ _) (one_int1 _) (len_le (by omega) (by omega)) (by omega) (by simp; omega) ?_; intro v' w6 ho' hg' _ hb'; obtain ⟨qa, ca, rfl⟩ := owns_forms ho'; replace ho' := hid ho'; have t4 := hid ((r4.out.alloc (.cells #[.int .i64 j] 3)).grown hg' (fun k hk => (r2.out.lt k hk).1)); have t5 := hid (ne_new hne9.out hb' (by simp; omega)); have t1 := hid ((r1.out.alloc (.cells #[.int .i64 j] 3)).kept hg' (Or.inr (fun e9 => hne9.out e9.symm))); clear hg' hb')
                          go_roundw
                          case rel => exact ⟨j + 1, (updN s'.1 j (1 - ci), s'.2 ++ [j]), qa, ca, by omega, by show _ = Value.slice _ (s'.2 ++ [_]).length _; rw [List.length_append]; rfl, by go_num, hs2, ⟨hinv2.out, t1.out, by show World.ownsRow _ _ _ _ (Value.slice _ (s'.2 ++ [_]).length _) (s'.2 ++ [_]).length ((s'.2 ++ [_]).flatMap encN); rw [List.length_append, List.flatMap_append]; simpa [encN] using ho'.out, by show Value.ownBlock (.slice _ (s'.2 ++ [_]).length _) ≠ _; rw [List.length_append]; exact t5.out, t4.out⟩, hr2⟩
                          case measure => simp [intOf]; omega
                        · have hjc : 0 ≤ s'.1 j := by rw [← hcj.out]; omega
                          have hs2 : Hid (s' = crow T i (j + 1) s) := by show _ = _; rw [crow, ← hs'.out, cst_miss (Or.inr hjc)]
                          have hr2 : Hid (∀ k, k < j + 1 → edg T i k = true → ccol T n3 n3 k ≠ ccol T n3 n3 i) := fun k hk he => by
                            by_cases e : k = j
                            · subst e; rw [hfi.out, hfj.out (by omega)]; exact heq
                            · exact hr.out k (by omega) he
                          clear hjc
                          go_wp2
                          go_roundw
                          case rel => exact ⟨j + 1, s', _, _, by omega, rfl, by go_num, hs2, hw4, hr2⟩
                          case measure => simp [intOf]; omega
                  · have hjI : ¬ (j : Int) < (n3 : Int) := by omega
                    obtain rfl : j = n3 := by omega
                    have hs2 : Hid (s' = cbfs T j (k' + 1) s0) := hs'.out.trans hgo.out.symm
                    have hlen : k' + 1 ≤ s'.2.length := by
                      obtain ⟨t, ht⟩ := hpre.out
                      rw [hs'.out, ht, List.length_append]; omega
                    have hD2 : Hid (∀ t, t < k' + 1 → ∀ i, s'.2[t]? = some i → Done T j i) := fun t ht i' hi' => by
                      obtain ⟨t', ht'⟩ := hpre.out
                      rw [hs'.out, ht', List.getElem?_append_left (by omega)] at hi'
                      by_cases e : t = k'
                      · subst e
                        have : i' = i := by rw [hii.out] at hi'; exact (Option.some.inj hi').symm
                        subst this
                        exact hr.out
                      · exact hD.out t (by omega) i' hi'
                    go_wp2
                    go_roundw
                    case rel => exact ⟨k' + 1, s', _, _, hlen, rfl, by go_num, hs2, hw, hD2⟩
                    case measure => simp [intOf]; omega
              · have hlkI : ¬ (k' : Int) < (s.2.length : Int) := by omega
                have hce : Hid (ccol T n (m + 1) = s.1) := bfs_end (by rw [← hs0.out]; exact hs.out) (by omega) (by omega) (by have := hc2.out; omega)
                have hm2 : Hid (∀ x, x < n → 0 ≤ ccol T n (m + 1) x → Done T n x) := by
                  show ∀ x, _
                  rw [hce.out]
                  exact bfs_done (by rw [← hs0.out]; exact hs.out) (by omega) hD.out hm0.out
                have ho9 : Hid (wr.ownsRow w.heap.size 2 1 (.slice (some ⟨O, 0, none⟩) n n) n (cI (ccol T n (m + 1)) n)) := by
                  show World.ownsRow _ _ _ _ _ _ _
                  rw [hce.out]; exact hw.out.out
                have hE9 := hid hw.out.ext
                go_wp2
                go_roundw
                case rel => exact ⟨m + 1, by omega, by go_num, ho9, hE9, hm2⟩
                case measure => simp [intOf]; omega
        · have hltmI : ¬ (m : Int) < (n : Int) := by omega
          obtain rfl : m = n := by omega
          have hok : okC T m = true := okC_of (fun i hi => hm0.out i hi (ccol_has m i hi))
          have hcl0 : clL T m = (List.range m).map (ccol T m m) := by rw [clL, if_pos hok]
          have hlen : (clL T m).length = m := by rw [hcl0]; simp
          have hok := hid hok
          have hcl0 := hid hcl0
          have hlen := hid hlen
          go_wp2
          go_ret2
          rw [ColB, ← hn9.out, hok.out, hlen.out]
          refine ⟨_, _, rfl, ?_, hE.out⟩
          rw [hcl0.out, ← cI_enc]
          exact ho.out
end Go.Proofs.Ytaigndaabmelhaa

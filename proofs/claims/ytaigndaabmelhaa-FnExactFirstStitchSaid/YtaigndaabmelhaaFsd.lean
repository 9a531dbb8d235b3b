/- Contracts of the reference's l33Divide and l33Connected. Condition: at most 20500000 points, all on the chip. -/
import Derived.Test.YtaigndaabmelhaaStj
namespace Go.Proofs.Ytaigndaabmelhaa
open Go.RowKit

def ltC (x : Int) (q : Q2) : Bool := decide (q.a < x)
def dvL (ps : List Q2) (x : Int) : List Q2 := ps.filter fun q => decide (q.a < x)
def dvR (ps : List Q2) (x : Int) : List Q2 := ps.filter fun q => !decide (q.a < x)
theorem dvL_len (ps : List Q2) (x : Int) : (dvL ps x).length ≤ ps.length := List.length_filter_le _ _
theorem dvR_len (ps : List Q2) (x : Int) : (dvR ps x).length ≤ ps.length := List.length_filter_le _ _
theorem dvL_hit {ps : List Q2} {x : Int} {k : Nat} {q : Q2} (h : ps[k]? = some q) (hx : q.a < x) : dvL (ps.take (k + 1)) x = dvL (ps.take k) x ++ [q] ∧ dvR (ps.take (k + 1)) x = dvR (ps.take k) x := by
  rw [dvL, dvR, take_snoc h, List.filter_append, List.filter_append]; simp [dvL, dvR, hx]
theorem dvR_hit {ps : List Q2} {x : Int} {k : Nat} {q : Q2} (h : ps[k]? = some q) (hx : ¬ q.a < x) : dvL (ps.take (k + 1)) x = dvL (ps.take k) x ∧ dvR (ps.take (k + 1)) x = dvR (ps.take k) x ++ [q] := by
  rw [dvL, dvR, take_snoc h, List.filter_append, List.filter_append]; simp [dvL, dvR, hx]
/-- Two lists of points of the call's own. -/
structure DvAt (w : World) (L R : List Q2) (q1 : Option Addr) (c1 : Nat) (q2 : Option Addr) (c2 : Nat) (wr : World) : Prop where
  own1 : wr.ownsRow w.heap.size 138 2 (.slice q1 L.length c1) L.length (L.flatMap enc2)
  own2 : wr.ownsRow w.heap.size 138 2 (.slice q2 R.length c2) R.length (R.flatMap enc2)
  ne : ∀ a b, q1 = some a → q2 = some b → a.block ≠ b.block
  ext : Ext w wr
theorem own_ofD (q : Option Addr) (n c : Nat) : (Value.slice q n c).ownBlock = q.map (·.block) := own_blkOf
theorem keep_otherD {w w' : World} {base size n m c1 c2 : Nat} {e : TypeId} {q p : Option Addr} {xs : List Value} (h : w.ownsRow base e size (.slice p m c2) m xs) (hg : w.grownBy w' (Value.slice q n c1).ownBlock) (hne : ∀ a b, q = some a → p = some b → a.block ≠ b.block) : w'.ownsRow base e size (.slice p m c2) m xs := by
  refine h.kept hg ?_
  rw [own_ofD, own_ofD]
  cases p with
  | none => exact Or.inl rfl
  | some b =>
    right
    cases q with
    | none => simp
    | some a => have := hne a b rfl rfl; simp only [Option.map_some, ne_eq, Option.some.injEq]; exact fun e => this e.symm
theorem ne_grown {W : World} {q qa p : Option Addr} {n c ca m d base : Nat} {e : TypeId} {xs : List Value} (h : W.ownsRow base e 2 (.slice p m d) m xs) (hne : ∀ a b, q = some a → p = some b → a.block ≠ b.block)
    (hb : (Value.slice qa (n + 1) ca).ownBlock = (Value.slice q n c).ownBlock ∨ (Value.slice qa (n + 1) ca).ownBlock = some W.heap.size) : ∀ a b, qa = some a → p = some b → a.block ≠ b.block := by
  intro a b ha hp
  subst ha
  rw [own_ofD, own_ofD, Option.map_some] at hb
  rcases hb with hb | hb
  · rw [eq_comm, Option.map_eq_some_iff] at hb
    obtain ⟨a', h1, h2⟩ := hb
    rw [← h2]; exact hne a' b h1 hp
  · have h2 := (h.lt b.block (by rw [own_ofD, hp]; rfl)).2
    simp only [Option.some.injEq] at hb
    omega
theorem DvAt.left {w wr W' : World} {L R : List Q2} {q1 q2 qa : Option Addr} {c1 c2 ca : Nat} {p : Q2} (h : DvAt w L R q1 c1 q2 c2 wr) (o : Obj)
    (ht : W'.ownsRow w.heap.size 138 2 (.slice qa (L.length + 1) ca) (L.length + 1) (L.flatMap enc2 ++ [.int .i64 p.a, .int .i64 p.b])) (hg : (wr.alloc o).grownBy W' (Value.slice q1 L.length c1).ownBlock)
    (hb : (Value.slice qa (L.length + 1) ca).ownBlock = (Value.slice q1 L.length c1).ownBlock ∨ (Value.slice qa (L.length + 1) ca).ownBlock = some (wr.alloc o).heap.size) : DvAt w (L ++ [p]) R qa ca q2 c2 W' := by
  have hl : (L ++ [p]).length = L.length + 1 := by simp
  have o2 := h.own2.alloc o
  refine ⟨?_, keep_otherD o2 hg h.ne, ne_grown o2 h.ne hb, (h.ext.alloc o).grown hg (fun k hk => (h.own1.lt k hk).1)⟩
  rw [hl, List.flatMap_append]
  simpa [enc2] using ht
theorem DvAt.right {w wr W' : World} {L R : List Q2} {q1 q2 qa : Option Addr} {c1 c2 ca : Nat} {p : Q2} (h : DvAt w L R q1 c1 q2 c2 wr) (o : Obj)
    (ht : W'.ownsRow w.heap.size 138 2 (.slice qa (R.length + 1) ca) (R.length + 1) (R.flatMap enc2 ++ [.int .i64 p.a, .int .i64 p.b])) (hg : (wr.alloc o).grownBy W' (Value.slice q2 R.length c2).ownBlock)
    (hb : (Value.slice qa (R.length + 1) ca).ownBlock = (Value.slice q2 R.length c2).ownBlock ∨ (Value.slice qa (R.length + 1) ca).ownBlock = some (wr.alloc o).heap.size) : DvAt w L (R ++ [p]) q1 c1 qa ca W' := by
  have hl : (R ++ [p]).length = R.length + 1 := by simp
  have o1 := h.own1.alloc o
  have hne : ∀ a b, q2 = some a → q1 = some b → a.block ≠ b.block := fun a b h1 h2 => (h.ne b a h2 h1).symm
  refine ⟨keep_otherD o1 hg hne, ?_, fun a b h1 h2 => (ne_grown o1 hne hb b a h2 h1).symm, (h.ext.alloc o).grown hg (fun k hk => (h.own2.lt k hk).1)⟩
  rw [hl, List.flatMap_append]
  simpa [enc2] using ht
def DvB (ps : List Q2) (x : Int) (w : World) (e : Ending) (w' : World) : Prop := ∃ (q1 : Option Addr) (c1 : Nat) (q2 : Option Addr) (c2 : Nat), e = .returned (.tuple #[.slice q1 (dvL ps x).length c1, .slice q2 (dvR ps x).length c2]) ∧ SlT enc2 2 w' q1 (dvL ps x).length (dvL ps x) ∧ SlT enc2 2 w' q2 (dvR ps x).length (dvR ps x) ∧ Ext w w'
set_option maxRecDepth 100000 in
set_option maxHeartbeats 4000000 in
theorem l33Divide_any (q : Option Addr) (n c : Nat) (ps : List Q2) (x : Int) (w : World) (h : SlT enc2 2 w q n ps) (hn : n ≤ 20500000) :
    Calls Try.prog 90 #[.slice q n c, .int .i64 x] w (DvB ps x w) := by
  have hl := hid h.length
  obtain ⟨i0, hi, hz0, hz1, hz2⟩ := info_parts info_Pt
  go_enter Try.func90, Try.ntmps90
  go_upto_region 3 with (fail)
  have ho1 : ((w.alloc (.cells #[] 138)).alloc (.cells #[] 138)).ownsRow w.heap.size 138 2 (.slice (some ⟨w.heap.size, 0, none⟩) 0 0) 0 [] := by
    have := World.ownsRow_made (base := w.heap.size) (e := 138) (size := 2) w #[] 0 (by simp) (by simp [maxLen]) (by simp)
    exact this.alloc _
  have ho2 : ((w.alloc (.cells #[] 138)).alloc (.cells #[] 138)).ownsRow w.heap.size 138 2 (.slice (some ⟨w.heap.size + 1, 0, none⟩) 0 0) 0 [] := by
    have := World.ownsRow_made (base := w.heap.size) (e := 138) (size := 2) (w.alloc (.cells #[] 138)) #[] 0 (by simp) (by simp [maxLen]) (by simp)
    have h9 : (w.alloc (.cells #[] 138)).heap.size = w.heap.size + 1 := by simp
    rw [h9] at this; exact this
  generalize hW : (w.alloc _).alloc _ = W0 at ho1 ho2 ⊢
  have E0 : Ext w W0 := by rw [← hW]; exact ((Ext.refl _).alloc _).alloc _
  clear hW
  have hst : Hid (DvAt w [] [] (some ⟨w.heap.size, 0, none⟩) 0 (some ⟨w.heap.size + 1, 0, none⟩) 0 W0) := ⟨ho1, ho2, fun a b ha hb => by cases ha; cases hb; simp, E0⟩
  clear ho1 ho2 E0
  go_wp2
  go_loopw [6, 7, 8] (fun va vb iv wr => ∃ (k : Nat) (q1 : Option Addr) (c1 : Nat) (q2 : Option Addr) (c2 : Nat), k ≤ n ∧ iv = .int .i64 k ∧ va = .slice q1 (dvL (ps.take k) x).length c1 ∧ vb = .slice q2 (dvR (ps.take k) x).length c2 ∧ Hid (DvAt w (dvL (ps.take k) x) (dvR (ps.take k) x) q1 c1 q2 c2 wr)) (fun _ _ i _ => n - (intOf i).toNat)
  case atStart => exact ⟨0, _, _, _, _, by omega, rfl, rfl, rfl, hst⟩
  case round =>
    clear hst
    obtain ⟨k, q1, c1, q2, c2, hk, rfl, rfl, rfl, hD⟩ := hrel
    by_cases hlt : k < n
    · have hltI : (k : Int) < (n : Int) := by omega
      obtain ⟨b, off, p, rfl, hb, hp, z0, z1⟩ := (h.ext hD.out.ext).two hlt
      have l1 := dvL_len (ps.take k) x
      have l2 := dvR_len (ps.take k) x
      have l3 : (ps.take k).length ≤ k := by rw [List.length_take]; omega
      have hsz := hD.out.ext.le
      by_cases hx : p.a < x
      · have hs := hid (dvL_hit hp.out hx)
        have o9 := hid hD.out.own1
        go_wp2_with (at_builtin; refine wpList_append_own_at _ rfl _ _ 97 rfl w.heap.size 138 i0 (.agg #[.int .i64 0, .int .i64 0]) 2 16 Try.underlying97 hi hz0 hz1 hz2 rfl (by omega) _ _ _ rfl (o9.out.alloc _) ⟨_, 0, none⟩ 1 1 [.int .i64 p.a, .int .i64 p.b] rfl rfl (cells_new wr [.int .i64 p.a, .int .i64 p.b] 138) (one_int2 _ _) (by unfold maxLen; omega) (by omega) (by simp; omega) ?_; intro v' w6 ho' hg' _ hb'; obtain ⟨qa, ca, rfl⟩ := owns_forms ho'; replace ho' := hid ho'; replace hg' := hid hg'; replace hb' := hid hb')
        go_roundw
        case rel => exact ⟨k + 1, qa, ca, q2, c2, by omega, by go_num, by rw [hs.out.1]; simp, by rw [hs.out.2], by rw [hs.out.1, hs.out.2]; exact hD.out.left _ ho'.out hg'.out hb'.out⟩
        case measure => simp [intOf]; omega
      · have hs := hid (dvR_hit hp.out hx)
        have o9 := hid hD.out.own2
        go_wp2_with (at_builtin; refine wpList_append_own_at _ rfl _ _ 97 rfl w.heap.size 138 i0 (.agg #[.int .i64 0, .int .i64 0]) 2 16 Try.underlying97 hi hz0 hz1 hz2 rfl (by omega) _ _ _ rfl (o9.out.alloc _) ⟨_, 0, none⟩ 1 1 [.int .i64 p.a, .int .i64 p.b] rfl rfl (cells_new wr [.int .i64 p.a, .int .i64 p.b] 138) (one_int2 _ _) (by unfold maxLen; omega) (by omega) (by simp; omega) ?_; intro v' w6 ho' hg' _ hb'; obtain ⟨qa, ca, rfl⟩ := owns_forms ho'; replace ho' := hid ho'; replace hg' := hid hg'; replace hb' := hid hb')
        go_roundw
        case rel => exact ⟨k + 1, q1, c1, qa, ca, by omega, by go_num, by rw [hs.out.1], by rw [hs.out.2]; simp, by rw [hs.out.1, hs.out.2]; exact hD.out.right _ ho'.out hg'.out hb'.out⟩
        case measure => simp [intOf]; omega
    · have hltI : ¬ (k : Int) < (n : Int) := by omega
      rw [take_all hl.out (by omega)] at hD ⊢
      go_wp2_with fail
      refine bodyPost_ret (results_tmp2 rfl _ _ _) rfl ?_
      exact ⟨q1, c1, q2, c2, rfl, SlT.of_owns enc2_len rfl hD.out.own1, SlT.of_owns enc2_len rfl hD.out.own2, hD.out.ext⟩
set_option maxRecDepth 100000 in
set_option maxHeartbeats 4000000 in
theorem l33Connected_any (q : Option Addr) (n c : Nat) (ps : List Q2) (w : World) (h : SlT enc2 2 w q n ps) (hn : n ≤ 20500000) (hv : ∀ p ∈ ps, onC p.a p.b = true) :
    Calls Try.prog 91 #[.slice q n c] w fun e w' => e = .returned (.bool (conP ps)) ∧ Ext w w' := by
  have hl := hid h.length
  replace hv := hid hv
  go_enter Try.func91, Try.ntmps91
  go_wp2_with fail
  refine (l03Bits_any none 0 0 [] _ (SlT.zero _ _) (by omega) (by simp)).mono ?_
  rintro e w3 ⟨N, rfl, o3, E3⟩
  have hN : w.heap.size ≤ N := (owns_lt o3).1
  have b3 := owns_toBlk o3
  rw [ptG_nil] at b3
  replace b3 := hid b3
  replace E3 := hid E3
  clear o3
  go_wp2_with fail
  go_loopw [4] (fun im wr => ∃ m : Nat, m ≤ n ∧ im = .int .i64 m ∧ Hid (Blk wr N (gcells (ptG (ps.take m))) 4) ∧ Hid (Ext w wr)) (fun i _ => n - (intOf i).toNat)
  case atStart => exact ⟨0, by omega, rfl, b3, E3⟩
  case round =>
    clear b3 E3
    obtain ⟨m, hm, rfl, hbN, hE2⟩ := hrel
    by_cases hltm : m < n
    · have hltmI : (m : Int) < (n : Int) := by omega
      obtain ⟨b2, off2, p, e9, hb2, hp, z0, z1⟩ := (h.ext hE2.out).two hltm
      subst e9
      have hon := hid (hv.out p (List.mem_of_getElem? hp.out))
      have hat := atG_lt hon.out
      have hatI : (atG p.a p.b : Int) < 6400 := by omega
      have zn := hbN.out.cells (atG p.a p.b)
      rw [gcells_get _ hat] at zn
      have fz := hbN.out.free (atG p.a p.b)
      have hNl := hbN.out.lt
      have hst := hid (ptG_snoc hp.out hon.out)
      have hb9 := hid ((show Blk wr.drew N _ _ from hbN.out).set (atG p.a p.b) (.bool true))
      have hE9 := hid (hE2.out.drew.setCell (p := ⟨N, atG p.a p.b, none⟩) hN (.bool true))
      go_wp2_with fail
      refine wp_region_still_tail 13 (by kernel_rfl) (by kernel_rfl) ?_
      simp only [List.take_succ_cons, List.take_zero, List.drop_succ_cons, List.drop_zero]
      iterate 11 still_step
      still_call ((l03At_any _ _ _ hon.out).mono fun _ _ h => ⟨h.1, h.2.symm⟩)
      still_step
      refine wpStill_nil ?_
      change wpList _ _ _ _ _ wr.drew
      go_wp2_with fail
      go_roundw
      case rel => exact ⟨m + 1, by omega, by go_num, by have := hb9.out; rw [hst.out] at this; exact this, hE9⟩
      case measure => simp [intOf]; omega
    · have hltmI : ¬ (m : Int) < (n : Int) := by omega
      rw [take_all hl.out (by omega)] at hbN
      have hbits := hid (Bits.ofBlk hbN.out)
      clear hbN
      by_cases h0 : 0 < n
      · have h0I : (0 : Int) < (n : Int) := by omega
        obtain ⟨b2, off2, p, e9, hb2, hp, z0, z1⟩ := (h.ext hE2.out).two h0
        subst e9
        have hon := hid (hv.out p (List.mem_of_getElem? hp.out))
        have e02 : off2 + 0 * 2 = off2 := by omega
        rw [e02] at z0 z1
        have hK : Hid (∀ V, Ext wr V → V.cell? ⟨b2, off2, none⟩ = some (.int .i64 p.a) ∧ V.cell? ⟨b2, off2 + 1, none⟩ = some (.int .i64 p.b)) := fun V hV => ⟨(hV.cells _ _ hb2).trans z0, (hV.cells _ _ hb2).trans z1⟩
        have kF := hid (fun V (hV : Ext wr V) => l07Flood_any N 6400 (ptG ps) p V (hbits.out.ext hV) hon.out)
        have kC := hid (fun (M : Nat) V (hV : Ext wr V) (hM : Bits V M (floodG (ptG ps) false p)) => l33Count_any M 6400 (floodG (ptG ps) false p) _ n c ps V hM ((h.ext hE2.out).ext hV) (by omega) hv.out)
        have hcon : Hid (decide (cntP (floodG (ptG ps) false p) ps = n) = conP ps) := by
          show _ = _
          rw [conP, getD_of hp.out, hl.out, decide_eq_true h0, Bool.true_and]
        have hX : Ext wr wr.drew := (Ext.refl wr).drew
        obtain ⟨C, hC⟩ : ∃ C, C = cntP (floodG (ptG ps) false p) ps := ⟨_, rfl⟩
        rw [← hC] at hcon
        go_wp2_with fail
        go_region_held3 (fun W => W.cell? ⟨b2, off2, none⟩ = some (.int .i64 p.a) ∧ W.cell? ⟨b2, off2 + 1, none⟩ = some (.int .i64 p.b))
          (exact hK.out _ hX)
          (first
            | (go_at_call 129; (with_reducible refine (kF.out _ hX).mono ?_); rintro e w8 ⟨M, rfl, oM, EM⟩; have bM := hid (Bits.of oM); replace hX := hX.trans EM; clear EM oM)
            | (go_at_call 85; (with_reducible refine (kC.out M _ hX bM.out).mono ?_); rw [← hC]; rintro e w9 ⟨rfl, EC⟩; replace hX := hX.trans EC; clear EC))
        all_goals
          have hX := hid hX
          clear z0 z1
          go_wp2_with fail
          go_ret
          refine ⟨ret_bool ?_, hE2.out.trans hX.out⟩
          rw [← hcon.out]
          rw [Bool.eq_iff_iff, beq_iff_eq, decide_eq_true_eq, hC]
          omega
      · have h0I : ¬ (0 : Int) < (n : Int) := by omega
        have hcon : Hid (conP ps = false) := by show _ = _; rw [conP, hl.out, decide_eq_false h0]; rfl
        go_wp2_with fail
        refine wp_region_later (by kernel_rfl) (by kernel_rfl) ?_
        repeat (go_big_quiet_step (fail))
        refine wpQuiet_nil ?_
        rintro w6 ⟨⟨_, E6⟩, rfl⟩
        go_wp2_with fail
        go_ret
        exact ⟨ret_bool hcon.out.symm, hE2.out.trans E6⟩
end Go.Proofs.Ytaigndaabmelhaa

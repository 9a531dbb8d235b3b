/- Validity of edits, program and reference. Condition: lengths that fit. -/
import Derived.Test.YtncmhefendhinaaGreatDoorVlb
import Derived.Test.YtncmhefendhinaaGreatDoorDse
namespace Go.Proofs.YtncmhefendhinaaGreatDoor
open Go.RowKit Go.PlainAid

def eqS (x y : ShD) : Bool := x.a == y.a && (x.box.a == y.box.a && (x.box.b == y.box.b && (x.box.c == y.box.c && x.box.d == y.box.d)))
def eqL (x y : LbD) : Bool := x.a == y.a && (x.pt.a == y.pt.a && (x.pt.b == y.pt.b && x.s.toList == y.s.toList))
def eqI (x y : InD) : Bool := x.a == y.a && (x.tr.a == y.tr.a && (x.tr.b == y.tr.b && (x.tr.c == y.tr.c && (x.c == y.c && (x.d == y.d && (x.e == y.e && x.f == y.f))))))
def eqE (x y : EdD) : Bool := x.a == y.a && (x.b == y.b && (x.c == y.c && (x.s.toList == y.s.toList && (eqS x.sh y.sh && (eqL x.lb y.lb && eqI x.ins y.ins)))))

theorem ite_okI {a b : Int} {c : Bool} {w : World} : (if a = b then Result.ok (Value.bool c) w else Result.ok (Value.bool false) w) = Result.ok (Value.bool (a == b && c)) w := by
  by_cases h : a = b <;> simp [h]
theorem ite_okL {a b : List UInt8} {c : Bool} {w : World} : (if a = b then Result.ok (Value.bool c) w else Result.ok (Value.bool false) w) = Result.ok (Value.bool (a == b && c)) w := by
  by_cases h : a = b <;> simp [h]

set_option maxRecDepth 100000 in
set_option maxHeartbeats 4000000 in
theorem run_eqEd (x y : EdD) (w : World) : (binOp .eql 39 (.agg (encEd x).toArray) (.agg (encEd y).toArray)).run Tryz.prog w = .ok (.bool (eqE x y)) w := by
  unfold encEd
  go_simp
  simp only [ite_okI, ite_okL, Bool.and_true]
  simp only [eqE, eqS, eqL, eqI, Bool.and_assoc]
theorem run_gdEd (x y : EdD) (w : World) (p q : Operand) : (eqGuard .eql 39 p q (.agg (encEd x).toArray) (.agg (encEd y).toArray)).run Tryz.prog w = .ok () w := by
  unfold encEd
  go_simp
theorem wpList_eqEd {ops : Array Oper} {rest : List Oper} {op : Oper} {a : Act} {w : World} {Q : Exit → Act → World → Prop} (hgd : op.guard = none) (p q : Operand) (ty : TypeId) (ho : op.op = .binOp .eql 39 p q ty)
    (x y : EdD) (hx : a.eval p = .agg (encEd x).toArray) (hy : a.eval q = .agg (encEd y).toArray) (h : wpList Tryz.prog ops Q rest (a.put op.dst (.bool (eqE x y))) w) : wpList Tryz.prog ops Q (op :: rest) a w :=
  wpList_plain hgd fun K hK => by
    unfold Oper.wp execOp
    simp only [ho, hx, hy, Sem.run_bind, run_gdEd, run_eqEd, Result.andThen_ok]
    exact hK _ _ h

def emp : ByteArray := ⟨#[]⟩
def zS : ShD := ⟨0, ⟨0, 0, 0, 0⟩⟩
def zL : LbD := ⟨0, ⟨0, 0⟩, emp⟩
def zI : InD := ⟨0, ⟨0, 0, 0⟩, 0, 0, 0, 0⟩
def edK (e : EdD) : Bool :=
  if e.a = 1 then eqE ⟨e.a, e.b, e.c, emp, e.sh, zL, zI⟩ e && shB e.sh
  else if e.a = 3 then eqE ⟨e.a, e.b, e.c, emp, zS, e.lb, zI⟩ e && lbB e.lb
  else if e.a = 5 then eqE ⟨e.a, e.b, e.c, emp, zS, zL, e.ins⟩ e && inB e.ins 8
  else if e.a = 2 ∨ e.a = 4 ∨ e.a = 6 then eqE ⟨e.a, e.b, e.c, emp, zS, zL, zI⟩ e
  else if e.a = 7 ∨ e.a = 8 then eqE ⟨e.a, e.b, 0, e.s, zS, zL, zI⟩ e && nameB e.s
  else if e.a = 9 then eqE ⟨e.a, e.b, 0, emp, zS, zL, zI⟩ e
  else false
def edP (e : EdD) : Bool := wit e.b 0 8 && (wit e.c 0 24 && edK e)

set_option maxRecDepth 100000 in
set_option maxHeartbeats 4000000 in
theorem built_Ed (a b : Int) : Tryz.prog.built 39 [(0, .int .i64 a), (1, .int .i64 b)] = some (encEd ⟨a, b, 0, emp, zS, zL, zI⟩).toArray := by kernel_rfl
theorem at_dst (d : Tmp) {P : Program} {ops : Array Oper} {rest : List Oper} {o : Op} {ty : TypeId} {po : String} {af : Array Edge} {gd : Option (Nat × Bool)} {a : Act} {w : World} {Q : Exit → Act → World → Prop} (h : wpList P ops Q (⟨some d, o, ty, po, af, gd⟩ :: rest) a w) : wpList P ops Q (⟨some d, o, ty, po, af, gd⟩ :: rest) a w := h
theorem at_store {P : Program} {ops : Array Oper} {rest : List Oper} {o : Op} {ty : TypeId} {po : String} {af : Array Edge} {gd : Option (Nat × Bool)} {a : Act} {w : World} {Q : Exit → Act → World → Prop} (h : wpList P ops Q (⟨none, o, ty, po, af, gd⟩ :: rest) a w) : wpList P ops Q (⟨none, o, ty, po, af, gd⟩ :: rest) a w := h
theorem wpList_build {ops : Array Oper} {rest : List Oper} {op : Oper} {a : Act} {w : World} {Q : Exit → Act → World → Prop} (hgd : op.guard = none) (ty : TypeId) (parts : Array (Nat × Operand)) (ho : op.op = .build ty parts)
    (vs : List (Nat × Value)) (hv : (parts.map fun (i, x) => (i, a.eval x)).toList = vs) (cells : Array Value) (hb : Tryz.prog.built ty vs = some cells) (h : wpList Tryz.prog ops Q rest (a.put op.dst (.agg cells)) w) : wpList Tryz.prog ops Q (op :: rest) a w :=
  wpList_plain hgd fun K hK => by
    unfold Oper.wp execOp
    have := run_build w ty (parts.map fun (i, x) => (i, a.eval x)) cells (by rw [hv]; exact hb)
    simp only [ho, Sem.run_bind, this, Result.andThen_ok]
    exact hK _ _ h

set_option maxRecDepth 100000 in
set_option maxHeartbeats 4000000 in
theorem wpList_newEd {ops : Array Oper} {rest : List Oper} {op : Oper} {a : Act} {w : World} {Q : Exit → Act → World → Prop} (hgd : op.guard = none) (p q : Operand) (ho : op.op = .store 39 p q) (x : EdD) (zs : List Value) (hz : zs.length = 21)
    (hx : a.eval p = .pointer (some ⟨w.heap.size, 0, none⟩)) (hy : a.eval q = .agg (encEd x).toArray)
    (h : ∀ W1, Blk W1 w.heap.size (encEd x) 39 → Ext w W1 → wpList Tryz.prog ops Q rest (a.put op.dst undef) W1) : wpList Tryz.prog ops Q (op :: rest) a (w.alloc (.cells zs.toArray 39)) := by
  have ht := there_blk (Blk.new w zs 39)
  rw [hz] at ht
  refine wpList_store_mid hgd 39 p q ho w.heap.size 0 (encEd x).toArray hx hy ht sizeD_Edit (one_Edit x) (h _ ?_ ?_)
  · exact (Blk.new w zs 39).setAll (vs := encEd x) (by rw [hz]; rfl)
  · exact ext_setCells (Nat.le_refl _) _ _ _ ((Ext.refl _).alloc _)

theorem edK_1 (b c : Int) (s : ByteArray) (sh : ShD) (lb : LbD) (ins : InD) : edK ⟨1, b, c, s, sh, lb, ins⟩ = (eqE ⟨1, b, c, emp, sh, zL, zI⟩ ⟨1, b, c, s, sh, lb, ins⟩ && shB sh) := rfl

theorem edK_2 (b c : Int) (s : ByteArray) (sh : ShD) (lb : LbD) (ins : InD) : edK ⟨2, b, c, s, sh, lb, ins⟩ = (eqE ⟨2, b, c, emp, zS, zL, zI⟩ ⟨2, b, c, s, sh, lb, ins⟩) := rfl

theorem edK_3 (b c : Int) (s : ByteArray) (sh : ShD) (lb : LbD) (ins : InD) : edK ⟨3, b, c, s, sh, lb, ins⟩ = (eqE ⟨3, b, c, emp, zS, lb, zI⟩ ⟨3, b, c, s, sh, lb, ins⟩ && lbB lb) := rfl

theorem edK_4 (b c : Int) (s : ByteArray) (sh : ShD) (lb : LbD) (ins : InD) : edK ⟨4, b, c, s, sh, lb, ins⟩ = (eqE ⟨4, b, c, emp, zS, zL, zI⟩ ⟨4, b, c, s, sh, lb, ins⟩) := rfl

theorem edK_5 (b c : Int) (s : ByteArray) (sh : ShD) (lb : LbD) (ins : InD) : edK ⟨5, b, c, s, sh, lb, ins⟩ = (eqE ⟨5, b, c, emp, zS, zL, ins⟩ ⟨5, b, c, s, sh, lb, ins⟩ && inB ins 8) := rfl

theorem edK_6 (b c : Int) (s : ByteArray) (sh : ShD) (lb : LbD) (ins : InD) : edK ⟨6, b, c, s, sh, lb, ins⟩ = (eqE ⟨6, b, c, emp, zS, zL, zI⟩ ⟨6, b, c, s, sh, lb, ins⟩) := rfl

theorem edK_7 (b c : Int) (s : ByteArray) (sh : ShD) (lb : LbD) (ins : InD) : edK ⟨7, b, c, s, sh, lb, ins⟩ = (eqE ⟨7, b, 0, s, zS, zL, zI⟩ ⟨7, b, c, s, sh, lb, ins⟩ && nameB s) := rfl

theorem edK_8 (b c : Int) (s : ByteArray) (sh : ShD) (lb : LbD) (ins : InD) : edK ⟨8, b, c, s, sh, lb, ins⟩ = (eqE ⟨8, b, 0, s, zS, zL, zI⟩ ⟨8, b, c, s, sh, lb, ins⟩ && nameB s) := rfl

theorem edK_9 (b c : Int) (s : ByteArray) (sh : ShD) (lb : LbD) (ins : InD) : edK ⟨9, b, c, s, sh, lb, ins⟩ = (eqE ⟨9, b, 0, emp, zS, zL, zI⟩ ⟨9, b, c, s, sh, lb, ins⟩) := rfl

set_option maxRecDepth 100000 in
set_option maxHeartbeats 4000000 in
theorem pEd1 (b c : Int) (s : ByteArray) (sh : ShD) (lb : LbD) (ins : InD) (w : World) (hs1 : s.size ≤ 9223372036854775807) (hs2 : lb.s.size ≤ 9223372036854775807) (h0 : wit b 0 8 = true) (h1 : wit c 0 24 = true) :
    Calls Tryz.prog 33 #[.agg #[.int .i64 1, .int .i64 b, .int .i64 c, .string s, .int .i64 sh.a, .int .i64 sh.box.a, .int .i64 sh.box.b, .int .i64 sh.box.c, .int .i64 sh.box.d, .int .i64 lb.a, .int .i64 lb.pt.a, .int .i64 lb.pt.b, .string lb.s, .int .i64 ins.a, .int .i64 ins.tr.a, .int .i64 ins.tr.b, .int .i64 ins.tr.c, .int .i64 ins.c, .int .i64 ins.d, .int .i64 ins.e, .int .i64 ins.f]] w fun e w' => e = .returned (.bool (edK ⟨1, b, c, s, sh, lb, ins⟩)) ∧ Ext w w' := by
  have _u := And.intro hs1 hs2
  clear _u
  have sz2 : Hid ((Tryz.prog.info? 39).map (·.size) = some 21) := sizeD_Edit
  go_enter Tryz.func33, Tryz.ntmps33
  go_upto_region 1 with (fail)
  generalize hW : World.alloc _ _ = W0
  obtain ⟨E0, z0, b0⟩ := boxes1 hW
  clear hW z0
  replace b0 := hid (show Blk W0 (w.heap.size) [_, _, _, _, _, _, _, _, _, _, _, _, _, _, _, _, _, _, _, _, _] _ from b0)
  have g0 := b0.out.cells
  have l0 := b0.out.lt
  have E := Ext.refl W0
  have b0e : Blk W0 w.heap.size (encEd ⟨1, b, c, s, sh, lb, ins⟩) 39 := b0.out
  replace b0e := hid b0e
  go_upto_region 4 with (first | (go_at_call 67; refine (within_any _ _ _ _).mono ?_; rintro e w2 ⟨rfl, rfl⟩) | ((with_reducible refine at_dst 18 ?_); refine wpList_build (op := ⟨some 18, _, _, _, _, _⟩) rfl 39 _ rfl [(0, .int .i64 1), (1, .int .i64 b)] rfl _ (built_Ed 1 b) ?_) | ((with_reducible refine at_store ?_); refine wpList_newEd (op := ⟨none, _, _, _, _, _⟩) rfl (Operand.tmp 3) (Operand.tmp 18) rfl ⟨1, b, 0, emp, zS, zL, zI⟩ _ rfl rfl rfl ?_; intro W1 b1 E1))
  have b1e := hid b1
  simp only [encEd, zS, zL, zI, emp] at b1
  replace b1 := hid b1
  replace E := E.trans E1
  clear g0 l0
  have g0 := (b0.out.ext E).cells
  have l0 := (b0.out.ext E).lt
  have g1 := b1.out.cells
  have f1 := b1.out.free
  have l1 := b1.out.lt
  cases hq : eqE ⟨1, b, c, emp, sh, zL, zI⟩ ⟨1, b, c, s, sh, lb, ins⟩ with
  | false =>
    have hr : Hid (false = edK ⟨1, b, c, s, sh, lb, ins⟩) := by show _ = _; rw [edK_1, hq]; rfl
    replace hq := hid hq
    go_upto_region 6 with (fail)
    go_region
    generalize hV : World.drew _ = W2
    have b2' := (((((((b1.out).set 2 (.int .i64 c)).set 4 (.int .i64 sh.a)).set 5 (.int .i64 sh.box.a)).set 6 (.int .i64 sh.box.b)).set 7 (.int .i64 sh.box.c)).set 8 (.int .i64 sh.box.d)).drew
    simp only [List.set_cons_zero, List.set_cons_succ] at b2'
    rw [hV] at b2'
    have b2 : Hid (Blk W2 W0.heap.size (encEd ⟨1, b, c, emp, sh, zL, zI⟩) 39) := b2'
    clear b2'
    have E2 : Ext W0 W2 := by rw [← hV]; exact ((((((((E1.trans (Ext.refl W1))).setCell (p := ⟨W0.heap.size, 2, none⟩) (Nat.le_refl _) (.int .i64 c)).setCell (p := ⟨W0.heap.size, 4, none⟩) (Nat.le_refl _) (.int .i64 sh.a)).setCell (p := ⟨W0.heap.size, 5, none⟩) (Nat.le_refl _) (.int .i64 sh.box.a)).setCell (p := ⟨W0.heap.size, 6, none⟩) (Nat.le_refl _) (.int .i64 sh.box.b)).setCell (p := ⟨W0.heap.size, 7, none⟩) (Nat.le_refl _) (.int .i64 sh.box.c)).setCell (p := ⟨W0.heap.size, 8, none⟩) (Nat.le_refl _) (.int .i64 sh.box.d)).drew
    clear hV
    clear g0 l0 g1 f1 l1 E E1 b1 b1e
    have E := E2
    clear E2
    have g0 := (b0.out.ext E).cells
    have l0 := (b0.out.ext E).lt
    have r1 := hid (range_blk b2.out)
    have r0 := hid (range_blk (b0e.out.ext E))
    have l1 := b2.out.lt
    go_wp2_with (first | ((with_reducible refine at_dst 29 ?_); refine wpList_load_mid (op := ⟨some 29, _, _, _, _, _⟩) rfl 39 (Operand.tmp 3) rfl W0.heap.size 0 rfl (encEd ⟨1, b, c, emp, sh, zL, zI⟩) _ r1.out Tryz.underlying39 rfl sz2.out ?_) | ((with_reducible refine at_dst 30 ?_); refine wpList_load_mid (op := ⟨some 30, _, _, _, _, _⟩) rfl 39 (Operand.tmp 1) rfl w.heap.size 0 rfl (encEd ⟨1, b, c, s, sh, lb, ins⟩) _ r0.out Tryz.underlying39 rfl sz2.out ?_) | ((with_reducible refine at_dst 31 ?_); refine wpList_eqEd (op := ⟨some 31, _, _, _, _, _⟩) rfl (.tmp 29) (.tmp 30) 39 rfl ⟨1, b, c, emp, sh, zL, zI⟩ ⟨1, b, c, s, sh, lb, ins⟩ rfl rfl ?_; rw [hq.out]))
    go_ret
    exact ⟨ret_bool hr.out, E0.trans E⟩
  | true =>
    have hr : Hid ((shB sh) = edK ⟨1, b, c, s, sh, lb, ins⟩) := by show _ = _; rw [edK_1, hq]; rfl
    replace hq := hid hq
    go_upto_region 6 with (fail)
    go_region
    generalize hV : World.drew _ = W2
    have b2' := (((((((b1.out).set 2 (.int .i64 c)).set 4 (.int .i64 sh.a)).set 5 (.int .i64 sh.box.a)).set 6 (.int .i64 sh.box.b)).set 7 (.int .i64 sh.box.c)).set 8 (.int .i64 sh.box.d)).drew
    simp only [List.set_cons_zero, List.set_cons_succ] at b2'
    rw [hV] at b2'
    have b2 : Hid (Blk W2 W0.heap.size (encEd ⟨1, b, c, emp, sh, zL, zI⟩) 39) := b2'
    clear b2'
    have E2 : Ext W0 W2 := by rw [← hV]; exact ((((((((E1.trans (Ext.refl W1))).setCell (p := ⟨W0.heap.size, 2, none⟩) (Nat.le_refl _) (.int .i64 c)).setCell (p := ⟨W0.heap.size, 4, none⟩) (Nat.le_refl _) (.int .i64 sh.a)).setCell (p := ⟨W0.heap.size, 5, none⟩) (Nat.le_refl _) (.int .i64 sh.box.a)).setCell (p := ⟨W0.heap.size, 6, none⟩) (Nat.le_refl _) (.int .i64 sh.box.b)).setCell (p := ⟨W0.heap.size, 7, none⟩) (Nat.le_refl _) (.int .i64 sh.box.c)).setCell (p := ⟨W0.heap.size, 8, none⟩) (Nat.le_refl _) (.int .i64 sh.box.d)).drew
    clear hV
    clear g0 l0 g1 f1 l1 E E1 b1 b1e
    have E := E2
    clear E2
    have g0 := (b0.out.ext E).cells
    have l0 := (b0.out.ext E).lt
    have r1 := hid (range_blk b2.out)
    have r0 := hid (range_blk (b0e.out.ext E))
    have l1 := b2.out.lt
    go_wp2_with (first | ((with_reducible refine at_dst 29 ?_); refine wpList_load_mid (op := ⟨some 29, _, _, _, _, _⟩) rfl 39 (Operand.tmp 3) rfl W0.heap.size 0 rfl (encEd ⟨1, b, c, emp, sh, zL, zI⟩) _ r1.out Tryz.underlying39 rfl sz2.out ?_) | ((with_reducible refine at_dst 30 ?_); refine wpList_load_mid (op := ⟨some 30, _, _, _, _, _⟩) rfl 39 (Operand.tmp 1) rfl w.heap.size 0 rfl (encEd ⟨1, b, c, s, sh, lb, ins⟩) _ r0.out Tryz.underlying39 rfl sz2.out ?_) | ((with_reducible refine at_dst 31 ?_); refine wpList_eqEd (op := ⟨some 31, _, _, _, _, _⟩) rfl (.tmp 29) (.tmp 30) 39 rfl ⟨1, b, c, emp, sh, zL, zI⟩ ⟨1, b, c, s, sh, lb, ins⟩ rfl rfl ?_; rw [hq.out]) | (go_at_call 57; refine (pShape_any sh _).mono ?_; rintro e w5 ⟨rfl, E5⟩; replace E := E.trans E5; clear g0 l0 r1 r0 E5; have g0 := (b0.out.ext E).cells; have l0 := (b0.out.ext E).lt))
    go_ret
    exact ⟨ret_bool hr.out, E0.trans E⟩

set_option maxRecDepth 100000 in
set_option maxHeartbeats 4000000 in
theorem pEd2 (b c : Int) (s : ByteArray) (sh : ShD) (lb : LbD) (ins : InD) (w : World) (hs1 : s.size ≤ 9223372036854775807) (hs2 : lb.s.size ≤ 9223372036854775807) (h0 : wit b 0 8 = true) (h1 : wit c 0 24 = true) :
    Calls Tryz.prog 33 #[.agg #[.int .i64 2, .int .i64 b, .int .i64 c, .string s, .int .i64 sh.a, .int .i64 sh.box.a, .int .i64 sh.box.b, .int .i64 sh.box.c, .int .i64 sh.box.d, .int .i64 lb.a, .int .i64 lb.pt.a, .int .i64 lb.pt.b, .string lb.s, .int .i64 ins.a, .int .i64 ins.tr.a, .int .i64 ins.tr.b, .int .i64 ins.tr.c, .int .i64 ins.c, .int .i64 ins.d, .int .i64 ins.e, .int .i64 ins.f]] w fun e w' => e = .returned (.bool (edK ⟨2, b, c, s, sh, lb, ins⟩)) ∧ Ext w w' := by
  have _u := And.intro hs1 hs2
  clear _u
  have sz2 : Hid ((Tryz.prog.info? 39).map (·.size) = some 21) := sizeD_Edit
  go_enter Tryz.func33, Tryz.ntmps33
  go_upto_region 1 with (fail)
  generalize hW : World.alloc _ _ = W0
  obtain ⟨E0, z0, b0⟩ := boxes1 hW
  clear hW z0
  replace b0 := hid (show Blk W0 (w.heap.size) [_, _, _, _, _, _, _, _, _, _, _, _, _, _, _, _, _, _, _, _, _] _ from b0)
  have g0 := b0.out.cells
  have l0 := b0.out.lt
  have E := Ext.refl W0
  have b0e : Blk W0 w.heap.size (encEd ⟨2, b, c, s, sh, lb, ins⟩) 39 := b0.out
  replace b0e := hid b0e
  go_upto_region 4 with (first | (go_at_call 67; refine (within_any _ _ _ _).mono ?_; rintro e w2 ⟨rfl, rfl⟩) | ((with_reducible refine at_dst 18 ?_); refine wpList_build (op := ⟨some 18, _, _, _, _, _⟩) rfl 39 _ rfl [(0, .int .i64 2), (1, .int .i64 b)] rfl _ (built_Ed 2 b) ?_) | ((with_reducible refine at_store ?_); refine wpList_newEd (op := ⟨none, _, _, _, _, _⟩) rfl (Operand.tmp 3) (Operand.tmp 18) rfl ⟨2, b, 0, emp, zS, zL, zI⟩ _ rfl rfl rfl ?_; intro W1 b1 E1))
  have b1e := hid b1
  simp only [encEd, zS, zL, zI, emp] at b1
  replace b1 := hid b1
  replace E := E.trans E1
  clear g0 l0
  have g0 := (b0.out.ext E).cells
  have l0 := (b0.out.ext E).lt
  have g1 := b1.out.cells
  have f1 := b1.out.free
  have l1 := b1.out.lt
  cases hq : eqE ⟨2, b, c, emp, zS, zL, zI⟩ ⟨2, b, c, s, sh, lb, ins⟩ with
  | false =>
    have hr : Hid (false = edK ⟨2, b, c, s, sh, lb, ins⟩) := by show _ = _; rw [edK_2, hq]
    replace hq := hid hq
    go_upto_region 18 with (fail)
    generalize hV : World.setCell _ _ _ = W2
    have b2' := (b1.out).set 2 (.int .i64 c)
    simp only [List.set_cons_zero, List.set_cons_succ] at b2'
    rw [hV] at b2'
    have b2 : Hid (Blk W2 W0.heap.size (encEd ⟨2, b, c, emp, zS, zL, zI⟩) 39) := b2'
    clear b2'
    have E2 : Ext W0 W2 := by rw [← hV]; exact ((E1.trans (Ext.refl W1))).setCell (p := ⟨W0.heap.size, 2, none⟩) (Nat.le_refl _) (.int .i64 c)
    clear hV
    clear g0 l0 g1 f1 l1 E E1 b1 b1e
    have E := E2
    clear E2
    have g0 := (b0.out.ext E).cells
    have l0 := (b0.out.ext E).lt
    have r1 := hid (range_blk b2.out)
    have r0 := hid (range_blk (b0e.out.ext E))
    have l1 := b2.out.lt
    go_wp2_with (first | ((with_reducible refine at_dst 76 ?_); refine wpList_load_mid (op := ⟨some 76, _, _, _, _, _⟩) rfl 39 (Operand.tmp 3) rfl W0.heap.size 0 rfl (encEd ⟨2, b, c, emp, zS, zL, zI⟩) _ r1.out Tryz.underlying39 rfl sz2.out ?_) | ((with_reducible refine at_dst 77 ?_); refine wpList_load_mid (op := ⟨some 77, _, _, _, _, _⟩) rfl 39 (Operand.tmp 1) rfl w.heap.size 0 rfl (encEd ⟨2, b, c, s, sh, lb, ins⟩) _ r0.out Tryz.underlying39 rfl sz2.out ?_) | ((with_reducible refine at_dst 78 ?_); refine wpList_eqEd (op := ⟨some 78, _, _, _, _, _⟩) rfl (.tmp 76) (.tmp 77) 39 rfl ⟨2, b, c, emp, zS, zL, zI⟩ ⟨2, b, c, s, sh, lb, ins⟩ rfl rfl ?_; rw [hq.out]))
    go_ret
    exact ⟨ret_bool hr.out, E0.trans E⟩
  | true =>
    have hr : Hid ((true) = edK ⟨2, b, c, s, sh, lb, ins⟩) := by show _ = _; rw [edK_2, hq]
    replace hq := hid hq
    go_upto_region 18 with (fail)
    generalize hV : World.setCell _ _ _ = W2
    have b2' := (b1.out).set 2 (.int .i64 c)
    simp only [List.set_cons_zero, List.set_cons_succ] at b2'
    rw [hV] at b2'
    have b2 : Hid (Blk W2 W0.heap.size (encEd ⟨2, b, c, emp, zS, zL, zI⟩) 39) := b2'
    clear b2'
    have E2 : Ext W0 W2 := by rw [← hV]; exact ((E1.trans (Ext.refl W1))).setCell (p := ⟨W0.heap.size, 2, none⟩) (Nat.le_refl _) (.int .i64 c)
    clear hV
    clear g0 l0 g1 f1 l1 E E1 b1 b1e
    have E := E2
    clear E2
    have g0 := (b0.out.ext E).cells
    have l0 := (b0.out.ext E).lt
    have r1 := hid (range_blk b2.out)
    have r0 := hid (range_blk (b0e.out.ext E))
    have l1 := b2.out.lt
    go_wp2_with (first | ((with_reducible refine at_dst 76 ?_); refine wpList_load_mid (op := ⟨some 76, _, _, _, _, _⟩) rfl 39 (Operand.tmp 3) rfl W0.heap.size 0 rfl (encEd ⟨2, b, c, emp, zS, zL, zI⟩) _ r1.out Tryz.underlying39 rfl sz2.out ?_) | ((with_reducible refine at_dst 77 ?_); refine wpList_load_mid (op := ⟨some 77, _, _, _, _, _⟩) rfl 39 (Operand.tmp 1) rfl w.heap.size 0 rfl (encEd ⟨2, b, c, s, sh, lb, ins⟩) _ r0.out Tryz.underlying39 rfl sz2.out ?_) | ((with_reducible refine at_dst 78 ?_); refine wpList_eqEd (op := ⟨some 78, _, _, _, _, _⟩) rfl (.tmp 76) (.tmp 77) 39 rfl ⟨2, b, c, emp, zS, zL, zI⟩ ⟨2, b, c, s, sh, lb, ins⟩ rfl rfl ?_; rw [hq.out]))
    go_ret
    exact ⟨ret_bool hr.out, E0.trans E⟩

set_option maxRecDepth 100000 in
set_option maxHeartbeats 4000000 in
theorem pEd3 (b c : Int) (s : ByteArray) (sh : ShD) (lb : LbD) (ins : InD) (w : World) (hs1 : s.size ≤ 9223372036854775807) (hs2 : lb.s.size ≤ 9223372036854775807) (h0 : wit b 0 8 = true) (h1 : wit c 0 24 = true) :
    Calls Tryz.prog 33 #[.agg #[.int .i64 3, .int .i64 b, .int .i64 c, .string s, .int .i64 sh.a, .int .i64 sh.box.a, .int .i64 sh.box.b, .int .i64 sh.box.c, .int .i64 sh.box.d, .int .i64 lb.a, .int .i64 lb.pt.a, .int .i64 lb.pt.b, .string lb.s, .int .i64 ins.a, .int .i64 ins.tr.a, .int .i64 ins.tr.b, .int .i64 ins.tr.c, .int .i64 ins.c, .int .i64 ins.d, .int .i64 ins.e, .int .i64 ins.f]] w fun e w' => e = .returned (.bool (edK ⟨3, b, c, s, sh, lb, ins⟩)) ∧ Ext w w' := by
  have _u := And.intro hs1 hs2
  clear _u
  have sz2 : Hid ((Tryz.prog.info? 39).map (·.size) = some 21) := sizeD_Edit
  go_enter Tryz.func33, Tryz.ntmps33
  go_upto_region 1 with (fail)
  generalize hW : World.alloc _ _ = W0
  obtain ⟨E0, z0, b0⟩ := boxes1 hW
  clear hW z0
  replace b0 := hid (show Blk W0 (w.heap.size) [_, _, _, _, _, _, _, _, _, _, _, _, _, _, _, _, _, _, _, _, _] _ from b0)
  have g0 := b0.out.cells
  have l0 := b0.out.lt
  have E := Ext.refl W0
  have b0e : Blk W0 w.heap.size (encEd ⟨3, b, c, s, sh, lb, ins⟩) 39 := b0.out
  replace b0e := hid b0e
  go_upto_region 4 with (first | (go_at_call 67; refine (within_any _ _ _ _).mono ?_; rintro e w2 ⟨rfl, rfl⟩) | ((with_reducible refine at_dst 18 ?_); refine wpList_build (op := ⟨some 18, _, _, _, _, _⟩) rfl 39 _ rfl [(0, .int .i64 3), (1, .int .i64 b)] rfl _ (built_Ed 3 b) ?_) | ((with_reducible refine at_store ?_); refine wpList_newEd (op := ⟨none, _, _, _, _, _⟩) rfl (Operand.tmp 3) (Operand.tmp 18) rfl ⟨3, b, 0, emp, zS, zL, zI⟩ _ rfl rfl rfl ?_; intro W1 b1 E1))
  have b1e := hid b1
  simp only [encEd, zS, zL, zI, emp] at b1
  replace b1 := hid b1
  replace E := E.trans E1
  clear g0 l0
  have g0 := (b0.out.ext E).cells
  have l0 := (b0.out.ext E).lt
  have g1 := b1.out.cells
  have f1 := b1.out.free
  have l1 := b1.out.lt
  cases hq : eqE ⟨3, b, c, emp, zS, lb, zI⟩ ⟨3, b, c, s, sh, lb, ins⟩ with
  | false =>
    have hr : Hid (false = edK ⟨3, b, c, s, sh, lb, ins⟩) := by show _ = _; rw [edK_3, hq]; rfl
    replace hq := hid hq
    go_upto_region 9 with (fail)
    go_region
    generalize hV : World.drew _ = W2
    have b2' := ((((((b1.out).set 2 (.int .i64 c)).set 9 (.int .i64 lb.a)).set 10 (.int .i64 lb.pt.a)).set 11 (.int .i64 lb.pt.b)).set 12 (.string lb.s)).drew
    simp only [List.set_cons_zero, List.set_cons_succ] at b2'
    rw [hV] at b2'
    have b2 : Hid (Blk W2 W0.heap.size (encEd ⟨3, b, c, emp, zS, lb, zI⟩) 39) := b2'
    clear b2'
    have E2 : Ext W0 W2 := by rw [← hV]; exact (((((((E1.trans (Ext.refl W1))).setCell (p := ⟨W0.heap.size, 2, none⟩) (Nat.le_refl _) (.int .i64 c)).setCell (p := ⟨W0.heap.size, 9, none⟩) (Nat.le_refl _) (.int .i64 lb.a)).setCell (p := ⟨W0.heap.size, 10, none⟩) (Nat.le_refl _) (.int .i64 lb.pt.a)).setCell (p := ⟨W0.heap.size, 11, none⟩) (Nat.le_refl _) (.int .i64 lb.pt.b)).setCell (p := ⟨W0.heap.size, 12, none⟩) (Nat.le_refl _) (.string lb.s)).drew
    clear hV
    clear g0 l0 g1 f1 l1 E E1 b1 b1e
    have E := E2
    clear E2
    have g0 := (b0.out.ext E).cells
    have l0 := (b0.out.ext E).lt
    have r1 := hid (range_blk b2.out)
    have r0 := hid (range_blk (b0e.out.ext E))
    have l1 := b2.out.lt
    go_wp2_with (first | ((with_reducible refine at_dst 45 ?_); refine wpList_load_mid (op := ⟨some 45, _, _, _, _, _⟩) rfl 39 (Operand.tmp 3) rfl W0.heap.size 0 rfl (encEd ⟨3, b, c, emp, zS, lb, zI⟩) _ r1.out Tryz.underlying39 rfl sz2.out ?_) | ((with_reducible refine at_dst 46 ?_); refine wpList_load_mid (op := ⟨some 46, _, _, _, _, _⟩) rfl 39 (Operand.tmp 1) rfl w.heap.size 0 rfl (encEd ⟨3, b, c, s, sh, lb, ins⟩) _ r0.out Tryz.underlying39 rfl sz2.out ?_) | ((with_reducible refine at_dst 47 ?_); refine wpList_eqEd (op := ⟨some 47, _, _, _, _, _⟩) rfl (.tmp 45) (.tmp 46) 39 rfl ⟨3, b, c, emp, zS, lb, zI⟩ ⟨3, b, c, s, sh, lb, ins⟩ rfl rfl ?_; rw [hq.out]))
    go_ret
    exact ⟨ret_bool hr.out, E0.trans E⟩
  | true =>
    have hr : Hid ((lbB lb) = edK ⟨3, b, c, s, sh, lb, ins⟩) := by show _ = _; rw [edK_3, hq]; rfl
    replace hq := hid hq
    go_upto_region 9 with (fail)
    go_region
    generalize hV : World.drew _ = W2
    have b2' := ((((((b1.out).set 2 (.int .i64 c)).set 9 (.int .i64 lb.a)).set 10 (.int .i64 lb.pt.a)).set 11 (.int .i64 lb.pt.b)).set 12 (.string lb.s)).drew
    simp only [List.set_cons_zero, List.set_cons_succ] at b2'
    rw [hV] at b2'
    have b2 : Hid (Blk W2 W0.heap.size (encEd ⟨3, b, c, emp, zS, lb, zI⟩) 39) := b2'
    clear b2'
    have E2 : Ext W0 W2 := by rw [← hV]; exact (((((((E1.trans (Ext.refl W1))).setCell (p := ⟨W0.heap.size, 2, none⟩) (Nat.le_refl _) (.int .i64 c)).setCell (p := ⟨W0.heap.size, 9, none⟩) (Nat.le_refl _) (.int .i64 lb.a)).setCell (p := ⟨W0.heap.size, 10, none⟩) (Nat.le_refl _) (.int .i64 lb.pt.a)).setCell (p := ⟨W0.heap.size, 11, none⟩) (Nat.le_refl _) (.int .i64 lb.pt.b)).setCell (p := ⟨W0.heap.size, 12, none⟩) (Nat.le_refl _) (.string lb.s)).drew
    clear hV
    clear g0 l0 g1 f1 l1 E E1 b1 b1e
    have E := E2
    clear E2
    have g0 := (b0.out.ext E).cells
    have l0 := (b0.out.ext E).lt
    have r1 := hid (range_blk b2.out)
    have r0 := hid (range_blk (b0e.out.ext E))
    have l1 := b2.out.lt
    go_wp2_with (first | ((with_reducible refine at_dst 45 ?_); refine wpList_load_mid (op := ⟨some 45, _, _, _, _, _⟩) rfl 39 (Operand.tmp 3) rfl W0.heap.size 0 rfl (encEd ⟨3, b, c, emp, zS, lb, zI⟩) _ r1.out Tryz.underlying39 rfl sz2.out ?_) | ((with_reducible refine at_dst 46 ?_); refine wpList_load_mid (op := ⟨some 46, _, _, _, _, _⟩) rfl 39 (Operand.tmp 1) rfl w.heap.size 0 rfl (encEd ⟨3, b, c, s, sh, lb, ins⟩) _ r0.out Tryz.underlying39 rfl sz2.out ?_) | ((with_reducible refine at_dst 47 ?_); refine wpList_eqEd (op := ⟨some 47, _, _, _, _, _⟩) rfl (.tmp 45) (.tmp 46) 39 rfl ⟨3, b, c, emp, zS, lb, zI⟩ ⟨3, b, c, s, sh, lb, ins⟩ rfl rfl ?_; rw [hq.out]) | (go_at_call 60; refine (pLabel_any lb _ hs2).mono ?_; rintro e w5 ⟨rfl, E5⟩; replace E := E.trans E5; clear g0 l0 r1 r0 E5; have g0 := (b0.out.ext E).cells; have l0 := (b0.out.ext E).lt))
    go_ret
    exact ⟨ret_bool hr.out, E0.trans E⟩

set_option maxRecDepth 100000 in
set_option maxHeartbeats 4000000 in
theorem pEd4 (b c : Int) (s : ByteArray) (sh : ShD) (lb : LbD) (ins : InD) (w : World) (hs1 : s.size ≤ 9223372036854775807) (hs2 : lb.s.size ≤ 9223372036854775807) (h0 : wit b 0 8 = true) (h1 : wit c 0 24 = true) :
    Calls Tryz.prog 33 #[.agg #[.int .i64 4, .int .i64 b, .int .i64 c, .string s, .int .i64 sh.a, .int .i64 sh.box.a, .int .i64 sh.box.b, .int .i64 sh.box.c, .int .i64 sh.box.d, .int .i64 lb.a, .int .i64 lb.pt.a, .int .i64 lb.pt.b, .string lb.s, .int .i64 ins.a, .int .i64 ins.tr.a, .int .i64 ins.tr.b, .int .i64 ins.tr.c, .int .i64 ins.c, .int .i64 ins.d, .int .i64 ins.e, .int .i64 ins.f]] w fun e w' => e = .returned (.bool (edK ⟨4, b, c, s, sh, lb, ins⟩)) ∧ Ext w w' := by
  have _u := And.intro hs1 hs2
  clear _u
  have sz2 : Hid ((Tryz.prog.info? 39).map (·.size) = some 21) := sizeD_Edit
  go_enter Tryz.func33, Tryz.ntmps33
  go_upto_region 1 with (fail)
  generalize hW : World.alloc _ _ = W0
  obtain ⟨E0, z0, b0⟩ := boxes1 hW
  clear hW z0
  replace b0 := hid (show Blk W0 (w.heap.size) [_, _, _, _, _, _, _, _, _, _, _, _, _, _, _, _, _, _, _, _, _] _ from b0)
  have g0 := b0.out.cells
  have l0 := b0.out.lt
  have E := Ext.refl W0
  have b0e : Blk W0 w.heap.size (encEd ⟨4, b, c, s, sh, lb, ins⟩) 39 := b0.out
  replace b0e := hid b0e
  go_upto_region 4 with (first | (go_at_call 67; refine (within_any _ _ _ _).mono ?_; rintro e w2 ⟨rfl, rfl⟩) | ((with_reducible refine at_dst 18 ?_); refine wpList_build (op := ⟨some 18, _, _, _, _, _⟩) rfl 39 _ rfl [(0, .int .i64 4), (1, .int .i64 b)] rfl _ (built_Ed 4 b) ?_) | ((with_reducible refine at_store ?_); refine wpList_newEd (op := ⟨none, _, _, _, _, _⟩) rfl (Operand.tmp 3) (Operand.tmp 18) rfl ⟨4, b, 0, emp, zS, zL, zI⟩ _ rfl rfl rfl ?_; intro W1 b1 E1))
  have b1e := hid b1
  simp only [encEd, zS, zL, zI, emp] at b1
  replace b1 := hid b1
  replace E := E.trans E1
  clear g0 l0
  have g0 := (b0.out.ext E).cells
  have l0 := (b0.out.ext E).lt
  have g1 := b1.out.cells
  have f1 := b1.out.free
  have l1 := b1.out.lt
  cases hq : eqE ⟨4, b, c, emp, zS, zL, zI⟩ ⟨4, b, c, s, sh, lb, ins⟩ with
  | false =>
    have hr : Hid (false = edK ⟨4, b, c, s, sh, lb, ins⟩) := by show _ = _; rw [edK_4, hq]
    replace hq := hid hq
    go_upto_region 18 with (fail)
    generalize hV : World.setCell _ _ _ = W2
    have b2' := (b1.out).set 2 (.int .i64 c)
    simp only [List.set_cons_zero, List.set_cons_succ] at b2'
    rw [hV] at b2'
    have b2 : Hid (Blk W2 W0.heap.size (encEd ⟨4, b, c, emp, zS, zL, zI⟩) 39) := b2'
    clear b2'
    have E2 : Ext W0 W2 := by rw [← hV]; exact ((E1.trans (Ext.refl W1))).setCell (p := ⟨W0.heap.size, 2, none⟩) (Nat.le_refl _) (.int .i64 c)
    clear hV
    clear g0 l0 g1 f1 l1 E E1 b1 b1e
    have E := E2
    clear E2
    have g0 := (b0.out.ext E).cells
    have l0 := (b0.out.ext E).lt
    have r1 := hid (range_blk b2.out)
    have r0 := hid (range_blk (b0e.out.ext E))
    have l1 := b2.out.lt
    go_wp2_with (first | ((with_reducible refine at_dst 76 ?_); refine wpList_load_mid (op := ⟨some 76, _, _, _, _, _⟩) rfl 39 (Operand.tmp 3) rfl W0.heap.size 0 rfl (encEd ⟨4, b, c, emp, zS, zL, zI⟩) _ r1.out Tryz.underlying39 rfl sz2.out ?_) | ((with_reducible refine at_dst 77 ?_); refine wpList_load_mid (op := ⟨some 77, _, _, _, _, _⟩) rfl 39 (Operand.tmp 1) rfl w.heap.size 0 rfl (encEd ⟨4, b, c, s, sh, lb, ins⟩) _ r0.out Tryz.underlying39 rfl sz2.out ?_) | ((with_reducible refine at_dst 78 ?_); refine wpList_eqEd (op := ⟨some 78, _, _, _, _, _⟩) rfl (.tmp 76) (.tmp 77) 39 rfl ⟨4, b, c, emp, zS, zL, zI⟩ ⟨4, b, c, s, sh, lb, ins⟩ rfl rfl ?_; rw [hq.out]))
    go_ret
    exact ⟨ret_bool hr.out, E0.trans E⟩
  | true =>
    have hr : Hid ((true) = edK ⟨4, b, c, s, sh, lb, ins⟩) := by show _ = _; rw [edK_4, hq]
    replace hq := hid hq
    go_upto_region 18 with (fail)
    generalize hV : World.setCell _ _ _ = W2
    have b2' := (b1.out).set 2 (.int .i64 c)
    simp only [List.set_cons_zero, List.set_cons_succ] at b2'
    rw [hV] at b2'
    have b2 : Hid (Blk W2 W0.heap.size (encEd ⟨4, b, c, emp, zS, zL, zI⟩) 39) := b2'
    clear b2'
    have E2 : Ext W0 W2 := by rw [← hV]; exact ((E1.trans (Ext.refl W1))).setCell (p := ⟨W0.heap.size, 2, none⟩) (Nat.le_refl _) (.int .i64 c)
    clear hV
    clear g0 l0 g1 f1 l1 E E1 b1 b1e
    have E := E2
    clear E2
    have g0 := (b0.out.ext E).cells
    have l0 := (b0.out.ext E).lt
    have r1 := hid (range_blk b2.out)
    have r0 := hid (range_blk (b0e.out.ext E))
    have l1 := b2.out.lt
    go_wp2_with (first | ((with_reducible refine at_dst 76 ?_); refine wpList_load_mid (op := ⟨some 76, _, _, _, _, _⟩) rfl 39 (Operand.tmp 3) rfl W0.heap.size 0 rfl (encEd ⟨4, b, c, emp, zS, zL, zI⟩) _ r1.out Tryz.underlying39 rfl sz2.out ?_) | ((with_reducible refine at_dst 77 ?_); refine wpList_load_mid (op := ⟨some 77, _, _, _, _, _⟩) rfl 39 (Operand.tmp 1) rfl w.heap.size 0 rfl (encEd ⟨4, b, c, s, sh, lb, ins⟩) _ r0.out Tryz.underlying39 rfl sz2.out ?_) | ((with_reducible refine at_dst 78 ?_); refine wpList_eqEd (op := ⟨some 78, _, _, _, _, _⟩) rfl (.tmp 76) (.tmp 77) 39 rfl ⟨4, b, c, emp, zS, zL, zI⟩ ⟨4, b, c, s, sh, lb, ins⟩ rfl rfl ?_; rw [hq.out]))
    go_ret
    exact ⟨ret_bool hr.out, E0.trans E⟩

set_option maxRecDepth 100000 in
set_option maxHeartbeats 4000000 in
theorem pEd5 (b c : Int) (s : ByteArray) (sh : ShD) (lb : LbD) (ins : InD) (w : World) (hs1 : s.size ≤ 9223372036854775807) (hs2 : lb.s.size ≤ 9223372036854775807) (h0 : wit b 0 8 = true) (h1 : wit c 0 24 = true) :
    Calls Tryz.prog 33 #[.agg #[.int .i64 5, .int .i64 b, .int .i64 c, .string s, .int .i64 sh.a, .int .i64 sh.box.a, .int .i64 sh.box.b, .int .i64 sh.box.c, .int .i64 sh.box.d, .int .i64 lb.a, .int .i64 lb.pt.a, .int .i64 lb.pt.b, .string lb.s, .int .i64 ins.a, .int .i64 ins.tr.a, .int .i64 ins.tr.b, .int .i64 ins.tr.c, .int .i64 ins.c, .int .i64 ins.d, .int .i64 ins.e, .int .i64 ins.f]] w fun e w' => e = .returned (.bool (edK ⟨5, b, c, s, sh, lb, ins⟩)) ∧ Ext w w' := by
  have _u := And.intro hs1 hs2
  clear _u
  have sz2 : Hid ((Tryz.prog.info? 39).map (·.size) = some 21) := sizeD_Edit
  go_enter Tryz.func33, Tryz.ntmps33
  go_upto_region 1 with (fail)
  generalize hW : World.alloc _ _ = W0
  obtain ⟨E0, z0, b0⟩ := boxes1 hW
  clear hW z0
  replace b0 := hid (show Blk W0 (w.heap.size) [_, _, _, _, _, _, _, _, _, _, _, _, _, _, _, _, _, _, _, _, _] _ from b0)
  have g0 := b0.out.cells
  have l0 := b0.out.lt
  have E := Ext.refl W0
  have b0e : Blk W0 w.heap.size (encEd ⟨5, b, c, s, sh, lb, ins⟩) 39 := b0.out
  replace b0e := hid b0e
  go_upto_region 4 with (first | (go_at_call 67; refine (within_any _ _ _ _).mono ?_; rintro e w2 ⟨rfl, rfl⟩) | ((with_reducible refine at_dst 18 ?_); refine wpList_build (op := ⟨some 18, _, _, _, _, _⟩) rfl 39 _ rfl [(0, .int .i64 5), (1, .int .i64 b)] rfl _ (built_Ed 5 b) ?_) | ((with_reducible refine at_store ?_); refine wpList_newEd (op := ⟨none, _, _, _, _, _⟩) rfl (Operand.tmp 3) (Operand.tmp 18) rfl ⟨5, b, 0, emp, zS, zL, zI⟩ _ rfl rfl rfl ?_; intro W1 b1 E1))
  have b1e := hid b1
  simp only [encEd, zS, zL, zI, emp] at b1
  replace b1 := hid b1
  replace E := E.trans E1
  clear g0 l0
  have g0 := (b0.out.ext E).cells
  have l0 := (b0.out.ext E).lt
  have g1 := b1.out.cells
  have f1 := b1.out.free
  have l1 := b1.out.lt
  cases hq : eqE ⟨5, b, c, emp, zS, zL, ins⟩ ⟨5, b, c, s, sh, lb, ins⟩ with
  | false =>
    have hr : Hid (false = edK ⟨5, b, c, s, sh, lb, ins⟩) := by show _ = _; rw [edK_5, hq]; rfl
    replace hq := hid hq
    go_upto_region 12 with (fail)
    go_region
    generalize hV : World.drew _ = W2
    have b2' := ((((((((((b1.out).set 2 (.int .i64 c)).set 13 (.int .i64 ins.a)).set 14 (.int .i64 ins.tr.a)).set 15 (.int .i64 ins.tr.b)).set 16 (.int .i64 ins.tr.c)).set 17 (.int .i64 ins.c)).set 18 (.int .i64 ins.d)).set 19 (.int .i64 ins.e)).set 20 (.int .i64 ins.f)).drew
    simp only [List.set_cons_zero, List.set_cons_succ] at b2'
    rw [hV] at b2'
    have b2 : Hid (Blk W2 W0.heap.size (encEd ⟨5, b, c, emp, zS, zL, ins⟩) 39) := b2'
    clear b2'
    have E2 : Ext W0 W2 := by rw [← hV]; exact (((((((((((E1.trans (Ext.refl W1))).setCell (p := ⟨W0.heap.size, 2, none⟩) (Nat.le_refl _) (.int .i64 c)).setCell (p := ⟨W0.heap.size, 13, none⟩) (Nat.le_refl _) (.int .i64 ins.a)).setCell (p := ⟨W0.heap.size, 14, none⟩) (Nat.le_refl _) (.int .i64 ins.tr.a)).setCell (p := ⟨W0.heap.size, 15, none⟩) (Nat.le_refl _) (.int .i64 ins.tr.b)).setCell (p := ⟨W0.heap.size, 16, none⟩) (Nat.le_refl _) (.int .i64 ins.tr.c)).setCell (p := ⟨W0.heap.size, 17, none⟩) (Nat.le_refl _) (.int .i64 ins.c)).setCell (p := ⟨W0.heap.size, 18, none⟩) (Nat.le_refl _) (.int .i64 ins.d)).setCell (p := ⟨W0.heap.size, 19, none⟩) (Nat.le_refl _) (.int .i64 ins.e)).setCell (p := ⟨W0.heap.size, 20, none⟩) (Nat.le_refl _) (.int .i64 ins.f)).drew
    clear hV
    clear g0 l0 g1 f1 l1 E E1 b1 b1e
    have E := E2
    clear E2
    have g0 := (b0.out.ext E).cells
    have l0 := (b0.out.ext E).lt
    have r1 := hid (range_blk b2.out)
    have r0 := hid (range_blk (b0e.out.ext E))
    have l1 := b2.out.lt
    go_wp2_with (first | ((with_reducible refine at_dst 61 ?_); refine wpList_load_mid (op := ⟨some 61, _, _, _, _, _⟩) rfl 39 (Operand.tmp 3) rfl W0.heap.size 0 rfl (encEd ⟨5, b, c, emp, zS, zL, ins⟩) _ r1.out Tryz.underlying39 rfl sz2.out ?_) | ((with_reducible refine at_dst 62 ?_); refine wpList_load_mid (op := ⟨some 62, _, _, _, _, _⟩) rfl 39 (Operand.tmp 1) rfl w.heap.size 0 rfl (encEd ⟨5, b, c, s, sh, lb, ins⟩) _ r0.out Tryz.underlying39 rfl sz2.out ?_) | ((with_reducible refine at_dst 63 ?_); refine wpList_eqEd (op := ⟨some 63, _, _, _, _, _⟩) rfl (.tmp 61) (.tmp 62) 39 rfl ⟨5, b, c, emp, zS, zL, ins⟩ ⟨5, b, c, s, sh, lb, ins⟩ rfl rfl ?_; rw [hq.out]))
    go_ret
    exact ⟨ret_bool hr.out, E0.trans E⟩
  | true =>
    have hr : Hid ((inB ins 8) = edK ⟨5, b, c, s, sh, lb, ins⟩) := by show _ = _; rw [edK_5, hq]; rfl
    replace hq := hid hq
    go_upto_region 12 with (fail)
    go_region
    generalize hV : World.drew _ = W2
    have b2' := ((((((((((b1.out).set 2 (.int .i64 c)).set 13 (.int .i64 ins.a)).set 14 (.int .i64 ins.tr.a)).set 15 (.int .i64 ins.tr.b)).set 16 (.int .i64 ins.tr.c)).set 17 (.int .i64 ins.c)).set 18 (.int .i64 ins.d)).set 19 (.int .i64 ins.e)).set 20 (.int .i64 ins.f)).drew
    simp only [List.set_cons_zero, List.set_cons_succ] at b2'
    rw [hV] at b2'
    have b2 : Hid (Blk W2 W0.heap.size (encEd ⟨5, b, c, emp, zS, zL, ins⟩) 39) := b2'
    clear b2'
    have E2 : Ext W0 W2 := by rw [← hV]; exact (((((((((((E1.trans (Ext.refl W1))).setCell (p := ⟨W0.heap.size, 2, none⟩) (Nat.le_refl _) (.int .i64 c)).setCell (p := ⟨W0.heap.size, 13, none⟩) (Nat.le_refl _) (.int .i64 ins.a)).setCell (p := ⟨W0.heap.size, 14, none⟩) (Nat.le_refl _) (.int .i64 ins.tr.a)).setCell (p := ⟨W0.heap.size, 15, none⟩) (Nat.le_refl _) (.int .i64 ins.tr.b)).setCell (p := ⟨W0.heap.size, 16, none⟩) (Nat.le_refl _) (.int .i64 ins.tr.c)).setCell (p := ⟨W0.heap.size, 17, none⟩) (Nat.le_refl _) (.int .i64 ins.c)).setCell (p := ⟨W0.heap.size, 18, none⟩) (Nat.le_refl _) (.int .i64 ins.d)).setCell (p := ⟨W0.heap.size, 19, none⟩) (Nat.le_refl _) (.int .i64 ins.e)).setCell (p := ⟨W0.heap.size, 20, none⟩) (Nat.le_refl _) (.int .i64 ins.f)).drew
    clear hV
    clear g0 l0 g1 f1 l1 E E1 b1 b1e
    have E := E2
    clear E2
    have g0 := (b0.out.ext E).cells
    have l0 := (b0.out.ext E).lt
    have r1 := hid (range_blk b2.out)
    have r0 := hid (range_blk (b0e.out.ext E))
    have l1 := b2.out.lt
    go_wp2_with (first | ((with_reducible refine at_dst 61 ?_); refine wpList_load_mid (op := ⟨some 61, _, _, _, _, _⟩) rfl 39 (Operand.tmp 3) rfl W0.heap.size 0 rfl (encEd ⟨5, b, c, emp, zS, zL, ins⟩) _ r1.out Tryz.underlying39 rfl sz2.out ?_) | ((with_reducible refine at_dst 62 ?_); refine wpList_load_mid (op := ⟨some 62, _, _, _, _, _⟩) rfl 39 (Operand.tmp 1) rfl w.heap.size 0 rfl (encEd ⟨5, b, c, s, sh, lb, ins⟩) _ r0.out Tryz.underlying39 rfl sz2.out ?_) | ((with_reducible refine at_dst 63 ?_); refine wpList_eqEd (op := ⟨some 63, _, _, _, _, _⟩) rfl (.tmp 61) (.tmp 62) 39 rfl ⟨5, b, c, emp, zS, zL, ins⟩ ⟨5, b, c, s, sh, lb, ins⟩ rfl rfl ?_; rw [hq.out]) | (go_at_call 63; refine (pInstance_any ins 8 _ ⟨by omega, by omega⟩).mono ?_; rintro e w5 ⟨rfl, E5⟩; replace E := E.trans E5; clear g0 l0 r1 r0 E5; have g0 := (b0.out.ext E).cells; have l0 := (b0.out.ext E).lt))
    go_ret
    exact ⟨ret_bool hr.out, E0.trans E⟩

set_option maxRecDepth 100000 in
set_option maxHeartbeats 4000000 in
theorem pEd6 (b c : Int) (s : ByteArray) (sh : ShD) (lb : LbD) (ins : InD) (w : World) (hs1 : s.size ≤ 9223372036854775807) (hs2 : lb.s.size ≤ 9223372036854775807) (h0 : wit b 0 8 = true) (h1 : wit c 0 24 = true) :
    Calls Tryz.prog 33 #[.agg #[.int .i64 6, .int .i64 b, .int .i64 c, .string s, .int .i64 sh.a, .int .i64 sh.box.a, .int .i64 sh.box.b, .int .i64 sh.box.c, .int .i64 sh.box.d, .int .i64 lb.a, .int .i64 lb.pt.a, .int .i64 lb.pt.b, .string lb.s, .int .i64 ins.a, .int .i64 ins.tr.a, .int .i64 ins.tr.b, .int .i64 ins.tr.c, .int .i64 ins.c, .int .i64 ins.d, .int .i64 ins.e, .int .i64 ins.f]] w fun e w' => e = .returned (.bool (edK ⟨6, b, c, s, sh, lb, ins⟩)) ∧ Ext w w' := by
  have _u := And.intro hs1 hs2
  clear _u
  have sz2 : Hid ((Tryz.prog.info? 39).map (·.size) = some 21) := sizeD_Edit
  go_enter Tryz.func33, Tryz.ntmps33
  go_upto_region 1 with (fail)
  generalize hW : World.alloc _ _ = W0
  obtain ⟨E0, z0, b0⟩ := boxes1 hW
  clear hW z0
  replace b0 := hid (show Blk W0 (w.heap.size) [_, _, _, _, _, _, _, _, _, _, _, _, _, _, _, _, _, _, _, _, _] _ from b0)
  have g0 := b0.out.cells
  have l0 := b0.out.lt
  have E := Ext.refl W0
  have b0e : Blk W0 w.heap.size (encEd ⟨6, b, c, s, sh, lb, ins⟩) 39 := b0.out
  replace b0e := hid b0e
  go_upto_region 4 with (first | (go_at_call 67; refine (within_any _ _ _ _).mono ?_; rintro e w2 ⟨rfl, rfl⟩) | ((with_reducible refine at_dst 18 ?_); refine wpList_build (op := ⟨some 18, _, _, _, _, _⟩) rfl 39 _ rfl [(0, .int .i64 6), (1, .int .i64 b)] rfl _ (built_Ed 6 b) ?_) | ((with_reducible refine at_store ?_); refine wpList_newEd (op := ⟨none, _, _, _, _, _⟩) rfl (Operand.tmp 3) (Operand.tmp 18) rfl ⟨6, b, 0, emp, zS, zL, zI⟩ _ rfl rfl rfl ?_; intro W1 b1 E1))
  have b1e := hid b1
  simp only [encEd, zS, zL, zI, emp] at b1
  replace b1 := hid b1
  replace E := E.trans E1
  clear g0 l0
  have g0 := (b0.out.ext E).cells
  have l0 := (b0.out.ext E).lt
  have g1 := b1.out.cells
  have f1 := b1.out.free
  have l1 := b1.out.lt
  cases hq : eqE ⟨6, b, c, emp, zS, zL, zI⟩ ⟨6, b, c, s, sh, lb, ins⟩ with
  | false =>
    have hr : Hid (false = edK ⟨6, b, c, s, sh, lb, ins⟩) := by show _ = _; rw [edK_6, hq]
    replace hq := hid hq
    go_upto_region 18 with (fail)
    generalize hV : World.setCell _ _ _ = W2
    have b2' := (b1.out).set 2 (.int .i64 c)
    simp only [List.set_cons_zero, List.set_cons_succ] at b2'
    rw [hV] at b2'
    have b2 : Hid (Blk W2 W0.heap.size (encEd ⟨6, b, c, emp, zS, zL, zI⟩) 39) := b2'
    clear b2'
    have E2 : Ext W0 W2 := by rw [← hV]; exact ((E1.trans (Ext.refl W1))).setCell (p := ⟨W0.heap.size, 2, none⟩) (Nat.le_refl _) (.int .i64 c)
    clear hV
    clear g0 l0 g1 f1 l1 E E1 b1 b1e
    have E := E2
    clear E2
    have g0 := (b0.out.ext E).cells
    have l0 := (b0.out.ext E).lt
    have r1 := hid (range_blk b2.out)
    have r0 := hid (range_blk (b0e.out.ext E))
    have l1 := b2.out.lt
    go_wp2_with (first | ((with_reducible refine at_dst 76 ?_); refine wpList_load_mid (op := ⟨some 76, _, _, _, _, _⟩) rfl 39 (Operand.tmp 3) rfl W0.heap.size 0 rfl (encEd ⟨6, b, c, emp, zS, zL, zI⟩) _ r1.out Tryz.underlying39 rfl sz2.out ?_) | ((with_reducible refine at_dst 77 ?_); refine wpList_load_mid (op := ⟨some 77, _, _, _, _, _⟩) rfl 39 (Operand.tmp 1) rfl w.heap.size 0 rfl (encEd ⟨6, b, c, s, sh, lb, ins⟩) _ r0.out Tryz.underlying39 rfl sz2.out ?_) | ((with_reducible refine at_dst 78 ?_); refine wpList_eqEd (op := ⟨some 78, _, _, _, _, _⟩) rfl (.tmp 76) (.tmp 77) 39 rfl ⟨6, b, c, emp, zS, zL, zI⟩ ⟨6, b, c, s, sh, lb, ins⟩ rfl rfl ?_; rw [hq.out]))
    go_ret
    exact ⟨ret_bool hr.out, E0.trans E⟩
  | true =>
    have hr : Hid ((true) = edK ⟨6, b, c, s, sh, lb, ins⟩) := by show _ = _; rw [edK_6, hq]
    replace hq := hid hq
    go_upto_region 18 with (fail)
    generalize hV : World.setCell _ _ _ = W2
    have b2' := (b1.out).set 2 (.int .i64 c)
    simp only [List.set_cons_zero, List.set_cons_succ] at b2'
    rw [hV] at b2'
    have b2 : Hid (Blk W2 W0.heap.size (encEd ⟨6, b, c, emp, zS, zL, zI⟩) 39) := b2'
    clear b2'
    have E2 : Ext W0 W2 := by rw [← hV]; exact ((E1.trans (Ext.refl W1))).setCell (p := ⟨W0.heap.size, 2, none⟩) (Nat.le_refl _) (.int .i64 c)
    clear hV
    clear g0 l0 g1 f1 l1 E E1 b1 b1e
    have E := E2
    clear E2
    have g0 := (b0.out.ext E).cells
    have l0 := (b0.out.ext E).lt
    have r1 := hid (range_blk b2.out)
    have r0 := hid (range_blk (b0e.out.ext E))
    have l1 := b2.out.lt
    go_wp2_with (first | ((with_reducible refine at_dst 76 ?_); refine wpList_load_mid (op := ⟨some 76, _, _, _, _, _⟩) rfl 39 (Operand.tmp 3) rfl W0.heap.size 0 rfl (encEd ⟨6, b, c, emp, zS, zL, zI⟩) _ r1.out Tryz.underlying39 rfl sz2.out ?_) | ((with_reducible refine at_dst 77 ?_); refine wpList_load_mid (op := ⟨some 77, _, _, _, _, _⟩) rfl 39 (Operand.tmp 1) rfl w.heap.size 0 rfl (encEd ⟨6, b, c, s, sh, lb, ins⟩) _ r0.out Tryz.underlying39 rfl sz2.out ?_) | ((with_reducible refine at_dst 78 ?_); refine wpList_eqEd (op := ⟨some 78, _, _, _, _, _⟩) rfl (.tmp 76) (.tmp 77) 39 rfl ⟨6, b, c, emp, zS, zL, zI⟩ ⟨6, b, c, s, sh, lb, ins⟩ rfl rfl ?_; rw [hq.out]))
    go_ret
    exact ⟨ret_bool hr.out, E0.trans E⟩

set_option maxRecDepth 100000 in
set_option maxHeartbeats 4000000 in
theorem pEd7 (b c : Int) (s : ByteArray) (sh : ShD) (lb : LbD) (ins : InD) (w : World) (hs1 : s.size ≤ 9223372036854775807) (hs2 : lb.s.size ≤ 9223372036854775807) (h0 : wit b 0 8 = true) (h1 : wit c 0 24 = true) :
    Calls Tryz.prog 33 #[.agg #[.int .i64 7, .int .i64 b, .int .i64 c, .string s, .int .i64 sh.a, .int .i64 sh.box.a, .int .i64 sh.box.b, .int .i64 sh.box.c, .int .i64 sh.box.d, .int .i64 lb.a, .int .i64 lb.pt.a, .int .i64 lb.pt.b, .string lb.s, .int .i64 ins.a, .int .i64 ins.tr.a, .int .i64 ins.tr.b, .int .i64 ins.tr.c, .int .i64 ins.c, .int .i64 ins.d, .int .i64 ins.e, .int .i64 ins.f]] w fun e w' => e = .returned (.bool (edK ⟨7, b, c, s, sh, lb, ins⟩)) ∧ Ext w w' := by
  have _u := And.intro hs1 hs2
  clear _u
  have sz2 : Hid ((Tryz.prog.info? 39).map (·.size) = some 21) := sizeD_Edit
  go_enter Tryz.func33, Tryz.ntmps33
  go_upto_region 1 with (fail)
  generalize hW : World.alloc _ _ = W0
  obtain ⟨E0, z0, b0⟩ := boxes1 hW
  clear hW z0
  replace b0 := hid (show Blk W0 (w.heap.size) [_, _, _, _, _, _, _, _, _, _, _, _, _, _, _, _, _, _, _, _, _] _ from b0)
  have g0 := b0.out.cells
  have l0 := b0.out.lt
  have E := Ext.refl W0
  have b0e : Blk W0 w.heap.size (encEd ⟨7, b, c, s, sh, lb, ins⟩) 39 := b0.out
  replace b0e := hid b0e
  go_upto_region 4 with (first | (go_at_call 67; refine (within_any _ _ _ _).mono ?_; rintro e w2 ⟨rfl, rfl⟩) | ((with_reducible refine at_dst 18 ?_); refine wpList_build (op := ⟨some 18, _, _, _, _, _⟩) rfl 39 _ rfl [(0, .int .i64 7), (1, .int .i64 b)] rfl _ (built_Ed 7 b) ?_) | ((with_reducible refine at_store ?_); refine wpList_newEd (op := ⟨none, _, _, _, _, _⟩) rfl (Operand.tmp 3) (Operand.tmp 18) rfl ⟨7, b, 0, emp, zS, zL, zI⟩ _ rfl rfl rfl ?_; intro W1 b1 E1))
  have b1e := hid b1
  simp only [encEd, zS, zL, zI, emp] at b1
  replace b1 := hid b1
  replace E := E.trans E1
  clear g0 l0
  have g0 := (b0.out.ext E).cells
  have l0 := (b0.out.ext E).lt
  have g1 := b1.out.cells
  have f1 := b1.out.free
  have l1 := b1.out.lt
  cases hq : eqE ⟨7, b, 0, s, zS, zL, zI⟩ ⟨7, b, c, s, sh, lb, ins⟩ with
  | false =>
    have hr : Hid (false = edK ⟨7, b, c, s, sh, lb, ins⟩) := by show _ = _; rw [edK_7, hq]; rfl
    replace hq := hid hq
    go_upto_region 22 with (fail)
    generalize hV : World.setCell _ _ _ = W2
    have b2' := (b1.out).set 3 (.string s)
    simp only [List.set_cons_zero, List.set_cons_succ] at b2'
    rw [hV] at b2'
    have b2 : Hid (Blk W2 W0.heap.size (encEd ⟨7, b, 0, s, zS, zL, zI⟩) 39) := b2'
    clear b2'
    have E2 : Ext W0 W2 := by rw [← hV]; exact ((E1.trans (Ext.refl W1))).setCell (p := ⟨W0.heap.size, 3, none⟩) (Nat.le_refl _) (.string s)
    clear hV
    clear g0 l0 g1 f1 l1 E E1 b1 b1e
    have E := E2
    clear E2
    have g0 := (b0.out.ext E).cells
    have l0 := (b0.out.ext E).lt
    have r1 := hid (range_blk b2.out)
    have r0 := hid (range_blk (b0e.out.ext E))
    have l1 := b2.out.lt
    go_wp2_with (first | ((with_reducible refine at_dst 85 ?_); refine wpList_load_mid (op := ⟨some 85, _, _, _, _, _⟩) rfl 39 (Operand.tmp 3) rfl W0.heap.size 0 rfl (encEd ⟨7, b, 0, s, zS, zL, zI⟩) _ r1.out Tryz.underlying39 rfl sz2.out ?_) | ((with_reducible refine at_dst 86 ?_); refine wpList_load_mid (op := ⟨some 86, _, _, _, _, _⟩) rfl 39 (Operand.tmp 1) rfl w.heap.size 0 rfl (encEd ⟨7, b, c, s, sh, lb, ins⟩) _ r0.out Tryz.underlying39 rfl sz2.out ?_) | ((with_reducible refine at_dst 87 ?_); refine wpList_eqEd (op := ⟨some 87, _, _, _, _, _⟩) rfl (.tmp 85) (.tmp 86) 39 rfl ⟨7, b, 0, s, zS, zL, zI⟩ ⟨7, b, c, s, sh, lb, ins⟩ rfl rfl ?_; rw [hq.out]))
    go_ret
    exact ⟨ret_bool hr.out, E0.trans E⟩
  | true =>
    have hr : Hid ((nameB s) = edK ⟨7, b, c, s, sh, lb, ins⟩) := by show _ = _; rw [edK_7, hq]; rfl
    replace hq := hid hq
    go_upto_region 22 with (fail)
    generalize hV : World.setCell _ _ _ = W2
    have b2' := (b1.out).set 3 (.string s)
    simp only [List.set_cons_zero, List.set_cons_succ] at b2'
    rw [hV] at b2'
    have b2 : Hid (Blk W2 W0.heap.size (encEd ⟨7, b, 0, s, zS, zL, zI⟩) 39) := b2'
    clear b2'
    have E2 : Ext W0 W2 := by rw [← hV]; exact ((E1.trans (Ext.refl W1))).setCell (p := ⟨W0.heap.size, 3, none⟩) (Nat.le_refl _) (.string s)
    clear hV
    clear g0 l0 g1 f1 l1 E E1 b1 b1e
    have E := E2
    clear E2
    have g0 := (b0.out.ext E).cells
    have l0 := (b0.out.ext E).lt
    have r1 := hid (range_blk b2.out)
    have r0 := hid (range_blk (b0e.out.ext E))
    have l1 := b2.out.lt
    go_wp2_with (first | ((with_reducible refine at_dst 85 ?_); refine wpList_load_mid (op := ⟨some 85, _, _, _, _, _⟩) rfl 39 (Operand.tmp 3) rfl W0.heap.size 0 rfl (encEd ⟨7, b, 0, s, zS, zL, zI⟩) _ r1.out Tryz.underlying39 rfl sz2.out ?_) | ((with_reducible refine at_dst 86 ?_); refine wpList_load_mid (op := ⟨some 86, _, _, _, _, _⟩) rfl 39 (Operand.tmp 1) rfl w.heap.size 0 rfl (encEd ⟨7, b, c, s, sh, lb, ins⟩) _ r0.out Tryz.underlying39 rfl sz2.out ?_) | ((with_reducible refine at_dst 87 ?_); refine wpList_eqEd (op := ⟨some 87, _, _, _, _, _⟩) rfl (.tmp 85) (.tmp 86) 39 rfl ⟨7, b, 0, s, zS, zL, zI⟩ ⟨7, b, c, s, sh, lb, ins⟩ rfl rfl ?_; rw [hq.out]) | (go_at_call 54; refine (pName_any s _ hs1).mono ?_; rintro e w5 ⟨rfl, E5⟩; replace E := E.trans E5; clear g0 l0 r1 r0 E5; have g0 := (b0.out.ext E).cells; have l0 := (b0.out.ext E).lt))
    go_ret
    exact ⟨ret_bool hr.out, E0.trans E⟩

set_option maxRecDepth 100000 in
set_option maxHeartbeats 4000000 in
theorem pEd8 (b c : Int) (s : ByteArray) (sh : ShD) (lb : LbD) (ins : InD) (w : World) (hs1 : s.size ≤ 9223372036854775807) (hs2 : lb.s.size ≤ 9223372036854775807) (h0 : wit b 0 8 = true) (h1 : wit c 0 24 = true) :
    Calls Tryz.prog 33 #[.agg #[.int .i64 8, .int .i64 b, .int .i64 c, .string s, .int .i64 sh.a, .int .i64 sh.box.a, .int .i64 sh.box.b, .int .i64 sh.box.c, .int .i64 sh.box.d, .int .i64 lb.a, .int .i64 lb.pt.a, .int .i64 lb.pt.b, .string lb.s, .int .i64 ins.a, .int .i64 ins.tr.a, .int .i64 ins.tr.b, .int .i64 ins.tr.c, .int .i64 ins.c, .int .i64 ins.d, .int .i64 ins.e, .int .i64 ins.f]] w fun e w' => e = .returned (.bool (edK ⟨8, b, c, s, sh, lb, ins⟩)) ∧ Ext w w' := by
  have _u := And.intro hs1 hs2
  clear _u
  have sz2 : Hid ((Tryz.prog.info? 39).map (·.size) = some 21) := sizeD_Edit
  go_enter Tryz.func33, Tryz.ntmps33
  go_upto_region 1 with (fail)
  generalize hW : World.alloc _ _ = W0
  obtain ⟨E0, z0, b0⟩ := boxes1 hW
  clear hW z0
  replace b0 := hid (show Blk W0 (w.heap.size) [_, _, _, _, _, _, _, _, _, _, _, _, _, _, _, _, _, _, _, _, _] _ from b0)
  have g0 := b0.out.cells
  have l0 := b0.out.lt
  have E := Ext.refl W0
  have b0e : Blk W0 w.heap.size (encEd ⟨8, b, c, s, sh, lb, ins⟩) 39 := b0.out
  replace b0e := hid b0e
  go_upto_region 4 with (first | (go_at_call 67; refine (within_any _ _ _ _).mono ?_; rintro e w2 ⟨rfl, rfl⟩) | ((with_reducible refine at_dst 18 ?_); refine wpList_build (op := ⟨some 18, _, _, _, _, _⟩) rfl 39 _ rfl [(0, .int .i64 8), (1, .int .i64 b)] rfl _ (built_Ed 8 b) ?_) | ((with_reducible refine at_store ?_); refine wpList_newEd (op := ⟨none, _, _, _, _, _⟩) rfl (Operand.tmp 3) (Operand.tmp 18) rfl ⟨8, b, 0, emp, zS, zL, zI⟩ _ rfl rfl rfl ?_; intro W1 b1 E1))
  have b1e := hid b1
  simp only [encEd, zS, zL, zI, emp] at b1
  replace b1 := hid b1
  replace E := E.trans E1
  clear g0 l0
  have g0 := (b0.out.ext E).cells
  have l0 := (b0.out.ext E).lt
  have g1 := b1.out.cells
  have f1 := b1.out.free
  have l1 := b1.out.lt
  cases hq : eqE ⟨8, b, 0, s, zS, zL, zI⟩ ⟨8, b, c, s, sh, lb, ins⟩ with
  | false =>
    have hr : Hid (false = edK ⟨8, b, c, s, sh, lb, ins⟩) := by show _ = _; rw [edK_8, hq]; rfl
    replace hq := hid hq
    go_upto_region 22 with (fail)
    generalize hV : World.setCell _ _ _ = W2
    have b2' := (b1.out).set 3 (.string s)
    simp only [List.set_cons_zero, List.set_cons_succ] at b2'
    rw [hV] at b2'
    have b2 : Hid (Blk W2 W0.heap.size (encEd ⟨8, b, 0, s, zS, zL, zI⟩) 39) := b2'
    clear b2'
    have E2 : Ext W0 W2 := by rw [← hV]; exact ((E1.trans (Ext.refl W1))).setCell (p := ⟨W0.heap.size, 3, none⟩) (Nat.le_refl _) (.string s)
    clear hV
    clear g0 l0 g1 f1 l1 E E1 b1 b1e
    have E := E2
    clear E2
    have g0 := (b0.out.ext E).cells
    have l0 := (b0.out.ext E).lt
    have r1 := hid (range_blk b2.out)
    have r0 := hid (range_blk (b0e.out.ext E))
    have l1 := b2.out.lt
    go_wp2_with (first | ((with_reducible refine at_dst 85 ?_); refine wpList_load_mid (op := ⟨some 85, _, _, _, _, _⟩) rfl 39 (Operand.tmp 3) rfl W0.heap.size 0 rfl (encEd ⟨8, b, 0, s, zS, zL, zI⟩) _ r1.out Tryz.underlying39 rfl sz2.out ?_) | ((with_reducible refine at_dst 86 ?_); refine wpList_load_mid (op := ⟨some 86, _, _, _, _, _⟩) rfl 39 (Operand.tmp 1) rfl w.heap.size 0 rfl (encEd ⟨8, b, c, s, sh, lb, ins⟩) _ r0.out Tryz.underlying39 rfl sz2.out ?_) | ((with_reducible refine at_dst 87 ?_); refine wpList_eqEd (op := ⟨some 87, _, _, _, _, _⟩) rfl (.tmp 85) (.tmp 86) 39 rfl ⟨8, b, 0, s, zS, zL, zI⟩ ⟨8, b, c, s, sh, lb, ins⟩ rfl rfl ?_; rw [hq.out]))
    go_ret
    exact ⟨ret_bool hr.out, E0.trans E⟩
  | true =>
    have hr : Hid ((nameB s) = edK ⟨8, b, c, s, sh, lb, ins⟩) := by show _ = _; rw [edK_8, hq]; rfl
    replace hq := hid hq
    go_upto_region 22 with (fail)
    generalize hV : World.setCell _ _ _ = W2
    have b2' := (b1.out).set 3 (.string s)
    simp only [List.set_cons_zero, List.set_cons_succ] at b2'
    rw [hV] at b2'
    have b2 : Hid (Blk W2 W0.heap.size (encEd ⟨8, b, 0, s, zS, zL, zI⟩) 39) := b2'
    clear b2'
    have E2 : Ext W0 W2 := by rw [← hV]; exact ((E1.trans (Ext.refl W1))).setCell (p := ⟨W0.heap.size, 3, none⟩) (Nat.le_refl _) (.string s)
    clear hV
    clear g0 l0 g1 f1 l1 E E1 b1 b1e
    have E := E2
    clear E2
    have g0 := (b0.out.ext E).cells
    have l0 := (b0.out.ext E).lt
    have r1 := hid (range_blk b2.out)
    have r0 := hid (range_blk (b0e.out.ext E))
    have l1 := b2.out.lt
    go_wp2_with (first | ((with_reducible refine at_dst 85 ?_); refine wpList_load_mid (op := ⟨some 85, _, _, _, _, _⟩) rfl 39 (Operand.tmp 3) rfl W0.heap.size 0 rfl (encEd ⟨8, b, 0, s, zS, zL, zI⟩) _ r1.out Tryz.underlying39 rfl sz2.out ?_) | ((with_reducible refine at_dst 86 ?_); refine wpList_load_mid (op := ⟨some 86, _, _, _, _, _⟩) rfl 39 (Operand.tmp 1) rfl w.heap.size 0 rfl (encEd ⟨8, b, c, s, sh, lb, ins⟩) _ r0.out Tryz.underlying39 rfl sz2.out ?_) | ((with_reducible refine at_dst 87 ?_); refine wpList_eqEd (op := ⟨some 87, _, _, _, _, _⟩) rfl (.tmp 85) (.tmp 86) 39 rfl ⟨8, b, 0, s, zS, zL, zI⟩ ⟨8, b, c, s, sh, lb, ins⟩ rfl rfl ?_; rw [hq.out]) | (go_at_call 54; refine (pName_any s _ hs1).mono ?_; rintro e w5 ⟨rfl, E5⟩; replace E := E.trans E5; clear g0 l0 r1 r0 E5; have g0 := (b0.out.ext E).cells; have l0 := (b0.out.ext E).lt))
    go_ret
    exact ⟨ret_bool hr.out, E0.trans E⟩

set_option maxRecDepth 100000 in
set_option maxHeartbeats 4000000 in
theorem pEd9 (b c : Int) (s : ByteArray) (sh : ShD) (lb : LbD) (ins : InD) (w : World) (hs1 : s.size ≤ 9223372036854775807) (hs2 : lb.s.size ≤ 9223372036854775807) (h0 : wit b 0 8 = true) (h1 : wit c 0 24 = true) :
    Calls Tryz.prog 33 #[.agg #[.int .i64 9, .int .i64 b, .int .i64 c, .string s, .int .i64 sh.a, .int .i64 sh.box.a, .int .i64 sh.box.b, .int .i64 sh.box.c, .int .i64 sh.box.d, .int .i64 lb.a, .int .i64 lb.pt.a, .int .i64 lb.pt.b, .string lb.s, .int .i64 ins.a, .int .i64 ins.tr.a, .int .i64 ins.tr.b, .int .i64 ins.tr.c, .int .i64 ins.c, .int .i64 ins.d, .int .i64 ins.e, .int .i64 ins.f]] w fun e w' => e = .returned (.bool (edK ⟨9, b, c, s, sh, lb, ins⟩)) ∧ Ext w w' := by
  have _u := And.intro hs1 hs2
  clear _u
  have sz2 : Hid ((Tryz.prog.info? 39).map (·.size) = some 21) := sizeD_Edit
  go_enter Tryz.func33, Tryz.ntmps33
  go_upto_region 1 with (fail)
  generalize hW : World.alloc _ _ = W0
  obtain ⟨E0, z0, b0⟩ := boxes1 hW
  clear hW z0
  replace b0 := hid (show Blk W0 (w.heap.size) [_, _, _, _, _, _, _, _, _, _, _, _, _, _, _, _, _, _, _, _, _] _ from b0)
  have g0 := b0.out.cells
  have l0 := b0.out.lt
  have E := Ext.refl W0
  have b0e : Blk W0 w.heap.size (encEd ⟨9, b, c, s, sh, lb, ins⟩) 39 := b0.out
  replace b0e := hid b0e
  go_upto_region 4 with (first | (go_at_call 67; refine (within_any _ _ _ _).mono ?_; rintro e w2 ⟨rfl, rfl⟩) | ((with_reducible refine at_dst 18 ?_); refine wpList_build (op := ⟨some 18, _, _, _, _, _⟩) rfl 39 _ rfl [(0, .int .i64 9), (1, .int .i64 b)] rfl _ (built_Ed 9 b) ?_) | ((with_reducible refine at_store ?_); refine wpList_newEd (op := ⟨none, _, _, _, _, _⟩) rfl (Operand.tmp 3) (Operand.tmp 18) rfl ⟨9, b, 0, emp, zS, zL, zI⟩ _ rfl rfl rfl ?_; intro W1 b1 E1))
  have b1e := hid b1
  simp only [encEd, zS, zL, zI, emp] at b1
  replace b1 := hid b1
  replace E := E.trans E1
  clear g0 l0
  have g0 := (b0.out.ext E).cells
  have l0 := (b0.out.ext E).lt
  have g1 := b1.out.cells
  have f1 := b1.out.free
  have l1 := b1.out.lt
  cases hq : eqE ⟨9, b, 0, emp, zS, zL, zI⟩ ⟨9, b, c, s, sh, lb, ins⟩ with
  | false =>
    have hr : Hid (false = edK ⟨9, b, c, s, sh, lb, ins⟩) := by show _ = _; rw [edK_9, hq]
    replace hq := hid hq
    go_upto_region 24 with (fail)
    obtain ⟨W2, hV⟩ : ∃ W2, W2 = W1 := ⟨_, rfl⟩
    rw [← hV]
    have b2 : Hid (Blk W2 W0.heap.size (encEd ⟨9, b, 0, emp, zS, zL, zI⟩) 39) := by rw [hV]; exact b1e
    have E2 : Ext W0 W2 := by rw [hV]; exact E1
    clear hV
    clear g0 l0 g1 f1 l1 E E1 b1 b1e
    have E := E2
    clear E2
    have g0 := (b0.out.ext E).cells
    have l0 := (b0.out.ext E).lt
    have r1 := hid (range_blk b2.out)
    have r0 := hid (range_blk (b0e.out.ext E))
    have l1 := b2.out.lt
    go_wp2_with (first | ((with_reducible refine at_dst 95 ?_); refine wpList_load_mid (op := ⟨some 95, _, _, _, _, _⟩) rfl 39 (Operand.tmp 3) rfl W0.heap.size 0 rfl (encEd ⟨9, b, 0, emp, zS, zL, zI⟩) _ r1.out Tryz.underlying39 rfl sz2.out ?_) | ((with_reducible refine at_dst 96 ?_); refine wpList_load_mid (op := ⟨some 96, _, _, _, _, _⟩) rfl 39 (Operand.tmp 1) rfl w.heap.size 0 rfl (encEd ⟨9, b, c, s, sh, lb, ins⟩) _ r0.out Tryz.underlying39 rfl sz2.out ?_) | ((with_reducible refine at_dst 97 ?_); refine wpList_eqEd (op := ⟨some 97, _, _, _, _, _⟩) rfl (.tmp 95) (.tmp 96) 39 rfl ⟨9, b, 0, emp, zS, zL, zI⟩ ⟨9, b, c, s, sh, lb, ins⟩ rfl rfl ?_; rw [hq.out]))
    go_ret
    exact ⟨ret_bool hr.out, E0.trans E⟩
  | true =>
    have hr : Hid ((true) = edK ⟨9, b, c, s, sh, lb, ins⟩) := by show _ = _; rw [edK_9, hq]
    replace hq := hid hq
    go_upto_region 24 with (fail)
    obtain ⟨W2, hV⟩ : ∃ W2, W2 = W1 := ⟨_, rfl⟩
    rw [← hV]
    have b2 : Hid (Blk W2 W0.heap.size (encEd ⟨9, b, 0, emp, zS, zL, zI⟩) 39) := by rw [hV]; exact b1e
    have E2 : Ext W0 W2 := by rw [hV]; exact E1
    clear hV
    clear g0 l0 g1 f1 l1 E E1 b1 b1e
    have E := E2
    clear E2
    have g0 := (b0.out.ext E).cells
    have l0 := (b0.out.ext E).lt
    have r1 := hid (range_blk b2.out)
    have r0 := hid (range_blk (b0e.out.ext E))
    have l1 := b2.out.lt
    go_wp2_with (first | ((with_reducible refine at_dst 95 ?_); refine wpList_load_mid (op := ⟨some 95, _, _, _, _, _⟩) rfl 39 (Operand.tmp 3) rfl W0.heap.size 0 rfl (encEd ⟨9, b, 0, emp, zS, zL, zI⟩) _ r1.out Tryz.underlying39 rfl sz2.out ?_) | ((with_reducible refine at_dst 96 ?_); refine wpList_load_mid (op := ⟨some 96, _, _, _, _, _⟩) rfl 39 (Operand.tmp 1) rfl w.heap.size 0 rfl (encEd ⟨9, b, c, s, sh, lb, ins⟩) _ r0.out Tryz.underlying39 rfl sz2.out ?_) | ((with_reducible refine at_dst 97 ?_); refine wpList_eqEd (op := ⟨some 97, _, _, _, _, _⟩) rfl (.tmp 95) (.tmp 96) 39 rfl ⟨9, b, 0, emp, zS, zL, zI⟩ ⟨9, b, c, s, sh, lb, ins⟩ rfl rfl ?_; rw [hq.out]))
    go_ret
    exact ⟨ret_bool hr.out, E0.trans E⟩

end Go.Proofs.YtncmhefendhinaaGreatDoor

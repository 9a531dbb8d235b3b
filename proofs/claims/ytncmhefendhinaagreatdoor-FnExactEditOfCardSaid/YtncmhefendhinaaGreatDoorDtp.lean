/- What sessions hold: shapes, labels, instances, rules, waivers, ports, edits; devices and cells with their inner slices. No condition. -/
import Derived.Test.YtncmhefendhinaaGreatDoorSld
namespace Go.Proofs.YtncmhefendhinaaGreatDoor
open Go.RowKit

structure ShD where
  a : Int
  box : Q4
structure LbD where
  a : Int
  pt : Q2
  s : ByteArray
structure InD where
  a : Int
  tr : Q3
  c : Int
  d : Int
  e : Int
  f : Int
structure RuD where
  a : Int
  b : Int
  c : Int
  d : Int
  e : Int
structure WvD where
  a : Int
  s : ByteArray
structure PoD where
  s : ByteArray
  a : Int
structure EdD where
  a : Int
  b : Int
  c : Int
  s : ByteArray
  sh : ShD
  lb : LbD
  ins : InD
structure DvD where
  a : Int
  pins : List Int
  b : Int
  c : Int
structure CeD where
  s : ByteArray
  shs : List ShD
  lbs : List LbD
  ins : List InD
def encSh (x : ShD) : List Value := [.int .i64 x.a, .int .i64 x.box.a, .int .i64 x.box.b, .int .i64 x.box.c, .int .i64 x.box.d]
theorem encSh_len (x : ShD) : (encSh x).length = 5 := rfl
def encLb (x : LbD) : List Value := [.int .i64 x.a, .int .i64 x.pt.a, .int .i64 x.pt.b, .string x.s]
theorem encLb_len (x : LbD) : (encLb x).length = 4 := rfl
def encIn (x : InD) : List Value := [.int .i64 x.a, .int .i64 x.tr.a, .int .i64 x.tr.b, .int .i64 x.tr.c, .int .i64 x.c, .int .i64 x.d, .int .i64 x.e, .int .i64 x.f]
theorem encIn_len (x : InD) : (encIn x).length = 8 := rfl
def encRu (x : RuD) : List Value := [.int .i64 x.a, .int .i64 x.b, .int .i64 x.c, .int .i64 x.d, .int .i64 x.e]
theorem encRu_len (x : RuD) : (encRu x).length = 5 := rfl
def encWv (x : WvD) : List Value := [.int .i64 x.a, .string x.s]
theorem encWv_len (x : WvD) : (encWv x).length = 2 := rfl
def encPo (x : PoD) : List Value := [.string x.s, .int .i64 x.a]
theorem encPo_len (x : PoD) : (encPo x).length = 2 := rfl
def encEd (x : EdD) : List Value := [.int .i64 x.a, .int .i64 x.b, .int .i64 x.c, .string x.s, .int .i64 x.sh.a, .int .i64 x.sh.box.a, .int .i64 x.sh.box.b, .int .i64 x.sh.box.c, .int .i64 x.sh.box.d, .int .i64 x.lb.a, .int .i64 x.lb.pt.a, .int .i64 x.lb.pt.b, .string x.lb.s, .int .i64 x.ins.a, .int .i64 x.ins.tr.a, .int .i64 x.ins.tr.b, .int .i64 x.ins.tr.c, .int .i64 x.ins.c, .int .i64 x.ins.d, .int .i64 x.ins.e, .int .i64 x.ins.f]
theorem encEd_len (x : EdD) : (encEd x).length = 21 := rfl
theorem okRect : Rok (Fl enc4) 4 := Fl.ok (fun _ => rfl)
theorem okPoint : Rok (Fl enc2) 2 := Fl.ok (fun _ => rfl)
theorem okTransform : Rok (Fl enc3) 3 := Fl.ok (fun _ => rfl)
theorem okShape : Rok (Fl encSh) 5 := Fl.ok (fun _ => rfl)
theorem okLabel : Rok (Fl encLb) 4 := Fl.ok (fun _ => rfl)
theorem okInstance : Rok (Fl encIn) 8 := Fl.ok (fun _ => rfl)
theorem okRule : Rok (Fl encRu) 5 := Fl.ok (fun _ => rfl)
theorem okWaiver : Rok (Fl encWv) 2 := Fl.ok (fun _ => rfl)
theorem okPort : Rok (Fl encPo) 2 := Fl.ok (fun _ => rfl)
theorem okEdit : Rok (Fl encEd) 21 := Fl.ok (fun _ => rfl)
theorem okInt : Rok (Fl enc1) 1 := Fl.ok (fun _ => rfl)
/-- A row of elements as one element: a slice. -/
def RwD {α : Type} (R : Rdg α) (sz : Nat) : Rdg (List α) := fun base w x cs => ∃ p n c, cs = [.slice p n c] ∧ SlD R sz base w p n x
theorem RwD.ok {α : Type} {R : Rdg α} {sz : Nat} (h : Rok R sz) : Rok (RwD R sz) 1 :=
  ⟨fun ⟨_, _, _, e, _⟩ => by rw [e]; rfl, fun ⟨p, n, c, e, s⟩ hE => ⟨p, n, c, e, s.ext h hE⟩, fun ⟨p, n, c, e, s⟩ hM hg => ⟨p, n, c, e, s.mt h hM hg⟩, fun ⟨p, n, c, e, s⟩ hb => ⟨p, n, c, e, s.low h hb⟩⟩
def DvR : Rdg DvD := fun base w x cs => ∃ p n c, cs = [.int .i64 x.a, .slice p n c, .int .i64 x.b, .int .i64 x.c] ∧ SlD (Fl enc1) 1 base w p n x.pins
theorem DvR.ok : Rok DvR 4 :=
  ⟨fun ⟨_, _, _, e, _⟩ => by rw [e]; rfl, fun ⟨p, n, c, e, s⟩ hE => ⟨p, n, c, e, s.ext okInt hE⟩, fun ⟨p, n, c, e, s⟩ hM hg => ⟨p, n, c, e, s.mt okInt hM hg⟩, fun ⟨p, n, c, e, s⟩ hb => ⟨p, n, c, e, s.low okInt hb⟩⟩
def CeR : Rdg CeD := fun base w x cs => ∃ p1 n1 c1 p2 n2 c2 p3 n3 c3, cs = [.string x.s, .slice p1 n1 c1, .slice p2 n2 c2, .slice p3 n3 c3] ∧ SlD (Fl encSh) 5 base w p1 n1 x.shs ∧ SlD (Fl encLb) 4 base w p2 n2 x.lbs ∧ SlD (Fl encIn) 8 base w p3 n3 x.ins
theorem CeR.ok : Rok CeR 4 :=
  ⟨fun ⟨_, _, _, _, _, _, _, _, _, e, _⟩ => by rw [e]; rfl,
   fun ⟨p1, n1, c1, p2, n2, c2, p3, n3, c3, e, s1, s2, s3⟩ hE => ⟨p1, n1, c1, p2, n2, c2, p3, n3, c3, e, s1.ext okShape hE, s2.ext okLabel hE, s3.ext okInstance hE⟩,
   fun ⟨p1, n1, c1, p2, n2, c2, p3, n3, c3, e, s1, s2, s3⟩ hM hg => ⟨p1, n1, c1, p2, n2, c2, p3, n3, c3, e, s1.mt okShape hM hg, s2.mt okLabel hM hg, s3.mt okInstance hM hg⟩,
   fun ⟨p1, n1, c1, p2, n2, c2, p3, n3, c3, e, s1, s2, s3⟩ hb => ⟨p1, n1, c1, p2, n2, c2, p3, n3, c3, e, s1.low okShape hb, s2.low okLabel hb, s3.low okInstance hb⟩⟩
end Go.Proofs.YtncmhefendhinaaGreatDoor

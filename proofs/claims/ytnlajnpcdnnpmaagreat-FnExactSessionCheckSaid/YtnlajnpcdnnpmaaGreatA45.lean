/- Part of a proof. No condition. -/
import Derived.Test.YtnlajnpcdnnpmaaGreatA44
namespace Go.Proofs.YtnlajnpcdnnpmaaGreat
set_option linter.all false
set_option maxRecDepth 100000
set_option maxHeartbeats 16000000
open Go.Proofs.Tryz Go.RowKit Go.PlainAid
def hcC (cells:List CeD) (k:Int) (R:List RuD):Int:=if cX cells k=0 then lS (fp cells k) R else cX cells k
def jP (cells:List CeD) (k:Int) (R:List RuD):List aV:=if cX cells k=0 then kT (fp cells k) R else []
def qv (cells:List CeD) (k:Int) (R:List RuD) (w:World) (e:Ending) (w':World):Prop:=∃ (q:OA) (c:Nat) (s:Int),e=.returned (.tuple #[sl q (jP cells k R).length c,.int .i64 s,.int .i64 (hcC cells k R)])/\OwV w w' q c (jP cells k R)/\Ext w w'
theorem RY (cells:List CeD)(k:Int)(p:OA)(n base:Nat)(p2:OA)(m:Nat)(R:List RuD)(w:World)(h:SlD CeR 4 base w p n cells)(hn:n<=1048576)(hf:∀ x∈cells,dp x)(hR:SlD (Fl bE) 5 base w p2 m R)(hk:dO R=true)(hm:m<=12)(hv:∀ r∈R,au r=true) :
 Calls prog 25 #[.agg #[sl p n n],k,.agg #[sl p2 m m]] w (qv cells k R w):=by
 have hfl:=aa (λ V (hV:Ext w V)=>QK cells k p n base V (h.ext aL6 hV) hn hf);have hRf:=aa hR.flat;have hRl:=aa hR.length;by_cases hC:cX cells k=0
 . have h8:(fp cells k).length=8:=by rw [qq hC,uU]
   have hok:=aa (show ∀ l∈fp cells k,aH l=true from by rw [qq hC];exact EC _ _);have hce:=aa (λ V (hV:Ext w V) (rch:Int) (hr:0<=rch/\rch<=8)=>On cells k p n base rch V (h.ext aL6 hV) hn hf hr hC);have hck:=aa (λ q c V (hV:Ext w V) (hs:SlS V q 8 (fp cells k))=>Rh q c (fp cells k) p2 m base R V hs hok.out (hR.ext aT hV) hk hm hv);have hcv:Hid (hcC cells k R=lS (fp cells k) R/\jP cells k R=kT (fp cells k) R):=aa ⟨aw hC,aw hC⟩;unfold qv;rw [hcv.1,hcv.2];unfold sv at hfl;obtain⟨L,hL⟩:∃ L,fp cells k=L:=⟨_,rfl⟩;rw [hL] at hfl h8 hok hck ⊢;rw [hC] at hfl;have hKd:lS L R≠0->kT L R=[]:=λ hK=>by exact Bj
   unfold qu at hck;obtain⟨KC,hKC⟩:∃ KC,lS L R=KC:=⟨_,rfl⟩;obtain⟨KL,hKL⟩:∃ KL,kT L R=KL:=⟨_,rfl⟩;rw [hKC,hKL] at hck hKd;rw [hKC,hKL];clear hcv hL hk h hf hC hKC hKL;by_cases hK:KC=0
   . subst hK;clear hKd;go_enter func25,ntmps25;go_upto_region 1 with (fail);generalize hW:World.alloc (World.alloc _ _) _=W0;obtain⟨E0,z0,b0,b1⟩:=bV hW;clear hW z0;replace b0:=aa (show Blk W0 w [sl p n n] _ from b0);replace b1:=aa (show Blk W0 (w+1) [sl p2 m m] _ from b1);have⟨g0,l0⟩:=b0.gl;go_upto_region 4 with (first | (go_at_call 65;(with_reducible refine (hfl.out _ E0).mono ?_);rintro e w1 ⟨q1,c1,H1,rfl,hO1,E1⟩;have hE1:=aa (E0.trans E1);have bl1:=aa (b0.ext E1);have bd1:=aa (b1.ext E1);have hS1:=aa hO1.toS) | fail);rw [h8] at hS1;have⟨gd,ld⟩:=bd1.gl;clear g0 l0 E0 E1 b0 b1 hO1;go_upto_region 8 with (first | (go_at_call 66;(with_reducible refine (hck.out _ _ _ hE1.out hS1.out).mono ?_);rintro e w2 ⟨q2,c2,rfl,hO2,E2⟩;have hE2:=aa (hE1.trans E2);have bl2:=aa (bl1.ext E2);have bd2:=aa (bd1.ext E2);have hO2b:=aa (hO2.low (hE1.le));clear hO2) | fail);have⟨gl2,ll2⟩:=bl2.gl;have⟨gd2,ld2⟩:=bd2.gl;clear gd ld;go_wp2_with (fail);go_loopw [12,39] (λ s i wx=>∃ (j:Nat) (t:Int),j<=m/\s=.int .i64 t/\i=.int .i64 j/\Hid (0<=t/\t<=1048576*(j:Int))/\Hid (Ext w2 wx)) (λ _ i _=>m - (intOf i).toNat)
     case atStart=>exact⟨0,0,oM,rfl,rfl,by simp [Hid],ab _⟩
     case round =>
      clear gl2 ll2 gd2 ld2;obtain⟨j,t,hj,rfl,rfl,ht,hZ⟩:=hrel;by_cases hjt:j<m
      . have hjI:(j:Int)<(m:Int):=oM;obtain⟨ht0,ht1⟩:=ht.out;obtain⟨bR,oR,x,rfl,hbn,hx,hc⟩:=(hRf.ext (hE2.trans hZ.out)).get hjt;have c0:=hc 0 _ rfl;rw [aq] at c0;have c1:=hc 1 _ rfl;have c2x:=hc 2 _ rfl;have c3x:=hc 3 _ rfl;have c4x:=hc 4 _ rfl;clear hc;have hxB:=hv x (ap hx.out);have hrr:=aa (λ V=>NY x V hxB);obtain⟨hd0,hd1⟩:=Ge hxB;go_upto_region 11 with (fail);generalize hW8:World.alloc _ _=W8;obtain⟨E8,z8,b8⟩:=al hW8;clear hW8 z8;replace b8:=aa (show Blk W8 wr [x.a,x.b,x.c,x.d,x.e] _ from b8);have⟨g8,l8⟩:=b8.gl;have hZ8:=aa (hZ.trans E8);have hBl:=bl2.ext hZ8.out;have⟨gBl,lBl⟩:=hBl.gl;replace hBl:=aa hBl;obtain⟨d,hd⟩:∃ d,ny x=d:=⟨_,rfl⟩;rw [hd] at hrr hd0 hd1;clear c0 c1 c2x c3x c4x hbn hxB E8 hd;by_cases hdn:0<=d
        . go_wp2_with (first | (go_at_call 67;(with_reducible refine (hrr.out _).mono ?_);rintro e w9 ⟨rfl,E9⟩;have hZ9:=aa (hZ8.trans E9);have hBl9:=hBl.ext E9;have⟨gB9,lB9⟩:=hBl9.gl) | (go_at_call 68;(with_reducible refine (hce.out _ (hE2.out.trans hZ9.out) d ⟨hdn,hd1⟩).mono ?_);rintro e w10 ⟨q10,m10,c10,cd,rfl,hm10,E10⟩;have hZ10:=aa (hZ9.trans E10)) | fail);go_roundw
          case rel=>exact⟨j+1,t+m10,oM,gN,gN,aa (by rw [show ((j+1:Nat):Int)=(j:Int)+1 by omega];omega),hZ10⟩
          case measure=>exact mS
        . go_wp2_with (first | (go_at_call 67;(with_reducible refine (hrr.out _).mono ?_);rintro e w9 ⟨rfl,E9⟩;have hZ9:=aa (hZ8.trans E9);have hBl9:=hBl.ext E9;have⟨gB9,lB9⟩:=hBl9.gl) | fail);go_roundw
          case rel=>exact⟨j+1,t,oM,rfl,gN,aa oM,hZ9⟩
          case measure=>exact mS
      . exact Aq
   . have pA:=func25;have pB:=ntmps25;exact De
 . have pA:=func25;have pB:=ntmps25;exact CT
theorem RZ (cells:List CeD)(k:Int)(p:OA)(n base:Nat)(p2:OA)(m:Nat)(R:List RuD)(w:World)(h:SlD CeR 4 base w p n cells)(hn:n<=1048576)(hf:∀ x∈cells,dp x)(hR:SlD (Fl bE) 5 base w p2 m R)(hk:dO R=true)(hm:m<=12)(hv:∀ r∈R,au r=true) :
 Calls prog 18 #[.agg #[sl p n n],k,.agg #[sl p2 m m]] w (qv cells k R w):=by
 have hfl:=aa (λ V (hV:Ext w V)=>QL cells k p n base V (h.ext aL6 hV) hn hf);have hRf:=aa hR.flat;have hRl:=aa hR.length;by_cases hC:cX cells k=0
 . have h8:(fp cells k).length=8:=by rw [qq hC,uU]
   have hok:=aa (show ∀ l∈fp cells k,aH l=true from by rw [qq hC];exact EC _ _);have hce:=aa (λ V (hV:Ext w V) (r:RuD) (hr:au r=true)=>OK cells k p n base r V (h.ext aL6 hV) hn hf hr hC);have hck:=aa (λ q c V (hV:Ext w V) (hs:SlS V q 8 (fp cells k))=>Ri q c (fp cells k) p2 m base R V hs hok.out (hR.ext aT hV) hk hm hv);have hcv:Hid (hcC cells k R=lS (fp cells k) R/\jP cells k R=kT (fp cells k) R):=aa ⟨aw hC,aw hC⟩;unfold qv;rw [hcv.1,hcv.2];unfold sv at hfl;obtain⟨L,hL⟩:∃ L,fp cells k=L:=⟨_,rfl⟩;rw [hL] at hfl h8 hok hck ⊢;rw [hC] at hfl;have hKd:lS L R≠0->kT L R=[]:=λ hK=>by exact Bj
   unfold qu at hck;obtain⟨KC,hKC⟩:∃ KC,lS L R=KC:=⟨_,rfl⟩;obtain⟨KL,hKL⟩:∃ KL,kT L R=KL:=⟨_,rfl⟩;rw [hKC,hKL] at hck hKd;rw [hKC,hKL];clear hcv hL hk h hf hC hKC hKL;by_cases hK:KC=0
   . subst hK;clear hKd;go_enter func18,ntmps18;go_upto_region 1 with (fail);generalize hW:World.alloc (World.alloc _ _) _=W0;obtain⟨E0,z0,b0,b1⟩:=bV hW;clear hW z0;replace b0:=aa (show Blk W0 w [sl p n n] _ from b0);replace b1:=aa (show Blk W0 (w+1) [sl p2 m m] _ from b1);have⟨g0,l0⟩:=b0.gl;go_upto_region 4 with (first | (go_at_call 48;(with_reducible refine (hfl.out _ E0).mono ?_);rintro e w1 ⟨q1,c1,H1,rfl,hO1,E1⟩;have hE1:=aa (E0.trans E1);have bl1:=aa (b0.ext E1);have bd1:=aa (b1.ext E1);have hS1:=aa hO1.toS) | fail);rw [h8] at hS1;have⟨gd,ld⟩:=bd1.gl;clear g0 l0 E0 E1 b0 b1 hO1;go_upto_region 8 with (first | (go_at_call 49;(with_reducible refine (hck.out _ _ _ hE1.out hS1.out).mono ?_);rintro e w2 ⟨q2,c2,rfl,hO2,E2⟩;have hE2:=aa (hE1.trans E2);have bl2:=aa (bl1.ext E2);have bd2:=aa (bd1.ext E2);have hO2b:=aa (hO2.low (hE1.le));clear hO2) | fail);have⟨gl2,ll2⟩:=bl2.gl;have⟨gd2,ld2⟩:=bd2.gl;clear gd ld;go_wp2_with (fail);go_loopw [13,14] (λ s i wx=>∃ (j:Nat) (t:Int),j<=m/\s=.int .i64 t/\i=.int .i64 j/\Hid (0<=t/\t<=1048576*(j:Int))/\Hid (Ext w2 wx)) (λ _ i _=>m - (intOf i).toNat)
     case atStart=>exact⟨0,0,oM,rfl,rfl,by simp [Hid],ab _⟩
     case round =>
      clear gl2 ll2 gd2 ld2;obtain⟨j,t,hj,rfl,rfl,ht,hZ⟩:=hrel;have bLz:=bl2.ext hZ.out;have bDz:=bd2.ext hZ.out;have⟨gL,lL⟩:=bLz.gl;have⟨gD,lD⟩:=bDz.gl;replace bLz:=aa bLz;replace bDz:=aa bDz;by_cases hjt:j<m
      . have hjI:(j:Int)<(m:Int):=oM;obtain⟨ht0,ht1⟩:=ht.out;obtain⟨bR,oR,x,rfl,hbn,hx,hc⟩:=(hRf.ext (hE2.trans hZ.out)).get hjt;have c0:=hc 0 _ rfl;rw [aq] at c0;have c1:=hc 1 _ rfl;have c2x:=hc 2 _ rfl;have c3x:=hc 3 _ rfl;have c4x:=hc 4 _ rfl;clear hc;have hxB:=hv x (ap hx.out);have hcx:=aa (λ V (hV:Ext w V)=>hce.out V hV x hxB);clear hxB;go_upto_region 11 with (fail);go_region_with (go_at_call 50;refine (hcx.out _ ((hE2.trans hZ.out).trans (ab _).drew)).mono ?_;rintro e w9 ⟨d,rfl,hd,E9⟩;have hdd:=aa hd;obtain⟨hd0,hd1⟩:=hd;have hZ9:=aa ((hZ.trans (ab _).drew).trans E9);clear E9)
        all_goals
         go_wp2_with (fail);go_roundw
         case rel=>exact⟨j+1,t+d,oM,gN,gN,aa (by rw [show ((j+1:Nat):Int)=(j:Int)+1 by omega];omega),hZ9⟩
         case measure=>exact mS
      . exact Aq
   . have pA:=func18;have pB:=ntmps18;exact De
 . have pA:=func18;have pB:=ntmps18;exact CT
def oV (ok:Bool) (cells:List CeD) (k:Int) (R:List RuD):Int:=if ok=true then hcC cells k R else 1
def lT (ok:Bool) (cells:List CeD) (k:Int) (R:List RuD) (W:List WvD):List aV:=if oV ok cells k R=0 then iE R W (jP cells k R) else []
def lU (ok:Bool) (cells:List CeD) (k:Int) (R:List RuD) (W:List WvD):List aV:=if oV ok cells k R=0 then iF R W (jP cells k R) else []
def dZ (x y:ShD):Bool:=x.a==y.a&&(x.box.a==y.box.a&&(x.box.b==y.box.b&&(x.box.c==y.box.c&&x.box.d==y.box.d)))
def d8 (x y:LbD):Bool:=x.a==y.a&&(x.pt.a==y.pt.a&&(x.pt.b==y.pt.b&&x.s.toList==y.s.toList))
def d9 (x y:InD):Bool:=x.a==y.a&&(x.tr.a==y.tr.a&&(x.tr.b==y.tr.b&&(x.tr.c==y.tr.c&&(x.c==y.c&&(x.d==y.d&&(x.e==y.e&&x.f==y.f))))))
def ek (x y:EdD):Bool:=x.a==y.a&&(x.b==y.b&&(x.c==y.c&&(x.s.toList==y.s.toList&&(dZ x.sh y.sh&&(d8 x.lb y.lb&&d9 x.ins y.ins)))))
theorem R0 {a b:Int}{c:Bool}{w:World} : (if a=b then Result.ok (Value.bool c) w else Result.ok (Value.bool false) w)=Result.ok (Value.bool (a==b&&c)) w:=by by_cases h:a=b <;> simp [h]
theorem R1 {a b:List UInt8}{c:Bool}{w:World} : (if a=b then Result.ok (Value.bool c) w else Result.ok (Value.bool false) w)=Result.ok (Value.bool (a==b&&c)) w:=by by_cases h:a=b <;> simp [h]
theorem R2 (x y:EdD)(w:World):(binOp .eql 254 (.agg (am x).toArray) (.agg (am y).toArray)).run prog w=.ok (.bool (ek x y)) w:=by unfold am;go_simp;simp only [R0,R1,Bool.and_true];simp only [ek,dZ,d8,d9,Bool.and_assoc]
theorem R3 (x y:EdD)(w:World)(p q:Operand):(eqGuard .eql 254 p q (.agg (am x).toArray) (.agg (am y).toArray)).run prog w=.ok () w:=by unfold am;go_simp
theorem mU {ops:Array Oper}{rest:List Oper}{op:Oper}{a:Act}{w:World}{Q:Exit->Act->World->Prop}(hgd:op.guard=none)(p q:Operand)(ty:TypeId)(ho:op.op=.binOp .eql 254 p q ty)
 (x y:EdD) (hx:a.eval p=.agg (am x).toArray) (hy:a.eval q=.agg (am y).toArray) (h:wpList prog ops Q rest (a.put op.dst (.bool (ek x y))) w):wpList prog ops Q (op :: rest) a w :=
 wpList_plain hgd λ K hK=>by unfold Oper.wp execOp;simp only [ho,hx,hy,mc,R3,R2,mW];exact hK _ _ h
def emp:ByteArray:=⟨#[]⟩
def zS:ShD:=⟨0,⟨0,0,0,0⟩⟩
def zL:LbD:=⟨0,⟨0,0⟩,emp⟩
def zI:InD:=⟨0,⟨0,0,0⟩,0,0,0,0⟩
def aE (e:EdD):Bool :=
 if e.a=1 then ek ⟨e.a,e.b,e.c,emp,e.sh,zL,zI⟩ e&&eR e.sh
 else if e.a=3 then ek ⟨e.a,e.b,e.c,emp,zS,e.lb,zI⟩ e&&eI e.lb
 else if e.a=5 then ek ⟨e.a,e.b,e.c,emp,zS,zL,e.ins⟩ e&&de e.ins 8
 else if e.a=2\/e.a=4\/e.a=6 then ek ⟨e.a,e.b,e.c,emp,zS,zL,zI⟩ e
 else if e.a=7\/e.a=8 then ek ⟨e.a,e.b,0,e.s,zS,zL,zI⟩ e&&dK e.s
 else if e.a=9 then ek ⟨e.a,e.b,0,emp,zS,zL,zI⟩ e
 else false
def eD (e:EdD):Bool:=ae e.b 0 8&&(ae e.c 0 24&&aE e)
theorem lV (a b:Int):prog.built 254 [(0,.int .i64 a),(1,.int .i64 b)]=some (am ⟨a,b,0,emp,zS,zL,zI⟩).toArray:=by kernel_rfl
theorem cI (d:Tmp){P:Program}{ops:Array Oper}{rest:List Oper}{o:Op}{ty:TypeId}{po:String}{af:Array Edge}{gd:Option (Nat×Bool)}{a:Act}{w:World}{Q:Exit->Act->World->Prop}(h:wpList P ops Q (⟨some d,o,ty,po,af,gd⟩:: rest) a w):wpList P ops Q (⟨some d,o,ty,po,af,gd⟩:: rest) a w:=h
theorem lW {P:Program}{ops:Array Oper}{rest:List Oper}{o:Op}{ty:TypeId}{po:String}{af:Array Edge}{gd:Option (Nat×Bool)}{a:Act}{w:World}{Q:Exit->Act->World->Prop}(h:wpList P ops Q (⟨none,o,ty,po,af,gd⟩:: rest) a w):wpList P ops Q (⟨none,o,ty,po,af,gd⟩:: rest) a w:=h
theorem lX {ops:Array Oper}{rest:List Oper}{op:Oper}{a:Act}{w:World}{Q:Exit->Act->World->Prop}(hgd:op.guard=none)(ty:TypeId)(parts:Array (Nat×Operand))(ho:op.op=.build ty parts)
 (vs:List (Nat×Value)) (hv:(parts.map λ(i,x)=>(i,a.eval x)).toList=vs) (cells:Array Value) (hb:prog.built ty vs=some cells) (h:wpList prog ops Q rest (a.put op.dst (.agg cells)) w):wpList prog ops Q (op :: rest) a w :=
 wpList_plain hgd λ K hK=>by unfold Oper.wp execOp;have:=run_build w ty (parts.map λ(i,x)=>(i,a.eval x)) cells (by rw [hv];exact hb);simp only [ho,mc,this,mW];exact hK _ _ h
theorem lY {ops:Array Oper}{rest:List Oper}{op:Oper}{a:Act}{w:World}{Q:Exit->Act->World->Prop}(hgd:op.guard=none)(p q:Operand)(ho:op.op=.store 254 p q)(x:EdD)(zs:List Value)(hz:zs.length=21)
 (hx:a.eval p=.pointer (so w 0)) (hy:a.eval q=.agg (am x).toArray)
 (h:∀ W1,Blk W1 w (am x) 254->Ext w W1->wpList prog ops Q rest (a.put op.dst undef) W1):wpList prog ops Q (op :: rest) a (w.alloc (.cells zs.toArray 254)):=by
 have ht:=tC (aD w zs 254);rw [hz] at ht;refine wpList_store_mid hgd 254 p q ho w 0 (am x).toArray hx hy ht iG (DI x) (h _ ?_ ?_)
 . exact (aD w zs 254).setAll (vs:=am x) (by rw [hz];rfl)
 . exact tD (ai _) _ _ _ ((ab _).alloc _)
theorem yH (b c:Int)(s:ByteArray)(sh:ShD)(lb:LbD)(ins:InD):aE ⟨1,b,c,s,sh,lb,ins⟩=(ek ⟨1,b,c,emp,sh,zL,zI⟩ ⟨1,b,c,s,sh,lb,ins⟩&&eR sh):=rfl
theorem yI (b c:Int)(s:ByteArray)(sh:ShD)(lb:LbD)(ins:InD):aE ⟨2,b,c,s,sh,lb,ins⟩=(ek ⟨2,b,c,emp,zS,zL,zI⟩ ⟨2,b,c,s,sh,lb,ins⟩):=rfl
theorem yJ (b c:Int)(s:ByteArray)(sh:ShD)(lb:LbD)(ins:InD):aE ⟨3,b,c,s,sh,lb,ins⟩=(ek ⟨3,b,c,emp,zS,lb,zI⟩ ⟨3,b,c,s,sh,lb,ins⟩&&eI lb):=rfl
theorem yK (b c:Int)(s:ByteArray)(sh:ShD)(lb:LbD)(ins:InD):aE ⟨4,b,c,s,sh,lb,ins⟩=(ek ⟨4,b,c,emp,zS,zL,zI⟩ ⟨4,b,c,s,sh,lb,ins⟩):=rfl
theorem yL (b c:Int)(s:ByteArray)(sh:ShD)(lb:LbD)(ins:InD):aE ⟨5,b,c,s,sh,lb,ins⟩=(ek ⟨5,b,c,emp,zS,zL,ins⟩ ⟨5,b,c,s,sh,lb,ins⟩&&de ins 8):=rfl
theorem yM (b c:Int)(s:ByteArray)(sh:ShD)(lb:LbD)(ins:InD):aE ⟨6,b,c,s,sh,lb,ins⟩=(ek ⟨6,b,c,emp,zS,zL,zI⟩ ⟨6,b,c,s,sh,lb,ins⟩):=rfl
theorem yN (b c:Int)(s:ByteArray)(sh:ShD)(lb:LbD)(ins:InD):aE ⟨7,b,c,s,sh,lb,ins⟩=(ek ⟨7,b,0,s,zS,zL,zI⟩ ⟨7,b,c,s,sh,lb,ins⟩&&dK s):=rfl
theorem yO (b c:Int)(s:ByteArray)(sh:ShD)(lb:LbD)(ins:InD):aE ⟨8,b,c,s,sh,lb,ins⟩=(ek ⟨8,b,0,s,zS,zL,zI⟩ ⟨8,b,c,s,sh,lb,ins⟩&&dK s):=rfl
theorem yP (b c:Int)(s:ByteArray)(sh:ShD)(lb:LbD)(ins:InD):aE ⟨9,b,c,s,sh,lb,ins⟩=(ek ⟨9,b,0,emp,zS,zL,zI⟩ ⟨9,b,c,s,sh,lb,ins⟩):=rfl
theorem R4 (b c:Int)(s:ByteArray)(sh:ShD)(lb:LbD)(ins:InD)(w:World)(hs1:s.size<=9223372036854775807)(hs2:lb.s.size<=9223372036854775807)(h0:ae b 0 8=true)(h1:ae c 0 24=true) :
 CE 272 #[.agg #[(1:Int),b,c,.string s,sh.a,sh.box.a,sh.box.b,sh.box.c,sh.box.d,lb.a,lb.pt.a,lb.pt.b,.string lb.s,ins.a,ins.tr.a,ins.tr.b,ins.tr.c,ins.c,ins.d,ins.e,ins.f]] w (.bool (aE ⟨1,b,c,s,sh,lb,ins⟩)):=by
 have _u:=fY hs1 hs2;clear _u;have sz2:Hid ((prog.info? 254).map (·.size)=some 21):=iG;go_enter func272,ntmps272;go_upto_region 1 with (fail);generalize hW:World.alloc _ _=W0;obtain⟨E0,z0,b0⟩:=al hW;clear hW z0;replace b0:=jx b0;have⟨g0,l0⟩:=b0.gl;have E:=ab W0;have b0e:Blk W0 w (am ⟨1,b,c,s,sh,lb,ins⟩) 254:=b0.out;replace b0e:=aa b0e;go_upto_region 4 with (first | (go_at_call 117;refine aO (dd _ _ _ _) ?_) | ((with_reducible refine cI 18 ?_);refine lX (op:=⟨some 18,_,_,_,_,_⟩) rfl 254 _ rfl [(0,.int .i64 1),(1,.int .i64 b)] rfl _ (lV 1 b) ?_) | ((with_reducible refine lW ?_);refine lY (op:=⟨none,_,_,_,_,_⟩) rfl (Operand.tmp 3) (Operand.tmp 18) rfl ⟨1,b,0,emp,zS,zL,zI⟩ _ rfl rfl rfl ?_;intro W1 b1 E1));have b1e:=aa b1;simp only [am,zS,zL,zI,emp] at b1;replace b1:=aa b1;replace E:=E.trans E1;clear g0 l0;have⟨g0,l0⟩:=(b0.ext E).gl;have g1:=b1.cells;have f1:=b1.free;have l1:=b1.lt
 cases hq:ek ⟨1,b,c,emp,sh,zL,zI⟩ ⟨1,b,c,s,sh,lb,ins⟩ with
 | false =>
   have hr:Hid (false=aE ⟨1,b,c,s,sh,lb,ins⟩):=by show _=_;rw [yH,hq];rfl
   exact Bv
 | true =>
   have hr:Hid ((eR sh)=aE ⟨1,b,c,s,sh,lb,ins⟩):=by show _=_;rw [yH,hq];rfl
   exact Bv
theorem R5 (b c:Int)(s:ByteArray)(sh:ShD)(lb:LbD)(ins:InD)(w:World)(hs1:s.size<=9223372036854775807)(hs2:lb.s.size<=9223372036854775807)(h0:ae b 0 8=true)(h1:ae c 0 24=true) :
 CE 272 #[.agg #[(2:Int),b,c,.string s,sh.a,sh.box.a,sh.box.b,sh.box.c,sh.box.d,lb.a,lb.pt.a,lb.pt.b,.string lb.s,ins.a,ins.tr.a,ins.tr.b,ins.tr.c,ins.c,ins.d,ins.e,ins.f]] w (.bool (aE ⟨2,b,c,s,sh,lb,ins⟩)):=by
 have _u:=fY hs1 hs2;clear _u;have sz2:Hid ((prog.info? 254).map (·.size)=some 21):=iG;go_enter func272,ntmps272;go_upto_region 1 with (fail);generalize hW:World.alloc _ _=W0;obtain⟨E0,z0,b0⟩:=al hW;clear hW z0;replace b0:=jx b0;have⟨g0,l0⟩:=b0.gl;have E:=ab W0;have b0e:Blk W0 w (am ⟨2,b,c,s,sh,lb,ins⟩) 254:=b0.out;replace b0e:=aa b0e;go_upto_region 4 with (first | (go_at_call 117;refine aO (dd _ _ _ _) ?_) | ((with_reducible refine cI 18 ?_);refine lX (op:=⟨some 18,_,_,_,_,_⟩) rfl 254 _ rfl [(0,.int .i64 2),(1,.int .i64 b)] rfl _ (lV 2 b) ?_) | ((with_reducible refine lW ?_);refine lY (op:=⟨none,_,_,_,_,_⟩) rfl (Operand.tmp 3) (Operand.tmp 18) rfl ⟨2,b,0,emp,zS,zL,zI⟩ _ rfl rfl rfl ?_;intro W1 b1 E1));have b1e:=aa b1;simp only [am,zS,zL,zI,emp] at b1;replace b1:=aa b1;replace E:=E.trans E1;clear g0 l0;have⟨g0,l0⟩:=(b0.ext E).gl;have g1:=b1.cells;have f1:=b1.free;have l1:=b1.lt
 cases hq:ek ⟨2,b,c,emp,zS,zL,zI⟩ ⟨2,b,c,s,sh,lb,ins⟩ with
 | false =>
   have hr:Hid (false=aE ⟨2,b,c,s,sh,lb,ins⟩):=by show _=_;rw [yI,hq]
   exact BD
 | true =>
   have hr:Hid ((true)=aE ⟨2,b,c,s,sh,lb,ins⟩):=by show _=_;rw [yI,hq]
   exact BD
theorem R6 (b c:Int)(s:ByteArray)(sh:ShD)(lb:LbD)(ins:InD)(w:World)(hs1:s.size<=9223372036854775807)(hs2:lb.s.size<=9223372036854775807)(h0:ae b 0 8=true)(h1:ae c 0 24=true) :
 CE 272 #[.agg #[(3:Int),b,c,.string s,sh.a,sh.box.a,sh.box.b,sh.box.c,sh.box.d,lb.a,lb.pt.a,lb.pt.b,.string lb.s,ins.a,ins.tr.a,ins.tr.b,ins.tr.c,ins.c,ins.d,ins.e,ins.f]] w (.bool (aE ⟨3,b,c,s,sh,lb,ins⟩)):=by
 have _u:=fY hs1 hs2;clear _u;have sz2:Hid ((prog.info? 254).map (·.size)=some 21):=iG;go_enter func272,ntmps272;go_upto_region 1 with (fail);generalize hW:World.alloc _ _=W0;obtain⟨E0,z0,b0⟩:=al hW;clear hW z0;replace b0:=jx b0;have⟨g0,l0⟩:=b0.gl;have E:=ab W0;have b0e:Blk W0 w (am ⟨3,b,c,s,sh,lb,ins⟩) 254:=b0.out;replace b0e:=aa b0e;go_upto_region 4 with (first | (go_at_call 117;refine aO (dd _ _ _ _) ?_) | ((with_reducible refine cI 18 ?_);refine lX (op:=⟨some 18,_,_,_,_,_⟩) rfl 254 _ rfl [(0,.int .i64 3),(1,.int .i64 b)] rfl _ (lV 3 b) ?_) | ((with_reducible refine lW ?_);refine lY (op:=⟨none,_,_,_,_,_⟩) rfl (Operand.tmp 3) (Operand.tmp 18) rfl ⟨3,b,0,emp,zS,zL,zI⟩ _ rfl rfl rfl ?_;intro W1 b1 E1));have b1e:=aa b1;simp only [am,zS,zL,zI,emp] at b1;replace b1:=aa b1;replace E:=E.trans E1;clear g0 l0;have⟨g0,l0⟩:=(b0.ext E).gl;have g1:=b1.cells;have f1:=b1.free;have l1:=b1.lt
 cases hq:ek ⟨3,b,c,emp,zS,lb,zI⟩ ⟨3,b,c,s,sh,lb,ins⟩ with
 | false =>
   have hr:Hid (false=aE ⟨3,b,c,s,sh,lb,ins⟩):=by show _=_;rw [yJ,hq];rfl
   exact Bw
 | true =>
   have hr:Hid ((eI lb)=aE ⟨3,b,c,s,sh,lb,ins⟩):=by show _=_;rw [yJ,hq];rfl
   exact Bw
theorem R7 (b c:Int)(s:ByteArray)(sh:ShD)(lb:LbD)(ins:InD)(w:World)(hs1:s.size<=9223372036854775807)(hs2:lb.s.size<=9223372036854775807)(h0:ae b 0 8=true)(h1:ae c 0 24=true) :
 CE 272 #[.agg #[(4:Int),b,c,.string s,sh.a,sh.box.a,sh.box.b,sh.box.c,sh.box.d,lb.a,lb.pt.a,lb.pt.b,.string lb.s,ins.a,ins.tr.a,ins.tr.b,ins.tr.c,ins.c,ins.d,ins.e,ins.f]] w (.bool (aE ⟨4,b,c,s,sh,lb,ins⟩)):=by
 have _u:=fY hs1 hs2;clear _u;have sz2:Hid ((prog.info? 254).map (·.size)=some 21):=iG;go_enter func272,ntmps272;go_upto_region 1 with (fail);generalize hW:World.alloc _ _=W0;obtain⟨E0,z0,b0⟩:=al hW;clear hW z0;replace b0:=jx b0;have⟨g0,l0⟩:=b0.gl;have E:=ab W0;have b0e:Blk W0 w (am ⟨4,b,c,s,sh,lb,ins⟩) 254:=b0.out;replace b0e:=aa b0e;go_upto_region 4 with (first | (go_at_call 117;refine aO (dd _ _ _ _) ?_) | ((with_reducible refine cI 18 ?_);refine lX (op:=⟨some 18,_,_,_,_,_⟩) rfl 254 _ rfl [(0,.int .i64 4),(1,.int .i64 b)] rfl _ (lV 4 b) ?_) | ((with_reducible refine lW ?_);refine lY (op:=⟨none,_,_,_,_,_⟩) rfl (Operand.tmp 3) (Operand.tmp 18) rfl ⟨4,b,0,emp,zS,zL,zI⟩ _ rfl rfl rfl ?_;intro W1 b1 E1));have b1e:=aa b1;simp only [am,zS,zL,zI,emp] at b1;replace b1:=aa b1;replace E:=E.trans E1;clear g0 l0;have⟨g0,l0⟩:=(b0.ext E).gl;have g1:=b1.cells;have f1:=b1.free;have l1:=b1.lt
 cases hq:ek ⟨4,b,c,emp,zS,zL,zI⟩ ⟨4,b,c,s,sh,lb,ins⟩ with
 | false =>
   have hr:Hid (false=aE ⟨4,b,c,s,sh,lb,ins⟩):=by show _=_;rw [yK,hq]
   exact BE
 | true =>
   have hr:Hid ((true)=aE ⟨4,b,c,s,sh,lb,ins⟩):=by show _=_;rw [yK,hq]
   exact BE
theorem R8 (b c:Int)(s:ByteArray)(sh:ShD)(lb:LbD)(ins:InD)(w:World)(hs1:s.size<=9223372036854775807)(hs2:lb.s.size<=9223372036854775807)(h0:ae b 0 8=true)(h1:ae c 0 24=true) :
 CE 272 #[.agg #[(5:Int),b,c,.string s,sh.a,sh.box.a,sh.box.b,sh.box.c,sh.box.d,lb.a,lb.pt.a,lb.pt.b,.string lb.s,ins.a,ins.tr.a,ins.tr.b,ins.tr.c,ins.c,ins.d,ins.e,ins.f]] w (.bool (aE ⟨5,b,c,s,sh,lb,ins⟩)):=by
 have _u:=fY hs1 hs2;clear _u;have sz2:Hid ((prog.info? 254).map (·.size)=some 21):=iG;go_enter func272,ntmps272;go_upto_region 1 with (fail);generalize hW:World.alloc _ _=W0;obtain⟨E0,z0,b0⟩:=al hW;clear hW z0;replace b0:=jx b0;have⟨g0,l0⟩:=b0.gl;have E:=ab W0;have b0e:Blk W0 w (am ⟨5,b,c,s,sh,lb,ins⟩) 254:=b0.out;replace b0e:=aa b0e;go_upto_region 4 with (first | (go_at_call 117;refine aO (dd _ _ _ _) ?_) | ((with_reducible refine cI 18 ?_);refine lX (op:=⟨some 18,_,_,_,_,_⟩) rfl 254 _ rfl [(0,.int .i64 5),(1,.int .i64 b)] rfl _ (lV 5 b) ?_) | ((with_reducible refine lW ?_);refine lY (op:=⟨none,_,_,_,_,_⟩) rfl (Operand.tmp 3) (Operand.tmp 18) rfl ⟨5,b,0,emp,zS,zL,zI⟩ _ rfl rfl rfl ?_;intro W1 b1 E1));have b1e:=aa b1;simp only [am,zS,zL,zI,emp] at b1;replace b1:=aa b1;replace E:=E.trans E1;clear g0 l0;have⟨g0,l0⟩:=(b0.ext E).gl;have g1:=b1.cells;have f1:=b1.free;have l1:=b1.lt
 cases hq:ek ⟨5,b,c,emp,zS,zL,ins⟩ ⟨5,b,c,s,sh,lb,ins⟩ with
 | false =>
   have hr:Hid (false=aE ⟨5,b,c,s,sh,lb,ins⟩):=by show _=_;rw [yL,hq];rfl
   exact Bu
 | true =>
   have hr:Hid ((de ins 8)=aE ⟨5,b,c,s,sh,lb,ins⟩):=by show _=_;rw [yL,hq];rfl
   exact Bu
theorem R9 (b c:Int)(s:ByteArray)(sh:ShD)(lb:LbD)(ins:InD)(w:World)(hs1:s.size<=9223372036854775807)(hs2:lb.s.size<=9223372036854775807)(h0:ae b 0 8=true)(h1:ae c 0 24=true) :
 CE 272 #[.agg #[(6:Int),b,c,.string s,sh.a,sh.box.a,sh.box.b,sh.box.c,sh.box.d,lb.a,lb.pt.a,lb.pt.b,.string lb.s,ins.a,ins.tr.a,ins.tr.b,ins.tr.c,ins.c,ins.d,ins.e,ins.f]] w (.bool (aE ⟨6,b,c,s,sh,lb,ins⟩)):=by
 have _u:=fY hs1 hs2;clear _u;have sz2:Hid ((prog.info? 254).map (·.size)=some 21):=iG;go_enter func272,ntmps272;go_upto_region 1 with (fail);generalize hW:World.alloc _ _=W0;obtain⟨E0,z0,b0⟩:=al hW;clear hW z0;replace b0:=jx b0;have⟨g0,l0⟩:=b0.gl;have E:=ab W0;have b0e:Blk W0 w (am ⟨6,b,c,s,sh,lb,ins⟩) 254:=b0.out;replace b0e:=aa b0e;go_upto_region 4 with (first | (go_at_call 117;refine aO (dd _ _ _ _) ?_) | ((with_reducible refine cI 18 ?_);refine lX (op:=⟨some 18,_,_,_,_,_⟩) rfl 254 _ rfl [(0,.int .i64 6),(1,.int .i64 b)] rfl _ (lV 6 b) ?_) | ((with_reducible refine lW ?_);refine lY (op:=⟨none,_,_,_,_,_⟩) rfl (Operand.tmp 3) (Operand.tmp 18) rfl ⟨6,b,0,emp,zS,zL,zI⟩ _ rfl rfl rfl ?_;intro W1 b1 E1));have b1e:=aa b1;simp only [am,zS,zL,zI,emp] at b1;replace b1:=aa b1;replace E:=E.trans E1;clear g0 l0;have⟨g0,l0⟩:=(b0.ext E).gl;have g1:=b1.cells;have f1:=b1.free;have l1:=b1.lt
 cases hq:ek ⟨6,b,c,emp,zS,zL,zI⟩ ⟨6,b,c,s,sh,lb,ins⟩ with
 | false =>
   have hr:Hid (false=aE ⟨6,b,c,s,sh,lb,ins⟩):=by show _=_;rw [yM,hq]
   exact BG
 | true =>
   have hr:Hid ((true)=aE ⟨6,b,c,s,sh,lb,ins⟩):=by show _=_;rw [yM,hq]
   exact BG
theorem Sa (b c:Int)(s:ByteArray)(sh:ShD)(lb:LbD)(ins:InD)(w:World)(hs1:s.size<=9223372036854775807)(hs2:lb.s.size<=9223372036854775807)(h0:ae b 0 8=true)(h1:ae c 0 24=true) :
 CE 272 #[.agg #[(7:Int),b,c,.string s,sh.a,sh.box.a,sh.box.b,sh.box.c,sh.box.d,lb.a,lb.pt.a,lb.pt.b,.string lb.s,ins.a,ins.tr.a,ins.tr.b,ins.tr.c,ins.c,ins.d,ins.e,ins.f]] w (.bool (aE ⟨7,b,c,s,sh,lb,ins⟩)):=by
 have _u:=fY hs1 hs2;clear _u;have sz2:Hid ((prog.info? 254).map (·.size)=some 21):=iG;go_enter func272,ntmps272;go_upto_region 1 with (fail);generalize hW:World.alloc _ _=W0;obtain⟨E0,z0,b0⟩:=al hW;clear hW z0;replace b0:=jx b0;have⟨g0,l0⟩:=b0.gl;have E:=ab W0;have b0e:Blk W0 w (am ⟨7,b,c,s,sh,lb,ins⟩) 254:=b0.out;replace b0e:=aa b0e;go_upto_region 4 with (first | (go_at_call 117;refine aO (dd _ _ _ _) ?_) | ((with_reducible refine cI 18 ?_);refine lX (op:=⟨some 18,_,_,_,_,_⟩) rfl 254 _ rfl [(0,.int .i64 7),(1,.int .i64 b)] rfl _ (lV 7 b) ?_) | ((with_reducible refine lW ?_);refine lY (op:=⟨none,_,_,_,_,_⟩) rfl (Operand.tmp 3) (Operand.tmp 18) rfl ⟨7,b,0,emp,zS,zL,zI⟩ _ rfl rfl rfl ?_;intro W1 b1 E1));have b1e:=aa b1;simp only [am,zS,zL,zI,emp] at b1;replace b1:=aa b1;replace E:=E.trans E1;clear g0 l0;have⟨g0,l0⟩:=(b0.ext E).gl;have g1:=b1.cells;have f1:=b1.free;have l1:=b1.lt
 cases hq:ek ⟨7,b,0,s,zS,zL,zI⟩ ⟨7,b,c,s,sh,lb,ins⟩ with
 | false =>
   have hr:Hid (false=aE ⟨7,b,c,s,sh,lb,ins⟩):=by show _=_;rw [yN,hq];rfl
   exact Bx
 | true =>
   have hr:Hid ((dK s)=aE ⟨7,b,c,s,sh,lb,ins⟩):=by show _=_;rw [yN,hq];rfl
   exact Bx
theorem Sb (b c:Int)(s:ByteArray)(sh:ShD)(lb:LbD)(ins:InD)(w:World)(hs1:s.size<=9223372036854775807)(hs2:lb.s.size<=9223372036854775807)(h0:ae b 0 8=true)(h1:ae c 0 24=true) :
 CE 272 #[.agg #[(8:Int),b,c,.string s,sh.a,sh.box.a,sh.box.b,sh.box.c,sh.box.d,lb.a,lb.pt.a,lb.pt.b,.string lb.s,ins.a,ins.tr.a,ins.tr.b,ins.tr.c,ins.c,ins.d,ins.e,ins.f]] w (.bool (aE ⟨8,b,c,s,sh,lb,ins⟩)):=by
 have _u:=fY hs1 hs2;clear _u;have sz2:Hid ((prog.info? 254).map (·.size)=some 21):=iG;go_enter func272,ntmps272;go_upto_region 1 with (fail);generalize hW:World.alloc _ _=W0;obtain⟨E0,z0,b0⟩:=al hW;clear hW z0;replace b0:=jx b0;have⟨g0,l0⟩:=b0.gl;have E:=ab W0;have b0e:Blk W0 w (am ⟨8,b,c,s,sh,lb,ins⟩) 254:=b0.out;replace b0e:=aa b0e;go_upto_region 4 with (first | (go_at_call 117;refine aO (dd _ _ _ _) ?_) | ((with_reducible refine cI 18 ?_);refine lX (op:=⟨some 18,_,_,_,_,_⟩) rfl 254 _ rfl [(0,.int .i64 8),(1,.int .i64 b)] rfl _ (lV 8 b) ?_) | ((with_reducible refine lW ?_);refine lY (op:=⟨none,_,_,_,_,_⟩) rfl (Operand.tmp 3) (Operand.tmp 18) rfl ⟨8,b,0,emp,zS,zL,zI⟩ _ rfl rfl rfl ?_;intro W1 b1 E1));have b1e:=aa b1;simp only [am,zS,zL,zI,emp] at b1;replace b1:=aa b1;replace E:=E.trans E1;clear g0 l0;have⟨g0,l0⟩:=(b0.ext E).gl;have g1:=b1.cells;have f1:=b1.free;have l1:=b1.lt
 cases hq:ek ⟨8,b,0,s,zS,zL,zI⟩ ⟨8,b,c,s,sh,lb,ins⟩ with
 | false =>
   have hr:Hid (false=aE ⟨8,b,c,s,sh,lb,ins⟩):=by show _=_;rw [yO,hq];rfl
   exact Bz
 | true =>
   have hr:Hid ((dK s)=aE ⟨8,b,c,s,sh,lb,ins⟩):=by show _=_;rw [yO,hq];rfl
   exact Bz
theorem Sc (b c:Int)(s:ByteArray)(sh:ShD)(lb:LbD)(ins:InD)(w:World)(hs1:s.size<=9223372036854775807)(hs2:lb.s.size<=9223372036854775807)(h0:ae b 0 8=true)(h1:ae c 0 24=true) :
 CE 272 #[.agg #[(9:Int),b,c,.string s,sh.a,sh.box.a,sh.box.b,sh.box.c,sh.box.d,lb.a,lb.pt.a,lb.pt.b,.string lb.s,ins.a,ins.tr.a,ins.tr.b,ins.tr.c,ins.c,ins.d,ins.e,ins.f]] w (.bool (aE ⟨9,b,c,s,sh,lb,ins⟩)):=by
 have _u:=fY hs1 hs2;clear _u;have sz2:Hid ((prog.info? 254).map (·.size)=some 21):=iG;go_enter func272,ntmps272;go_upto_region 1 with (fail);generalize hW:World.alloc _ _=W0;obtain⟨E0,z0,b0⟩:=al hW;clear hW z0;replace b0:=jx b0;have⟨g0,l0⟩:=b0.gl;have E:=ab W0;have b0e:Blk W0 w (am ⟨9,b,c,s,sh,lb,ins⟩) 254:=b0.out;replace b0e:=aa b0e;go_upto_region 4 with (first | (go_at_call 117;refine aO (dd _ _ _ _) ?_) | ((with_reducible refine cI 18 ?_);refine lX (op:=⟨some 18,_,_,_,_,_⟩) rfl 254 _ rfl [(0,.int .i64 9),(1,.int .i64 b)] rfl _ (lV 9 b) ?_) | ((with_reducible refine lW ?_);refine lY (op:=⟨none,_,_,_,_,_⟩) rfl (Operand.tmp 3) (Operand.tmp 18) rfl ⟨9,b,0,emp,zS,zL,zI⟩ _ rfl rfl rfl ?_;intro W1 b1 E1));have b1e:=aa b1;simp only [am,zS,zL,zI,emp] at b1;replace b1:=aa b1;replace E:=E.trans E1;clear g0 l0;have⟨g0,l0⟩:=(b0.ext E).gl;have g1:=b1.cells;have f1:=b1.free;have l1:=b1.lt
 cases hq:ek ⟨9,b,0,emp,zS,zL,zI⟩ ⟨9,b,c,s,sh,lb,ins⟩ with
 | false =>
   have hr:Hid (false=aE ⟨9,b,c,s,sh,lb,ins⟩):=by show _=_;rw [yP,hq]
   exact BH
 | true =>
   have hr:Hid ((true)=aE ⟨9,b,c,s,sh,lb,ins⟩):=by show _=_;rw [yP,hq]
   exact BH
end Go.Proofs.YtnlajnpcdnnpmaaGreat

/- Part of a proof. No condition. -/
import Derived.Test.YtnlajnpcdnnpmaaGreatA46
import Derived.Test.YtnlajnpcdnnpmaaGreatA47
namespace Go.Proofs.YtnlajnpcdnnpmaaGreat
set_option linter.all false
set_option maxRecDepth 100000
set_option maxHeartbeats 16000000
open Go.Proofs.Tryz Go.RowKit Go.PlainAid
def em (x:SeD):Bool:=kV x.ed&&(dO x.rules&&(fk x.waivers&&dC x.nl))
theorem vk {α:Type}(f:α->Nat){l:List α}{x:α}(h:x∈l):f x<=aC f l:=by
 induction l with
 | nil=>cases h
 | cons a l ih =>
   have e:aC f (a :: l)=f a+aC f l:=by simp [aC]
   rw [e];rcases aL89.1 h with rfl | h
   . omega
   . have:=ih h;omega
theorem ST (x:SeD)(p1 p2 p3 p4 p5 p6 p7:OA)(n1 c1 n2 c2 n3 c3 n4 n5 c5 n6 c6 n7 c7 base:Nat)(w:World)(s1:SlD CeR 4 base w p1 n1 x.ed.cells)(s2:SlD (RwD (Fl am) 21) 1 base w p2 n2 x.ed.undos)(s3:SlD (RwD (Fl am) 21) 1 base w p3 n3 x.ed.redos)(s4:SlD (Fl bE) 5 base w p4 n4 x.rules)(s5:SlD (Fl cj) 2 base w p5 n5 x.waivers)(s6:SlD DvR 4 base w p6 n6 x.nl.devs)(s7:SlD (Fl cD) 2 base w p7 n7 x.nl.ports)(hf:lu x) :
 CE 24 #[.agg #[sl p1 n1 c1,sl p2 n2 c2,sl p3 n3 c3,sl p4 n4 n4,sl p5 n5 c5,x.nl.nets,sl p6 n6 c6,sl p7 n7 c7]] w (.bool (em x)):=by
 obtain⟨f1,f2,⟨f3,f4⟩,f5⟩:=hf;have hl4:=aa s4.length;have hl5:=aa s5.length;rw [hl4.out] at f2;rw [hl5.out] at f3;replace f1:=aa f1;replace f4:=aa f4;replace f5:=aa f5
 cases a0:kV x.ed with
 | false =>
   have hr:Hid (false=em x):=by show _=_;unfold em;first | (rw [a0];done) | (rw [a0];rfl)
   exact tm
 | true =>
   cases a1:dO x.rules with
   | false =>
     have hr:Hid (false=em x):=by show _=_;unfold em;first | (rw [a0,a1];done) | (rw [a0,a1];rfl)
     exact tm
   | true =>
     cases a2:fk x.waivers with
     | false =>
       have hr:Hid (false=em x):=by show _=_;unfold em;first | (rw [a0,a1,a2];done) | (rw [a0,a1,a2];rfl)
       exact tm
     | true =>
       have hr:Hid (dC x.nl=em x):=by show _=_;unfold em;first | (rw [a0,a1,a2];done) | (rw [a0,a1,a2];rfl)
       exact tm
theorem SU (x:SeD)(p1 p2 p3 p4 p5 p6 p7:OA)(n1 c1 n2 c2 n3 c3 n4 n5 c5 n6 c6 n7 c7 base:Nat)(w:World)(s1:SlD CeR 4 base w p1 n1 x.ed.cells)(s2:SlD (RwD (Fl am) 21) 1 base w p2 n2 x.ed.undos)(s3:SlD (RwD (Fl am) 21) 1 base w p3 n3 x.ed.redos)(s4:SlD (Fl bE) 5 base w p4 n4 x.rules)(s5:SlD (Fl cj) 2 base w p5 n5 x.waivers)(s6:SlD DvR 4 base w p6 n6 x.nl.devs)(s7:SlD (Fl cD) 2 base w p7 n7 x.nl.ports)(hf:lu x) :
 CE 17 #[.agg #[sl p1 n1 c1,sl p2 n2 c2,sl p3 n3 c3,sl p4 n4 n4,sl p5 n5 c5,x.nl.nets,sl p6 n6 c6,sl p7 n7 c7]] w (.bool (em x)):=by
 obtain⟨f1,f2,⟨f3,f4⟩,f5⟩:=hf;have hl4:=aa s4.length;have hl5:=aa s5.length;rw [hl4.out] at f2;rw [hl5.out] at f3;replace f1:=aa f1;replace f4:=aa f4;replace f5:=aa f5
 cases a0:kV x.ed with
 | false =>
   have hr:Hid (false=em x):=by show _=_;unfold em;first | (rw [a0];done) | (rw [a0];rfl)
   exact tn
 | true =>
   cases a1:dO x.rules with
   | false =>
     have hr:Hid (false=em x):=by show _=_;unfold em;first | (rw [a0,a1];done) | (rw [a0,a1];rfl)
     exact tn
   | true =>
     cases a2:fk x.waivers with
     | false =>
       have hr:Hid (false=em x):=by show _=_;unfold em;first | (rw [a0,a1,a2];done) | (rw [a0,a1,a2];rfl)
       exact tn
     | true =>
       have hr:Hid (dC x.nl=em x):=by show _=_;unfold em;first | (rw [a0,a1,a2];done) | (rw [a0,a1,a2];rfl)
       exact tn
theorem SV {l:List RuD}(h:dO l=true):l.length<=12:=by rw [dO,cm] at h;exact of_decide_eq_true h.1
theorem SW {l:List RuD}(h:dO l=true):∀ r∈l,au r=true:=by
 rw [dO,cm,aL79] at h;intro r hr;obtain⟨k,hk⟩:=pe hr;have hl:=(aL31.1 hk).1;have:=h.2 k (aL70.2 hl)
 cases hb:au r with
 | true=>rfl
 | false=>rw [wu hk hb] at this;cases this
theorem HX {cells:List CeD}{k:Int}{R:List RuD}(h:hcC cells k R=0):RpOk R.length (jP cells k R)/\(jP cells k R).length<=256:=by
 unfold hcC at h;unfold jP
 split at h
 . rename_i hf;rw [aw hf];by_cases h9:256<(eZ (fp cells k) R).length
   . rw [(uY h9).1] at h;cases h
   . rw [(uZ h9).2];exact⟨Rd _ _,oM⟩
 . rename_i hf;exact absurd h hf
theorem AwI.nil {w w':World}(E:Ext w w'):AwI w w' [] [] none 0 none 0:=⟨⟨[],[],⟨OwnX.nil _ _,rfl⟩,⟨OwnX.nil _ _,rfl⟩,λ b hx hy=>by simp [di,ao] at hx⟩,E⟩
def qA (x:SeD) (k:Int) (w:World) (e:Ending) (w':World):Prop:=∃ q1 c1 q2 c2,e=.returned (.tuple #[sl q1 (lT (em x) x.ed.cells k x.rules x.waivers).length c1,sl q2 (lU (em x) x.ed.cells k x.rules x.waivers).length c2,.int .i64 (oV (em x) x.ed.cells k x.rules)])/\AwI w w' (lT (em x) x.ed.cells k x.rules x.waivers) (lU (em x) x.ed.cells k x.rules x.waivers) q1 c1 q2 c2
theorem SX (x:SeD)(k:Int)(p1 p2 p3 p4 p5 p6 p7:OA)(n1 n2 c2 n3 c3 n4 n5 c5 n6 c6 n7 c7 base:Nat)(w:World)(s1:SlD CeR 4 base w p1 n1 x.ed.cells)(s2:SlD (RwD (Fl am) 21) 1 base w p2 n2 x.ed.undos)(s3:SlD (RwD (Fl am) 21) 1 base w p3 n3 x.ed.redos)(s4:SlD (Fl bE) 5 base w p4 n4 x.rules)(s5:SlD (Fl cj) 2 base w p5 n5 x.waivers)(s6:SlD DvR 4 base w p6 n6 x.nl.devs)(s7:SlD (Fl cD) 2 base w p7 n7 x.nl.ports)(hf:lu x)(hn1:n1<=1048576)(hn5:n5<=1048576)(hfc:∀ y∈x.ed.cells,dp y) :
 Calls prog 7 #[.agg #[sl p1 n1 n1,sl p2 n2 c2,sl p3 n3 c3,sl p4 n4 n4,sl p5 n5 c5,x.nl.nets,sl p6 n6 c6,sl p7 n7 c7],k] w (qA x k w):=by
 have hv:=λ V (hV:Ext w V)=>ST x p1 p2 p3 p4 p5 p6 p7 n1 n1 n2 c2 n3 c3 n4 n5 c5 n6 c6 n7 c7 base V (s1.ext aL6 hV) (s2.ext (az okEdit) hV) (s3.ext (az okEdit) hV) (s4.ext aT hV) (s5.ext okWaiver hV) (s6.ext aL25 hV) (s7.ext bw hV) hf
 have pA:=func7;have pB:=ntmps7;have pC:=@RY;have pD:=@RW;exact CC
theorem SY (x:SeD)(k:Int)(p1 p2 p3 p4 p5 p6 p7:OA)(n1 n2 c2 n3 c3 n4 n5 c5 n6 c6 n7 c7 base:Nat)(w:World)(s1:SlD CeR 4 base w p1 n1 x.ed.cells)(s2:SlD (RwD (Fl am) 21) 1 base w p2 n2 x.ed.undos)(s3:SlD (RwD (Fl am) 21) 1 base w p3 n3 x.ed.redos)(s4:SlD (Fl bE) 5 base w p4 n4 x.rules)(s5:SlD (Fl cj) 2 base w p5 n5 x.waivers)(s6:SlD DvR 4 base w p6 n6 x.nl.devs)(s7:SlD (Fl cD) 2 base w p7 n7 x.nl.ports)(hf:lu x)(hn1:n1<=1048576)(hn5:n5<=1048576)(hfc:∀ y∈x.ed.cells,dp y) :
 Calls prog 5 #[.agg #[sl p1 n1 n1,sl p2 n2 c2,sl p3 n3 c3,sl p4 n4 n4,sl p5 n5 c5,x.nl.nets,sl p6 n6 c6,sl p7 n7 c7],k] w (qA x k w):=by
 have hv:=λ V (hV:Ext w V)=>SU x p1 p2 p3 p4 p5 p6 p7 n1 n1 n2 c2 n3 c3 n4 n5 c5 n6 c6 n7 c7 base V (s1.ext aL6 hV) (s2.ext (az okEdit) hV) (s3.ext (az okEdit) hV) (s4.ext aT hV) (s5.ext okWaiver hV) (s6.ext aL25 hV) (s7.ext bw hV) hf
 have pA:=func5;have pB:=ntmps5;have pC:=@RZ;have pD:=@RX;exact CC
theorem HY {α:Type}{V M:List α}{j:Nat}{v:α}(hM:M[j]?=some v)(hl:V.length=M.length):(M.take j++V.drop j).set j v=M.take (j+1)++V.drop (j+1):=by have hj:j<M.length:=(aL31.1 hM).1;rw [ch hM,o0 oM,List.set_append_right _ _ (by rw [fI];omega),fI,qL oM,Nat.sub_self,aW,fc,List.singleton_append]
theorem HZ:∀ (l:List VX) (j:Nat) (x:VX) (k:Int),l[j]?=some x->(l.flatMap fV).set (j*2) k=(l.set j (k,x.2)).flatMap fV
 | [],j,x,k,h=>by simp at h
 | y :: l,0,x,k,h=>by simp at h;subst h;rfl
 | y :: l,j+1,x,k,h=>by rw [aN] at h;rw [aY,fX,fX,<-HZ l j x k h,show (j+1)*2=j*2+1+1 by omega];rfl
section
variable {X:Type} {en:X->List Value} {hx:X->Hd} {tr te:TypeId} {sr sz base n c:Nat} {w w':World} {q:Option Addr} {H:List X} {V:List (List Value)}
theorem OwnX.setTop (h:OwnX en hx tr te sr sz base w q n c H V){j:Nat}{x x':X}(hj:H[j]?=some x)(he:hx x'=hx x)(M:Mut w w' (ao q))(ht:w'.ownsRow base tr sr (sl q n c) n ((H.set j x').flatMap en)):OwnX en hx tr te sr sz base w' q n c (H.set j x') V:=by
 have old:∀ (k:Nat) (y:X),(H.set j x')[k]?=some y->∃ y0,H[k]?=some y0/\hx y=hx y0:=λ k y hy=>by
  by_cases hjk:j=k
  . subst hjk;rw [List.getElem?_set_self (aL31.1 hj).1] at hy
    cases hy
    exact⟨x,hj,he⟩
  . rw [List.getElem?_set_ne hjk] at hy;exact⟨y,hy,rfl⟩
 refine⟨by rw [List.length_set];exact h.len,h.lenV,ht,λ k y u hy hu=>?_,λ i k y y' hik hy hy' b hb=>?_,λ k y hy b hb=>?_⟩
 . obtain⟨y0,h0,e0⟩:=old k y hy;rw [e0];refine M.grownBy (λ g hg hh=>?_) (h.row k y0 u h0 hu);rw [oA,ew] at hg;exact h.under k y0 h0 g (mem_blkOf.2 hg) hh
 . obtain⟨y0,h0,e0⟩:=old i y hy;obtain⟨y1,h1,e1⟩:=old k y' hy';rw [e0] at hb;rw [e1];exact h.apart i k y0 y1 hik h0 h1 b hb
 . obtain⟨y0,h0,e0⟩:=old k y hy;rw [e0] at hb;exact h.under k y0 h0 b hb
end
def cU (H:List VX):Int:=(H.map λ h=>1+(h.2.2.1:Int)*4).sum
theorem H3 {H:List VX}{k:Nat}{x:VX}(h:H[k]?=some x):cU (H.take (k+1))=cU (H.take k)+(1+(x.2.2.1:Int)*4):=by rw [ch h,cU,cU,dT,qJ];simp
theorem yQ {H:List VX}(hb:∀ h∈H,h.2.2.1<=3200):0<=cU H/\cU H<=12801*(H.length:Int):=by
 induction H with
 | nil=>simp [cU]
 | cons h H ih =>
   have h1:=hb h (by simp);have h2:=ih (λ x hx=>hb x (by simp [hx]));have e:cU (h :: H)=1+(h.2.2.1:Int)*4+cU H:=by simp [cU]
   rw [e,eO];omega
theorem H4 {H:List VX}(hb:∀ h∈H,h.2.2.1<=3200){k n:Nat}(hl:H.length=n)(hn:n<=6400):0<=cU (H.take k)/\cU (H.take k)<=100000000:=by
 have:=yQ (H:=H.take k) (λ h hh=>hb h (oZ hh));have h2:(H.take k).length<=6400:=by rw [fI];omega
 omega
def iY (k:Int):List VX->List VX
 | []=>[]
 | h :: H=>(k,h.2) :: iY (k+(1+(h.2.2.1:Int)*4)) H
def jQ (k:Int):List VX->List (List Value)
 | []=>[]
 | h :: H=>gX (k+1) (h.2.2.1*4) :: jQ (k+(1+(h.2.2.1:Int)*4)) H
theorem oY:∀ (H:List VX) (k:Int),(iY k H).length=H.length
 | [],_=>rfl
 | h :: H,k=>by rw [iY,eO,oY H,eO]
theorem yR:∀ (H:List VX) (k:Int),(jQ k H).length=H.length
 | [],_=>rfl
 | h :: H,k=>by rw [jQ,eO,yR H,eO]
theorem H5 (h:VX)(H:List VX):cU (h :: H)=(1+(h.2.2.1:Int)*4)+cU H:=by simp [cU]
theorem sB:∀ (H:List VX) (k:Int) (j:Nat) (x:VX),H[j]?=some x->(iY k H)[j]?=some (k+cU (H.take j),x.2)
 | [],k,j,x,h=>by simp at h
 | h :: H,k,0,x,hx=>by simp at hx;subst hx;simp [iY,cU]
 | h :: H,k,j+1,x,hx=>by rw [aN] at hx;rw [iY,aN,sB H _ j x hx,List.take_succ_cons,H5,Int.add_assoc]
theorem yS:∀ (H:List VX) (k:Int) (j:Nat) (x:VX),H[j]?=some x->(jQ k H)[j]?=some (gX (k+cU (H.take j)+1) (x.2.2.1*4))
 | [],k,j,x,h=>by simp at h
 | h :: H,k,0,x,hx=>by simp at hx;subst hx;simp [jQ,cU]
 | h :: H,k,j+1,x,hx=>by
   rw [aN] at hx;rw [jQ,aN,yS H _ j x hx,List.take_succ_cons,H5]
   congr 2
   omega
theorem SZ (H:List VX):∀ k,di Prod.snd (iY k H)=di Prod.snd H:=by
 induction H with
 | nil=>intro k;rfl
 | cons h H ih =>
   intro k;have:=ih (k+(1+(h.2.2.1:Int)*4));unfold di at *
   rw [iY,fX,fX,this]
structure VmI (base:Nat) (w wr:World) (q:OA) (n c:Nat) (k:Int) (H:List VX) (V:List (List Value)) (j j':Nat):Prop where
 own:OwnX fV Prod.snd 79 139 2 4 base wr q n c ((iY k H).take j'++H.drop j') ((jQ k H).take j++V.drop j)
 mt:Mut w wr (ao q++di Prod.snd H)
theorem VmI.at {base n c j j':Nat}{w wr:World}{q:OA}{k:Int}{H:List VX}{V:List (List Value)}(h:VmI base w wr q n c k H V j j')(hl:H.length=n)(hV:V.length=n)(hjj:j'=j\/j'=j+1)(hj:j<n):∃ x,H[j]?=some x/\((iY k H).take j'++H.drop j')[j]?=some ((if j'=j then x.1 else k+cU (H.take j)),x.2):=by
 have hx:H[j]?=some H[j]:=bK oM;refine⟨H[j],hx,?_⟩;rcases hjj with rfl | rfl
 . rw [aw rfl,jT (by rw [fI,oY];omega),fI,oY,qL oM,Nat.sub_self,List.getElem?_drop,aq];exact hx
 . rw [ar oM,fm (by rw [fI,oY];omega),List.getElem?_take,aw oM];exact sB H k j _ hx
theorem VmI.top {base n c j:Nat}{w wr:World}{g:Nat}{k:Int}{H:List VX}{V:List (List Value)}(h:VmI base w wr (so g 0) n c k H V j j)(hl:H.length=n)(hV:V.length=n)(hj:j<n):VmI base w (wr.setCell (ad g (j*2)) (k+cU (H.take j):Int)) (so g 0) n c k H V j (j+1):=by obtain⟨x,hx,hx2⟩:=h.at hl hV (ay rfl) hj;rw [aw rfl] at hx2;have hs:=HY (sB H k j x hx) (show H.length=(iY k H).length by rw [oY]);have M:Mut wr (wr.setCell (ad g (j*2)) (k+cU (H.take j):Int)) (ao (so g 0)):=(fw wr _).setCell (p:=(ad g (j*2))) (by simp [ao]) _;have ht:=f7 h.own.top (j*2) (k+cU (H.take j):Int);rw [HZ _ j _ _ hx2] at ht;have ho:=h.own.setTop hx2 (x':=(k+cU (H.take j),x.2)) rfl M ht;refine⟨?_,h.mt.same (M.wide λ b hb=>aL49.2 (ay hb))⟩;rw [hs] at ho;exact ho
theorem VmI.row {base n c j:Nat}{w wr wx:World}{q:OA}{k:Int}{H:List VX}{V:List (List Value)}(h:VmI base w wr q n c k H V j (j+1))(hl:H.length=n)(hV:V.length=n)(hj:j<n){x:VX}(hx:H[j]?=some x)(M:Mut wr wx (ao x.2.1))(hr:wx.ownsRow base 139 4 (ci x.2) x.2.2.1 (gX (k+cU (H.take j)+1) (x.2.2.1*4))):VmI base w wx q n c k H V (j+1) (j+1):=by
 obtain⟨x',hx',hx2⟩:=h.at hl hV (aB rfl) hj;rw [hx] at hx'
 cases hx'
 have hs:=HY (yS H k j x hx) (show V.length=(jQ k H).length by rw [yR];omega);have ho:=h.own.setRow hx2 (show Mut wr wx (ao (Prod.snd ((if j+1=j then x.1 else k+cU (H.take j)),x.2)).1) from M) hr;rw [hs] at ho;exact⟨ho,h.mt.same (M.wide λ b hb=>aL49.2 (aB (mem_rowsX.2 ⟨j,x,hx,hb⟩)))⟩
theorem VmI.lows {base n c j j':Nat}{w wr:World}{q:OA}{k:Int}{H:List VX}{V:List (List Value)}(h:VmI base w wr q n c k H V j j')(hl:H.length=n)(hV:V.length=n)(hjj:j'=j\/j'=j+1)(hj:j<n){x:VX}(hx:H[j]?=some x):∃ v,wr.ownsRow base 139 4 (ci x.2) x.2.2.1 v:=by
 obtain⟨x',hx',hx2⟩:=h.at hl hV hjj hj;rw [hx] at hx'
 cases hx'
 have hv:((jQ k H).take j++V.drop j)[j]?=some (((jQ k H).take j++V.drop j)[j]'(by rw [h.own.lenV];exact hj)):=bK _;have hr:=h.own.row j ((if j'=j then x.1 else k+cU (H.take j)),x.2) _ hx2 hv;exact⟨_,hr⟩
theorem S0 (r:Int)(q1 q2:OA)(n c1 c2:Nat)(l:List Q4)(w:World)(h1:SlT aj 4 w q1 n l)(h2:SlT aj 4 w q2 n l)(hn:n<=1048576) :
 CE 27 #[.agg #[r,sl q1 n c1],.agg #[r,sl q2 n c2]] w (.bool true):=by
 have heq:=aa (λ V (hV:Ext w V)=>LA q1 q2 n c1 c2 l V (h1.ext hV) (h2.ext hV) hn);clear h1 h2;go_enter func27,ntmps27;go_upto_region 1 with (fail);generalize hW:World.alloc (World.alloc _ _) _=W0;obtain⟨E0,z0,b0,b1⟩:=bV hW;clear hW z0;replace b0:=aa (show Blk W0 w [r,sl q1 n c1] _ from b0);replace b1:=aa (show Blk W0 (w+1) [r,sl q2 n c2] _ from b1);have⟨g0,l0⟩:=b0.gl;have⟨g1,l1⟩:=b1.gl;go_wp2_with (first | (go_at_call 73;(with_reducible refine (heq.out _ E0).mono ?_);rintro e w1 ⟨rfl,E1⟩) | fail);go_ret;exact⟨rfl,E0.trans E1⟩
theorem qC (q1 q2:OA)(n c1 c2:Nat)(l:List aV)(w:World)(h1:SlV w q1 n l)(h2:SlV w q2 n l)(hn:n<=1048576)(hb:∀ x∈l,(ah x.2).length<=1048576) :
 CE 8 #[sl q1 n c1,sl q2 n c2] w (.bool true):=by
 have hl:=aa h1.length;have hb:=aa hb;go_enter func8,ntmps8;go_wp2_with (fail);go_loopw [5] (λ i wr=>∃ k:Nat,k<=n/\i=.int .i64 k/\Hid (Ext w wr)) (λ i _=>n - (intOf i).toNat)
 case atStart=>exact⟨0,oM,rfl,ab _⟩
 case round =>
  obtain⟨k,hk,rfl,hE⟩:=hrel;by_cases hlt:k<n
  . have hltI:(k:Int)<(n:Int):=oM;obtain⟨b1,o1,p1,m1,d1,x1,rfl,hb1,hx1,y1,z1,s1⟩:=(h1.ext hE.out).get hlt;obtain⟨b2,o2,p2,m2,d2,x2,rfl,hb2,hx2,y2,z2,s2⟩:=(h2.ext hE.out).get hlt;obtain rfl:x1=x2:=by have:=hx1.out;rw [hx2.out] at this;exact (cJ this).symm
    obtain rfl:m1=m2:=by rw [<-s1.length,<-s2.length]
    have hm:=hb.out x1 (ap hx1.out);rw [s1.length] at hm;have heq:=aa (λ V (hV:Ext wr V)=>S0 x1.1 p1 p2 m1 d1 d2 (ah x1.2) V (s1.ext hV) (s2.ext hV) hm);clear s1 s2;go_wp2_with (fail);refine aQ kR kR ?_;repeat (go_big_quiet_step ((go_at_call 27;exact bh (heq.out _ (Later.ok _)))))
    refine bW ?_;rintro w1 ⟨⟨_,E1⟩,rfl⟩;go_wp2_with (fail);go_roundw
    case rel=>exact⟨k+1,oM,gN,aa (hE.trans E1)⟩
    case measure=>exact mS
  . have hltI:¬ (k:Int)<(n:Int):=oM;exact nQ
theorem H7 (q:OA)(n c:Nat)(k:Int)(base:Nat)(H:List VX)(V:List (List Value))(w:World)(h:OwnX fV Prod.snd 79 139 2 4 base w q n c H V)(hn:n<=6400)(hb:∀ x∈H,x.2.2.1<=3200)(hk0:0<=k)(hk1:k<=1000000000) :
 Calls prog 11 #[sl q n c,k] w λ e w'=>e=.returned (k+cU H:Int)/\OwnX fV Prod.snd 79 139 2 4 base w' q n c (iY k H) (jQ k H)/\Mut w w' (ao q++di Prod.snd H):=by
 have hbb:=aa hb;have hlen:=aa h.len;have hlv:=aa h.lenV;clear hb;go_enter func11,ntmps11;go_wp2_with (fail);go_loopw [1,5] (λ t i wr=>∃ j:Nat,j<=n/\i=.int .i64 j/\t=.int .i64 (k+cU (H.take j))/\Hid (VmI base w wr q n c k H V j j)) (λ _ i _=>n - (intOf i).toNat)
 case atStart=>exact⟨0,oM,rfl,by simp [cU],⟨by simpa using h,fw _ _⟩⟩
 case round =>
  clear h;obtain⟨j,hj,rfl,rfl,ho⟩:=hrel;have hbd:=H4 (k:=j) hbb.out hlen.out hn;by_cases hlt:j<n
  . have hltI:(j:Int)<(n:Int):=oM;obtain⟨g,rfl⟩:=jy ho.own.top oM;obtain⟨x,hx,hx2⟩:=ho.at hlen.out hlv.out (ay rfl) hlt;rw [aw rfl] at hx2;have hfr:=ey ho.own.top;have hct:=aa ho.own.top.cellAt;have hlg:=(dE ho.own.top g (by simp [ao])).2;obtain⟨u0,e0⟩:=bO ho.own.top (j*2) oM;have hb3:=hbb.out x (ap hx);have hT:=aa (ho.top hlen.out hlv.out hlt);have hstep:=aa (H3 hx);have hxx:=aa hx;obtain⟨T,hTe⟩:∃ T,T=cU (H.take j):=⟨_,rfl⟩;rw [<-hTe] at hbd hstep hT;rw [<-hTe];have hTh:=aa hTe;clear hTe hct hx hx2;go_upto_region 6 with (fail);generalize World.setCell _ _ _=W1 at hT ⊢;clear e0 hfr hlg;have ho1:=hT.own;have hs:=bm yE ho1.len ho1.top;obtain⟨b9,off9,x',hb9,hbs,hx',z⟩:=hs.get hlt
    cases hb9
    obtain⟨x2,hx2,hx3⟩:=hT.at hlen.out hlv.out (aB rfl) hlt;obtain rfl:x2=x:=by rw [hxx.out] at hx2;exact (cJ hx2).symm
    obtain rfl:x'=((if j+1=j then x2.1 else k+cU (H.take j)),x2.2):=by have:=hx'.out;rw [hx3] at this;exact (cJ this).symm
    have z1:=z 1 _ rfl;obtain⟨vr,hvr⟩:=hT.lows hlen.out hlv.out (aB rfl) hlt hxx.out;obtain⟨r0,p1,m1,d1⟩:=x2;simp only [ci,aZ,aq,fQ] at z1 hvr hb3 hstep;have hmr:=aa (LB p1 m1 d1 (k+T+1) base _ _ W1 hvr oM oM oM);clear z hs hx' hx3 hx2 ho1 hvr;go_wp2_with (first | (go_at_call 36;(with_reducible refine hmr.out.mono ?_);rintro e w1 ⟨rfl,o1,M1⟩) | fail);have hT2:=aa (hT.row hlen.out hlv.out hlt hxx.out M1 (by rw [<-hTh.out];exact o1));clear o1 M1 hT;go_roundw
    case rel=>exact⟨j+1,oM,gN,by rw [hstep.out];go_num,hT2⟩
    case measure=>exact mS
  . have hltI:¬ (j:Int)<(n:Int):=oM;obtain rfl:j=n:=oM;have e1:Hid (H.take j=H):=aa (by rw [eE (by rw [hlen.out];exact ai _)]);have h9:=aa (show OwnX fV Prod.snd 79 139 2 4 base wr q j c (iY k H) (jQ k H) from by have:=ho.own;rwa [eE (by rw [oY,hlen.out];exact ai _),sD (by rw [hlen.out];exact ai _),eE (by rw [yR,hlen.out];exact ai _),sD (by rw [hlv.out];exact ai _),fP,fP] at this);have hM:=aa ho.mt;rw [e1.out];go_wp2_with (fail);go_ret;exact⟨rfl,h9.out,hM.out⟩
theorem H8 (q:OA)(n c:Nat)(k:Int)(base:Nat)(H:List VX)(w:World)(h:OwnX fV Prod.snd 79 139 2 4 base w q n c (iY k H) (jQ k H))(hn:n<=6400)(hb:∀ x∈H,x.2.2.1<=3200)(hk0:0<=k)(hk1:k<=1000000000) :
 CW 12 #[sl q n c,k] w (k+cU H:Int):=by
 have hbb:=aa hb;have hlen:=aa (show H.length=n from by have:=h.len;rwa [oY] at this);clear hb;go_enter func12,ntmps12;go_wp2_with (fail);go_loopw [1,5] (λ t i wr=>∃ j:Nat,j<=n/\i=.int .i64 j/\t=.int .i64 (k+cU (H.take j))/\w=wr) (λ _ i _=>n - (intOf i).toNat)
 case atStart=>exact⟨0,oM,rfl,by simp [cU],rfl⟩
 case round =>
  obtain⟨j,hj,rfl,rfl,rfl⟩:=hrel;have hbd:=H4 (k:=j) hbb.out hlen.out hn;by_cases hlt:j<n
  . have hltI:(j:Int)<(n:Int):=oM;obtain⟨g,rfl⟩:=jy h.top oM;have hx:H[j]?=some (H[j]'(by rw [hlen.out];exact hlt)):=bK _;obtain⟨x,hxe⟩:∃ x,H[j]'(by rw [hlen.out];exact hlt)=x:=⟨_,rfl⟩;rw [hxe] at hx;have hlg:=(dE h.top g (by simp [ao])).2;have hs:=bm (l:=iY k H) yE h.len h.top;obtain⟨b,off,x',hb9,hbs,hx',z⟩:=hs.get hlt
    cases hb9
    obtain rfl:x'=(k+cU (H.take j),x.2):=by have:=hx'.out;rw [sB H k j x hx] at this;exact (cJ this).symm
    have z0:=z 0 _ rfl;have z1:=z 1 _ rfl;have hr:=h.row j _ _ (sB H k j x hx) (yS H k j x hx);have hb3:=hbb.out x (ap hx);obtain⟨r0,p1,m1,d1⟩:=x;simp only [ci,aZ,aq,fQ] at z0 z1 hr hb3;have hstep:=aa (H3 hx);obtain⟨T,hT⟩:∃ T,T=cU (H.take j):=⟨_,rfl⟩;rw [<-hT] at hbd hstep hr z0;rw [<-hT];replace hT:=aa hT;have hr:=aa hr;have hneg:¬ (k+T+1+(m1:Int)*4<0):=oM;clear hx z hs hx' hxe;go_wp2_with (first | (go_at_call 37;refine (LC p1 m1 d1 (k+T+1) base _ _ hr.out oM oM oM).mono ?_;rintro e w1 ⟨rfl,rfl⟩) | fail);go_roundw
    case rel=>exact⟨j+1,oM,gN,by rw [hstep.out];go_num,by first | rfl | trivial⟩
    case measure=>exact mS
  . have hltI:¬ (j:Int)<(n:Int):=oM;obtain rfl:j=n:=oM;have e1:Hid (H.take j=H):=aa (by rw [eE (by rw [hlen.out];exact ai _)]);rw [e1.out];go_wp2_with (fail);exact kA
def jt:Value->Bool
 | .slice _ _ _=>false
 | _=>true
def SameC (cs cs':Array Value):Prop:=cs'.size=cs.size/\∀ (i:Nat) (v:Value),cs[i]?=some v->(jt v=true->∃ v',cs'[i]?=some v'/\jt v'=true)/\(jt v=false->cs'[i]?=some v)
theorem SameC.refl (cs:Array Value):SameC cs cs:=⟨rfl,λ i v h=>⟨λ hv=>⟨v,h,hv⟩,λ _=>h⟩⟩
theorem SameC.trans {a b c:Array Value}(h:SameC a b)(k:SameC b c):SameC a c:=by
 refine⟨k.1.trans h.1,λ i v hv=>⟨λ hn=>?_,λ hn=>?_⟩⟩
 . obtain⟨v',e,n⟩:=(h.2 i v hv).1 hn;exact (k.2 i v' e).1 n
 . exact (k.2 i v ((h.2 i v hv).2 hn)).2 hn
structure MutF (lo hi:Nat) (w w':World):Prop where
 mt:∃ S:List Nat,Mut w w' S/\∀ k∈S,lo<=k/\k<hi
 plain:∀ (k:Nat) (cs:Array Value) (t:TypeId),w.heap[k]?=some (.cells cs t (0,0))->∃ cs':Array Value,w'.heap[k]?=some (.cells cs' t (0,0))/\SameC cs cs'
theorem S3 {w:World}{k:Nat}{o:Obj}(h:w.heap[k]?=some o):k<w.heap.size:=by
 rcases kX k w.heap.size with h' | h'
 . exact h'
 . rw [qE h'] at h;cases h
theorem MutF.refl (lo hi:Nat)(w:World):MutF lo hi w w:=⟨⟨[],fw _ _,by simp⟩,λ k cs t h=>⟨cs,h,SameC.refl _⟩⟩
abbrev ma:=@MutF.refl
theorem MutF.trans {lo hi:Nat}{a b c:World}(h:MutF lo hi a b)(k:MutF lo hi b c):MutF lo hi a c:=by obtain⟨⟨S,m1,s1⟩,p1⟩:=h;obtain⟨⟨T,m2,s2⟩,p2⟩:=k;refine⟨⟨S++T,m1.trans m2,λ x hx=>(aL49.1 hx).elim (s1 x) (s2 x)⟩,λ i cs t h=>?_⟩;obtain⟨c1,e1,z1⟩:=p1 i cs t h;obtain⟨c2,e2,z2⟩:=p2 i c1 t e1;exact⟨c2,e2,z1.trans z2⟩
theorem MutF.le {lo hi:Nat}{a b:World}(h:MutF lo hi a b):a.heap.size<=b.heap.size:=let ⟨_,m,_⟩:=h.mt;m.size
theorem MutF.of_ext {lo hi:Nat}{a b:World}(h:Ext a b):MutF lo hi a b:=⟨⟨[],h.mut [],by simp⟩,λ k cs t hk=>⟨cs,(h.block k (S3 hk)).trans hk,SameC.refl _⟩⟩
abbrev kW:=@MutF.of_ext
theorem S4 (w:World)(b j:Nat)(v:Value)(hv:jt v=true)(ho:∀ v0,w.cell? (ad b j)=some v0->jt v0=true){k:Nat}{cs:Array Value}{t:TypeId}(h:w.heap[k]?=some (.cells cs t (0,0))):∃ cs':Array Value,(w.setCell (ad b j) v).heap[k]?=some (.cells cs' t (0,0))/\SameC cs cs':=by
 by_cases e:k=b
 . subst e;have hb:Blk w k cs.toList t:=by rw [Blk];simpa using h
   have h2:=hb.set j v;refine⟨(cs.toList.set j v).toArray,h2,by simp,λ i u hi=>?_⟩;by_cases hij:j=i
   . subst hij;have hlt:=(aL139.1 hi).1;have hc:w.cell? (ad k j)=some u:=by rw [hb.cells];simpa using hi
     have hu:=ho u hc;refine⟨λ _=>⟨v,by simp [ph,hlt],hv⟩,λ hn=>by rw [hu] at hn;cases hn⟩
   . have e2:(cs.toList.set j v).toArray[i]?=some u:=by simp [ph,hij];exact hi
     exact⟨λ hn=>⟨u,e2,hn⟩,λ _=>e2⟩
 . exact⟨cs,by rw [jR _ _ _ _ e];exact h,SameC.refl _⟩
theorem MutF.setCell {lo hi:Nat}{a w:World}(h:MutF lo hi a w){b j:Nat}{v0 v:Value}(h1:lo<=b)(h2:b<hi)(hc:w.cell? (ad b j)=some v0)(h0:jt v0=true)(hv:jt v=true):MutF lo hi a (w.setCell (ad b j) v):=by refine h.trans ⟨⟨[b],(fw w [b]).setCell (p:=(ad b j)) (by simp) v,λ k hk=>by simp at hk;subst hk;exact⟨h1,h2⟩⟩,λ k cs t hk=>?_⟩;exact S4 w b j v hv (λ u hu=>by rw [hc] at hu;cases hu;exact h0) hk
theorem MutF.block {lo hi:Nat}{w w':World}(h:MutF lo hi w w'){k:Nat}(hk:k<w.heap.size)(ho:k<lo\/hi<=k):w'.heap[k]?=w.heap[k]?:=by
 obtain⟨⟨S,m,s⟩,_⟩:=h;refine m.block k hk λ hh=>?_
 have:=s k hh;omega
theorem MutF.ext {lo hi:Nat}{w0 w w':World}(h:MutF lo hi w w')(E:Ext w0 w)(hl:w0.heap.size<=lo):Ext w0 w':=by obtain⟨⟨S,m,s⟩,_⟩:=h;exact E.then m λ b hb=>aS hl (s b hb).1
theorem MutF.blk {lo hi B:Nat}{w w':World}{cs:List Value}{t:TypeId}(h:MutF lo hi w w')(hB:Blk w B cs t)(ho:B<lo\/hi<=B):Blk w' B cs t:=(h.block hB.lt ho).trans hB
def Wf (lo hi sz:Nat) (w:World) (p:OA) (n:Nat):Prop:=n=0\/∃ (b off:Nat) (cs:Array Value) (t:TypeId),p=so b off/\lo<=b/\b<hi/\w.heap[b]?=some (.cells cs t (0,0))/\off+n*sz<=cs.size/\∀ i,i<n*sz->∀ v,cs[off+i]?=some v->jt v=true
theorem Wf.low {lo lo' hi sz n:Nat}{w:World}{p:OA}(h:Wf lo hi sz w p n)(hl:lo'<=lo):Wf lo' hi sz w p n:=h.elim ay λ⟨b,off,cs,t,h1,h2,h3⟩=>aB ⟨b,off,cs,t,h1,aS hl h2,h3⟩
theorem Wf.mutF {lo hi lo' hi' sz n:Nat}{w w':World}{p:OA}(h:Wf lo hi sz w p n)(m:MutF lo' hi' w w'):Wf lo hi sz w' p n:=by
 rcases h with h | ⟨b,off,cs,t,h1,h2,h3,h4,h5,h6⟩
 . exact ay h
 . obtain⟨cs',e,z,s⟩:=m.plain b cs t h4;refine aB ⟨b,off,cs',t,h1,h2,h3,e,oM,λ i hi v hv=>?_⟩;have hlt:=(aL139.1 hv).1;have h0:cs[off+i]?=some (cs[off+i]'oM):=sG _;obtain⟨v',e',n'⟩:=(s _ _ h0).1 (h6 i hi _ h0);rw [hv] at e'
   cases e'
   exact n'
theorem yT {k n sz j:Nat}(hk:k<n)(hj:j<sz):k*sz+j<n*sz:=by have:=sH sz (show k+1<=n by omega);rw [me] at this;omega
theorem Wf.at {lo hi sz n:Nat}{w:World}{p:OA}(h:Wf lo hi sz w p n){k:Nat}(hk:k<n):∃ b off,p=so b off/\lo<=b/\b<hi/\b<w.heap.size/\(∀ j,w.frozen? (ad b j)=false)/\∀ j,j<sz->∃ v,w.cell? (ad b (off+k*sz+j))=some v/\jt v=true:=by
 rcases h with h | ⟨b,off,cs,t,h1,h2,h3,h4,h5,h6⟩
 . omega
 . have hb:Blk w b cs.toList t:=by rw [Blk];simpa using h4
   refine⟨b,off,h1,h2,h3,hb.lt,hb.free,λ j hj=>?_⟩;have hr:=yT hk hj;have h0:cs[off+(k*sz+j)]?=some (cs[off+(k*sz+j)]'oM):=sG _;refine⟨_,?_,h6 _ hr _ h0⟩;rw [hb.cells,show off+k*sz+j=off+(k*sz+j) by omega];simp
def Wn (lo hi sz:Nat) (J:List (Nat×Nat)) (K:Nat) (w:World) (p:OA) (n:Nat):Prop:=n=0\/∃ (b off:Nat) (cs:Array Value) (t:TypeId),p=so b off/\lo<=b/\b<hi/\w.heap[b]?=some (.cells cs t (0,0))/\off+n*sz<=cs.size/\(∀ k,k<n->∀ js∈J,∃ q m c,cs[off+k*sz+js.1]?=ss q m c/\m<=K/\Wf lo hi js.2 w q m)/\∀ k,k<n->∀ i,i<sz->(∀ js∈J,js.1≠i)->∀ v,cs[off+k*sz+i]?=some v->jt v=true
theorem Wn.mutF {lo hi lo' hi' sz K n:Nat}{J:List (Nat×Nat)}{w w':World}{p:OA}(h:Wn lo hi sz J K w p n)(m:MutF lo' hi' w w'):Wn lo hi sz J K w' p n:=by
 rcases h with h | ⟨b,off,cs,t,h1,h2,h3,h4,h5,h6,h7⟩
 . exact ay h
 . obtain⟨cs',e,z,s⟩:=m.plain b cs t h4;refine aB ⟨b,off,cs',t,h1,h2,h3,e,oM,λ k hk js hj=>?_,λ k hk i hi hJ v hv=>?_⟩
   . obtain⟨q,l,c,e1,e2,e3⟩:=h6 k hk js hj;exact⟨q,l,c,(s _ _ e1).2 rfl,e2,e3.mutF m⟩
   . have hr:=yT hk hi;have h0:cs[off+k*sz+i]?=some (cs[off+k*sz+i]'oM):=sG _;obtain⟨v',e',n'⟩:=(s _ _ h0).1 (h7 k hk i hi hJ _ h0);rw [hv] at e'
     cases e'
     exact n'
theorem Wn.at {lo hi sz K n:Nat}{J:List (Nat×Nat)}{w:World}{p:OA}(h:Wn lo hi sz J K w p n){k:Nat}(hk:k<n):∃ b off,p=so b off/\lo<=b/\b<hi/\b<w.heap.size/\(∀ j,w.frozen? (ad b j)=false)/\(∀ j,j<sz->(∀ js∈J,js.1≠j)->∃ v,w.cell? (ad b (off+k*sz+j))=some v/\jt v=true)/\∀ j z,(j,z)∈J->∃ q m c,w.cell? (ad b (off+k*sz+j))=ss q m c/\m<=K/\Wf lo hi z w q m:=by
 rcases h with h | ⟨b,off,cs,t,h1,h2,h3,h4,h5,h6,h7⟩
 . omega
 . have hb:Blk w b cs.toList t:=by rw [Blk];simpa using h4
   refine⟨b,off,h1,h2,h3,hb.lt,hb.free,λ j hj hJ=>?_,λ j z hj=>?_⟩
   . have hr:=yT hk hj;have h0:cs[off+k*sz+j]?=some (cs[off+k*sz+j]'oM):=sG _;exact⟨_,by rw [hb.cells];simp,h7 k hk j hj hJ _ h0⟩
   . obtain⟨q,m,c,e1,e2,e3⟩:=h6 k hk _ hj;exact⟨q,m,c,by rw [hb.cells];simpa using e1,e2,e3⟩
section
variable {α:Type} {R:fS α} {sz base n:Nat} {w:World} {p:Option Addr} {l:List α}
theorem SlO.size {b off:Nat}(hR:Rok R sz)(hpos:0<sz)(h:SlO R sz w b off l)(hl:l.length=n)(hn:0<n):∃ (cs:Array Value) (t:TypeId),w.heap[b]?=some (.cells cs t (0,0))/\off+n*sz<=cs.size:=by
 obtain⟨⟨cs,t,h0⟩,hc⟩:=h;refine⟨cs,t,h0,?_⟩;have hk:n - 1<l.length:=oM;obtain⟨ds,h1,h2⟩:=hc (n - 1) l[n - 1] (bK hk);have hd:=hR.len h1;have h3:=h2 (sz - 1) _ (bK oM);have hb:Blk w b cs.toList t:=by rw [Blk];simpa using h0
 rw [hb.cells] at h3;have h4:=(aL31.1 h3).1;have e:n*sz=(n - 1)*sz+sz:=by obtain⟨m,rfl⟩:∃ m,n=m+1:=⟨n - 1,oM⟩;rw [me,Nat.add_sub_cancel]
 simp at h4;omega
theorem SlO.val {b off k j:Nat}{cs:Array Value}{t:TypeId}(hR:Rok R sz)(h:SlO R sz w b off l)(h0:w.heap[b]?=some (.cells cs t (0,0)))(hk:k<l.length){ds:List Value}(hds:∀ j v,ds[j]?=some v->w.cell? (ad b (off+k*sz+j))=some v)(hl:ds.length=sz)(hj:j<sz){v:Value}(hv:cs[off+k*sz+j]?=some v):ds[j]?=some v:=by
 have hb:Blk w b cs.toList t:=by rw [Blk];simpa using h0
 have h1:ds[j]?=some (ds[j]'oM):=bK _;have h2:=hds _ _ h1;rw [hb.cells] at h2;simp only [Array.getElem?_toList] at h2;rw [hv] at h2;rw [h1,h2]
def mb (R:fS α):Prop:=∀ (b:Nat) (w:World) (x:α) (cs:List Value),R b w x cs->∀ v∈cs,jt v=true
theorem SlD.wf (hR:Rok R sz)(hpos:0<sz)(hN:mb R)(h:SlD R sz base w p n l)(h0:0<base):Wf base w sz w p n:=by
 rcases h.2 with hn | ⟨b,off,hp,hb,hs,_,ho⟩
 . exact ay hn
 . by_cases hn:n=0
   . exact ay hn
   . have ho':=ho h0;obtain⟨cs,t,e1,e2⟩:=ho'.size hR hpos h.1 oM;refine aB ⟨b,off,cs,t,hp,hb,hs,e1,e2,λ i hi v hv=>?_⟩;have hk:i / sz<l.length:=by rw [h.1];exact (Nat.div_lt_iff_lt_mul hpos).2 hi
     have hj:i % sz<sz:=Nat.mod_lt _ hpos;obtain⟨ds,g1,g2⟩:=ho'.2 (i / sz) _ (bK hk);have hm:i / sz*sz+i % sz=i:=by rw [Nat.mul_comm];exact Nat.div_add_mod i sz
     have hv2:=ho'.val (k:=i / sz) (j:=i % sz) hR e1 hk g2 (hR.len g1) hj (v:=v) (by rw [show off+i / sz*sz+i % sz=off+i by omega];exact hv);exact hN _ _ _ _ g1 v (ap hv2)
def vl (R:fS α) (J:List (Nat×Nat)) (good:α->Prop) (K:Nat):Prop:=∀ (b:Nat) (w:World) (x:α) (cs:List Value),0<b->R b w x cs->good x->(∀ js∈J,∃ q m c,cs[js.1]?=ss q m c/\m<=K/\Wf b w js.2 w q m)/\∀ i v,cs[i]?=some v->(∀ js∈J,js.1≠i)->jt v=true
theorem SlD.wn {J:List (Nat×Nat)}{good:α->Prop}{K:Nat}(hR:Rok R sz)(hpos:0<sz)(hJs:∀ js∈J,js.1<sz)(hJ:vl R J good K)(h:SlD R sz base w p n l)(h0:0<base)(hg:∀ x∈l,good x):Wn base w sz J K w p n:=by
 rcases h.2 with hn | ⟨b,off,hp,hb,hs,_,ho⟩
 . exact ay hn
 . by_cases hn:n=0
   . exact ay hn
   . have ho':=ho h0;obtain⟨cs,t,e1,e2⟩:=ho'.size hR hpos h.1 oM;have hB:Blk w b cs.toList t:=by rw [Blk];simpa using e1
     refine aB ⟨b,off,cs,t,hp,hb,hs,e1,e2,λ k hk js hj=>?_,λ k hk i hi hJ2 v hv=>?_⟩
     . have hkl:k<l.length:=by rw [h.1];exact hk
       obtain⟨ds,g1,g2⟩:=ho'.2 k _ (bK hkl);obtain⟨q,m,c,f1,f2,f3⟩:=(hJ (b+1) w _ ds oM g1 (hg _ (qF _))).1 js hj;refine⟨q,m,c,?_,f2,f3.low oM⟩;have:=g2 _ _ f1;rw [hB.cells] at this;simpa using this
     . have hkl:k<l.length:=by rw [h.1];exact hk
       obtain⟨ds,g1,g2⟩:=ho'.2 k _ (bK hkl);have hv2:=ho'.val hR e1 hkl g2 (hR.len g1) hi hv;exact (hJ (b+1) w _ ds oM g1 (hg _ (qF _))).2 i v hv2 hJ2
end
end Go.Proofs.YtnlajnpcdnnpmaaGreat

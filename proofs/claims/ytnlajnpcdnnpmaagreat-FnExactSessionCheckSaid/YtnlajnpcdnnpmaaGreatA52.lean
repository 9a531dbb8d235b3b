/- Part of a proof. No condition. -/
import Derived.Test.YtnlajnpcdnnpmaaGreatA7
namespace Go.Proofs.YtnlajnpcdnnpmaaGreat
set_option linter.all false
set_option maxRecDepth 100000
set_option maxHeartbeats 16000000
open Go.Proofs.Tryz Go.RowKit Go.ChangeShapes Go.WideShapes Go.ChangeAt
section
variable {H:Type} {enc:TypeId×Value->H} {P:Program} {w:World} {spare:Nat->Bool} {held:Bool}
def iZ {α:Type} (H:Type) (enc:TypeId×Value->H) (P:Program) (w:World) (spare:Nat->Bool) (held:Bool) (e:TypeId) (R:fS α) (good:α->Prop):Prop :=
 ∀ n cs x,DataW.trod enc P w 0 spare held n e cs=some x->∃ y:α,R 0 w y cs/\good y
theorem kw {α:Type}[Inhabited α]{R:fS α}{good:α->Prop}{sz:Nat}(hR:Rok R sz)(hpos:0<sz){t e:TypeId}(ht:P.underlying t=some (.slice e))(hC:P.cellsOf e=sz)(hd:iZ H enc P w spare held e R good)
 {fuel:Nat} {cs:List Value} {x:DataW H×List MemPlace} (h:DataW.trod enc P w 0 spare held fuel t cs=some x) :
 ∃ (p:OA) (n c:Nat) (l:List α),cs=[.slice p n c]/\SlD R sz 0 w p n l/\(∀ y∈l,good y)/\n<=9223372036854775807:=by
 rcases Deep.open_slice ht h with ⟨hcs,_⟩ | ⟨a,len,cap,m,k,D,Pl,hcs,_,hlc,hcm,hm,_,hx⟩
 . exact⟨none,0,0,[],hcs,SlD.zero _ _ _,by simp,Nat.zero_le _⟩
 . have hnm:len<=m:=by rw [hm];split <;> omega
   obtain⟨f,hf⟩:=Deep.choose_lt (α:=α) (n:=len) (p:=λ i y=>(∃ cs',w.cells? 0 (a.add (i*P.cellsOf e)) (P.cellsOf e)=some cs'/\R 0 w y cs')/\good y) (λ i hi=>by obtain⟨cs',g1,g2⟩:=hx i oM;obtain⟨y,h1,h2⟩:=hd _ _ _ g2;exact⟨y,⟨cs',g1,h1⟩,h2⟩);refine⟨some a,len,cap,(List.range len).map f,hcs,⟨by simp,?_⟩,?_,by unfold maxLen at hcm;omega⟩
   . by_cases h0:len=0
     . exact ay h0
     . obtain⟨b,off,spot⟩:=a;have hspot:spot=none/\b<w.heap.size:=by obtain⟨⟨cs',g1,g2⟩,_⟩:=hf 0 oM;have g0:=(World.cells?_some g1).2.2 0 (by rw [hC];exact hpos);rw [bK (by rw [hR.len g2];exact hpos)] at g0;exact⟨by simpa [Addr.add] using World.cell?_spot g0,by simpa [Addr.add] using IY g0⟩
       obtain⟨rfl,hb⟩:=hspot;refine aB ⟨b,off,rfl,Nat.zero_le _,hb,?_,λ h9=>absurd h9 (Nat.lt_irrefl _)⟩;intro i x hx'
       have hi:i<len:=by
        rcases kX i len with h' | h'
        . exact h'
        . rw [kZ (by simpa using h')] at hx';cases hx'
       rw [cK,nK hi] at hx';simp at hx';subst hx';obtain⟨⟨cs',g1,g2⟩,_⟩:=hf i hi;refine⟨cs',g2,λ j v hv=>?_⟩;have hj:j<sz:=by rw [<-hR.len g2];exact (aL31.1 hv).1
       have g0:=(World.cells?_some g1).2.2 j oM;rw [hv,hC,Addr.add_lit,Addr.add_lit] at g0;exact g0
   . intro y hy;rw [aL52] at hy;obtain⟨i,hi,rfl⟩:=hy;exact (hf i (by simpa using hi)).2
theorem TE {t:TypeId}{fs:Array Field}{n:Nat}{cs:List Value}{x:DataW H×List MemPlace}(ht:P.underlying t=some (.struct fs))(h:DataW.trod enc P w 0 spare held n t cs=some x)(i:Nat)(f:Field)(hf:fs[i]?=some f) :
 ∃ m y,DataW.trod enc P w 0 spare held m f.type ((cs.drop f.offset).take (P.cellsOf f.type))=some y:=by
 obtain⟨xs,m,_,_,_,hl,hx⟩:=DataW.trod_struct ht h;have h1:=hx i f hf;have hi:i<xs.length:=by rw [hl];exact (aL139.1 hf).1
 rw [bK hi] at h1;exact⟨m,_,h1⟩
theorem kx {t:TypeId}{fs:Array Field}{n:Nat}{cs:List Value}{x:DataW H×List MemPlace}(ht:P.underlying t=some (.struct fs))(h:DataW.trod enc P w 0 spare held n t cs=some x):cs.length=P.cellsOf t:=by obtain⟨xs,m,_,_,hl,_,_⟩:=DataW.trod_struct ht h;exact hl
theorem bs {t:TypeId}{fs:Array Field}{n:Nat}{cs:List Value}{x:DataW H×List MemPlace}(ht:P.underlying t=some (.struct fs))(h:DataW.trod enc P w 0 spare held n t cs=some x)(i:Nat)(f:Field)(hf:fs[i]?=some f)(off k:Nat)(ty:TypeId)
 (ho:f.offset=off) (hty:f.type=ty) (hk:P.cellsOf ty=k) (cs':List Value) (hcs:(cs.drop off).take k=cs'):∃ m y,DataW.trod enc P w 0 spare held m ty cs'=some y:=by
 obtain⟨m,y,hy⟩:=TE ht h i f hf;rw [ho,hty,hk,hcs] at hy;exact⟨m,y,hy⟩
end
section
variable {H:Type} {enc:TypeId×Value->H} {w:World} {spare:Nat->Bool} {held:Bool}
instance inhShD:Inhabited ShD:=⟨⟨0,default⟩⟩
instance inhLbD:Inhabited LbD:=⟨⟨0,default,⟨#[]⟩⟩⟩
instance inhInD:Inhabited InD:=⟨⟨0,default,0,0,0,0⟩⟩
instance inhRuD:Inhabited RuD:=⟨⟨0,0,0,0,0⟩⟩
instance inhWvD:Inhabited WvD:=⟨⟨0,⟨#[]⟩⟩⟩
instance inhPoD:Inhabited PoD:=⟨⟨⟨#[]⟩,0⟩⟩
instance inhEdD:Inhabited EdD:=⟨⟨0,0,0,⟨#[]⟩,default,default,default⟩⟩
instance inhDvD:Inhabited DvD:=⟨⟨0,[],0,0⟩⟩
instance inhCeD:Inhabited CeD:=⟨⟨⟨#[]⟩,[],[],[]⟩⟩
theorem eb {t:TypeId}{P:Program}(ht:P.underlying t=some (.int .i64)){n:Nat}{v:Value}{x:DataW H×List MemPlace}(h:DataW.trod enc P w 0 spare held n t [v]=some x):∃ i:Int,v=.int .i64 i:=by obtain⟨a,e,_,_⟩:=DataW.trod_int ht h;simp at e;exact⟨a,e⟩
theorem sC {t:TypeId}{P:Program}(ht:P.underlying t=some .string){n:Nat}{v:Value}{x:DataW H×List MemPlace}(h:DataW.trod enc P w 0 spare held n t [v]=some x):∃ s:ByteArray,v=.string s/\s.size<=9223372036854775807:=by obtain⟨a,e,_,hs⟩:=DataW.trod_string ht h;simp at e;exact⟨a,e,by unfold maxLen at hs;omega⟩
theorem TF {t:TypeId}{P:Program}(ht:P.underlying t=some (.int .i64)):iZ H enc P w spare held t (Fl bi) (λ _=>True):=by intro n cs x h;obtain⟨a,rfl,_,_⟩:=DataW.trod_int ht h;exact⟨a,rfl,trivial⟩
theorem TG {l:List Value}(h:l.length=4):∃ v0 v1 v2 v3,l=[v0,v1,v2,v3]:=match l,h with | [v0,v1,v2,v3],_=>⟨v0,v1,v2,v3,rfl⟩
theorem TH:iZ H enc prog w spare held 212 (Fl aj) (λ _=>True):=by intro n cs x h;obtain⟨v0,v1,v2,v3,rfl⟩:=TG ((kx underlying212 h).trans (show prog.cellsOf 212=4 by kernel_rfl));obtain⟨_,_,h0⟩:=bs underlying212 h 0 _ rfl 0 1 2 rfl rfl kR [v0] rfl;obtain⟨x0,rfl⟩:=eb underlying2 h0;obtain⟨_,_,h1⟩:=bs underlying212 h 1 _ rfl 1 1 2 rfl rfl kR [v1] rfl;obtain⟨x1,rfl⟩:=eb underlying2 h1;obtain⟨_,_,h2⟩:=bs underlying212 h 2 _ rfl 2 1 2 rfl rfl kR [v2] rfl;obtain⟨x2,rfl⟩:=eb underlying2 h2;obtain⟨_,_,h3⟩:=bs underlying212 h 3 _ rfl 3 1 2 rfl rfl kR [v3] rfl;obtain⟨x3,rfl⟩:=eb underlying2 h3;exact⟨⟨x0,x1,x2,x3⟩,rfl,trivial⟩
theorem TI {l:List Value}(h:l.length=2):∃ v0 v1,l=[v0,v1]:=match l,h with | [v0,v1],_=>⟨v0,v1,rfl⟩
theorem TJ:iZ H enc prog w spare held 216 (Fl jb) (λ _=>True):=by intro n cs x h;obtain⟨v0,v1,rfl⟩:=TI ((kx underlying216 h).trans (show prog.cellsOf 216=2 by kernel_rfl));obtain⟨_,_,h0⟩:=bs underlying216 h 0 _ rfl 0 1 2 rfl rfl kR [v0] rfl;obtain⟨x0,rfl⟩:=eb underlying2 h0;obtain⟨_,_,h1⟩:=bs underlying216 h 1 _ rfl 1 1 2 rfl rfl kR [v1] rfl;obtain⟨x1,rfl⟩:=eb underlying2 h1;exact⟨⟨x0,x1⟩,rfl,trivial⟩
theorem TK {l:List Value}(h:l.length=3):∃ v0 v1 v2,l=[v0,v1,v2]:=match l,h with | [v0,v1,v2],_=>⟨v0,v1,v2,rfl⟩
theorem TL:iZ H enc prog w spare held 220 (Fl IM) (λ _=>True):=by intro n cs x h;obtain⟨v0,v1,v2,rfl⟩:=TK ((kx underlying220 h).trans (show prog.cellsOf 220=3 by kernel_rfl));obtain⟨_,_,h0⟩:=bs underlying220 h 0 _ rfl 0 1 2 rfl rfl kR [v0] rfl;obtain⟨x0,rfl⟩:=eb underlying2 h0;obtain⟨_,_,h1⟩:=bs underlying220 h 1 _ rfl 1 1 2 rfl rfl kR [v1] rfl;obtain⟨x1,rfl⟩:=eb underlying2 h1;obtain⟨_,_,h2⟩:=bs underlying220 h 2 _ rfl 2 1 2 rfl rfl kR [v2] rfl;obtain⟨x2,rfl⟩:=eb underlying2 h2;exact⟨⟨x0,x1,x2⟩,rfl,trivial⟩
theorem TM {l:List Value}(h:l.length=5):∃ v0 v1 v2 v3 v4,l=[v0,v1,v2,v3,v4]:=match l,h with | [v0,v1,v2,v3,v4],_=>⟨v0,v1,v2,v3,v4,rfl⟩
theorem Ic:iZ H enc prog w spare held 214 (Fl bg) (λ _=>True):=by
 intro n cs x h;obtain⟨v0,v1,v2,v3,v4,rfl⟩:=TM ((kx underlying214 h).trans (show prog.cellsOf 214=5 by kernel_rfl));obtain⟨_,_,h0⟩:=bs underlying214 h 0 _ rfl 0 1 2 rfl rfl kR [v0] rfl;obtain⟨x0,rfl⟩:=eb underlying2 h0;obtain⟨_,_,h1⟩:=bs underlying214 h 1 _ rfl 1 4 212 rfl rfl kR [v1,v2,v3,v4] rfl;obtain⟨x1,e1,g1⟩:=TH _ _ _ h1;change [v1,v2,v3,v4]=[.int .i64 x1.a,.int .i64 x1.b,.int .i64 x1.c,.int .i64 x1.d] at e1
 cases e1
 exact⟨⟨x0,x1⟩,rfl,trivial⟩
theorem TN {l:List Value}(h:l.length=4):∃ v0 v1 v2 v3,l=[v0,v1,v2,v3]:=match l,h with | [v0,v1,v2,v3],_=>⟨v0,v1,v2,v3,rfl⟩
theorem Id:iZ H enc prog w spare held 218 (Fl dL) (λ x=>x.s.size<=9223372036854775807):=by
 intro n cs x h;obtain⟨v0,v1,v2,v3,rfl⟩:=TN ((kx underlying218 h).trans (show prog.cellsOf 218=4 by kernel_rfl));obtain⟨_,_,h0⟩:=bs underlying218 h 0 _ rfl 0 1 2 rfl rfl kR [v0] rfl;obtain⟨x0,rfl⟩:=eb underlying2 h0;obtain⟨_,_,h1⟩:=bs underlying218 h 1 _ rfl 1 2 216 rfl rfl kR [v1,v2] rfl;obtain⟨x1,e1,g1⟩:=TJ _ _ _ h1;change [v1,v2]=[.int .i64 x1.a,.int .i64 x1.b] at e1
 cases e1
 obtain⟨_,_,h2⟩:=bs underlying218 h 2 _ rfl 3 1 9 rfl rfl kR [v3] rfl;obtain⟨x2,rfl,g2⟩:=sC underlying9 h2;exact⟨⟨x0,x1,x2⟩,rfl,g2⟩
theorem TO {l:List Value}(h:l.length=8):∃ v0 v1 v2 v3 v4 v5 v6 v7,l=[v0,v1,v2,v3,v4,v5,v6,v7]:=match l,h with | [v0,v1,v2,v3,v4,v5,v6,v7],_=>⟨v0,v1,v2,v3,v4,v5,v6,v7,rfl⟩
theorem Ie:iZ H enc prog w spare held 222 (Fl cV) (λ _=>True):=by
 intro n cs x h;obtain⟨v0,v1,v2,v3,v4,v5,v6,v7,rfl⟩:=TO ((kx underlying222 h).trans (show prog.cellsOf 222=8 by kernel_rfl));obtain⟨_,_,h0⟩:=bs underlying222 h 0 _ rfl 0 1 2 rfl rfl kR [v0] rfl;obtain⟨x0,rfl⟩:=eb underlying2 h0;obtain⟨_,_,h1⟩:=bs underlying222 h 1 _ rfl 1 3 220 rfl rfl kR [v1,v2,v3] rfl;obtain⟨x1,e1,g1⟩:=TL _ _ _ h1;change [v1,v2,v3]=[.int .i64 x1.a,.int .i64 x1.b,.int .i64 x1.c] at e1
 cases e1
 obtain⟨_,_,h2⟩:=bs underlying222 h 2 _ rfl 4 1 2 rfl rfl kR [v4] rfl;obtain⟨x2,rfl⟩:=eb underlying2 h2;obtain⟨_,_,h3⟩:=bs underlying222 h 3 _ rfl 5 1 2 rfl rfl kR [v5] rfl;obtain⟨x3,rfl⟩:=eb underlying2 h3;obtain⟨_,_,h4⟩:=bs underlying222 h 4 _ rfl 6 1 2 rfl rfl kR [v6] rfl;obtain⟨x4,rfl⟩:=eb underlying2 h4;obtain⟨_,_,h5⟩:=bs underlying222 h 5 _ rfl 7 1 2 rfl rfl kR [v7] rfl;obtain⟨x5,rfl⟩:=eb underlying2 h5;exact⟨⟨x0,x1,x2,x3,x4,x5⟩,rfl,trivial⟩
theorem TP {l:List Value}(h:l.length=5):∃ v0 v1 v2 v3 v4,l=[v0,v1,v2,v3,v4]:=match l,h with | [v0,v1,v2,v3,v4],_=>⟨v0,v1,v2,v3,v4,rfl⟩
theorem TQ:iZ H enc prog w spare held 174 (Fl bE) (λ _=>True):=by intro n cs x h;obtain⟨v0,v1,v2,v3,v4,rfl⟩:=TP ((kx underlying174 h).trans (show prog.cellsOf 174=5 by kernel_rfl));obtain⟨_,_,h0⟩:=bs underlying174 h 0 _ rfl 0 1 2 rfl rfl kR [v0] rfl;obtain⟨x0,rfl⟩:=eb underlying2 h0;obtain⟨_,_,h1⟩:=bs underlying174 h 1 _ rfl 1 1 2 rfl rfl kR [v1] rfl;obtain⟨x1,rfl⟩:=eb underlying2 h1;obtain⟨_,_,h2⟩:=bs underlying174 h 2 _ rfl 2 1 2 rfl rfl kR [v2] rfl;obtain⟨x2,rfl⟩:=eb underlying2 h2;obtain⟨_,_,h3⟩:=bs underlying174 h 3 _ rfl 3 1 2 rfl rfl kR [v3] rfl;obtain⟨x3,rfl⟩:=eb underlying2 h3;obtain⟨_,_,h4⟩:=bs underlying174 h 4 _ rfl 4 1 2 rfl rfl kR [v4] rfl;obtain⟨x4,rfl⟩:=eb underlying2 h4;exact⟨⟨x0,x1,x2,x3,x4⟩,rfl,trivial⟩
theorem TR {l:List Value}(h:l.length=2):∃ v0 v1,l=[v0,v1]:=match l,h with | [v0,v1],_=>⟨v0,v1,rfl⟩
theorem TS:iZ H enc prog w spare held 94 (Fl cj) (λ x=>x.s.size<=9223372036854775807):=by intro n cs x h;obtain⟨v0,v1,rfl⟩:=TR ((kx underlying94 h).trans (show prog.cellsOf 94=2 by kernel_rfl));obtain⟨_,_,h0⟩:=bs underlying94 h 0 _ rfl 0 1 2 rfl rfl kR [v0] rfl;obtain⟨x0,rfl⟩:=eb underlying2 h0;obtain⟨_,_,h1⟩:=bs underlying94 h 1 _ rfl 1 1 9 rfl rfl kR [v1] rfl;obtain⟨x1,rfl,g1⟩:=sC underlying9 h1;exact⟨⟨x0,x1⟩,rfl,g1⟩
theorem TT {l:List Value}(h:l.length=2):∃ v0 v1,l=[v0,v1]:=match l,h with | [v0,v1],_=>⟨v0,v1,rfl⟩
theorem TU:iZ H enc prog w spare held 148 (Fl cD) (λ x=>x.s.size<=9223372036854775807):=by intro n cs x h;obtain⟨v0,v1,rfl⟩:=TT ((kx underlying148 h).trans (show prog.cellsOf 148=2 by kernel_rfl));obtain⟨_,_,h0⟩:=bs underlying148 h 0 _ rfl 0 1 9 rfl rfl kR [v0] rfl;obtain⟨x0,rfl,g0⟩:=sC underlying9 h0;obtain⟨_,_,h1⟩:=bs underlying148 h 1 _ rfl 1 1 2 rfl rfl kR [v1] rfl;obtain⟨x1,rfl⟩:=eb underlying2 h1;exact⟨⟨x0,x1⟩,rfl,g0⟩
theorem TV {l:List Value}(h:l.length=21):∃ v0 v1 v2 v3 v4 v5 v6 v7 v8 v9 v10 v11 v12 v13 v14 v15 v16 v17 v18 v19 v20,l=[v0,v1,v2,v3,v4,v5,v6,v7,v8,v9,v10,v11,v12,v13,v14,v15,v16,v17,v18,v19,v20]:=match l,h with | [v0,v1,v2,v3,v4,v5,v6,v7,v8,v9,v10,v11,v12,v13,v14,v15,v16,v17,v18,v19,v20],_=>⟨v0,v1,v2,v3,v4,v5,v6,v7,v8,v9,v10,v11,v12,v13,v14,v15,v16,v17,v18,v19,v20,rfl⟩
theorem TW:iZ H enc prog w spare held 224 (Fl am) (oh):=by
 intro n cs x h;obtain⟨v0,v1,v2,v3,v4,v5,v6,v7,v8,v9,v10,v11,v12,v13,v14,v15,v16,v17,v18,v19,v20,rfl⟩:=TV ((kx underlying224 h).trans (show prog.cellsOf 224=21 by kernel_rfl));obtain⟨_,_,h0⟩:=bs underlying224 h 0 _ rfl 0 1 2 rfl rfl kR [v0] rfl;obtain⟨x0,rfl⟩:=eb underlying2 h0;obtain⟨_,_,h1⟩:=bs underlying224 h 1 _ rfl 1 1 2 rfl rfl kR [v1] rfl;obtain⟨x1,rfl⟩:=eb underlying2 h1;obtain⟨_,_,h2⟩:=bs underlying224 h 2 _ rfl 2 1 2 rfl rfl kR [v2] rfl;obtain⟨x2,rfl⟩:=eb underlying2 h2;obtain⟨_,_,h3⟩:=bs underlying224 h 3 _ rfl 3 1 9 rfl rfl kR [v3] rfl;obtain⟨x3,rfl,g3⟩:=sC underlying9 h3;obtain⟨_,_,h4⟩:=bs underlying224 h 4 _ rfl 4 5 214 rfl rfl kR [v4,v5,v6,v7,v8] rfl;obtain⟨x4,e4,g4⟩:=Ic _ _ _ h4;change [v4,v5,v6,v7,v8]=[.int .i64 x4.a,.int .i64 x4.box.a,.int .i64 x4.box.b,.int .i64 x4.box.c,.int .i64 x4.box.d] at e4
 cases e4
 obtain⟨_,_,h5⟩:=bs underlying224 h 5 _ rfl 9 4 218 rfl rfl kR [v9,v10,v11,v12] rfl;obtain⟨x5,e5,g5⟩:=Id _ _ _ h5;change [v9,v10,v11,v12]=[.int .i64 x5.a,.int .i64 x5.pt.a,.int .i64 x5.pt.b,.string x5.s] at e5
 cases e5
 obtain⟨_,_,h6⟩:=bs underlying224 h 6 _ rfl 13 8 222 rfl rfl kR [v13,v14,v15,v16,v17,v18,v19,v20] rfl;obtain⟨x6,e6,g6⟩:=Ie _ _ _ h6;change [v13,v14,v15,v16,v17,v18,v19,v20]=[.int .i64 x6.a,.int .i64 x6.tr.a,.int .i64 x6.tr.b,.int .i64 x6.tr.c,.int .i64 x6.c,.int .i64 x6.d,.int .i64 x6.e,.int .i64 x6.f] at e6
 cases e6
 exact⟨⟨x0,x1,x2,x3,x4,x5,x6⟩,rfl,⟨g3,g5⟩⟩
theorem TX {l:List Value}(h:l.length=4):∃ v0 v1 v2 v3,l=[v0,v1,v2,v3]:=match l,h with | [v0,v1,v2,v3],_=>⟨v0,v1,v2,v3,rfl⟩
theorem TY:iZ H enc prog w spare held 145 DvR (pE):=by
 intro n cs x h;obtain⟨v0,v1,v2,v3,rfl⟩:=TX ((kx underlying145 h).trans (show prog.cellsOf 145=4 by kernel_rfl));obtain⟨_,_,h0⟩:=bs underlying145 h 0 _ rfl 0 1 2 rfl rfl kR [v0] rfl;obtain⟨x0,rfl⟩:=eb underlying2 h0;obtain⟨_,_,h1⟩:=bs underlying145 h 1 _ rfl 1 1 121 rfl rfl kR [v1] rfl;obtain⟨p1,n1,c1,x1,e1,s1,g1,m1⟩:=kw cW oM underlying121 kR (TF underlying2) h1
 cases e1
 obtain⟨_,_,h2⟩:=bs underlying145 h 2 _ rfl 2 1 2 rfl rfl kR [v2] rfl;obtain⟨x2,rfl⟩:=eb underlying2 h2;obtain⟨_,_,h3⟩:=bs underlying145 h 3 _ rfl 3 1 2 rfl rfl kR [v3] rfl;obtain⟨x3,rfl⟩:=eb underlying2 h3;exact⟨⟨x0,x1,x2,x3⟩,⟨p1,n1,c1,rfl,s1⟩,(by show _<=_;rw [s1.length];exact m1)⟩
theorem TZ {l:List Value}(h:l.length=4):∃ v0 v1 v2 v3,l=[v0,v1,v2,v3]:=match l,h with | [v0,v1,v2,v3],_=>⟨v0,v1,v2,v3,rfl⟩
theorem T0:iZ H enc prog w spare held 210 CeR (dp):=by
 intro n cs x h;obtain⟨v0,v1,v2,v3,rfl⟩:=TZ ((kx underlying210 h).trans (show prog.cellsOf 210=4 by kernel_rfl));obtain⟨_,_,h0⟩:=bs underlying210 h 0 _ rfl 0 1 9 rfl rfl kR [v0] rfl;obtain⟨x0,rfl,g0⟩:=sC underlying9 h0;obtain⟨_,_,h1⟩:=bs underlying210 h 1 _ rfl 1 1 206 rfl rfl kR [v1] rfl;obtain⟨p1,n1,c1,x1,e1,s1,g1,m1⟩:=kw okShape oM underlying206 kR Ic h1
 cases e1
 obtain⟨_,_,h2⟩:=bs underlying210 h 2 _ rfl 2 1 207 rfl rfl kR [v2] rfl;obtain⟨p2,n2,c2,x2,e2,s2,g2,m2⟩:=kw okLabel oM underlying207 kR Id h2
 cases e2
 obtain⟨_,_,h3⟩:=bs underlying210 h 3 _ rfl 3 1 208 rfl rfl kR [v3] rfl;obtain⟨p3,n3,c3,x3,e3,s3,g3,m3⟩:=kw okInstance oM underlying208 kR Ie h3
 cases e3
 exact⟨⟨x0,x1,x2,x3⟩,⟨p1,n1,c1,p2,n2,c2,p3,n3,c3,rfl,s1,s2,s3⟩,⟨g0,(by rw [s1.length];exact m1),(by rw [s2.length];exact m2),g2,(by rw [s3.length];exact m3)⟩⟩
theorem Ig:iZ H enc prog w spare held 142 (RwD (Fl am) 21) jA:=by intro n cs x h;obtain⟨p,n,c,l,rfl,s,g,m⟩:=kw okEdit oM underlying142 kR TW h;exact⟨l,⟨p,n,c,rfl,s⟩,by rw [s.length];exact m,g⟩
theorem T1 {l:List Value}(h:l.length=8):∃ v0 v1 v2 v3 v4 v5 v6 v7,l=[v0,v1,v2,v3,v4,v5,v6,v7]:=match l,h with | [v0,v1,v2,v3,v4,v5,v6,v7],_=>⟨v0,v1,v2,v3,v4,v5,v6,v7,rfl⟩
theorem T3 {n:Nat}{v0:Value}{x:DataW H×List MemPlace}(h:DataW.trod enc prog w 0 spare held n 24 [v0]=some x) :
 ∃ (l:List CeD) (p:OA) (n c:Nat),v0=sl p n c/\SlD CeR 4 0 w p n l/\(∀ y∈l,dp y)/\n<=9223372036854775807:=by
 obtain⟨_,_,h0⟩:=bs underlying24 h 0 _ rfl 0 1 22 rfl rfl kR [v0] rfl;obtain⟨p,n,c,l,e,s,g,m⟩:=kw aL6 oM underlying22 kR T0 h0
 cases e
 exact⟨l,p,n,c,rfl,s,g,m⟩
theorem T4 {cs:Array Value}(hs:cs.size=8){n:Nat}{x:DataW H×List MemPlace}(h:DataW.trod enc prog w 0 spare held n 37 cs.toList=some x) :
 ∃ (x:SeD) (p1 p2 p3 p4 p5 p6 p7:OA) (n1 c1 n2 c2 n3 c3 n4 c4 n5 c5 n6 c6 n7 c7:Nat),cs=#[.slice p1 n1 c1,.slice p2 n2 c2,.slice p3 n3 c3,.slice p4 n4 c4,.slice p5 n5 c5,.int .i64 x.nl.nets,.slice p6 n6 c6,.slice p7 n7 c7] /\
  SlD CeR 4 0 w p1 n1 x.ed.cells/\SlD (RwD (Fl am) 21) 1 0 w p2 n2 x.ed.undos/\SlD (RwD (Fl am) 21) 1 0 w p3 n3 x.ed.redos/\SlD (Fl bE) 5 0 w p4 n4 x.rules/\SlD (Fl cj) 2 0 w p5 n5 x.waivers/\SlD DvR 4 0 w p6 n6 x.nl.devs/\SlD (Fl cD) 2 0 w p7 n7 x.nl.ports/\lu x:=by
 obtain⟨cs⟩:=cs;obtain⟨v0,v1,v2,v3,v4,v5,v6,v7,rfl⟩:=T1 (l:=cs) hs;replace h:DataW.trod enc prog w 0 spare held n 37 [v0,v1,v2,v3,v4,v5,v6,v7]=some x:=h;obtain⟨_,_,hE⟩:=bs underlying37 h 0 _ rfl 0 3 27 rfl rfl kR [v0,v1,v2] rfl;obtain⟨_,_,hD⟩:=bs underlying37 h 1 _ rfl 3 1 30 rfl rfl kR [v3] rfl;obtain⟨_,_,hW⟩:=bs underlying37 h 2 _ rfl 4 1 31 rfl rfl kR [v4] rfl;obtain⟨_,_,hN⟩:=bs underlying37 h 3 _ rfl 5 3 35 rfl rfl kR [v5,v6,v7] rfl;obtain⟨_,_,hL⟩:=bs underlying27 hE 0 _ rfl 0 1 24 rfl rfl kR [v0] rfl;obtain⟨_,_,hU⟩:=bs underlying27 hE 1 _ rfl 1 1 25 rfl rfl kR [v1] rfl;obtain⟨_,_,hR⟩:=bs underlying27 hE 2 _ rfl 2 1 25 rfl rfl kR [v2] rfl;obtain⟨l1,p1,n1,c1,rfl,s1,g1,m1⟩:=T3 hL;obtain⟨p2,n2,c2,l2,e2,s2,g2,m2⟩:=kw (az okEdit) oM underlying25 kR Ig hU
 cases e2
 obtain⟨p3,n3,c3,l3,e3,s3,g3,m3⟩:=kw (az okEdit) oM underlying25 kR Ig hR
 cases e3
 obtain⟨_,_,hQ⟩:=bs underlying30 hD 0 _ rfl 0 1 28 rfl rfl kR [v3] rfl;obtain⟨p4,n4,c4,l4,e4,s4,_,m4⟩:=kw aT oM underlying28 kR TQ hQ
 cases e4
 obtain⟨p5,n5,c5,l5,e5,s5,g5,m5⟩:=kw okWaiver oM underlying31 kR TS hW
 cases e5
 obtain⟨_,_,hI⟩:=bs underlying35 hN 0 _ rfl 0 1 2 rfl rfl kR [v5] rfl;obtain⟨nets,rfl⟩:=eb underlying2 hI;obtain⟨_,_,hV⟩:=bs underlying35 hN 1 _ rfl 1 1 32 rfl rfl kR [v6] rfl;obtain⟨_,_,hP⟩:=bs underlying35 hN 2 _ rfl 2 1 33 rfl rfl kR [v7] rfl;obtain⟨p6,n6,c6,l6,e6,s6,g6,m6⟩:=kw aL25 oM underlying32 kR TY hV
 cases e6
 obtain⟨p7,n7,c7,l7,e7,s7,g7,m7⟩:=kw bw oM underlying33 kR TU hP
 cases e7
 exact⟨⟨⟨l1,l2,l3⟩,l4,l5,⟨nets,l6,l7⟩⟩,p1,p2,p3,p4,p5,p6,p7,n1,c1,n2,c2,n3,c3,n4,c4,n5,c5,n6,c6,n7,c7,rfl,s1,s2,s3,s4,s5,s6,s7,
  ⟨by show l1.length<=_;rw [s1.length];exact m1,g1,by show l2.length<=_;rw [s2.length];exact m2,g2,by show l3.length<=_;rw [s3.length];exact m3,g3⟩,by show l4.length<=_;rw [s4.length];exact m4,
  ⟨by show l5.length<=_;rw [s5.length];exact m5,g5⟩,by show l6.length<=_;rw [s6.length];exact m6,g6,by show l7.length<=_;rw [s7.length];exact m7,g7⟩
end
end Go.Proofs.YtnlajnpcdnnpmaaGreat

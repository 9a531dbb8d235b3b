/- Part of a proof. No condition. -/
import Derived.Test.YtnlajnpcdnnpmaaGreatA3
namespace Go.Proofs.YtnlajnpcdnnpmaaGreat
set_option linter.all false
set_option maxRecDepth 100000
set_option maxHeartbeats 16000000
open Go.Proofs.Tryz Go.RowKit
theorem JB:(prog.info? 236).map (λ i=>(i.zero,i.size,i.bytes))=some (some (.agg #[(0:Int),(0:Int),(0:Int),(0:Int),(0:Int)]),5,40):=by kernel_rfl
theorem JF (p:OA)(n c base:Nat)(l:List ShD)(w:World)(h:SlD (Fl bg) 5 base w p n l)(hn:n<=1048576) :
 Calls prog 252 #[sl p n c] w λ e w'=>∃ q,e=.returned (sl q n n)/\SlD (Fl bg) 5 w w' q n l/\Ext w w':=by
 obtain⟨i0,hi,hz0,hz1,hz2⟩:=aM JB;have hl:=aa h.length;go_enter func252,ntmps252;go_wp2_with (refine ep _ rfl _ _ 159 rfl w 236 i0 _ 5 underlying159 hi hz0 hz1 .i64 .i64 n n n rfl rfl rfl rfl (by rw [hz2];omega) (by unfold maxLen;omega) (ai _) ?_;intro w1 ho hg);have hE:Ext w w1:=(ab _).grown hg (λ _ h=>by cases h);have hF:FillD (Fl bg) 5 w 236 w1 n 0 l:=lm ho;clear hg ho;go_wp2;go_loopw [4] (λ i wr=>∃ k:Nat,k<=n/\i=.int .i64 k/\Ext w wr/\FillD (Fl bg) 5 w 236 wr n k l) (λ i _=>n - (intOf i).toNat)
 case atStart=>exact⟨0,oM,rfl,hE,hF⟩
 case round =>
  clear hE hF w1;obtain⟨k,hk,rfl,hE,hF⟩:=hrel;by_cases hlt:k<n
  . have hltI:(k:Int)<n:=oM;obtain⟨b,off,x,cs,rfl,hb,hx,hcs,hc⟩:=(h.ext okShape hE).get hlt;obtain rfl:cs=bg x:=hcs;have c0:=hc 0 _ rfl;rw [aq] at c0;have c1:=hc 1 _ rfl;have c2:=hc 2 _ rfl;have c3:=hc 3 _ rfl;have c4:=hc 4 _ rfl;clear hc;go_wp2_with fail;refine (DE x _).mono ?_;rintro e w2 ⟨rfl,h2⟩;clear c0 c1 c2 c3 c4;have hF2:=aa (hF.ext okShape h2);have hE2:=aa (hE.trans h2);obtain⟨cl,ho2,_⟩:=hF2.out;obtain⟨v0,e0⟩:=bO ho2 (k*5) oM;obtain⟨v1,e1⟩:=bO ho2 (k*5+1) oM;obtain⟨v2,e2⟩:=bO ho2 (k*5+2) oM;obtain⟨v3,e3⟩:=bO ho2 (k*5+3) oM;obtain⟨v4,e4⟩:=bO ho2 (k*5+4) oM;have hf:=ey ho2;have hgl:=(cM ho2).2;go_wp2_with fail;go_roundw
    case rel => have h8:=lk (g:=w.heap.size) (ai _) (bg x) (k*5) _ hE2.out;have h9:=hF2.put okShape hlt hx.out rfl;simp only [putRow,bg,nH,Nat.reduceAdd] at h8 h9;exact mj
    case measure=>exact mS
  . have pA:=@okShape;exact nU
theorem JG:(prog.info? 250).map (λ i=>(i.zero,i.size,i.bytes))=some (some (.agg #[(0:Int),(0:Int),(0:Int),.string ⟨#[]⟩]),4,40):=by kernel_rfl
theorem JH (p:OA)(n c base:Nat)(l:List LbD)(w:World)(h:SlD (Fl dL) 4 base w p n l)(hn:n<=1048576) :
 Calls prog 253 #[sl p n c] w λ e w'=>∃ q,e=.returned (sl q n n)/\SlD (Fl dL) 4 w w' q n l/\Ext w w':=by
 obtain⟨i0,hi,hz0,hz1,hz2⟩:=aM JG;have hl:=aa h.length;go_enter func253,ntmps253;go_wp2_with (refine ep _ rfl _ _ 185 rfl w 250 i0 _ 4 underlying185 hi hz0 hz1 .i64 .i64 n n n rfl rfl rfl rfl (by rw [hz2];omega) (by unfold maxLen;omega) (ai _) ?_;intro w1 ho hg);have hE:Ext w w1:=(ab _).grown hg (λ _ h=>by cases h);have hF:FillD (Fl dL) 4 w 250 w1 n 0 l:=lm ho;clear hg ho;go_wp2;go_loopw [4] (λ i wr=>∃ k:Nat,k<=n/\i=.int .i64 k/\Ext w wr/\FillD (Fl dL) 4 w 250 wr n k l) (λ i _=>n - (intOf i).toNat)
 case atStart=>exact⟨0,oM,rfl,hE,hF⟩
 case round =>
  clear hE hF w1;obtain⟨k,hk,rfl,hE,hF⟩:=hrel;by_cases hlt:k<n
  . have hltI:(k:Int)<n:=oM;obtain⟨b,off,x,cs,rfl,hb,hx,hcs,hc⟩:=(h.ext okLabel hE).get hlt;obtain rfl:cs=dL x:=hcs;have c0:=hc 0 _ rfl;rw [aq] at c0;have c1:=hc 1 _ rfl;have c2:=hc 2 _ rfl;have c3:=hc 3 _ rfl;clear hc;go_wp2_with fail;refine (DF x _).mono ?_;rintro e w2 ⟨rfl,h2⟩;clear c0 c1 c2 c3;have hF2:=aa (hF.ext okLabel h2);have hE2:=aa (hE.trans h2);obtain⟨cl,ho2,_⟩:=hF2.out;obtain⟨v0,e0⟩:=bO ho2 (k*4) oM;obtain⟨v1,e1⟩:=bO ho2 (k*4+1) oM;obtain⟨v2,e2⟩:=bO ho2 (k*4+2) oM;obtain⟨v3,e3⟩:=bO ho2 (k*4+3) oM;have hf:=ey ho2;have hgl:=(cM ho2).2;go_wp2_with fail;go_roundw
    case rel => have h8:=lk (g:=w.heap.size) (ai _) (dL x) (k*4) _ hE2.out;have h9:=hF2.put okLabel hlt hx.out rfl;simp only [putRow,dL,nH,Nat.reduceAdd] at h8 h9;exact mj
    case measure=>exact mS
  . have pA:=@okLabel;exact nU
theorem JI:(prog.info? 252).map (λ i=>(i.zero,i.size,i.bytes))=some (some (.agg #[(0:Int),(0:Int),(0:Int),(0:Int),(0:Int),(0:Int),(0:Int),(0:Int)]),8,64):=by kernel_rfl
theorem JJ (p:OA)(n c base:Nat)(l:List InD)(w:World)(h:SlD (Fl cV) 8 base w p n l)(hn:n<=1048576) :
 Calls prog 254 #[sl p n c] w λ e w'=>∃ q,e=.returned (sl q n n)/\SlD (Fl cV) 8 w w' q n l/\Ext w w':=by
 obtain⟨i0,hi,hz0,hz1,hz2⟩:=aM JI;have hl:=aa h.length;go_enter func254,ntmps254;go_wp2_with (refine ep _ rfl _ _ 186 rfl w 252 i0 _ 8 underlying186 hi hz0 hz1 .i64 .i64 n n n rfl rfl rfl rfl (by rw [hz2];omega) (by unfold maxLen;omega) (ai _) ?_;intro w1 ho hg);have hE:Ext w w1:=(ab _).grown hg (λ _ h=>by cases h);have hF:FillD (Fl cV) 8 w 252 w1 n 0 l:=lm ho;clear hg ho;go_wp2;go_loopw [4] (λ i wr=>∃ k:Nat,k<=n/\i=.int .i64 k/\Ext w wr/\FillD (Fl cV) 8 w 252 wr n k l) (λ i _=>n - (intOf i).toNat)
 case atStart=>exact⟨0,oM,rfl,hE,hF⟩
 case round =>
  clear hE hF w1;obtain⟨k,hk,rfl,hE,hF⟩:=hrel;by_cases hlt:k<n
  . have hltI:(k:Int)<n:=oM;obtain⟨b,off,x,cs,rfl,hb,hx,hcs,hc⟩:=(h.ext okInstance hE).get hlt;obtain rfl:cs=cV x:=hcs;have c0:=hc 0 _ rfl;rw [aq] at c0;have c1:=hc 1 _ rfl;have c2:=hc 2 _ rfl;have c3:=hc 3 _ rfl;have c4:=hc 4 _ rfl;have c5:=hc 5 _ rfl;have c6:=hc 6 _ rfl;have c7:=hc 7 _ rfl;clear hc;go_wp2_with fail;refine (DG x _).mono ?_;rintro e w2 ⟨rfl,h2⟩;clear c0 c1 c2 c3 c4 c5 c6 c7;have hF2:=aa (hF.ext okInstance h2);have hE2:=aa (hE.trans h2);obtain⟨cl,ho2,_⟩:=hF2.out;obtain⟨v0,e0⟩:=bO ho2 (k*8) oM;obtain⟨v1,e1⟩:=bO ho2 (k*8+1) oM;obtain⟨v2,e2⟩:=bO ho2 (k*8+2) oM;obtain⟨v3,e3⟩:=bO ho2 (k*8+3) oM;obtain⟨v4,e4⟩:=bO ho2 (k*8+4) oM;obtain⟨v5,e5⟩:=bO ho2 (k*8+5) oM;obtain⟨v6,e6⟩:=bO ho2 (k*8+6) oM;obtain⟨v7,e7⟩:=bO ho2 (k*8+7) oM;have hf:=ey ho2;have hgl:=(cM ho2).2;go_wp2_with fail;go_roundw
    case rel => have h8:=lk (g:=w.heap.size) (ai _) (cV x) (k*8) _ hE2.out;have h9:=hF2.put okInstance hlt hx.out rfl;simp only [putRow,cV,nH,Nat.reduceAdd] at h8 h9;exact mj
    case measure=>exact mS
  . have pA:=@okInstance;exact nU
theorem JK:(prog.info? 108).map (λ i=>(i.zero,i.size,i.bytes))=some (some (.agg #[(0:Int),(0:Int),(0:Int),(0:Int),(0:Int)]),5,40):=by kernel_rfl
theorem JL (p:OA)(n c base:Nat)(l:List RuD)(w:World)(h:SlD (Fl bE) 5 base w p n l)(hn:n<=1048576) :
 Calls prog 57 #[sl p n c] w λ e w'=>∃ q,e=.returned (sl q n n)/\SlD (Fl bE) 5 w w' q n l/\Ext w w':=by
 obtain⟨i0,hi,hz0,hz1,hz2⟩:=aM JK;have hl:=aa h.length;go_enter func57,ntmps57;go_wp2_with (refine ep _ rfl _ _ 48 rfl w 108 i0 _ 5 underlying48 hi hz0 hz1 .i64 .i64 n n n rfl rfl rfl rfl (by rw [hz2];omega) (by unfold maxLen;omega) (ai _) ?_;intro w1 ho hg);have hE:Ext w w1:=(ab _).grown hg (λ _ h=>by cases h);have hF:FillD (Fl bE) 5 w 108 w1 n 0 l:=lm ho;clear hg ho;go_wp2;go_loopw [4] (λ i wr=>∃ k:Nat,k<=n/\i=.int .i64 k/\Ext w wr/\FillD (Fl bE) 5 w 108 wr n k l) (λ i _=>n - (intOf i).toNat)
 case atStart=>exact⟨0,oM,rfl,hE,hF⟩
 case round =>
  clear hE hF w1;obtain⟨k,hk,rfl,hE,hF⟩:=hrel;by_cases hlt:k<n
  . have hltI:(k:Int)<n:=oM;obtain⟨b,off,x,cs,rfl,hb,hx,hcs,hc⟩:=(h.ext aT hE).get hlt;obtain rfl:cs=bE x:=hcs;have c0:=hc 0 _ rfl;rw [aq] at c0;have c1:=hc 1 _ rfl;have c2:=hc 2 _ rfl;have c3:=hc 3 _ rfl;have c4:=hc 4 _ rfl;clear hc;go_wp2_with fail;refine (Jm x _).mono ?_;rintro e w2 ⟨rfl,h2⟩;clear c0 c1 c2 c3 c4;have hF2:=aa (hF.ext aT h2);have hE2:=aa (hE.trans h2);obtain⟨cl,ho2,_⟩:=hF2.out;obtain⟨v0,e0⟩:=bO ho2 (k*5) oM;obtain⟨v1,e1⟩:=bO ho2 (k*5+1) oM;obtain⟨v2,e2⟩:=bO ho2 (k*5+2) oM;obtain⟨v3,e3⟩:=bO ho2 (k*5+3) oM;obtain⟨v4,e4⟩:=bO ho2 (k*5+4) oM;have hf:=ey ho2;have hgl:=(cM ho2).2;go_wp2_with fail;go_roundw
    case rel => have h8:=lk (g:=w.heap.size) (ai _) (bE x) (k*5) _ hE2.out;have h9:=hF2.put aT hlt hx.out rfl;simp only [putRow,bE,nH,Nat.reduceAdd] at h8 h9;exact mj
    case measure=>exact mS
  . have pA:=@aT;exact nU
theorem JM:(prog.info? 116).map (λ i=>(i.zero,i.size,i.bytes))=some (some (.agg #[(0:Int),.string ⟨#[]⟩]),2,24):=by kernel_rfl
theorem JN (p:OA)(n c base:Nat)(l:List WvD)(w:World)(h:SlD (Fl cj) 2 base w p n l)(hn:n<=1048576) :
 Calls prog 22 #[sl p n c] w λ e w'=>∃ q,e=.returned (sl q n n)/\SlD (Fl cj) 2 w w' q n l/\Ext w w':=by
 obtain⟨i0,hi,hz0,hz1,hz2⟩:=aM JM;have hl:=aa h.length;go_enter func22,ntmps22;go_wp2_with (refine ep _ rfl _ _ 51 rfl w 116 i0 _ 2 underlying51 hi hz0 hz1 .i64 .i64 n n n rfl rfl rfl rfl (by rw [hz2];omega) (by unfold maxLen;omega) (ai _) ?_;intro w1 ho hg);have hE:Ext w w1:=(ab _).grown hg (λ _ h=>by cases h);have hF:FillD (Fl cj) 2 w 116 w1 n 0 l:=lm ho;clear hg ho;go_wp2;go_loopw [4] (λ i wr=>∃ k:Nat,k<=n/\i=.int .i64 k/\Ext w wr/\FillD (Fl cj) 2 w 116 wr n k l) (λ i _=>n - (intOf i).toNat)
 case atStart=>exact⟨0,oM,rfl,hE,hF⟩
 case round =>
  clear hE hF w1;obtain⟨k,hk,rfl,hE,hF⟩:=hrel;by_cases hlt:k<n
  . have hltI:(k:Int)<n:=oM;obtain⟨b,off,x,cs,rfl,hb,hx,hcs,hc⟩:=(h.ext okWaiver hE).get hlt;obtain rfl:cs=cj x:=hcs;have c0:=hc 0 _ rfl;rw [aq] at c0;have c1:=hc 1 _ rfl;clear hc;go_wp2_with fail;refine (Jn x _).mono ?_;rintro e w2 ⟨rfl,h2⟩;clear c0 c1;have hF2:=aa (hF.ext okWaiver h2);have hE2:=aa (hE.trans h2);obtain⟨cl,ho2,_⟩:=hF2.out;obtain⟨v0,e0⟩:=bO ho2 (k*2) oM;obtain⟨v1,e1⟩:=bO ho2 (k*2+1) oM;have hf:=ey ho2;have hgl:=(cM ho2).2;go_wp2_with fail;go_roundw
    case rel => have h8:=lk (g:=w.heap.size) (ai _) (cj x) (k*2) _ hE2.out;have h9:=hF2.put okWaiver hlt hx.out rfl;simp only [putRow,cj] at h8 h9;exact mj
    case measure=>exact mS
  . have pA:=@okWaiver;exact nU
theorem JO:(prog.info? 158).map (λ i=>(i.zero,i.size,i.bytes))=some (some (.agg #[.string ⟨#[]⟩,(0:Int)]),2,24):=by kernel_rfl
theorem JP (p:OA)(n c base:Nat)(l:List PoD)(w:World)(h:SlD (Fl cD) 2 base w p n l)(hn:n<=1048576) :
 Calls prog 60 #[sl p n c] w λ e w'=>∃ q,e=.returned (sl q n n)/\SlD (Fl cD) 2 w w' q n l/\Ext w w':=by
 obtain⟨i0,hi,hz0,hz1,hz2⟩:=aM JO;have hl:=aa h.length;go_enter func60,ntmps60;go_wp2_with (refine ep _ rfl _ _ 53 rfl w 158 i0 _ 2 underlying53 hi hz0 hz1 .i64 .i64 n n n rfl rfl rfl rfl (by rw [hz2];omega) (by unfold maxLen;omega) (ai _) ?_;intro w1 ho hg);have hE:Ext w w1:=(ab _).grown hg (λ _ h=>by cases h);have hF:FillD (Fl cD) 2 w 158 w1 n 0 l:=lm ho;clear hg ho;go_wp2;go_loopw [4] (λ i wr=>∃ k:Nat,k<=n/\i=.int .i64 k/\Ext w wr/\FillD (Fl cD) 2 w 158 wr n k l) (λ i _=>n - (intOf i).toNat)
 case atStart=>exact⟨0,oM,rfl,hE,hF⟩
 case round =>
  clear hE hF w1;obtain⟨k,hk,rfl,hE,hF⟩:=hrel;by_cases hlt:k<n
  . have hltI:(k:Int)<n:=oM;obtain⟨b,off,x,cs,rfl,hb,hx,hcs,hc⟩:=(h.ext bw hE).get hlt;obtain rfl:cs=cD x:=hcs;have c0:=hc 0 _ rfl;rw [aq] at c0;have c1:=hc 1 _ rfl;clear hc;go_wp2_with fail;refine (Jo x _).mono ?_;rintro e w2 ⟨rfl,h2⟩;clear c0 c1;have hF2:=aa (hF.ext bw h2);have hE2:=aa (hE.trans h2);obtain⟨cl,ho2,_⟩:=hF2.out;obtain⟨v0,e0⟩:=bO ho2 (k*2) oM;obtain⟨v1,e1⟩:=bO ho2 (k*2+1) oM;have hf:=ey ho2;have hgl:=(cM ho2).2;go_wp2_with fail;go_roundw
    case rel => have h8:=lk (g:=w.heap.size) (ai _) (cD x) (k*2) _ hE2.out;have h9:=hF2.put bw hlt hx.out rfl;simp only [putRow,cD] at h8 h9;exact mj
    case measure=>exact mS
  . have pA:=@bw;exact nU
theorem JQ (p1 p2:OA)(n c1 c2 b1 b2:Nat)(l:List ShD)(w:World)(h1:SlD (Fl bg) 5 b1 w p1 n l)(h2:SlD (Fl bg) 5 b2 w p2 n l)(hn:n<=1048576) :
 CE 297 #[sl p1 n c1,sl p2 n c2] w (.bool true):=by
 have hl:=aa h1.length;go_enter func297,ntmps297;go_wp2;go_loopw [5] (λ i wr=>∃ k:Nat,k<=n/\i=.int .i64 k/\Ext w wr) (λ i _=>n - (intOf i).toNat)
 case atStart=>exact⟨0,oM,rfl,ab _⟩
 case round =>
  obtain⟨k,hk,rfl,hE⟩:=hrel;by_cases hlt:k<n
  . have hltI:(k:Int)<n:=oM;obtain⟨b,off,x,cs,rfl,hb,hx,hcs,hc⟩:=(h1.ext okShape hE).get hlt;obtain⟨b',off',x',cs',rfl,hb',hx',hcs',hd⟩:=(h2.ext okShape hE).get hlt;obtain rfl:x=x':=cJ (hx.symm.trans hx'.out);obtain rfl:cs=bg x:=hcs;obtain rfl:cs'=bg x:=hcs';have c0:=hc 0 _ rfl;rw [aq] at c0;have c1:=hc 1 _ rfl;have c2:=hc 2 _ rfl;have c3:=hc 3 _ rfl;have c4:=hc 4 _ rfl;have d0:=hd 0 _ rfl;rw [aq] at d0;have d1:=hd 1 _ rfl;have d2:=hd 2 _ rfl;have d3:=hd 3 _ rfl;have d4:=hd 4 _ rfl;clear hc hd;go_wp2_with fail;refine aQ kR kR ?_;repeat (quiet_step ((go_at_call 300;exact bh (Jp _ _))))
    exact jV
  . exact ja
theorem JR (p1 p2:OA)(n c1 c2 b1 b2:Nat)(l:List LbD)(w:World)(h1:SlD (Fl dL) 4 b1 w p1 n l)(h2:SlD (Fl dL) 4 b2 w p2 n l)(hn:n<=1048576) :
 CE 298 #[sl p1 n c1,sl p2 n c2] w (.bool true):=by
 have hl:=aa h1.length;go_enter func298,ntmps298;go_wp2;go_loopw [5] (λ i wr=>∃ k:Nat,k<=n/\i=.int .i64 k/\Ext w wr) (λ i _=>n - (intOf i).toNat)
 case atStart=>exact⟨0,oM,rfl,ab _⟩
 case round =>
  obtain⟨k,hk,rfl,hE⟩:=hrel;by_cases hlt:k<n
  . have hltI:(k:Int)<n:=oM;obtain⟨b,off,x,cs,rfl,hb,hx,hcs,hc⟩:=(h1.ext okLabel hE).get hlt;obtain⟨b',off',x',cs',rfl,hb',hx',hcs',hd⟩:=(h2.ext okLabel hE).get hlt;obtain rfl:x=x':=cJ (hx.symm.trans hx'.out);obtain rfl:cs=dL x:=hcs;obtain rfl:cs'=dL x:=hcs';have c0:=hc 0 _ rfl;rw [aq] at c0;have c1:=hc 1 _ rfl;have c2:=hc 2 _ rfl;have c3:=hc 3 _ rfl;have d0:=hd 0 _ rfl;rw [aq] at d0;have d1:=hd 1 _ rfl;have d2:=hd 2 _ rfl;have d3:=hd 3 _ rfl;clear hc hd;go_wp2_with fail;refine aQ kR kR ?_;repeat (quiet_step ((go_at_call 301;exact bh (Jq _ _))))
    exact jV
  . exact ja
theorem JS (p1 p2:OA)(n c1 c2 b1 b2:Nat)(l:List InD)(w:World)(h1:SlD (Fl cV) 8 b1 w p1 n l)(h2:SlD (Fl cV) 8 b2 w p2 n l)(hn:n<=1048576) :
 CE 299 #[sl p1 n c1,sl p2 n c2] w (.bool true):=by
 have hl:=aa h1.length;go_enter func299,ntmps299;go_wp2;go_loopw [5] (λ i wr=>∃ k:Nat,k<=n/\i=.int .i64 k/\Ext w wr) (λ i _=>n - (intOf i).toNat)
 case atStart=>exact⟨0,oM,rfl,ab _⟩
 case round =>
  obtain⟨k,hk,rfl,hE⟩:=hrel;by_cases hlt:k<n
  . have hltI:(k:Int)<n:=oM;obtain⟨b,off,x,cs,rfl,hb,hx,hcs,hc⟩:=(h1.ext okInstance hE).get hlt;obtain⟨b',off',x',cs',rfl,hb',hx',hcs',hd⟩:=(h2.ext okInstance hE).get hlt;obtain rfl:x=x':=cJ (hx.symm.trans hx'.out);obtain rfl:cs=cV x:=hcs;obtain rfl:cs'=cV x:=hcs';have c0:=hc 0 _ rfl;rw [aq] at c0;have c1:=hc 1 _ rfl;have c2:=hc 2 _ rfl;have c3:=hc 3 _ rfl;have c4:=hc 4 _ rfl;have c5:=hc 5 _ rfl;have c6:=hc 6 _ rfl;have c7:=hc 7 _ rfl;have d0:=hd 0 _ rfl;rw [aq] at d0;have d1:=hd 1 _ rfl;have d2:=hd 2 _ rfl;have d3:=hd 3 _ rfl;have d4:=hd 4 _ rfl;have d5:=hd 5 _ rfl;have d6:=hd 6 _ rfl;have d7:=hd 7 _ rfl;clear hc hd;go_wp2_with fail;refine aQ kR kR ?_;repeat (quiet_step ((go_at_call 302;exact bh (Jr _ _))))
    exact jV
  . exact ja
theorem JT (p1 p2:OA)(n c1 c2 b1 b2:Nat)(l:List RuD)(w:World)(h1:SlD (Fl bE) 5 b1 w p1 n l)(h2:SlD (Fl bE) 5 b2 w p2 n l)(hn:n<=1048576) :
 CE 76 #[sl p1 n c1,sl p2 n c2] w (.bool true):=by
 have hl:=aa h1.length;go_enter func76,ntmps76;go_wp2;go_loopw [5] (λ i wr=>∃ k:Nat,k<=n/\i=.int .i64 k/\Ext w wr) (λ i _=>n - (intOf i).toNat)
 case atStart=>exact⟨0,oM,rfl,ab _⟩
 case round =>
  obtain⟨k,hk,rfl,hE⟩:=hrel;by_cases hlt:k<n
  . have hltI:(k:Int)<n:=oM;obtain⟨b,off,x,cs,rfl,hb,hx,hcs,hc⟩:=(h1.ext aT hE).get hlt;obtain⟨b',off',x',cs',rfl,hb',hx',hcs',hd⟩:=(h2.ext aT hE).get hlt;obtain rfl:x=x':=cJ (hx.symm.trans hx'.out);obtain rfl:cs=bE x:=hcs;obtain rfl:cs'=bE x:=hcs';have c0:=hc 0 _ rfl;rw [aq] at c0;have c1:=hc 1 _ rfl;have c2:=hc 2 _ rfl;have c3:=hc 3 _ rfl;have c4:=hc 4 _ rfl;have d0:=hd 0 _ rfl;rw [aq] at d0;have d1:=hd 1 _ rfl;have d2:=hd 2 _ rfl;have d3:=hd 3 _ rfl;have d4:=hd 4 _ rfl;clear hc hd;go_wp2_with fail;refine aQ kR kR ?_;repeat (quiet_step ((go_at_call 140;exact bh (Js _ _))))
    exact jV
  . exact ja
theorem JU (p1 p2:OA)(n c1 c2 b1 b2:Nat)(l:List WvD)(w:World)(h1:SlD (Fl cj) 2 b1 w p1 n l)(h2:SlD (Fl cj) 2 b2 w p2 n l)(hn:n<=1048576) :
 CE 30 #[sl p1 n c1,sl p2 n c2] w (.bool true):=by
 have hl:=aa h1.length;go_enter func30,ntmps30;go_wp2;go_loopw [5] (λ i wr=>∃ k:Nat,k<=n/\i=.int .i64 k/\Ext w wr) (λ i _=>n - (intOf i).toNat)
 case atStart=>exact⟨0,oM,rfl,ab _⟩
 case round =>
  obtain⟨k,hk,rfl,hE⟩:=hrel;by_cases hlt:k<n
  . have hltI:(k:Int)<n:=oM;obtain⟨b,off,x,cs,rfl,hb,hx,hcs,hc⟩:=(h1.ext okWaiver hE).get hlt;obtain⟨b',off',x',cs',rfl,hb',hx',hcs',hd⟩:=(h2.ext okWaiver hE).get hlt;obtain rfl:x=x':=cJ (hx.symm.trans hx'.out);obtain rfl:cs=cj x:=hcs;obtain rfl:cs'=cj x:=hcs';have c0:=hc 0 _ rfl;rw [aq] at c0;have c1:=hc 1 _ rfl;have d0:=hd 0 _ rfl;rw [aq] at d0;have d1:=hd 1 _ rfl;clear hc hd;go_wp2_with fail;refine aQ kR kR ?_;repeat (quiet_step ((go_at_call 77;exact bh (Jt _ _))))
    exact jV
  . exact ja
theorem JV (p1 p2:OA)(n c1 c2 b1 b2:Nat)(l:List PoD)(w:World)(h1:SlD (Fl cD) 2 b1 w p1 n l)(h2:SlD (Fl cD) 2 b2 w p2 n l)(hn:n<=1048576) :
 CE 79 #[sl p1 n c1,sl p2 n c2] w (.bool true):=by
 have hl:=aa h1.length;go_enter func79,ntmps79;go_wp2;go_loopw [5] (λ i wr=>∃ k:Nat,k<=n/\i=.int .i64 k/\Ext w wr) (λ i _=>n - (intOf i).toNat)
 case atStart=>exact⟨0,oM,rfl,ab _⟩
 case round =>
  obtain⟨k,hk,rfl,hE⟩:=hrel;by_cases hlt:k<n
  . have hltI:(k:Int)<n:=oM;obtain⟨b,off,x,cs,rfl,hb,hx,hcs,hc⟩:=(h1.ext bw hE).get hlt;obtain⟨b',off',x',cs',rfl,hb',hx',hcs',hd⟩:=(h2.ext bw hE).get hlt;obtain rfl:x=x':=cJ (hx.symm.trans hx'.out);obtain rfl:cs=cD x:=hcs;obtain rfl:cs'=cD x:=hcs';have c0:=hc 0 _ rfl;rw [aq] at c0;have c1:=hc 1 _ rfl;have d0:=hd 0 _ rfl;rw [aq] at d0;have d1:=hd 1 _ rfl;clear hc hd;go_wp2_with fail;refine aQ kR kR ?_;repeat (quiet_step ((go_at_call 142;exact bh (Ju _ _))))
    exact jV
  . exact ja
theorem SlD.put {α:Type}{R:fS α}{sz base n g:Nat}{w:World}{p:OA}{l:List α}(hR:Rok R sz)(h:SlD R sz base w p n l)(hg:g<base)(j:Nat)(v:Value):SlD R sz base (w.setCell (ad g j) v) p n l :=
 h.mt hR ((fw w [g]).setCell (p:=(ad g j)) (by simp) v) hg
theorem SlD.flat {α:Type}{enc:α->List Value}{sz base n:Nat}{w:World}{p:OA}{l:List α}(h:SlD (Fl enc) sz base w p n l):SlT enc sz w p n l :=
 ⟨h.1,h.2.elim ay λ⟨b,off,hp,_,hb,hc,_⟩=>aB ⟨b,off,hp,hb,λ k x hx j v hv=>by obtain⟨cs,h1,h2⟩:=hc k x hx;obtain rfl:cs=enc x:=h1;exact h2 j v hv⟩⟩
theorem SlD.of_owns {α:Type}{enc:α->List Value}{sz base n c:Nat}{w:World}{e:TypeId}{p:OA}{l:List α}(hsz:∀ x,(enc x).length=sz)(hl:l.length=n)(h:w.ownsRow base e sz (sl p n c) n (l.flatMap enc)):SlD (Fl enc) sz base w p n l:=by
 have hs:=bm hsz hl h;refine⟨hl,hs.2.elim ay λ⟨b,off,hp,hb,hc⟩=>?_⟩;by_cases h0:n=0
 . exact ay h0
 . refine aB ⟨b,off,hp,?_,hb,λ k x hx=>⟨enc x,rfl,λ j v hv=>hc k x hx j v hv⟩,λ _=>⟨?_,λ k x hx=>⟨enc x,rfl,λ j v hv=>hc k x hx j v hv⟩⟩⟩
   . subst hp;exact (h.lt b rfl).1
   . obtain⟨_,h3⟩:=h;rcases h3 with ⟨_,h3⟩ | ⟨g',cap,cur,hv,_,hh,_⟩
     . exact absurd h3 h0
     . subst hp
       cases hv
       exact⟨cur,e,hh⟩
theorem JW (p:OA)(n c base:Nat)(l:List Int)(w:World)(h:SlD (Fl bi) 1 base w p n l)(hn:n<=1048576) :
 Calls prog 171 #[sl p n c] w λ e w'=>∃ q,e=.returned (sl q n n)/\SlD (Fl bi) 1 w w' q n l/\Ext w w' :=
 (IW p n c l w h.flat hn).mono λ _ _ ⟨q,h1,h2,h3⟩=>⟨q,h1,SlD.of_owns nV h.length h2,h3⟩
theorem JX (p1 p2:OA)(n c1 c2 b1 b2:Nat)(l:List Int)(w:World)(h1:SlD (Fl bi) 1 b1 w p1 n l)(h2:SlD (Fl bi) 1 b2 w p2 n l)(hn:n<=1048576) :
 CE 208 #[sl p1 n c1,sl p2 n c2] w (.bool true):=IX p1 p2 n c1 c2 l w h1.flat h2.flat hn
theorem JY (x:DvD)(p1:OA)(n1 c1 base:Nat)(w:World)(s1:SlD (Fl bi) 1 base w p1 n1 x.pins)(m1:n1<=1048576) :
 Calls prog 110 #[.agg #[x.a,sl p1 n1 c1,x.b,x.c]] w λ e w'=>∃ q1,e=.returned (.agg #[x.a,sl q1 n1 n1,x.b,x.c])/\SlD (Fl bi) 1 w w' q1 n1 x.pins/\Ext w w':=by
 go_enter func110,ntmps110;go_upto_region 2 with (fail);generalize hW:World.alloc (World.alloc (World.alloc _ _) _) _=W0;obtain⟨E0,z0,b0,b1,b2⟩:=fu hW;clear hW;replace z0:=aa z0;have b0:Blk W0 w [_,_,_,_] _:=b0;have b1:Blk W0 (w+1) [_,_,_,_] _:=b1;have b2:Blk W0 (w+1+1) [_,_,_,_] _:=b2;have E:=aa E0;clear E0;replace b0:=aa b0;replace b1:=aa b1;replace b2:=aa b2;have⟨g0,l0⟩:=b0.gl;have g1:=b1.cells;have f1:=b1.free;have l1:=b1.lt;have g2:=b2.cells;have f2:=b2.free;have l2:=b2.lt;have EX1:=aa (E.setCell (p:=(ad (w+1+1) 0)) (by show w.heap.size<=w.heap.size+1+1;omega) x.a);go_wp2_with fail;refine (JW p1 n1 c1 base x.pins _ (s1.ext cW EX1.out) m1).mono ?_;rintro e w1 ⟨q1,rfl,t1,E1⟩;replace t1:=aa (t1.low cW (b':=w.heap.size+3) (by have:=z0.out;simp [World.setCell];omega));have z1:=aa (show w.heap.size+3<=w1.heap.size from by have:=z0.out;have:=E1.le;simp [World.setCell] at this;omega);clear z0;have z0:=z1;clear z1;replace b0:=aa ((b0.other (B:=w.heap.size+1+1) 0 x.a oM).ext E1);replace b1:=aa ((b1.other (B:=w.heap.size+1+1) 0 x.a oM).ext E1);replace b2:=aa ((b2.set 0 x.a).ext E1);replace E:=aa (EX1.trans E1);clear g0 l0 g1 f1 l1 g2 f2 l2 EX1 E1;have⟨g0,l0⟩:=b0.gl;have g1:=b1.cells;have f1:=b1.free;have l1:=b1.lt;have g2:=b2.cells;have f2:=b2.free;have l2:=b2.lt;go_wp2_with fail;have kB:=(((((((b1.other (B:=w.heap.size+1+1) 1 (sl q1 n1 n1) oM).other (B:=w.heap.size+1+1) 2 x.b oM).other (B:=w.heap.size+1+1) 3 x.c oM).set 0 x.a).set 1 (sl q1 n1 n1)).set 2 x.b).set 3 x.c).cells;have hE:=(((((((E.setCell (p:=(ad (w+1+1) 1)) (by show w.heap.size<=w.heap.size+1+1;omega) (sl q1 n1 n1)).setCell (p:=(ad (w+1+1) 2)) (by show w.heap.size<=w.heap.size+1+1;omega) x.b).setCell (p:=(ad (w+1+1) 3)) (by show w.heap.size<=w.heap.size+1+1;omega) x.c).setCell (p:=(ad (w+1) 0)) (by show w.heap.size<=w.heap.size+1;omega) x.a).setCell (p:=(ad (w+1) 1)) (by show w.heap.size<=w.heap.size+1;omega) (sl q1 n1 n1)).setCell (p:=(ad (w+1) 2)) (by show w.heap.size<=w.heap.size+1;omega) x.b).setCell (p:=(ad (w+1) 3)) (by show w.heap.size<=w.heap.size+1;omega) x.c);refine bB (v:=.agg #[x.a,sl q1 n1 n1,x.b,x.c]) (by simp [results,Tryz.results110,go_sem,kB]) rfl ⟨q1,rfl,(((((((t1.put cW (g:=w.heap.size+1+1) oM 1 (sl q1 n1 n1)).put cW (g:=w.heap.size+1+1) oM 2 x.b).put cW (g:=w.heap.size+1+1) oM 3 x.c).put cW (g:=w.heap.size+1) oM 0 x.a).put cW (g:=w.heap.size+1) oM 1 (sl q1 n1 n1)).put cW (g:=w.heap.size+1) oM 2 x.b).put cW (g:=w.heap.size+1) oM 3 x.c).low cW oM,hE⟩
theorem JZ (x:CeD)(p1 p2 p3:OA)(n1 c1 n2 c2 n3 c3 base:Nat)(w:World)(s1:SlD (Fl bg) 5 base w p1 n1 x.shs)(m1:n1<=1048576)(s2:SlD (Fl dL) 4 base w p2 n2 x.lbs)(m2:n2<=1048576)(s3:SlD (Fl cV) 8 base w p3 n3 x.ins)(m3:n3<=1048576) :
 Calls prog 169 #[.agg #[.string x.s,sl p1 n1 c1,sl p2 n2 c2,sl p3 n3 c3]] w λ e w'=>∃ q1 q2 q3,e=.returned (.agg #[.string x.s,sl q1 n1 n1,sl q2 n2 n2,sl q3 n3 n3])/\SlD (Fl bg) 5 w w' q1 n1 x.shs/\SlD (Fl dL) 4 w w' q2 n2 x.lbs/\SlD (Fl cV) 8 w w' q3 n3 x.ins/\Ext w w':=by
 go_enter func169,ntmps169;go_upto_region 2 with (fail);generalize hW:World.alloc (World.alloc (World.alloc _ _) _) _=W0;obtain⟨E0,z0,b0,b1,b2⟩:=fu hW;clear hW;replace z0:=aa z0;have b0:Blk W0 w [_,_,_,_] _:=b0;have b1:Blk W0 (w+1) [_,_,_,_] _:=b1;have b2:Blk W0 (w+1+1) [_,_,_,_] _:=b2;have E:=aa E0;clear E0;replace b0:=aa b0;replace b1:=aa b1;replace b2:=aa b2;have⟨g0,l0⟩:=b0.gl;have g1:=b1.cells;have f1:=b1.free;have l1:=b1.lt;have g2:=b2.cells;have f2:=b2.free;have l2:=b2.lt;have EX1:=aa (E.setCell (p:=(ad (w+1+1) 0)) (by show w.heap.size<=w.heap.size+1+1;omega) (.string x.s));go_wp2_with fail;refine (JF p1 n1 c1 base x.shs _ (s1.ext okShape EX1.out) m1).mono ?_;rintro e w1 ⟨q1,rfl,t1,E1⟩;replace t1:=aa (t1.low okShape (b':=w.heap.size+3) (by have:=z0.out;simp [World.setCell];omega));have z1:=aa (show w.heap.size+3<=w1.heap.size from by have:=z0.out;have:=E1.le;simp [World.setCell] at this;omega);clear z0;have z0:=z1;clear z1;replace b0:=aa ((b0.other (B:=w.heap.size+1+1) 0 (.string x.s) oM).ext E1);replace b1:=aa ((b1.other (B:=w.heap.size+1+1) 0 (.string x.s) oM).ext E1);replace b2:=aa ((b2.set 0 (.string x.s)).ext E1);replace E:=aa (EX1.trans E1);clear g0 l0 g1 f1 l1 g2 f2 l2 EX1 E1;have⟨g0,l0⟩:=b0.gl;have g1:=b1.cells;have f1:=b1.free;have l1:=b1.lt;have g2:=b2.cells;have f2:=b2.free;have l2:=b2.lt;have EX2:=aa (E.setCell (p:=(ad (w+1+1) 1)) (by show w.heap.size<=w.heap.size+1+1;omega) (sl q1 n1 n1));go_wp2_with fail;refine (JH p2 n2 c2 base x.lbs _ (s2.ext okLabel EX2.out) m2).mono ?_;rintro e w2 ⟨q2,rfl,t2,E2⟩;replace t2:=aa (t2.low okLabel (b':=w.heap.size+3) (by have:=z0.out;simp [World.setCell];omega));have z2:=aa (show w.heap.size+3<=w2.heap.size from by have:=z0.out;have:=E2.le;simp [World.setCell] at this;omega);clear z0;have z0:=z2;clear z2;replace t1:=aa ((t1.put okShape (g:=w.heap.size+1+1) oM 1 (sl q1 n1 n1)).ext okShape E2);replace b0:=aa ((b0.other (B:=w.heap.size+1+1) 1 (sl q1 n1 n1) oM).ext E2);replace b1:=aa ((b1.other (B:=w.heap.size+1+1) 1 (sl q1 n1 n1) oM).ext E2);replace b2:=aa ((b2.set 1 (sl q1 n1 n1)).ext E2);replace E:=aa (EX2.trans E2);clear g0 l0 g1 f1 l1 g2 f2 l2 EX2 E2;have⟨g0,l0⟩:=b0.gl;have g1:=b1.cells;have f1:=b1.free;have l1:=b1.lt;have g2:=b2.cells;have f2:=b2.free;have l2:=b2.lt;have EX3:=aa (E.setCell (p:=(ad (w+1+1) 2)) (by show w.heap.size<=w.heap.size+1+1;omega) (sl q2 n2 n2));go_wp2_with fail;refine (JJ p3 n3 c3 base x.ins _ (s3.ext okInstance EX3.out) m3).mono ?_;rintro e w3 ⟨q3,rfl,t3,E3⟩;replace t3:=aa (t3.low okInstance (b':=w.heap.size+3) (by have:=z0.out;simp [World.setCell];omega));have z3:=aa (show w.heap.size+3<=w3.heap.size from by have:=z0.out;have:=E3.le;simp [World.setCell] at this;omega);clear z0;have z0:=z3;clear z3;replace t1:=aa ((t1.put okShape (g:=w.heap.size+1+1) oM 2 (sl q2 n2 n2)).ext okShape E3);replace t2:=aa ((t2.put okLabel (g:=w.heap.size+1+1) oM 2 (sl q2 n2 n2)).ext okLabel E3);replace b0:=aa ((b0.other (B:=w.heap.size+1+1) 2 (sl q2 n2 n2) oM).ext E3);replace b1:=aa ((b1.other (B:=w.heap.size+1+1) 2 (sl q2 n2 n2) oM).ext E3);replace b2:=aa ((b2.set 2 (sl q2 n2 n2)).ext E3);replace E:=aa (EX3.trans E3);clear g0 l0 g1 f1 l1 g2 f2 l2 EX3 E3;have⟨g0,l0⟩:=b0.gl;have g1:=b1.cells;have f1:=b1.free;have l1:=b1.lt;have g2:=b2.cells;have f2:=b2.free;have l2:=b2.lt;go_wp2_with fail;have kB:=(((((b1.other (B:=w.heap.size+1+1) 3 (sl q3 n3 n3) oM).set 0 (.string x.s)).set 1 (sl q1 n1 n1)).set 2 (sl q2 n2 n2)).set 3 (sl q3 n3 n3)).cells;have hE:=(((((E.setCell (p:=(ad (w+1+1) 3)) (by show w.heap.size<=w.heap.size+1+1;omega) (sl q3 n3 n3)).setCell (p:=(ad (w+1) 0)) (by show w.heap.size<=w.heap.size+1;omega) (.string x.s)).setCell (p:=(ad (w+1) 1)) (by show w.heap.size<=w.heap.size+1;omega) (sl q1 n1 n1)).setCell (p:=(ad (w+1) 2)) (by show w.heap.size<=w.heap.size+1;omega) (sl q2 n2 n2)).setCell (p:=(ad (w+1) 3)) (by show w.heap.size<=w.heap.size+1;omega) (sl q3 n3 n3));refine bB (v:=.agg #[.string x.s,sl q1 n1 n1,sl q2 n2 n2,sl q3 n3 n3]) (by simp [results,Tryz.results169,go_sem,kB]) rfl ⟨q1,q2,q3,rfl,(((((t1.put okShape (g:=w.heap.size+1+1) oM 3 (sl q3 n3 n3)).put okShape (g:=w.heap.size+1) oM 0 (.string x.s)).put okShape (g:=w.heap.size+1) oM 1 (sl q1 n1 n1)).put okShape (g:=w.heap.size+1) oM 2 (sl q2 n2 n2)).put okShape (g:=w.heap.size+1) oM 3 (sl q3 n3 n3)).low okShape oM,(((((t2.put okLabel (g:=w.heap.size+1+1) oM 3 (sl q3 n3 n3)).put okLabel (g:=w.heap.size+1) oM 0 (.string x.s)).put okLabel (g:=w.heap.size+1) oM 1 (sl q1 n1 n1)).put okLabel (g:=w.heap.size+1) oM 2 (sl q2 n2 n2)).put okLabel (g:=w.heap.size+1) oM 3 (sl q3 n3 n3)).low okLabel oM,(((((t3.put okInstance (g:=w.heap.size+1+1) oM 3 (sl q3 n3 n3)).put okInstance (g:=w.heap.size+1) oM 0 (.string x.s)).put okInstance (g:=w.heap.size+1) oM 1 (sl q1 n1 n1)).put okInstance (g:=w.heap.size+1) oM 2 (sl q2 n2 n2)).put okInstance (g:=w.heap.size+1) oM 3 (sl q3 n3 n3)).low okInstance oM,hE⟩
theorem J0 (x:DvD)(p1 q1:OA)(n1 c1 d1 b1 b2:Nat)(w:World)(s1:SlD (Fl bi) 1 b1 w p1 n1 x.pins)(t1:SlD (Fl bi) 1 b2 w q1 n1 x.pins)(m1:n1<=1048576) :
 CE 141 #[.agg #[x.a,sl p1 n1 c1,x.b,x.c],.agg #[x.a,sl q1 n1 d1,x.b,x.c]] w (.bool true):=by
 go_enter func141,ntmps141;go_upto_region 1 with (fail);generalize hW:World.alloc (World.alloc _ _) _=W0;obtain⟨E0,z0,a0,a1⟩:=bV hW;clear hW z0;replace a0:=du a0;replace a1:=du a1;have⟨g0,l0⟩:=a0.gl;have⟨g1,l1⟩:=a1.gl;have E:=ab W0;go_wp2_with fail;refine (JX p1 q1 n1 c1 d1 b1 b2 x.pins _ (s1.ext cW (E0.trans E)) (t1.ext cW (E0.trans E)) m1).mono ?_;exact vO
theorem J1 (x:CeD)(p1 q1 p2 q2 p3 q3:OA)(n1 c1 d1 n2 c2 d2 n3 c3 d3 b1 b2:Nat)(w:World)(s1:SlD (Fl bg) 5 b1 w p1 n1 x.shs)(t1:SlD (Fl bg) 5 b2 w q1 n1 x.shs)(m1:n1<=1048576)(s2:SlD (Fl dL) 4 b1 w p2 n2 x.lbs)(t2:SlD (Fl dL) 4 b2 w q2 n2 x.lbs)(m2:n2<=1048576)(s3:SlD (Fl cV) 8 b1 w p3 n3 x.ins)(t3:SlD (Fl cV) 8 b2 w q3 n3 x.ins)(m3:n3<=1048576) :
 CE 206 #[.agg #[.string x.s,sl p1 n1 c1,sl p2 n2 c2,sl p3 n3 c3],.agg #[.string x.s,sl q1 n1 d1,sl q2 n2 d2,sl q3 n3 d3]] w (.bool true):=by
 go_enter func206,ntmps206;go_upto_region 1 with (fail);generalize hW:World.alloc (World.alloc _ _) _=W0;obtain⟨E0,z0,a0,a1⟩:=bV hW;clear hW z0;replace a0:=du a0;replace a1:=du a1;have⟨g0,l0⟩:=a0.gl;have⟨g1,l1⟩:=a1.gl;have E:=ab W0;go_wp2_with fail;refine (JQ p1 q1 n1 c1 d1 b1 b2 x.shs _ (s1.ext okShape (E0.trans E)) (t1.ext okShape (E0.trans E)) m1).mono ?_;rintro e w1 ⟨rfl,E1⟩;replace E:=E.trans E1;clear g0 l0 g1 l1 E1;have⟨g0,l0⟩:=(a0.ext E).gl;have⟨g1,l1⟩:=(a1.ext E).gl;go_wp2_with fail;refine (JR p2 q2 n2 c2 d2 b1 b2 x.lbs _ (s2.ext okLabel (E0.trans E)) (t2.ext okLabel (E0.trans E)) m2).mono ?_;rintro e w2 ⟨rfl,E2⟩;replace E:=E.trans E2;clear g0 l0 g1 l1 E2;have⟨g0,l0⟩:=(a0.ext E).gl;have⟨g1,l1⟩:=(a1.ext E).gl;go_wp2_with fail;refine (JS p3 q3 n3 c3 d3 b1 b2 x.ins _ (s3.ext okInstance (E0.trans E)) (t3.ext okInstance (E0.trans E)) m3).mono ?_;rintro e w3 ⟨rfl,E3⟩;replace E:=E.trans E3;clear g0 l0 g1 l1 E3;exact qS
end Go.Proofs.YtnlajnpcdnnpmaaGreat

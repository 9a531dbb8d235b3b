/- Part of a proof. No condition. -/
import Derived.Test.YtnlajnpcdnnpmaaGreatA39
namespace Go.Proofs.YtnlajnpcdnnpmaaGreat
set_option linter.all false
set_option maxRecDepth 100000
set_option maxHeartbeats 16000000
open Go.Proofs.Tryz Go.RowKit Go.PlainAid
theorem eC {l:List Q4}(h:aH l=true):l.length<=3200:=by rw [aH,cm] at h;have h1:=h.1;rw [eS,cm,dS] at h1;exact h1.1
theorem QM (q:OA)(n c:Nat)(L:List (List Q4))(g:Nat)(lb:Array Value)(eg:∀ args w,(callFunc g args).run prog w=.ok (.enter g args) w)(w:World)
 (h:SlS w q n L) (hp:∀ (W:World) (l:List Q4) (q1:OA) (n1 c1:Nat),Ext w W->l∈L->SlT aj 4 W q1 n1 l->Calls prog g (#[.slice q1 n1 c1]++lb) W λ e w2=>e=.returned (.bool false)/\Ext W w2) (hn:n<=1048576) :
 CE 281 #[sl q n c,.func (.func g) #[] lb] w (-1:Int):=by
 go_enter func281,ntmps281;go_wp2;go_loopw [5,8] (λ _ i wr=>∃ k:Nat,k<=n/\i=.int .i64 k/\Ext w wr) (λ _ i _=>n - (intOf i).toNat)
 case atStart=>exact⟨0,oM,rfl,ab _⟩
 case round =>
  obtain⟨k,hk,rfl,hE⟩:=hrel;by_cases hlt:k<n
  . have hkI:(k:Int)<(n:Int):=oM;obtain⟨b,off,q1,n1,c1,l,rfl,hb,hx,z,s⟩:=(h.ext hE).get hlt;have hcall:=aa (hp wr l q1 n1 c1 hE (ap hx.out) s);clear s;exact Av
  . have hkI:¬ (k:Int)<(n:Int):=oM;exact ja
theorem QN (q:OA)(n c:Nat)(L:List (List Q4))(g:Nat)(lb:Array Value)(eg:∀ args w,(callFunc g args).run prog w=.ok (.enter g args) w)(w:World)
 (h:SlS w q n L) (hp:∀ (W:World) (l:List Q4) (q1:OA) (n1 c1:Nat),Ext w W->l∈L->SlT aj 4 W q1 n1 l->Calls prog g (#[.slice q1 n1 c1]++lb) W λ e w2=>e=.returned (.bool false)/\Ext W w2) (hn:n<=1048576) :
 CE 190 #[sl q n c,.func (.func g) #[] lb] w (.bool false):=by
 go_enter func190,ntmps190;go_wp2_with (go_at_call 281;refine (QM q n c L g lb eg _ h hp hn).mono ?_;rintro e w' ⟨rfl,hE⟩);go_ret;exact⟨rfl,hE⟩
theorem QO (q:OA)(n c:Nat)(l:List Q4)(w:World)(h:SlT aj 4 w q n l)(hn:n<=1048576)(hr:aH l=true) :
 CE 191 #[sl q n c] w (.bool false):=by
 have hreg:=lH q n c l w h hn;rw [hr] at hreg;go_enter func191,ntmps191;exact sV
theorem QP (q:OA)(c:Nat)(L:List (List Q4))(w:World)(h:SlS w q 8 L)(hr:∀ l∈L,aH l=true) :
 CE 124 #[sl q 8 c] w (.bool true):=by
 have hc:=aa (QN q 8 c L 191 #[] (λ _ _=>rfl) w h (λ W l q1 n1 c1 hE hl hs=>QO q1 n1 c1 l W hs (by have:=eC (hr l hl);have:=hs.length;omega) (hr l hl)) oM);go_enter func124,ntmps124;exact sV
theorem QQ (q:OA)(c:Nat)(L:List (List Q4))(w:World)(h:SlS w q 8 L)(hr:∀ l∈L,aH l=true) :
 CE 100 #[sl q 8 c] w (.bool true):=by
 replace hr:=aa hr;go_enter func100,ntmps100;exact zo
theorem qt (q:OA)(c:Nat)(L:List (List Q4))(w:World)(h:SlS w q 8 L)(hr:∀ l∈L,aH l=true) :
 CE 233 #[sl q 8 c] w (.bool true):=by
 replace hr:=aa hr;go_enter func233,ntmps233;exact zo
theorem iC {L:List (List Q4)}{k:Nat}{l:List Q4}(h:L[k]?=some l):L.getD k []=l:=by rw [kz,h];rfl
theorem QR (q:OA)(c:Nat)(L:List (List Q4))(kb kc:Nat)(d e:Int)(w:World)(h:SlS w q 8 L)(hr:∀ l∈L,aH l=true)(hb:kb<8)(hc:kc<8)(hd:ae d 1 8=true) :
 Calls prog 194 #[sl q 8 c,.agg #[(0:Int),(kb:Int),(kc:Int),d,e]] w (bH (iW (L.getD kb []) d) w):=by
 have hl8:=h.length;obtain⟨b0,off,q1,n1,c1,l1,rfl,hb0,e1,z1,s1⟩:=h.get hb;obtain⟨b9,off9,q2,n2,c2,l2,e9,hb9,e2,z2,s2⟩:=h.get hc
 cases e9
 have r1:=hr l1 (ap e1.out);have r2:=hr l2 (ap e2.out);have m1:=eC r1;have m2:=eC r2;have hn1:=s1.length;have hn2:=s2.length;rw [iC e1.out];have hcall:=aa (λ W (hE:Ext w W)=>O3 q1 n1 c1 l1 d W (s1.ext hE) oM);have hbI:(kb:Int)<8:=oM;have hcI:(kc:Int)<8:=oM;clear hr r1 r2 m1 m2 h s1 s2 hd hn1 hn2 hl8 e1 e2;go_enter func194,ntmps194;go_upto_region 1 with (fail);generalize hW:World.alloc _ _=W0;obtain⟨E0,z0,bx⟩:=al hW;clear hW z0;replace bx:=aa (show Blk W0 w [(0:Int),(kb:Int),(kc:Int),d,e] _ from bx);exact pj
theorem QS (q:OA)(c:Nat)(L:List (List Q4))(kb kc:Nat)(d e:Int)(w:World)(h:SlS w q 8 L)(hr:∀ l∈L,aH l=true)(hb:kb<8)(hc:kc<8)(hd:ae d 1 8=true) :
 Calls prog 194 #[sl q 8 c,.agg #[(1:Int),(kb:Int),(kc:Int),d,e]] w (bH (iX (L.getD kb []) d) w):=by
 have hl8:=h.length;obtain⟨b0,off,q1,n1,c1,l1,rfl,hb0,e1,z1,s1⟩:=h.get hb;obtain⟨b9,off9,q2,n2,c2,l2,e9,hb9,e2,z2,s2⟩:=h.get hc
 cases e9
 have r1:=hr l1 (ap e1.out);have r2:=hr l2 (ap e2.out);have m1:=eC r1;have m2:=eC r2;have hn1:=s1.length;have hn2:=s2.length;rw [iC e1.out];have hcall:=aa (λ W (hE:Ext w W)=>Pe q1 n1 c1 l1 d W (s1.ext hE) oM);have hbI:(kb:Int)<8:=oM;have hcI:(kc:Int)<8:=oM;clear hr r1 r2 m1 m2 h s1 s2 hd hn1 hn2 hl8 e1 e2;go_enter func194,ntmps194;go_upto_region 1 with (fail);generalize hW:World.alloc _ _=W0;obtain⟨E0,z0,bx⟩:=al hW;clear hW z0;replace bx:=aa (show Blk W0 w [(1:Int),(kb:Int),(kc:Int),d,e] _ from bx);exact pj
theorem QT (q:OA)(c:Nat)(L:List (List Q4))(kb kc:Nat)(d e:Int)(w:World)(h:SlS w q 8 L)(hr:∀ l∈L,aH l=true)(hb:kb<8)(hc:kc<8)(hd:ae d 1 8=true) :
 Calls prog 194 #[sl q 8 c,.agg #[(2:Int),(kb:Int),(kc:Int),d,e]] w (bH (mM (L.getD kb []) (L.getD kc []) d) w):=by
 have hl8:=h.length;obtain⟨b0,off,q1,n1,c1,l1,rfl,hb0,e1,z1,s1⟩:=h.get hb;obtain⟨b9,off9,q2,n2,c2,l2,e9,hb9,e2,z2,s2⟩:=h.get hc
 cases e9
 have r1:=hr l1 (ap e1.out);have r2:=hr l2 (ap e2.out);have m1:=eC r1;have m2:=eC r2;have hn1:=s1.length;have hn2:=s2.length;rw [iC e1.out,iC e2.out];have hcall:=aa (λ W (hE:Ext w W)=>P2 q1 q2 n1 c1 n2 c2 l1 l2 d W (s1.ext hE) oM (s2.ext hE) oM r1 r2 hd);have hbI:(kb:Int)<8:=oM;have hcI:(kc:Int)<8:=oM;clear hr r1 r2 m1 m2 h s1 s2 hd hn1 hn2 hl8 e1 e2;go_enter func194,ntmps194;go_upto_region 1 with (fail);generalize hW:World.alloc _ _=W0;obtain⟨E0,z0,bx⟩:=al hW;clear hW z0;replace bx:=aa (show Blk W0 w [(2:Int),(kb:Int),(kc:Int),d,e] _ from bx);exact pj
theorem QU (q:OA)(c:Nat)(L:List (List Q4))(kb kc:Nat)(d e:Int)(w:World)(h:SlS w q 8 L)(hr:∀ l∈L,aH l=true)(hb:kb<8)(hc:kc<8)(hd:ae d 1 8=true) :
 Calls prog 194 #[sl q 8 c,.agg #[(3:Int),(kb:Int),(kc:Int),d,e]] w (bH (mN (L.getD kb []) (L.getD kc []) d) w):=by
 have hl8:=h.length;obtain⟨b0,off,q1,n1,c1,l1,rfl,hb0,e1,z1,s1⟩:=h.get hb;obtain⟨b9,off9,q2,n2,c2,l2,e9,hb9,e2,z2,s2⟩:=h.get hc
 cases e9
 have r1:=hr l1 (ap e1.out);have r2:=hr l2 (ap e2.out);have m1:=eC r1;have m2:=eC r2;have hn1:=s1.length;have hn2:=s2.length;rw [iC e1.out,iC e2.out];have hcall:=aa (λ W (hE:Ext w W)=>Qb q1 q2 n1 n2 c1 c2 l1 l2 d W (s1.ext hE) (s2.ext hE) oM oM r1 r2 (by rw [wit_iff] at *;omega));have hbI:(kb:Int)<8:=oM;have hcI:(kc:Int)<8:=oM;clear hr r1 r2 m1 m2 h s1 s2 hd hn1 hn2 hl8 e1 e2;go_enter func194,ntmps194;go_upto_region 1 with (fail);generalize hW:World.alloc _ _=W0;obtain⟨E0,z0,bx⟩:=al hW;clear hW z0;replace bx:=aa (show Blk W0 w [(3:Int),(kb:Int),(kc:Int),d,e] _ from bx);exact pj
theorem QV (q:OA)(c:Nat)(L:List (List Q4))(kb kc:Nat)(d e:Int)(w:World)(h:SlS w q 8 L)(hr:∀ l∈L,aH l=true)(hb:kb<8)(hc:kc<8)(hd:ae d 1 6400=true) :
 Calls prog 194 #[sl q 8 c,.agg #[(4:Int),(kb:Int),(kc:Int),d,e]] w (bH (mO (L.getD kb []) d) w):=by
 have hl8:=h.length;obtain⟨b0,off,q1,n1,c1,l1,rfl,hb0,e1,z1,s1⟩:=h.get hb;obtain⟨b9,off9,q2,n2,c2,l2,e9,hb9,e2,z2,s2⟩:=h.get hc
 cases e9
 have r1:=hr l1 (ap e1.out);have r2:=hr l2 (ap e2.out);have m1:=eC r1;have m2:=eC r2;have hn1:=s1.length;have hn2:=s2.length;rw [iC e1.out];have hcall:=aa (λ W (hE:Ext w W)=>P8 q1 n1 c1 l1 d W (s1.ext hE) oM r1 hd);have hbI:(kb:Int)<8:=oM;have hcI:(kc:Int)<8:=oM;clear hr r1 r2 m1 m2 h s1 s2 hd hn1 hn2 hl8 e1 e2;go_enter func194,ntmps194;go_upto_region 1 with (fail);generalize hW:World.alloc _ _=W0;obtain⟨E0,z0,bx⟩:=al hW;clear hW z0;replace bx:=aa (show Blk W0 w [(4:Int),(kb:Int),(kc:Int),d,e] _ from bx);exact pj
theorem QW (q:OA)(c:Nat)(L:List (List Q4))(kb kc:Nat)(d e:Int)(w:World)(h:SlS w q 8 L)(hr:∀ l∈L,aH l=true)(hb:kb<8)(hc:kc<8)(hd:ae d 4 40=true/\ae e 1 100=true) :
 Calls prog 194 #[sl q 8 c,.agg #[(5:Int),(kb:Int),(kc:Int),d,e]] w (bH (mP (L.getD kb []) d e) w):=by
 have hl8:=h.length;obtain⟨b0,off,q1,n1,c1,l1,rfl,hb0,e1,z1,s1⟩:=h.get hb;obtain⟨b9,off9,q2,n2,c2,l2,e9,hb9,e2,z2,s2⟩:=h.get hc
 cases e9
 have r1:=hr l1 (ap e1.out);have r2:=hr l2 (ap e2.out);have m1:=eC r1;have m2:=eC r2;have hn1:=s1.length;have hn2:=s2.length;rw [iC e1.out];have hcall:=aa (λ W (hE:Ext w W)=>Qe q1 n1 c1 l1 d e W (s1.ext hE) oM r1 hd.1 hd.2);have hbI:(kb:Int)<8:=oM;have hcI:(kc:Int)<8:=oM;clear hr r1 r2 m1 m2 h s1 s2 hd hn1 hn2 hl8 e1 e2;go_enter func194,ntmps194;go_upto_region 1 with (fail);generalize hW:World.alloc _ _=W0;obtain⟨E0,z0,bx⟩:=al hW;clear hW z0;replace bx:=aa (show Blk W0 w [(5:Int),(kb:Int),(kc:Int),d,e] _ from bx);exact pj
theorem QX (q:OA)(c:Nat)(L:List (List Q4))(kb kc:Nat)(d e:Int)(w:World)(h:SlS w q 8 L)(hr:∀ l∈L,aH l=true)(hb:kb<8)(hc:kc<8)(hd:ae d 1 8=true)(hvr:au ⟨0,kb,kc,d,e⟩=true) :
 Calls prog 163 #[sl q 8 c,.agg #[(0:Int),(kb:Int),(kc:Int),d,e]] w (bH (iW (L.getD kb []) d) w):=by
 have hl8:=h.length;obtain⟨b0,off,q1,n1,c1,l1,rfl,hb0,e1,z1,s1⟩:=h.get hb;obtain⟨b9,off9,q2,n2,c2,l2,e9,hb9,e2,z2,s2⟩:=h.get hc
 cases e9
 have r1:=hr l1 (ap e1.out);have r2:=hr l2 (ap e2.out);have m1:=eC r1;have m2:=eC r2;have hn1:=s1.length;have hn2:=s2.length;rw [iC e1.out];have hcall:=aa (λ W (hE:Ext w W)=>O8 q1 n1 c1 l1 d W (s1.ext hE) oM);have hly:=aa (λ W (hE:Ext w W)=>qt (so b0 off) c L W (h.ext hE) hr);have hvl:=λ W=>ng ⟨0,kb,kc,d,e⟩ W
 rw [hvr] at hvl;replace hvl:=aa hvl;have hbI:(kb:Int)<8:=oM;have hcI:(kc:Int)<8:=oM;clear hr r1 r2 m1 m2 h s1 s2 hd hn1 hn2 hl8 e1 e2 hvr;go_enter func163,ntmps163;go_upto_region 1 with (fail);generalize hW:World.alloc _ _=W0;obtain⟨E0,z0,bx⟩:=al hW;clear hW z0;replace bx:=aa (show Blk W0 w [(0:Int),(kb:Int),(kc:Int),d,e] _ from bx);exact sJ
theorem QY (q:OA)(c:Nat)(L:List (List Q4))(kb kc:Nat)(d e:Int)(w:World)(h:SlS w q 8 L)(hr:∀ l∈L,aH l=true)(hb:kb<8)(hc:kc<8)(hd:ae d 1 8=true)(hvr:au ⟨1,kb,kc,d,e⟩=true) :
 Calls prog 163 #[sl q 8 c,.agg #[(1:Int),(kb:Int),(kc:Int),d,e]] w (bH (iX (L.getD kb []) d) w):=by
 have hl8:=h.length;obtain⟨b0,off,q1,n1,c1,l1,rfl,hb0,e1,z1,s1⟩:=h.get hb;obtain⟨b9,off9,q2,n2,c2,l2,e9,hb9,e2,z2,s2⟩:=h.get hc
 cases e9
 have r1:=hr l1 (ap e1.out);have r2:=hr l2 (ap e2.out);have m1:=eC r1;have m2:=eC r2;have hn1:=s1.length;have hn2:=s2.length;rw [iC e1.out];have hcall:=aa (λ W (hE:Ext w W)=>PN q1 n1 c1 l1 d W (s1.ext hE) oM);have hly:=aa (λ W (hE:Ext w W)=>qt (so b0 off) c L W (h.ext hE) hr);have hvl:=λ W=>ng ⟨1,kb,kc,d,e⟩ W
 rw [hvr] at hvl;replace hvl:=aa hvl;have hbI:(kb:Int)<8:=oM;have hcI:(kc:Int)<8:=oM;clear hr r1 r2 m1 m2 h s1 s2 hd hn1 hn2 hl8 e1 e2 hvr;go_enter func163,ntmps163;go_upto_region 1 with (fail);generalize hW:World.alloc _ _=W0;obtain⟨E0,z0,bx⟩:=al hW;clear hW z0;replace bx:=aa (show Blk W0 w [(1:Int),(kb:Int),(kc:Int),d,e] _ from bx);exact sJ
theorem QZ (q:OA)(c:Nat)(L:List (List Q4))(kb kc:Nat)(d e:Int)(w:World)(h:SlS w q 8 L)(hr:∀ l∈L,aH l=true)(hb:kb<8)(hc:kc<8)(hd:ae d 1 8=true)(hvr:au ⟨2,kb,kc,d,e⟩=true) :
 Calls prog 163 #[sl q 8 c,.agg #[(2:Int),(kb:Int),(kc:Int),d,e]] w (bH (mM (L.getD kb []) (L.getD kc []) d) w):=by
 have hl8:=h.length;obtain⟨b0,off,q1,n1,c1,l1,rfl,hb0,e1,z1,s1⟩:=h.get hb;obtain⟨b9,off9,q2,n2,c2,l2,e9,hb9,e2,z2,s2⟩:=h.get hc
 cases e9
 have r1:=hr l1 (ap e1.out);have r2:=hr l2 (ap e2.out);have m1:=eC r1;have m2:=eC r2;have hn1:=s1.length;have hn2:=s2.length;rw [iC e1.out,iC e2.out];have hcall:=aa (λ W (hE:Ext w W)=>PO q1 q2 n1 c1 n2 c2 l1 l2 d W (s1.ext hE) oM (s2.ext hE) oM r1 r2 hd);have hly:=aa (λ W (hE:Ext w W)=>qt (so b0 off) c L W (h.ext hE) hr);have hvl:=λ W=>ng ⟨2,kb,kc,d,e⟩ W
 rw [hvr] at hvl;replace hvl:=aa hvl;have hbI:(kb:Int)<8:=oM;have hcI:(kc:Int)<8:=oM;clear hr r1 r2 m1 m2 h s1 s2 hd hn1 hn2 hl8 e1 e2 hvr;go_enter func163,ntmps163;go_upto_region 1 with (fail);generalize hW:World.alloc _ _=W0;obtain⟨E0,z0,bx⟩:=al hW;clear hW z0;replace bx:=aa (show Blk W0 w [(2:Int),(kb:Int),(kc:Int),d,e] _ from bx);have⟨g0,l0⟩:=bx.gl;have y1:=(E0.cells _ _ hb0).trans z1;have y2:=(E0.cells _ _ hb0).trans z2;have hb1:=aF hb0 E0.le;clear z1 z2;go_upto_region 10 with (first | (go_at_call 233;(with_reducible refine (hly.out _ E0).mono ?_);rintro e w1 ⟨rfl,E1⟩;have E1h:=aa E1;have b1:=aa (bx.ext E1);clear g0 l0;have⟨g1,l1x⟩:=b1.gl) | (go_at_call 92;(with_reducible refine (hvl.out _).mono ?_);rintro e w2 ⟨rfl,E2⟩;have E02:=E1h.trans E2;have b2:=aa (b1.ext E2);clear g1 l1x;have⟨g2,l2x⟩:=b2.gl;have x1:=(E02.cells _ _ hb1).trans y1;have x2:=(E02.cells _ _ hb1).trans y2;have xb:=aF hb1 E02.le;have hX2:=aa (E0.trans E02);clear y1 y2 E2 E1 E02) | fail);exact zR
theorem Q0 (q:OA)(c:Nat)(L:List (List Q4))(kb kc:Nat)(d e:Int)(w:World)(h:SlS w q 8 L)(hr:∀ l∈L,aH l=true)(hb:kb<8)(hc:kc<8)(hd:ae d 1 8=true)(hvr:au ⟨3,kb,kc,d,e⟩=true) :
 Calls prog 163 #[sl q 8 c,.agg #[(3:Int),(kb:Int),(kc:Int),d,e]] w (bH (mN (L.getD kb []) (L.getD kc []) d) w):=by
 have hl8:=h.length;obtain⟨b0,off,q1,n1,c1,l1,rfl,hb0,e1,z1,s1⟩:=h.get hb;obtain⟨b9,off9,q2,n2,c2,l2,e9,hb9,e2,z2,s2⟩:=h.get hc
 cases e9
 have r1:=hr l1 (ap e1.out);have r2:=hr l2 (ap e2.out);have m1:=eC r1;have m2:=eC r2;have hn1:=s1.length;have hn2:=s2.length;rw [iC e1.out,iC e2.out];have hcall:=aa (λ W (hE:Ext w W)=>Qi q1 q2 n1 n2 c1 c2 l1 l2 d W (s1.ext hE) (s2.ext hE) oM oM r1 r2 (by rw [wit_iff] at *;omega));have hly:=aa (λ W (hE:Ext w W)=>qt (so b0 off) c L W (h.ext hE) hr);have hvl:=λ W=>ng ⟨3,kb,kc,d,e⟩ W
 rw [hvr] at hvl;replace hvl:=aa hvl;have hbI:(kb:Int)<8:=oM;have hcI:(kc:Int)<8:=oM;clear hr r1 r2 m1 m2 h s1 s2 hd hn1 hn2 hl8 e1 e2 hvr;go_enter func163,ntmps163;go_upto_region 1 with (fail);generalize hW:World.alloc _ _=W0;obtain⟨E0,z0,bx⟩:=al hW;clear hW z0;replace bx:=aa (show Blk W0 w [(3:Int),(kb:Int),(kc:Int),d,e] _ from bx);have⟨g0,l0⟩:=bx.gl;have y1:=(E0.cells _ _ hb0).trans z1;have y2:=(E0.cells _ _ hb0).trans z2;have hb1:=aF hb0 E0.le;clear z1 z2;go_upto_region 12 with (first | (go_at_call 233;(with_reducible refine (hly.out _ E0).mono ?_);rintro e w1 ⟨rfl,E1⟩;have E1h:=aa E1;have b1:=aa (bx.ext E1);clear g0 l0;have⟨g1,l1x⟩:=b1.gl) | (go_at_call 92;(with_reducible refine (hvl.out _).mono ?_);rintro e w2 ⟨rfl,E2⟩;have E02:=E1h.trans E2;have b2:=aa (b1.ext E2);clear g1 l1x;have⟨g2,l2x⟩:=b2.gl;have x1:=(E02.cells _ _ hb1).trans y1;have x2:=(E02.cells _ _ hb1).trans y2;have xb:=aF hb1 E02.le;have hX2:=aa (E0.trans E02);clear y1 y2 E2 E1 E02) | fail);exact zR
theorem Q1 (q:OA)(c:Nat)(L:List (List Q4))(kb kc:Nat)(d e:Int)(w:World)(h:SlS w q 8 L)(hr:∀ l∈L,aH l=true)(hb:kb<8)(hc:kc<8)(hd:ae d 1 6400=true)(hvr:au ⟨4,kb,kc,d,e⟩=true) :
 Calls prog 163 #[sl q 8 c,.agg #[(4:Int),(kb:Int),(kc:Int),d,e]] w (bH (mO (L.getD kb []) d) w):=by
 have hl8:=h.length;obtain⟨b0,off,q1,n1,c1,l1,rfl,hb0,e1,z1,s1⟩:=h.get hb;obtain⟨b9,off9,q2,n2,c2,l2,e9,hb9,e2,z2,s2⟩:=h.get hc
 cases e9
 have r1:=hr l1 (ap e1.out);have r2:=hr l2 (ap e2.out);have m1:=eC r1;have m2:=eC r2;have hn1:=s1.length;have hn2:=s2.length;rw [iC e1.out];have hcall:=aa (λ W (hE:Ext w W)=>QA q1 n1 c1 l1 d W (s1.ext hE) oM r1 hd);have hly:=aa (λ W (hE:Ext w W)=>qt (so b0 off) c L W (h.ext hE) hr);have hvl:=λ W=>ng ⟨4,kb,kc,d,e⟩ W
 rw [hvr] at hvl;replace hvl:=aa hvl;have hbI:(kb:Int)<8:=oM;have hcI:(kc:Int)<8:=oM;clear hr r1 r2 m1 m2 h s1 s2 hd hn1 hn2 hl8 e1 e2 hvr;go_enter func163,ntmps163;go_upto_region 1 with (fail);generalize hW:World.alloc _ _=W0;obtain⟨E0,z0,bx⟩:=al hW;clear hW z0;replace bx:=aa (show Blk W0 w [(4:Int),(kb:Int),(kc:Int),d,e] _ from bx);exact sJ
theorem Q6 (q:OA)(c:Nat)(L:List (List Q4))(kb kc:Nat)(d e:Int)(w:World)(h:SlS w q 8 L)(hr:∀ l∈L,aH l=true)(hb:kb<8)(hc:kc<8)(hd:ae d 4 40=true/\ae e 1 100=true)(hvr:au ⟨5,kb,kc,d,e⟩=true) :
 Calls prog 163 #[sl q 8 c,.agg #[(5:Int),(kb:Int),(kc:Int),d,e]] w (bH (mP (L.getD kb []) d e) w):=by
 have hl8:=h.length;obtain⟨b0,off,q1,n1,c1,l1,rfl,hb0,e1,z1,s1⟩:=h.get hb;obtain⟨b9,off9,q2,n2,c2,l2,e9,hb9,e2,z2,s2⟩:=h.get hc
 cases e9
 have r1:=hr l1 (ap e1.out);have r2:=hr l2 (ap e2.out);have m1:=eC r1;have m2:=eC r2;have hn1:=s1.length;have hn2:=s2.length;rw [iC e1.out];have hcall:=aa (λ W (hE:Ext w W)=>QG q1 n1 c1 l1 d e W (s1.ext hE) oM r1 hd.1 hd.2);have hly:=aa (λ W (hE:Ext w W)=>qt (so b0 off) c L W (h.ext hE) hr);have hvl:=λ W=>ng ⟨5,kb,kc,d,e⟩ W
 rw [hvr] at hvl;replace hvl:=aa hvl;have hbI:(kb:Int)<8:=oM;have hcI:(kc:Int)<8:=oM;clear hr r1 r2 m1 m2 h s1 s2 hd hn1 hn2 hl8 e1 e2 hvr;go_enter func163,ntmps163;go_upto_region 1 with (fail);generalize hW:World.alloc _ _=W0;obtain⟨E0,z0,bx⟩:=al hW;clear hW z0;replace bx:=aa (show Blk W0 w [(5:Int),(kb:Int),(kc:Int),d,e] _ from bx);exact sJ
theorem Q7 (q:OA)(c:Nat)(L:List (List Q4))(r:RuD)(w:World)(h:SlS w q 8 L)(hr:∀ l∈L,aH l=true)(hv:au r=true) :
 Calls prog 194 #[sl q 8 c,.agg #[r.a,r.b,r.c,r.d,r.e]] w (bH (fG L r) w):=by
 obtain⟨a,b,cc,d,e⟩:=r;have hv0:=hv;unfold au at hv;simp only [cm,wit_iff] at hv;obtain⟨ha,hb,hv⟩:=hv;obtain⟨kb,rfl⟩:∃ k:Nat,b=(k:Int):=⟨b.toNat,oM⟩;rcases (show a=0\/a=1\/a=2\/a=3\/a=4\/a=5 by omega) with rfl | rfl | rfl | rfl | rfl | rfl
 . have pA:=@QR;exact wa
 . have pA:=@QS;exact wa
 . have pA:=@QT;exact C5
 . have pA:=@QU;exact C5
 . have pA:=@QV;exact wa
 . simp [wit_iff] at hv;obtain⟨rfl,hv⟩:=hv;have h9:=QW q c L kb 0 d e w h hr oM oM (by rw [wit_iff,wit_iff];omega);exact pq
theorem Q8 (q:OA)(c:Nat)(L:List (List Q4))(r:RuD)(w:World)(h:SlS w q 8 L)(hr:∀ l∈L,aH l=true)(hv:au r=true) :
 Calls prog 163 #[sl q 8 c,.agg #[r.a,r.b,r.c,r.d,r.e]] w (bH (fG L r) w):=by
 obtain⟨a,b,cc,d,e⟩:=r;have hv0:=hv;unfold au at hv;simp only [cm,wit_iff] at hv;obtain⟨ha,hb,hv⟩:=hv;obtain⟨kb,rfl⟩:∃ k:Nat,b=(k:Int):=⟨b.toNat,oM⟩;rcases (show a=0\/a=1\/a=2\/a=3\/a=4\/a=5 by omega) with rfl | rfl | rfl | rfl | rfl | rfl
 . have pA:=@QX;exact vZ
 . have pA:=@QY;exact vZ
 . have pA:=@QZ;exact C4
 . have pA:=@Q0;exact C4
 . have pA:=@Q1;exact vZ
 . simp [wit_iff] at hv;obtain⟨rfl,hv⟩:=hv;have h9:=Q6 q c L kb 0 d e w h hr oM oM (by rw [wit_iff,wit_iff];omega) hv0;exact pq
abbrev aV:=Int×ac
def iD (R:List RuD) (k:Nat):RuD:=R.getD k ⟨0,0,0,0,0⟩
def ku (L:List (List Q4)) (R:List RuD) (k:Nat):List aV:=(bk (gL (fG L (iD R k)))).map λ c=>((k:Int),c)
def cY (L:List (List Q4)) (R:List RuD) (n:Nat):List aV:=(List.range n).flatMap (ku L R)
def eZ (L:List (List Q4)) (R:List RuD):List aV:=cY L R R.length
theorem Ht (L:List (List Q4))(R:List RuD)(n:Nat):cY L R (n+1)=cY L R n++ku L R n:=by unfold cY;rw [la,dj];simp
theorem Q9 (L:List (List Q4))(R:List RuD)(k:Nat):(ku L R k).length<=6400:=by rw [ku,dD];exact (jI _).2.2.2
theorem Hu (L:List (List Q4))(R:List RuD):∀ n,(cY L R n).length<=6400*n
 | 0=>by simp [cY]
 | n+1=>by have h1:=Hu L R n;have h2:=Q9 L R n;rw [Ht,aI];omega
def sw (x y:aV):Prop:=x.1<y.1\/(x.1=y.1/\(∃ r rs s ss,ah x.2=r :: rs/\ah y.2=s :: ss/\nv r s)/\∀ u v,gh x.2 u v=true->gh y.2 u v=true->False)
theorem Ra (g:ac):(bk g).Pairwise λ c c'=>∃ r rs s ss,ah c=r :: rs/\ah c'=s :: ss/\nv r s:=by obtain⟨f,h1,h2⟩:=Fs g;rw [aL121];intro i j hi hj hij;obtain⟨rs,e1⟩:=h1 i (ah (bk g)[i]) (by rw [cK,bK hi];rfl);obtain⟨ss,e2⟩:=h1 j (ah (bk g)[j]) (by rw [cK,bK hj];rfl);exact⟨f i,rs,f j,ss,e1,e2,h2 i j hij hj⟩
theorem Rb (L:List (List Q4))(R:List RuD)(k:Nat):(ku L R k).Pairwise sw:=by rw [ku,List.pairwise_map];exact ((Ra _).and (Px _)).imp λ h=>aB ⟨rfl,h.1,h.2⟩
theorem Rc (L:List (List Q4))(R:List RuD)(n:Nat):(cY L R n).Pairwise sw:=by rw [cY,List.pairwise_flatMap];refine⟨λ k _=>Rb L R k,List.pairwise_lt_range.imp λ{a b} hab x hx y hy=>?_⟩;rw [ku,aL52] at hx hy;obtain⟨c,_,rfl⟩:=hx;obtain⟨d,_,rfl⟩:=hy;left;show (a:Int)<(b:Int);omega
structure RpOk (m:Int) (l:List aV):Prop where
 pair:l.Pairwise sw
 rule:∀ x∈l,0<=x.1/\x.1<m
 part:∀ x∈l,(bk (gL (ah x.2))).length=1
 hd:∀ x∈l,∃ r rs,ah x.2=r :: rs
theorem Rd (L:List (List Q4))(R:List RuD):RpOk R.length (eZ L R):=by
 have hm:∀ x∈eZ L R,∃ k c,k<R.length/\c∈bk (gL (fG L (iD R k)))/\x=((k:Int),c):=by intro x hx;rw [eZ,cY,aL80] at hx;obtain⟨k,hk,hx⟩:=hx;rw [ku,aL52] at hx;obtain⟨c,hc,rfl⟩:=hx;exact⟨k,c,aL70.1 hk,hc,rfl⟩
 refine⟨Rc L R _,λ x hx=>?_,λ x hx=>?_,λ x hx=>?_⟩
 . obtain⟨k,c,hk,hc,rfl⟩:=hm x hx;show 0<=(k:Int)/\(k:Int)<_;omega
 . obtain⟨k,c,hk,hc,rfl⟩:=hm x hx;exact Pw hc
 . obtain⟨k,c,hk,hc,rfl⟩:=hm x hx;exact Py hc
theorem RpOk.lt {m:Int}{l:List aV}(h:RpOk m l){j k:Nat}{x y:aV}(hjk:j<k)(hx:l[j]?=some x)(hy:l[k]?=some y):sw x y:=by obtain⟨h1,rfl⟩:=aL31.1 hx;obtain⟨h2,rfl⟩:=aL31.1 hy;exact aL121.1 h.pair j k h1 h2 hjk
def nC (R:List RuD) (x:aV):Int:=my (iD R x.1.toNat) (ah x.2)
def kv (W:List WvD) (n:Int):Bool:=W.any λ w=>w.a==n
def iE (R:List RuD) (W:List WvD) (l:List aV):List aV:=l.filter λ x=>!kv W (nC R x)
def iF (R:List RuD) (W:List WvD) (l:List aV):List aV:=l.filter λ x=>kv W (nC R x)
abbrev VX:=Int×Hd
def fV (x:VX):List Value:=[.int .i64 x.1,ci x.2]
theorem yE (x:VX):(fV x).length=2:=rfl
def nD (l:List aV):List (List Q4):=l.map λ x=>ah x.2
def OwVH (base:Nat) (w:World) (q:OA) (c:Nat) (l:List aV) (H:List VX):Prop:=OwnX fV Prod.snd 79 139 2 4 base w q l.length c H ((nD l).map (·.flatMap aj))/\H.map Prod.fst=l.map Prod.fst
def OwV (base:Nat) (w:World) (q:OA) (c:Nat) (l:List aV):Prop:=∃ H:List VX,OwVH base w q c l H
def SlV (w:World) (q:OA) (n:Nat) (l:List aV):Prop:=∃ H:List VX,SlX fV Prod.snd 2 aj 4 w q n H (nD l)/\H.map Prod.fst=l.map Prod.fst
theorem OwV.toV {base c:Nat}{w:World}{q:OA}{l:List aV}(h:OwV base w q c l):SlV w q l.length l:=let ⟨H,h1,h2⟩:=h;⟨H,h1.toX yE oM cw,h2⟩
theorem OwV.ext {base c:Nat}{w w':World}{q:OA}{l:List aV}(h:OwV base w q c l)(E:Ext w w'):OwV base w' q c l:=let ⟨H,h1,h2⟩:=h;⟨H,h1.ext E,h2⟩
theorem OwV.low {b b' c:Nat}{w:World}{q:OA}{l:List aV}(h:OwV b w q c l)(hb:b'<=b):OwV b' w q c l:=let ⟨H,h1,h2⟩:=h;⟨H,h1.low hb,h2⟩
theorem OwV.nil (base:Nat)(w:World):OwV base w none 0 []:=⟨[],OwnX.nil _ _,rfl⟩
theorem SlV.ext {w w':World}{q:OA}{n:Nat}{l:List aV}(h:SlV w q n l)(E:Ext w w'):SlV w' q n l:=let ⟨H,h1,h2⟩:=h;⟨H,h1.ext E,h2⟩
theorem SlV.length {w:World}{q:OA}{n:Nat}{l:List aV}(h:SlV w q n l):l.length=n:=by obtain⟨H,h1,h2⟩:=h;have:=h1.2.1;rwa [nD,dD] at this
theorem SlV.get {w:World}{q:OA}{n:Nat}{l:List aV}(h:SlV w q n l){k:Nat}(hk:k<n):∃ b off q1 n1 c1 x,q=so b off/\b<w.heap.size/\Hid (l[k]?=some x)/\w.cell? (ad b (off+k*2))=si x.1/\w.cell? (ad b (off+k*2+1))=ss q1 n1 c1/\SlT aj 4 w q1 n1 (ah x.2):=by
 have hln:=h.length;obtain⟨H,⟨h1,h3,h4⟩,h2⟩:=h;obtain⟨b,off,y,e1,e2,e3,e4⟩:=h1.get hk;have hx:l[k]?=some l[k]:=bK oM;have hf:y.1=l[k].1:=by have:=k9 (λ z=>z[k]?) h2;simp only [cK,e3.out,hx,Option.map_some] at this;exact cJ this
 have z0:=e4 0 _ rfl;have z1:=e4 1 _ rfl;refine⟨b,off,y.2.1,y.2.2.1,y.2.2.2,l[k],e1,e2,hx,?_,z1,h4 k y (ah l[k].2) e3.out (by rw [nD,cK,hx];rfl)⟩;rw [<-hf];simpa using z0
theorem uV:(prog.info? 79).map (λ i=>(i.zero,i.size,i.bytes))=some (some (.agg #[(0:Int),.slice none 0 0]),2,32):=by kernel_rfl
theorem uW {a b:World}{q:OA}{n c:Nat}(h:a.grownBy b (Value.slice q n c).ownBlock):Mut a b (ao q) :=
 ⟨h.os,h.tape,h.output,h.size,λ k hk hn=>h.block k hk (λ e=>hn (by rw [fd,eq_comm,ew] at e;exact mem_blkOf.2 e))⟩
structure CkI (w w1 w2 wr:World) (k:Nat) (l0:List aV) (G:List ac) (q2:OA) (c2:Nat) (HG:List Hd) (j:Nat) (q:OA) (c:Nat):Prop where
 out:∃ H:List VX,OwVH w wr q c (l0++(G.take j).map λ g=>((k:Int),g)) H/\∀ b,b∈di Prod.snd H->b<w1.heap.size\/∃ i h,i<j/\HG[i]?=some h/\b∈ao h.1
 parts:OwnS w1 wr q2 G.length c2 HG (dG (G.map ah))
 top:∀ b,b∈ao q->b<w1.heap.size\/w2.heap.size<=b
 low:∀ b,(b∈ao q2\/b∈kj HG)->b<w2.heap.size
 ext:Ext w wr
 sz:w2.heap.size<=wr.heap.size
 lo:w.heap.size<=w1.heap.size
theorem CkI.start {w w1 w2:World}{k c c2:Nat}{l0:List aV}{G:List ac}{q q2:OA}{HG:List Hd}(h:OwV w w1 q c l0)(E1:Ext w w1)(hp:OwnS w1 w2 q2 G.length c2 HG (dG (G.map ah)))(E2:Ext w1 w2):CkI w w1 w2 w2 k l0 G q2 c2 HG 0 q c:=by obtain⟨H,h1,h2⟩:=h;refine⟨⟨H,?_,λ b hb=>ay (h1.geRow b hb).2⟩,hp,λ b hb=>ay (h1.geTop b hb).2,λ b hb=>hb.elim (λ hb=>(hp.geTop b hb).2) (λ hb=>(hp.geRow b hb).2),E1.trans E2,ai _,E1.le⟩;rw [List.take_zero,nG,fP];exact⟨h1.ext E2,h2⟩
theorem CkI.later {w w1 w2 wr wx:World}{k c c2 j:Nat}{l0:List aV}{G:List ac}{q q2:OA}{HG:List Hd}(h:CkI w w1 w2 wr k l0 G q2 c2 HG j q c)(E:Ext wr wx):CkI w w1 w2 wx k l0 G q2 c2 HG j q c:=by obtain⟨⟨H,h1,h2⟩,h3,h4,h5,h6,h7,h8⟩:=h;exact⟨⟨H,⟨h1.1.ext E,h1.2⟩,h2⟩,h3.ext E,h4,h5,h6.trans E,aS h7 E.le,h8⟩
theorem CkI.own {w w1 w2 wr:World}{k c c2 j:Nat}{l0:List aV}{G:List ac}{q q2:OA}{HG:List Hd}(h:CkI w w1 w2 wr k l0 G q2 c2 HG j q c):OwV w wr q c (l0++(G.take j).map λ g=>((k:Int),g)):=let ⟨H,h1,_⟩:=h.out;⟨H,h1⟩
theorem CkI.at {w w1 w2 wr:World}{k c c2 j:Nat}{l0:List aV}{G:List ac}{q q2:OA}{HG:List Hd}(h:CkI w w1 w2 wr k l0 G q2 c2 HG j q c){i:Nat}(hi:i<G.length):∃ b g q1 n1 c1,q2=so b 0/\b<wr.heap.size/\Hid (G[i]?=some g/\HG[i]?=some (q1,n1,c1))/\wr.cell? (ad b i)=ss q1 n1 c1:=by
 obtain⟨b,rfl⟩:=jy h.parts.top oM;have hs:=bm (l:=HG) rz h.parts.len h.parts.top;obtain⟨b',off,x,e1,e2,e3,e4⟩:=hs.get hi
 cases e1
 refine⟨b,G[i],x.1,x.2.1,x.2.2,rfl,e2,⟨bK hi,e3.out⟩,?_⟩;have:=e4 0 _ rfl;simpa [iM,ci] using this
theorem CkI.push {w w1 w2 wr wA:World}{k c c2 j ca:Nat}{l0:List aV}{G:List ac}{q q2 qa:OA}{HG:List Hd}(h:CkI w w1 w2 wr k l0 G q2 c2 HG j q c){g:ac}{q1:OA}{n1 c1 n:Nat}(hn:(l0++(G.take j).map λ g=>((k:Int),g)).length=n)(hg:G[j]?=some g)(hh:HG[j]?=some (q1,n1,c1)){o:Obj}(H9:List Value)(hH9:∃ H:List VX,H9=H.flatMap fV/\OwVH w wr q c (l0++(G.take j).map λ g=>((k:Int),g)) H/\∀ b,b∈di Prod.snd H->b<w1.heap.size\/∃ i h,i<j/\HG[i]?=some h/\b∈ao h.1)
 (ht:wA.ownsRow w 79 2 (sl qa (n+1) ca) (n+1) (H9++[.int .i64 (k:Int),.slice q1 n1 c1])) (hgr:(wr.alloc o).grownBy wA (Value.slice q n c).ownBlock)
 (hb:(Value.slice qa (n+1) ca).ownBlock=(Value.slice q n c).ownBlock\/(Value.slice qa (n+1) ca).ownBlock=some (wr.alloc o).heap.size):CkI w w1 w2 wA k l0 G q2 c2 HG (j+1) qa ca:=by
 obtain⟨H,rfl,hO,hU⟩:=hH9;subst hn;have h5:=h.later ((ab wr).alloc o);have hO5:OwVH w (wr.alloc o) q c (l0++(G.take j).map λ g=>((k:Int),g)) H:=⟨hO.1.ext ((ab wr).alloc o),hO.2⟩;have hl2:(G.map ah)[j]?=some (ah g):=by rw [cK,hg];rfl
 have hrow:=h5.parts.row j (q1,n1,c1) ((ah g).flatMap aj) hh (by rw [dG,cK,hl2];rfl);have hxr:∀ b,b∈ao q1->b∈kj HG:=λ b hb=>mem_rowsB.2 ⟨j,_,hh,hb⟩
 have hge:∀ b,b∈ao q1->w1.heap.size<=b:=λ b hb=>(h5.parts.geRow b (hxr b hb)).1
 have hlt:∀ b,b∈ao q1->b<w2.heap.size:=λ b hb=>h.low b (aB (hxr b hb))
 have hq:=up (v:=.bool true) (v':=.bool true) hb;have e1:(l0++(G.take (j+1)).map λ g=>((k:Int),g))=(l0++(G.take j).map λ g=>((k:Int),g))++[((k:Int),g)]:=by rw [ch hg,dT,fc];rfl
 have hw1:=h.lo
 have hpush:=hO5.1.push (x:=((k:Int),(q1,n1,c1))) (v:=(ah g).flatMap aj) (mF hrow hw1) (λ b hb=>⟨λ h'=>by
  have h1:=hge b hb;have h2:=hlt b hb;rcases h.top b h' with h3 | h3 <;> omega,λ h'=>by
  have h1:=hge b hb;rcases hU b h' with h3 | ⟨i,h9,hi,hh9,hb9⟩
  . omega
  . exact h.parts.apart i j h9 (q1,n1,c1) oM hh9 hh b hb9 hb⟩) ht hgr hq
 have hkeepS:∀ b,b∈ao q->¬ (b∈ao q2\/b∈kj HG):=λ b hb hh2=>by have h2:=h.low b hh2;have h1:w1.heap.size<=b:=hh2.elim (λ h9=>(h.parts.geTop b h9).1) (λ h9=>(h.parts.geRow b h9).1);rcases h.top b hb with h3 | h3 <;> omega
 have M:Mut (wr.alloc o) wA (ao q):=uW hgr;refine⟨⟨H++[((k:Int),(q1,n1,c1))],⟨?_,?_⟩,λ b hb=>?_⟩,h5.parts.mut M (λ b hb hh2=>hkeepS b hh2 (ay hb)) (λ b hb hh2=>hkeepS b hh2 (aB hb)),λ b hb=>?_,h.low,h5.ext.then M (λ b hb=>(hO.1.geTop b hb).1),aS h5.sz hgr.size,h.lo⟩
 . rw [e1];have e2:((l0++(G.take j).map λ g=>((k:Int),g))++[((k:Int),g)]).length=(l0++(G.take j).map λ g=>((k:Int),g)).length+1:=by rw [aI];rfl
   rw [e2,nD,dT,dT];exact hpush
 . rw [e1,dT,dT,hO.2];rfl
 . rw [mem_rowsX] at hb;obtain⟨i,x,hx,hbx⟩:=hb;by_cases hi:i<H.length
   . rw [fm hi] at hx;rcases hU b (mem_rowsX.2 ⟨i,x,hx,hbx⟩) with h3 | ⟨i',h9,hi',hh9,hb9⟩
     . exact ay h3
     . exact aB ⟨i',h9,oM,hh9,hb9⟩
   . rw [jT oM] at hx;have:x=((k:Int),(q1,n1,c1)):=by have:=ap hx;simpa using this
     subst this;exact aB ⟨j,_,oM,hh,hbx⟩
 . rcases hq b hb with h3 | h3
   . exact h.top b h3
   . right;have:=h5.sz;omega
end Go.Proofs.YtnlajnpcdnnpmaaGreat

import Derived.Test.YthhcdfjijagalaaGreatM15
import Derived.Deep.CutBlock
set_option linter.all false
set_option maxHeartbeats 2000000
namespace Go.Proofs.YthhcdfjijagalaaGreat
open Qz Go.Proofs.Tryz Go.RowKit
theorem ic{w:World}{b g i:Nat}{o:Obj}(h:w.heap[b]?=some o)(e:b≠g)(v:Value):(w.setCell (g,i) v).heap[b]?=some o:=by
 rw[mG _ _ _ _ e];exact h
theorem EW(l:List Vw.Acc)(x:Vw.Acc):∀(i:Nat),i<l.length->((((gR l).set (i*4) x.s).set (i*4+1) x.sum).set (i*4+2) x.jO).set (i*4+3) (.bool x.xe)=gR (l.set i x):=by
 induction l with
 |nil=>intro i h;exact absurd h (by simp)
 |cons a l w=>
  intro i h;cases i with
  |zero=>rfl
  |succ i=>
   rw[iS];have m:gR (a::l)=oW a++gR l:=rfl;have o:gR (a::l.set i x)=oW a++gR (l.set i x):=rfl;rw[m,o,<-w i (by simpa using h)];have f:(oW a).length=4:=rfl;have e:∀(r:List Value) (j:Nat) (v:Value),(oW a++r).set ((i+1)*4+j) v=oW a++r.set (i*4+j) v:=fun r j v=>by rw[xp _ _ (by rw[f];omega),f];congr 2;omega
   have q:(oW a++gR l).set ((i+1)*4) x.s=oW a++(gR l).set (i*4) x.s:=e (gR l) 0 x.s;rw[q,e,e,e]
theorem Gl{w:World}{base g n cap:Nat}{l:List Vw.Acc}(h:w.ownsRow base 55 4 (some (g,gy),n,cap) n (gR l))(i:Nat)(hi:i<l.length)(x:Vw.Acc):
  ((((w.setCell (g,i*4) x.s).setCell ⟨g,i*4+1,none⟩ x.sum).setCell ⟨g,i*4+2,none⟩ x.jO).setCell ⟨g,i*4+3,none⟩ (.bool x.xe)).ownsRow base 55 4 (some (g,gy),n,cap) n (gR (l.set i x)):=by
 obtain⟨e,f,hb,m,hc,j,o⟩:=js h;have q:=jq (i:=i*4+3) (jq (i:=i*4+2) (jq (i:=i*4+1) (jq (i:=i*4) f x.s) x.sum) x.jO) (.bool x.xe);simp only[jM] at q;refine kQ q hb m hc (by simp only[kH];exact j) ?_;rw[tN,tN,tN,tN,o];exact EW l x i hi
theorem Nc(u:Int)(a:Option Addr)(n cap:Nat)(l:List Vw.Acc)(e:gD.Ev)(w:World)(h:As w a n cap l)(he:e.s.size<=maxLen)(h1:(Vw.iX ⟨u,l⟩).1=0)(h2:gD.iW e=0)(h3:u≠150)(h4:Vw.may (Vw.get l e.s) e=true):
  Calls prog 69 #[iJ u a n cap,jG e] w (vU ⟨⟨u+1,Vw.ins (Vw.plus (Vw.get l e.s) e) l⟩,0⟩ w):=by
 have D:=gx (fun W (V:As W a n cap l)=>mL u a n cap l W V);have D2:=gx (fun W=>pe e he W);have D3:=gx (fun W (V:As W a n cap l)=>yU u a n cap l e.s W V);have D4:=gx (fun W=>Da (Vw.get l e.s) e W);rw[h2] at D2;rw[h4] at D4;have hG:=(Vw.l9 ⟨u,l⟩).1 h1;have uM:=gD.lC h2;have ax:=gx (hG.each.bounds e.s hG.lo);have hu:u<=150:=hG.hi;have aU:0<=u:=hG.lo;have aq:=hG.len;have ag:=h.jO;replace hG:=gx hG;replace h2:=gx h2;replace h4:=gx h4;obtain⟨s,k,m⟩:=e;simp only at D3 D4 ax;obtain⟨A,hA⟩:∃A,A=Vw.get l s:=⟨_,rfl⟩;rw[<-hA] at D3 D4 ax;replace hA:=gx hA;obtain⟨f,Am,r,Ao⟩:=A;generalize Vw.iX ⟨u,l⟩=E at h1 D;obtain⟨E1,E2⟩:=E;have h1:E1=0:=h1;subst h1;unfold iJ jG;unfold iJ oB at D;unfold jG at D2 D4;unfold oA at D3 D4;unfold iJ at D3;simp only at D D2 D3 D4⊢;have t0:(u==150)=false:=jB.2 h3;replace h3:=gx h3;obtain⟨g1,g2,g3,g4⟩:=ax.out;obtain⟨_,_,_,m0,m1⟩:=uM;have hn:n<=150:=by have:(l.length:Int)<=u:=aq;omega
 replace ag:=gx ag;clear aq;obtain⟨I,C,hP,ar,au,aw⟩:∃I C,Vw.plus ⟨f,Am,r,Ao⟩ ⟨s,k,m⟩=⟨f,I,r+1,C⟩/\(k=2->I=Am+m/\C=Ao)/\(k=3->I=Am-m/\C=Ao)/\(k≠2->k≠3->I=Am/\C=decide (k=1)):=by
  unfold Vw.plus;by_cases G:k=2;·subst G;exact⟨Am+m,Ao,rfl,fun _=>⟨rfl,rfl⟩,fun e=>absurd e (by decide),fun e=>absurd rfl e⟩
  .by_cases S:k=3;·subst S;exact⟨Am-m,Ao,rfl,fun e=>absurd e (by decide),fun _=>⟨rfl,rfl⟩,fun _ e=>absurd rfl e⟩
   .exact⟨Am,decide (k=1),by rw[gC G,gC S],fun e=>absurd e G,fun e=>absurd e S,fun _ _=>⟨rfl,rfl⟩⟩
 replace hP:=gx hP;replace ar:=gx ar;replace au:=gx au;replace aw:=gx aw;go_enter func69,ntmps69;go_wp2_with fail;go_at_call 68;refine(D _ (((h.alloc _).alloc _).alloc _)).mono ?_;rintro e w1⟨rfl,b1⟩;obtain⟨v1,v2,v3,aR,hb⟩:=kL w _ _ _ w1 b1;clear b1;have r0:(w1.alloc (.cells #[gy,E2] 73)).cell? (w.heap.size+1,gy)=some (.string s):=gw (gF v2);have r1:(w1.alloc (.cells #[gy,E2] 73)).cell? (w.heap.size+1,ia)=some (.int .i64 k):=gw (gF v2);have r2:(w1.alloc (.cells #[gy,E2] 73)).cell? (w.heap.size+1,j6)=some (.int .i64 m):=gw (gF v2);go_wp2_with fail;go_at_call 65;refine(D2 _).mono ?_;rintro e w2⟨rfl,b2⟩;replace v1:=iT v1 b2;replace v2:=iT v2 b2;replace v3:=iT v3 b2;replace hb:=kg hb b2;clear b2 r0 r1 r2;obtain⟨p0,p1⟩:=lv v1;have p2:w2.cell? (w.heap.size+1,gy)=some (.string s):=gw v2;go_wp2_with fail;go_at_call 36;refine(D3 _ (h.below hb)).mono ?_;rintro e w3⟨rfl,b3⟩;replace v2:=gB v2 b3;replace v3:=gB v3 b3;replace hb:=gH hb b3;replace v1:=gB v1 b3;have aS:=iq v3;clear b3 p0 p1 p2;obtain⟨ba,Y⟩:∃ba,w3.heap.size=ba:=⟨_,rfl⟩;replace Y:=gx Y;have r0:(w3.alloc (.cells #[f,Am,r,.bool Ao] 55)).cell? (w.heap.size+1,gy)=some (.string s):=gw (gF v2);have r1:(w3.alloc (.cells #[f,Am,r,.bool Ao] 55)).cell? (w.heap.size+1,ia)=some (.int .i64 k):=gw (gF v2);have r2:(w3.alloc (.cells #[f,Am,r,.bool Ao] 55)).cell? (w.heap.size+1,j6)=some (.int .i64 m):=gw (gF v2);go_wp2_with fail;go_at_call 92;refine(D4 _).mono ?_;rintro e w4⟨rfl,b4⟩;replace v1:=iT v1 b4;replace v2:=iT v2 b4;replace v3:=iT v3 b4;have v4:w4.heap[w3.heap.size]?=some (.cells #[f,Am,r,.bool Ao] 55):=gB (gO w3 _) b4;have az:=hb;replace hb:=kg hb b4;clear b4 r0 r1 r2;rw[Y.out] at v4⊢;have p1:w4.cell? (w.heap.size+1,ia)=some (.int .i64 k):=gw v2;have p2:w4.cell? (w.heap.size+1,j6)=some (.int .i64 m):=gw v2;have a1:w4.cell? (ba,ia)=some (.int .i64 Am):=gw v4;have a3:w4.cell? (ba,jF)=some (.bool Ao):=gw v4;have f1:w4.frozen? (ba,ia)=false:=gA v4;have f3:w4.frozen? (ba,jF)=false:=gA v4;have P:w.heap.size<=ba:=by rw[<-Y.out];exact az.size
 obtain⟨aj,ak,al⟩:w.heap.size≠ba/\w.heap.size+1≠ba/\w.heap.size+1+1≠ba:=by rw[<-Y.out];omega
 go_upto_block 0 with(fail);go_cut[] from 41 to 60 (fun wc=>wc.heap[w.heap.size]?=some (.cells #[u,(a,n,cap)] 30)/\wc.heap[w.heap.size+1]?=some (.cells #[s,k,m] 78)/\wc.heap[w.heap.size+1+1]?=some (.cells #[gy,()] 30)/\wc.heap[ba]?=some (.cells #[f,I,r,.bool C] 55)/\Below w w wc);case first=>
  by_cases G:k=2
  .subst G;obtain⟨rfl,rfl⟩:=ar rfl;have s1:IntKind.i64.wrap (Am+m)=Am+m:=iO _ (by omega);go_wp2_with fail;go_meet;exact⟨ic v1 aj _,ic v2 ak _,ic v3 al _,jq v4 _,hb.setCell P _⟩
  .have t2:(k==2)=false:=jB.2 G;by_cases S:k=3
   .subst S;obtain⟨rfl,rfl⟩:=au rfl;have s1:IntKind.i64.wrap (Am-m)=Am-m:=iO _ (by omega);go_wp2_with fail;go_meet;exact⟨ic v1 aj _,ic v2 ak _,ic v3 al _,jq v4 _,hb.setCell P _⟩
   .have t3:(k==3)=false:=jB.2 S;obtain⟨rfl,ad⟩:=aw G S;have ad:C=(k==1):=by rw[ad];by_cases e:k=1<;>simp[e]
    replace ad:=gx ad;replace G:=gx G;replace S:=gx S;go_wp2_with fail;go_meet;rw[ad.out];exact⟨ic v1 aj _,ic v2 ak _,ic v3 al _,jq v4 _,hb.setCell P _⟩
 case rest=>
  obtain⟨c1,c2,c3,c4,hc⟩:=hcut;clear v1 v2 v3 v4 p1 p2 a1 a3 f1 f3;have a2:wc.cell? (ba,j6)=some (.int .i64 r):=gw c4;have f2:wc.frozen? (ba,j6)=false:=gA c4;have s2:IntKind.i64.wrap (r+1)=r+1:=iO _ (by omega);go_upto_region 19 with(fail);obtain⟨q,V⟩:∃q,wc.setCell (ba,j6) (.int .i64 (r+1))=q:=⟨_,rfl⟩;have d1:q.heap[w.heap.size]?=some (.cells #[u,(a,n,cap)] 30):=V▸ic c1 aj _;have d2:q.heap[w.heap.size+1]?=some (.cells #[s,k,m] 78):=V▸ic c2 ak _;have d3:q.heap[w.heap.size+1+1]?=some (.cells #[gy,()] 30):=V▸ic c3 al _;have d4:q.heap[ba]?=some (.cells #[f,I,.int .i64 (r+1),.bool C] 55):=V▸jq c4 _;have hd:Below w w q:=V▸hc.setCell P _;rw[V];clear V c1 c2 c3 c4 hc a2 f2 s2 hb az;have D5:=gx (show∀W,Below q q W->Calls prog 11 #[(a,n,cap)] W (fun e w'=>∃N F,e=.returned (.slice N n F)/\Below q q w'/\w'.ownsRow q.heap.size 55 4 (.slice N n F) n (gR l)/\w'.cell? (w,gy)=some (.int .i64 u)/\w'.cell? (w,ia)=some (.slice a n cap)/\∀b o,W.heap[b]?=some o->w'.heap[b]?=some o) from fun W X=>
   (qT a n cap l W ((h.below hd).below X) (by omega)).mono fun e w'⟨v,h1,h2,h3⟩=>by obtain⟨N,F,rfl,_⟩:=gK h3;exact⟨N,F,h1,gH X h2,hJ h3 X.size,gw (gB (gB d1 X) h2),gw (gB (gB d1 X) h2),fun b o hb=>gB hb h2⟩)
  obtain⟨k0,k1⟩:=lv d1;have s3:IntKind.i64.wrap (u+1)=u+1:=iO _ (by omega);have y0:w.heap.size<q.heap.size:=iq d1;have y1:w.heap.size≠q.heap.size:=by omega
  have y2:q.heap.size≠w.heap.size:=by omega
  go_cut[9] from 65 to 93 (fun s9 wx=>∃Q N F,s9=.pointer (some ⟨Q,0,none⟩)/\wx.heap[Q]?=some (.cells #[.int .i64 (u+1),.slice N n F] 30)/\wx.ownsRow q.heap.size 55 4 (.slice N n F) n (gR l)/\q.heap.size<=Q/\Below q q wx);case first=>
   go_region_held3 (fun w'=>w'.cell? (w,gy)=some (.int .i64 u)/\w'.cell? (w,ia)=some (.slice a n cap)) (first|exact⟨k0,k1⟩|exact⟨G,S⟩|exact⟨(ik y0).trans k0,(ik y0).trans k1⟩|exact⟨(ik y5).trans G,(ik y5).trans S⟩|go_keep)
    (first|(go_at_call 11;refine(D5 _ ?_).mono ?_;(repeat (first|assumption|exact iU _ _|refine below_drewN ?_ _|refine iV ?_|refine m6 ?_ gM _));rintro e w5⟨N,F,rfl,b5,o5,G,S,jj⟩;have j0:=gx G;have j1:=gx G;have j2:=gx G;have j3:=gx G;have j4:=gx G;(try have j0:=jj q.heap.size (.cells #[gy,()] 30) (by first|exact gO q _|exact gO q.drew _));(try have j1:=gw (i:=0) j0);(try have j2:=gw (i:=1) j0);(try have j3:=gA (i:=0) j0);(try have j4:=gA (i:=1) j0);(try replace jj:=gx jj);have y5:w.heap.size<w5.heap.size:=iM _ _ G;have y6:w.heap.size≠w5.heap.size:=om y5;have y7:=lE y6))
   all_goals (go_wp2_with fail;go_meet)
   .exact⟨w5.heap.size,N,F,rfl,gO w5 _,gL o5 (gZ.alloc gM _),b5.size,b5.alloc b5.size _⟩
   .have aB:=gP o5 j0 (by decide);exact⟨q.heap.size,N,F,rfl,pL j0 _ _,ji (ji o5 aB _) aB _,jb _,(b5.setCell gM _).setCell gM _⟩
  case rest=>
   obtain⟨Q,N,F,rfl,O,x2,x3,x4⟩:=hcut;have y3:=gB d2 x4;have U:=gB d3 x4;have y5:=gB d4 x4;replace hd:=hd.trans (x4.mono hd.size);have aK:=iq d3;have aL:=iq d4;clear D5 k0 k1 d1 d2 d3 d4 x4;have af:As wc N n F l:=by obtain⟨a',ap,e,hs⟩:=gK x2;cases e;exact⟨hs,h.ok⟩
   have D6:=gx (Bg N n F l s wc af (fun i j hi hj aE=>hG.up.get i j hi hj aE) (by omega));have q0:wc.cell? (w.heap.size+1,gy)=some (.string s):=gw y3;have q1:wc.cell? (Q,ia)=some (.slice N n F):=gw O;go_upto_region 20 with(fail);go_wp2_with fail;go_at_call 93;refine D6.mono ?_;rintro e w6⟨i,hi,rfl,ab,ai,b6⟩;replace ab:=gx ab;replace ai:=gx ai;replace O:=gB O b6;replace x2:=gL x2 b6;replace U:=gB U b6;replace y5:=gB y5 b6;replace hd:=gH hd b6;clear q0 q1 y3 b6 D6 af;have aG:f=s:=by have:=Vw.Jf l s;rw[<-hA.out] at this;exact this
   subst aG;have B:Vw.plus (Vw.get l f) ⟨f,k,m⟩=⟨f,I,r+1,C⟩:=by rw[<-hA.out];exact hP
   replace B:=gx B;obtain⟨a0,a1,a2,a3⟩:=Lm y5;obtain⟨o0,o1⟩:=lv O;by_cases hf:(l[i]?).map Vw.key=some (gD.kP f)
   .have K:=kr hf;rw[K];clear K;have Z:i<l.length:=by
     rcases qi i l.length with hh|hh
     .exact hh
     .rw[rz hh] at hf;cases hf
    rw[jz Z,re] at hf;have aA:=gx (kO hf);clear hf;have aQ:i<n:=by rw[<-ag.out];exact Z
    obtain⟨g,cp,e,aM,aN,aO,aP⟩:=jR x2 (by omega);cases e;have af:As w6 (some (g,gy)) n F l:=by obtain⟨a',ap,e,hs⟩:=gK x2;cases e;exact⟨hs,h.ok⟩
    obtain⟨r0,r1,r2,r3⟩:=af.at i Z;simp only[jk] at r0 r1 r2 r3;obtain⟨aJ,aD,_⟩:=js x2;have f0:∀j,w6.frozen? ⟨g,j,none⟩=false:=fun j=>gA aD;have i0:(0:Int)<=(i:Int):=by omega
    have i1:(i:Int)<(n:Int):=by omega
    have n1:g≠Q:=fun e=>gP x2 O (by decide) (by rw[e];rfl);have n2:Q≠g:=fun e=>n1 e.symm;have n3:g≠w.heap.size+1+1:=fun e=>gP x2 U (by decide) (by rw[e];rfl);have n4:w.heap.size+1+1≠g:=fun e=>n3 e.symm;obtain⟨t1,t2⟩:=lv U;have t3:∀j,w6.frozen? ⟨w.heap.size+1+1,j,none⟩=false:=fun j=>gA U;have L:=Vw.CL ⟨f,I,r+1,C⟩ l i Z ab aA;have ah:w.heap.size<=g:=by omega
    go_wp2_with fail;have ow:=Gl x2 i Z ⟨f,I,r+1,C⟩;have ae:=ji (a:=(w.heap.size+1+1,ia)) (ji (a:=(w.heap.size+1+1,gy)) ow (by intro e;exact n3 (by simpa[Value.ownBlock] using e)) (.int .i64 (u+1))) (by intro e;exact n3 (by simpa[Value.ownBlock] using e)) (some (g,gy),n,F);obtain⟨a',ap,e,hs⟩:=gK ae;cases e;have ay:=hJ ae (pp y0);refine gS (v:=.tuple #[.agg #[.int .i64 (u+1),(some (g,gy),n,F)],gy]) (by simp[results,results69,go_sem,t1,t2]) rfl ⟨_,_,_,rfl,?_,(((((hd.setCell ah _).setCell ah _).setCell ah _).setCell ah _).setCell (by show w.heap.size<=w.heap.size+1+1;omega) _).setCell (by show w.heap.size<=w.heap.size+1+1;omega) _,by show World.ownsRow _ _ _ _ _ _ (gR (Vw.ins (Vw.plus (Vw.get l f) ⟨f,k,m⟩) l));rw[B.out,L];exact ay⟩;show As _ _ _ _ (Vw.ins (Vw.plus (Vw.get l f) ⟨f,k,m⟩) l);rw[B.out,L];refine⟨hs,fun x hx=>?_⟩;rcases lH hx with hx|rfl
    .exact h.ok x hx
    .exact he
   .have K:=ju hf;rw[K];clear K;replace hf:=gx hf;have aF:i<=n:=by rw[<-ag.out];exact hi
    have z1:=gO w6 (.cells #[f,I,.int .i64 (r+1),.bool C] 55);have z2:=gL x2 (gZ.alloc gM (.cells #[f,I,.int .i64 (r+1),.bool C] 55));have z3:(Value.slice N n F).ownBlock≠some w6.heap.size:=fun e=>absurd (x2.lt _ e).2 (oP _);have z4:q.heap.size<=(w6.alloc (.cells #[f,I,.int .i64 (r+1),.bool C] 55)).heap.size:=by have:=iq O;simp only[jH];omega
    have D7:=gx (AG (N,n,F) n l i ⟨f,I,r+1,C⟩ w6.heap.size q.heap.size _ z2 z4 (by omega) aF z3 z1);have aH:=gP z2 (gF O) (by decide);replace O:=gF (o':=.cells #[f,I,.int .i64 (r+1),.bool C] 55) O;replace U:=gF (o':=.cells #[f,I,.int .i64 (r+1),.bool C] 55) U;replace hd:=hd.alloc hd.size (.cells #[f,I,.int .i64 (r+1),.bool C] 55);have L:=Vw.Ec ⟨f,I,r+1,C⟩ l i hi ab (fun hh=>⟨ai i hh gM,fun e=>hf (by rw[jz hh,re];exact congrArg some e)⟩);go_wp2_with fail;go_at_call 96;refine D7.mono ?_;rintro e w7⟨v',rfl,o7⟩;replace O:=ie z2 o7.grown O (by decide);replace U:=ie z2 o7.grown U (by decide);replace hd:=qw (hJ z2 (pp y0)) hd (by have:=iq O;omega) o7.grown;have ao:=o7.own;obtain⟨a',c',rfl,aT⟩:=gK ao;clear z1 z2 z3 z4 D7 a0 a1 a2 a3 o0 o1 o7 ab ai;have m1:Q≠w.heap.size+1+1:=by omega
    have m2:w.heap.size+1+1≠Q:=by omega
    have m3:w.heap.size<=Q:=by omega
    obtain⟨t1,t2⟩:=lv U;have t3:∀j,w7.frozen? ⟨w.heap.size+1+1,j,none⟩=false:=fun j=>gA U;have t4:∀j,w7.frozen? ⟨Q,j,none⟩=false:=fun j=>gA O;obtain⟨t5,t6⟩:=lv O;have r1:=gP ao O (by decide);have r2:=gP ao U (by decide);go_wp2_with fail;have ae:=ji (a:=(w.heap.size+1+1,ia)) (ji (a:=(w.heap.size+1+1,gy)) (ji (a:=(Q,ia)) ao r1 (a',(n+1),c')) r2 (.int .i64 (u+1))) r2 (a',(n+1),c');obtain⟨aI,aC,e,hs⟩:=gK ae;cases e;have ay:=hJ ae (pp y0);refine gS (v:=.tuple #[.agg #[.int .i64 (u+1),(a',(n+1),c')],gy]) (by simp[results,results69,go_sem,t1,t2]) rfl ⟨_,_,_,rfl,?_,((hd.setCell m3 _).setCell (by show w.heap.size<=w.heap.size+1+1;omega) _).setCell (by show w.heap.size<=w.heap.size+1+1;omega) _,by show World.ownsRow _ _ _ _ _ _ (gR (Vw.ins (Vw.plus (Vw.get l f) ⟨f,k,m⟩) l));rw[B.out,L];exact ay⟩;show As _ _ _ _ (Vw.ins (Vw.plus (Vw.get l f) ⟨f,k,m⟩) l);rw[B.out,L];refine⟨hs,fun x hx=>?_⟩;rcases kd.1 hx with hx|hx
    .exact h.ok x (ry hx)
    .rcases jC.1 hx with rfl|hx
     .exact he
     .exact h.ok x (tD hx)
theorem EL(u:Int)(a:Option Addr)(n cap:Nat)(l:List Vw.Acc)(e:gD.Ev)(w:World)(h:As w a n cap l)(q:e.s.size<=maxLen):
  Calls prog 69 #[iJ u a n cap,jG e] w (vU (Vw.apply ⟨u,l⟩ e) w):=by
 unfold Vw.apply;by_cases f:(Vw.iX ⟨u,l⟩).1≠0;·rw[gG f];exact M8 u a n cap l e w h f
 .rw[gC f];have f:(Vw.iX ⟨u,l⟩).1=0:=mU f;by_cases j:gD.iW e≠0;·rw[gG j];exact M9 u a n cap l e w h q f j
  .rw[gC j];have j:gD.iW e=0:=mU j;by_cases m:u=150
   .rw[gG m];subst m;exact Na a n cap l e w h q f j
   .rw[gC m];by_cases o:Vw.may (Vw.get l e.s) e=false;·rw[gG o];exact Nb u a n cap l e w h q f j m o
    .rw[gC o];exact Nc u a n cap l e w h q f j m (by simpa using o)
section
variable {α : Type} {f : α → List Value} {k : Nat}
def rows(f:α->List Value)(l:List α):List Value:=l.flatMap f
theorem jI(x:α)(l:List α):rows f (x::l)=f x++rows f l:=by simp[rows]
theorem kh(l m:List α):rows f (l++m)=rows f l++rows f m:=by simp[rows]
theorem lz(e:∀x,(f x).length=k)(l:List α):(rows f l).length=l.length*k:=by
 induction l with
 |nil=>simp[rows]
 |cons x l h=>rw[jI,iH,h,e,l8,nB];omega
theorem qp(h:∀x,(f x).length=k)(l:List α):∀(i j:Nat) (hi:i<l.length),j<k->(rows f l)[i*k+j]?=(f l[i])[j]?:=by
 induction l with
 |nil=>intro i j hi;exact absurd hi (by simp)
 |cons x l q=>
  intro i j hi o;rw[jI];cases i with
  |zero=>rw[Nat.zero_mul,jk,List.getElem?_append_left (by rw[h];exact o)];rfl
  |succ i=>
   have e:(i+1)*k+j=k+(i*k+j):=by rw[nB];omega
   rw[e,sY (by rw[h];omega),h,AX];exact q i j (by simpa using hi) o
theorem mJ(o:∀x,(f x).length=k)(l:List α)(y:α)(v:Value)(j:Nat)(q:j<k):∀(i:Nat) (hi:i<l.length),f y=(f l[i]).set j v->(rows f l).set (i*k+j) v=rows f (l.set i y):=by
 induction l with
 |nil=>intro i hi;exact absurd hi (by simp)
 |cons x l r=>
  intro i hi h;cases i with
  |zero=>
   rw[jI,iN,jI,Nat.zero_mul,jk,List.set_append_left _ _ (by rw[o];exact q)];have h:f y=(f x).set j v:=h;rw[h]
  |succ i=>
   have e:(i+1)*k+j=k+(i*k+j):=by rw[nB];omega
   rw[jI,iS,jI,e,xp _ _ (by rw[o];omega),o,AX];rw[r i (by simpa using hi) h]
theorem Bb(e:∀x,∀u∈f x,u.oneCell'=true)(l:List α):∀u∈rows f l,u.oneCell'=true:=by
 intro u j;obtain⟨x,_,h⟩:=yG.1 j;exact e x u h
theorem yP(e:∀x,(f x).length=k)(l:List α):∀i,rows f (l.drop i)=(rows f l).drop (i*k):=by
 induction l with
 |nil=>intro i;simp[rows]
 |cons a l h=>
  intro i;cases i with
  |zero=>simp
  |succ i=>
   rw[sw,h i,jI,List.drop_append,mV (l:=f a) (by rw[e,nB];omega),e,mZ];congr 1;rw[nB];omega
theorem yQ(e:∀x,(f x).length=k)(l:List α):∀i,rows f (l.take i)=(rows f l).take (i*k):=by
 induction l with
 |nil=>intro i;simp[rows]
 |cons a l h=>
  intro i;cases i with
  |zero=>simp[rows]
  |succ i=>
   rw[su,jI,jI,h i,List.take_append,ld (l:=f a) (by rw[e,nB];omega),e];congr 2;rw[nB];omega
end
structure Hm where
 s:Int
 a:Option Addr
 cap:Nat
 b:List UInt8
def Hm.v(h:Hm):Value:=.slice h.a h.b.length h.cap
structure Dm where
 g:Bool
 a:Option Addr
 cap:Nat
 H:List Hm
def Dm.v(d:Dm):Value:=.slice d.a d.H.length d.cap
def Hm.hd(h:Hm):gE.Hd:=⟨h.s,h.b⟩
def Dm.dk(d:Dm):gE.Dk:=⟨d.g,d.H.map Hm.hd⟩
def jE(h:Hm):List Value:=[.int .i64 h.s,h.v]
def mT(d:Dm):List Value:=[.bool d.g,d.v]
theorem NH(h:Hm):∀u∈jE h,u.oneCell'=true:=by
 intro u e;simp only[jE,jC,nK,lR] at e;rcases e with rfl|rfl<;>rfl
theorem mq(h:Hm):(jE h).length=2:=rfl
theorem lJ(d:Dm):(mT d).length=2:=rfl
def Dm.bb(d:Dm):List Nat:=d.H.filterMap fun h=>h.v.ownBlock
structure Sep (D:List Dm):Prop where
 own:∀x∈D,x.bb.Nodup
 held:∀(i j:Nat) (x y:Dm) (k:Nat),i≠j->D[i]?=some x->D[j]?=some y->x.v.ownBlock=some k->y.v.ownBlock≠some k
 bytes:∀(i j:Nat) (x y:Dm) (k:Nat),i≠j->D[i]?=some x->D[j]?=some y->k∈x.bb->k∉y.bb
theorem Sep.set{D:List Dm}(h:Sep D)(i:Nat)(x y:Dm)(B:Nat)(I:D[i]?=some x)(Q:y.bb.Nodup)(E:y.v.ownBlock=x.v.ownBlock∨∀k,y.v.ownBlock=some k->B<=k)(hb:∀k∈y.bb,k∈x.bb∨B<=k)
  (K:∀z∈D,(∀k,z.v.ownBlock=some k->k<B)/\∀k∈z.bb,k<B):Sep (D.set i y):=by
 have N:=(nH.1 I).1;have get:∀j z,(D.set i y)[j]?=some z->(j=i/\z=y)∨(j≠i/\D[j]?=some z):=by
  intro j z F;by_cases e:j=i
  .subst e;rw[sZ N] at F;exact .inl ⟨rfl,(kO F).symm⟩
  .rw[tR (fun e'=>e e'.symm)] at F;exact .inr ⟨e,F⟩
 refine⟨fun z F=>?_,fun a b z u k o F O C=>?_,fun a b z u k o F O C=>?_⟩
 .rcases lH F with G|rfl
  .exact h.own z G
  .exact Q
 .rcases get a z F with⟨rfl,rfl⟩|⟨P,r⟩<;>rcases get b u O with⟨rfl,rfl⟩|⟨L,q⟩
  .exact absurd rfl o
  .rcases E with E|E
   .rw[E] at C;exact h.held a b x u k o I q C
   .intro e;have:=(K u (jX q)).1 k e;have:=E k C;omega
  .intro e;rcases E with E|E
   .rw[E] at e;exact h.held a b z x k o r I C e
   .have:=(K z (jX r)).1 k C;have:=E k e;omega
  .exact h.held a b z u k o r q C
 .rcases get a z F with⟨rfl,rfl⟩|⟨P,r⟩<;>rcases get b u O with⟨rfl,rfl⟩|⟨L,q⟩
  .exact absurd rfl o
  .rcases hb k C with G|G
   .exact h.bytes a b x u k o I q G
   .intro e;have:=(K u (jX q)).2 k e;omega
  .intro e;rcases hb k e with G|G
   .exact h.bytes a b z x k o r I C G
   .have:=(K z (jX r)).2 k C;omega
  .exact h.bytes a b z u k o r q C
theorem P6{x:Dm}{i:Nat}{h:Hm}{k:Nat}(hi:x.H[i]?=some h)(e:h.v.ownBlock=some k):k∈x.bb:=pk.2 ⟨h,jX hi,e⟩
theorem OP{H:List Hm}(o:(H.filterMap fun h=>h.v.ownBlock).Nodup):∀{i j:Nat} {a b:Hm} {k:Nat},H[i]?=some a->H[j]?=some b->i≠j->a.v.ownBlock=some k->b.v.ownBlock≠some k:=by
 induction H with
 |nil=>intro i j a b k hi;simp at hi
 |cons x H G=>
  intro i j a b k hi e B r hb;have C:(H.filterMap fun h=>h.v.ownBlock).Nodup:=by
   rw[List.filterMap_cons] at o;split at o;·exact o
   .exact(vE.1 o).2
  have E:∀q,x.v.ownBlock=some q->q∉H.filterMap fun h=>h.v.ownBlock:=by intro q F;rw[List.filterMap_cons,F] at o;exact(vE.1 o).1
  cases i with
  |zero=>
   cases j with
   |zero=>exact B rfl
   |succ j=>
    simp only[List.getElem?_cons_zero,Option.some.injEq] at hi;subst hi;rw[List.getElem?_cons_succ] at e;exact E k r (pk.2 ⟨b,jX e,hb⟩)
  |succ i=>
   rw[List.getElem?_cons_succ] at hi;cases j with
   |zero=>
    simp only[List.getElem?_cons_zero,Option.some.injEq] at e;subst e;exact E k hb (pk.2 ⟨a,jX hi,r⟩)
   |succ j=>
    rw[List.getElem?_cons_succ] at e;exact G C hi e (by omega) r hb
theorem JH{H:List Hm}{y:Hm}{i:Nat}(e:(H.filterMap fun h=>h.v.ownBlock).Nodup)(o:∀k,y.v.ownBlock=some k->k∉H.filterMap fun h=>h.v.ownBlock):((H.take i++y::H.drop i).filterMap fun h=>h.v.ownBlock).Nodup:=by
 have j:((H.take i++y::H.drop i).filterMap fun h=>h.v.ownBlock).Perm ((y::H).filterMap fun h=>h.v.ownBlock):=by refine List.Perm.filterMap _ ?_;have:(H.take i++y::H.drop i).Perm (y::(H.take i++H.drop i)):=List.perm_middle;rwa[AY] at this
 refine(j.nodup_iff).2 ?_;rw[List.filterMap_cons];split;·exact e
 .exact vE.2 ⟨o _ (by assumption),e⟩
theorem C7{α:Type}(H:List α)(i:Nat)(y:α)(hi:i<H.length):H.set i y=H.take i++y::H.drop (i+1):=by
 rw[List.set_eq_take_append_cons_drop,gG hi]
theorem Pm{H:List Hm}{y:Hm}{i:Nat}(F:(H.filterMap fun h=>h.v.ownBlock).Nodup)(hi:i<H.length)(I:∀k,y.v.ownBlock=some k->H[i].v.ownBlock=some k∨k∉H.filterMap fun h=>h.v.ownBlock):((H.set i y).filterMap fun h=>h.v.ownBlock).Nodup:=by
 have G:H=H.take i++H[i]::H.drop (i+1):=by rw[<-rv hi,AY]
 have E:(H.filterMap fun h=>h.v.ownBlock).Perm ((H[i]::(H.take i++H.drop (i+1))).filterMap fun h=>h.v.ownBlock):=by refine List.Perm.filterMap _ ?_;have:(H.take i++H[i]::H.drop (i+1)).Perm (H[i]::(H.take i++H.drop (i+1))):=List.perm_middle;rwa[<-G] at this
 have e:=(E.nodup_iff).1 F;have o:∀k,k∈((H[i]::(H.take i++H.drop (i+1))).filterMap fun h=>h.v.ownBlock)->k∈(H.filterMap fun h=>h.v.ownBlock):=fun k r=>(E.mem_iff).2 r;rw[C7 H i y hi];have C:((H.take i++y::H.drop (i+1)).filterMap fun h=>h.v.ownBlock).Perm ((y::(H.take i++H.drop (i+1))).filterMap fun h=>h.v.ownBlock):=List.Perm.filterMap _ List.perm_middle;refine(C.nodup_iff).2 ?_;rw[List.filterMap_cons] at e o⊢;have j:((H.take i++H.drop (i+1)).filterMap fun h=>h.v.ownBlock).Nodup:=by
  split at e;·exact e
  .exact(vE.1 e).2
 split;·exact j
 .next k r=>
  refine vE.2 ⟨fun B=>?_,j⟩;rcases I k r with q|q
  .rw[q] at e;exact(vE.1 e).1 B
  .refine q (o k ?_);split;·exact B
   .exact sX _ B
structure ig where
 d:Int
 s:Int
 b:Int
 dv:Value
 D:List Dm
 g:Nat
 tv:Value
 T:List Rb
 sv:Value
 seen:List Int
 u:Int
 av:Value
 A:List Vw.Acc
def ig.st(m:ig):gE.St:=⟨m.d,m.s,m.b,m.D.map Dm.dk,m.g,m.T.map Rb.ba,m.seen,⟨m.u,m.A⟩⟩
def ig.box(m:ig):Array Value:=#[.int .i64 m.d,.int .i64 m.s,.int .i64 m.b,m.dv,.int .i64 (m.g:Int),m.tv,m.sv,.int .i64 m.u,m.av]
def keeps(t:TypeId):Bool:=t !=46&&t !=63&&t !=66&&t !=5
structure Kt (w w':World):Prop where
 os:w'.os=w.os
 tape:w'.tape=w.tape
 output:w'.output=w.output
 size:w.heap.size<=w'.heap.size
 block:∀(k:Nat) (cs:Array Value) (t:TypeId),w.heap[k]?=some (.cells cs t)->keeps t=true->w'.heap[k]?=some (.cells cs t)
theorem Kt.refl(w:World):Kt w w:=⟨rfl,rfl,rfl,jb _,fun _ _ _ h _=>h⟩
theorem Kt.trans{a b c:World}(h:Kt a b)(k:Kt b c):Kt a c:=⟨k.os.trans h.os,k.tape.trans h.tape,k.output.trans h.output,jY h.size k.size,fun i cs t hb e=>k.block i cs t (h.block i cs t hb e) e⟩
theorem Kt.below{a b:World}(h:Below a a b):Kt a b:=⟨h.os,h.tape,h.output,h.size,fun k cs t hb _=>gB hb h⟩
theorem Kt.only{a b:World}{S:List Nat}(h:gU a b S)(j:∀k∈S,∀(cs:Array Value) (t:TypeId),a.heap[k]?=some (.cells cs t)->keeps t=false):Kt a b:=
 ⟨h.os,h.tape,h.output,h.size,fun k cs t hb e=>h.jJ hb (fun o=>by rw[j k o cs t hb] at e;cases e)⟩
theorem Kt.own{w w':World}(h:Kt w w'){base:Nat}{e:TypeId}{sz:Nat}{v:Value}{n:Nat}{xs:List Value}(o:w.ownsRow base e sz v n xs)(B:keeps e=true):w'.ownsRow base e sz v n xs:=by
 refine⟨o.1,?_⟩;rcases o.2 with q|⟨g,cap,j,F,C,E,r⟩
 .exact .inl q
 .exact .inr ⟨g,cap,j,F,C,h.block g j e E B,r⟩
structure nN (w:World) (base p:Nat) (m:ig):Prop where
 box:w.heap[p]?=some (.cells m.box 46)
 le:base<=p
 ng:w.ownsRow base 63 2 m.dv m.D.length (rows mT m.D)
 held:∀x∈m.D,w.ownsRow base 66 2 x.v x.H.length (rows jE x.H)
 bytes:∀x∈m.D,∀h∈x.H,w.ownsRow base 5 1 h.v h.b.length (cb h.b)
 sep:Sep m.D
 tail:w.ownsRow base 50 2 m.tv m.T.length (iD m.T)
 il:∀r∈m.T,w.ownsRow base 78 3 (r.a,r.n,r.cap) r.n (hQ r.il)/\∀e∈r.il,e.s.size<=maxLen
 seen:w.ownsRow base 3 1 m.sv m.seen.length (m.seen.map (Value.int .i64))
 ib:w.ownsRow base 55 4 m.av m.A.length (gR m.A)
 EN:∀e∈m.A,e.s.size<=maxLen
section
variable {w w' : World} {base p : Nat} {m : ig}
theorem nN.below(h:nN w base p m)(hb:Below w w w'):nN w' base p m:=
 ⟨gB h.box hb,h.le,gL h.ng hb,fun x e=>gL (h.held x e) hb,fun x e y o=>gL (h.bytes x e y o) hb,h.sep,gL h.tail hb,fun r j=>⟨gL (h.il r j).1 hb,(h.il r j).2⟩,gL h.seen hb,gL h.ib hb,h.EN⟩
theorem nN.alloc(h:nN w base p m)(o:Obj):nN (w.alloc o) base p m:=h.below (gZ.alloc gM o)
theorem nN.lt(h:nN w base p m):p<w.heap.size:=iq h.box
theorem nN.QN(h:nN w base p m):∀z∈m.D,(∀k,z.v.ownBlock=some k->k<w.heap.size)/\∀k∈z.bb,k<w.heap.size:=fun z j=>
 ⟨fun k e=>((h.held z j).lt k e).2,fun k e=>by obtain⟨y,o,e⟩:=pk.1 e;exact((h.bytes z j y o).lt k e).2⟩
theorem mF{e:TypeId}{sz n:Nat}{v:Value}{xs:List Value}(h:w.ownsRow base e sz v n xs){k:Nat}(o:v.ownBlock=some k):∃cs,w.heap[k]?=some (Obj.cells cs e (0,0)):=by
 rcases h.2 with⟨rfl,_⟩|⟨g,cap,j,rfl,_,q,_⟩
 .simp[Value.ownBlock] at o
 .have:g=k:=by simpa[Value.ownBlock] using o
  subst this;exact⟨j,q⟩
theorem jL{e e':TypeId}{sz r n K j:Nat}{v v':Value}{xs B:List Value}(h:w.ownsRow base e sz v n xs)(E:w.ownsRow j e' r v' K B)(q:e≠e'){k:Nat}(I:v.ownBlock=some k):v'.ownBlock≠some k:=fun o=>by
 obtain⟨cs,F⟩:=mF h I;obtain⟨C,G⟩:=mF E o;exact km F G q rfl
theorem nN.PF(h:nN w base p m){e:TypeId}{sz n j:Nat}{v:Value}{xs:List Value}(q:w.ownsRow j e sz v n xs)(o:e≠46):v.ownBlock≠some p:=gP q h.box o
theorem nN.lF(h:nN w base p m)(i:Nat)(v:Value)(m':ig)(q:m'.box=m.box.setIfInBounds i v)(B:m'.D=m.D)(C:m'.dv=m.dv)
  (tail:w.ownsRow base 50 2 m'.tv m'.T.length (iD m'.T)) (il:∀r∈m'.T,w.ownsRow base 78 3 (r.a,r.n,r.cap) r.n (hQ r.il)/\∀e∈r.il,e.s.size<=maxLen)
  (seen:w.ownsRow base 3 1 m'.sv m'.seen.length (m'.seen.map (Value.int .i64))) (ib:w.ownsRow base 55 4 m'.av m'.A.length (gR m'.A)) (EN:∀e∈m'.A,e.s.size<=maxLen):nN (w.setCell (p,i) v) base p m':=by
 have o:∀{e:TypeId} {sz n j:Nat} {u:Value} {xs:List Value},w.ownsRow j e sz u n xs->e≠46->(w.setCell (p,i) v).ownsRow j e sz u n xs:=fun G E=>ji G (h.PF G E) v;refine⟨by rw[q];exact jq h.box v,h.le,?_,?_,?_,by rw[B];exact h.sep,o tail (by decide),fun r I=>⟨o (il r I).1 (by decide),(il r I).2⟩,o seen (by decide),o ib (by decide),EN⟩;·rw[B,C];exact o h.ng (by decide)
 .rw[B];exact fun x F=>o (h.held x F) (by decide)
 .rw[B];exact fun x F y K=>o (h.bytes x F y K) (by decide)
theorem Kt.lF(h:nN w base p m)(i:Nat)(v:Value):Kt w (w.setCell (p,i) v):=
 Kt.only ((gU.refl w [p]).setCell (.inl (by simp)) v) (fun k e cs t hb=>by
  obtain rfl:k=p:=by simpa using e
  rw[h.box] at hb;injection hb with hb;injection hb with _ j;rw[<-j];rfl)
theorem nN.NB(h:nN w base p m)(i:Nat)(x y:Dm)(S:List Nat)(P:m.D[i]?=some x)(Q:gU w w' S)
  (V:∀k∈S,m.dv.ownBlock=some k∨x.v.ownBlock=some k∨k∈x.bb)
  (ng:w'.ownsRow base 63 2 m.dv m.D.length (rows mT (m.D.set i y))) (held:w'.ownsRow base 66 2 y.v y.H.length (rows jE y.H)) (bytes:∀z∈y.H,w'.ownsRow base 5 1 z.v z.b.length (cb z.b))
  (hn:y.bb.Nodup) (hv:y.v.ownBlock=x.v.ownBlock∨∀k,y.v.ownBlock=some k->w.heap.size<=k) (hb:∀k∈y.bb,k∈x.bb∨w.heap.size<=k):nN w' base p {m with D:=m.D.set i y}/\Kt w w':=by
 have W:=(nH.1 P).1;have K:=jX P;have G:∀k∈S,∃cs t,w.heap[k]?=some (.cells cs t)/\(t=63∨t=66∨t=5):=by
  intro k F;rcases V k F with o|o|o
  .obtain⟨cs,hc⟩:=mF h.ng o;exact⟨cs,_,hc,.inl rfl⟩
  .obtain⟨cs,hc⟩:=mF (h.held x K) o;exact⟨cs,_,hc,.inr (.inl rfl)⟩
  .obtain⟨z,E,F⟩:=pk.1 o;obtain⟨cs,hc⟩:=mF (h.bytes x K z E) F;exact⟨cs,_,hc,.inr (.inr rfl)⟩
 have I:Kt w w':=Kt.only Q (fun k F cs t hb=>by obtain⟨U,t',o,N⟩:=G k F;rw[hb] at o;injection o with o;injection o with _ X;subst X;rcases N with rfl|rfl|rfl<;>decide)
 have C:∀z∈m.D.set i y,z=y∨∃j,j≠i/\m.D[j]?=some z:=by
  intro z E;obtain⟨j,L⟩:=yv E;by_cases e:j=i
  .subst e;rw[sZ W] at L;exact .inl (kO L).symm
  .rw[tR (fun e'=>e e'.symm)] at L;exact .inr ⟨j,e,L⟩
 refine⟨⟨?_,h.le,?_,?_,?_,?_,I.own h.tail (by decide),fun r Y=>⟨I.own (h.il r Y).1 (by decide),(h.il r Y).2⟩,I.own h.seen (by decide),I.own h.ib (by decide),h.EN⟩,I⟩
 .refine Q.jJ h.box (fun Z=>?_);obtain⟨U,t',o,N⟩:=G p Z;rw[h.box] at o;injection o with o;injection o with _ X;subst X;rcases N with N|N|N<;>exact absurd N (by decide)
 .show w'.ownsRow base 63 2 m.dv (m.D.set i y).length _;rw[kH];exact ng
 .intro z E;rcases C z E with rfl|⟨j,L,E⟩
  .exact held
  .have B:=jX E;refine Q.own (h.held z B) (fun k F e=>?_);rcases V k F with o|o|o
   .exact jL h.ng (h.held z B) (by decide) o e
   .exact h.sep.held i j x z k (fun e=>L e.symm) P E o e
   .obtain⟨q,O,F⟩:=pk.1 o;exact jL (h.bytes x K q O) (h.held z B) (by decide) F e
 .intro z E q O;rcases C z E with rfl|⟨j,L,E⟩
  .exact bytes q O
  .have B:=jX E;refine Q.own (h.bytes z B q O) (fun k F e=>?_);rcases V k F with o|o|o
   .exact jL h.ng (h.bytes z B q O) (by decide) o e
   .exact jL (h.held x K) (h.bytes z B q O) (by decide) o e
   .exact h.sep.bytes i j x z k (fun e=>L e.symm) P E o (pk.2 ⟨q,O,e⟩)
 .exact h.sep.set i x y w.heap.size P hn hv hb h.QN
end
end Go.Proofs.YthhcdfjijagalaaGreat

import Derived.Test.YthhcdfjijagalaaGreatM41
import Derived.Test.YthhcdfjijagalaaGreatM44
import Derived.Test.YthhcdfjijagalaaGreatM46
set_option linter.all false
set_option maxHeartbeats 8000000
set_option maxRecDepth 100000
namespace Go.Proofs.YthhcdfjijagalaaGreat
open Qz Go.Proofs.Tryz Go.RowKit Go.Maps
theorem Kg{w:World}{base f:Nat}{e t:TypeId}{sz q n m cap:Nat}{a:Option Addr}{v:Value}{xs I:List Value}(h:w.ownsRow base e sz (a,n,cap) n xs)(F:w.ownsRow f t q v m I)(o:e≠t)(G:0<n):∀b off,a=some ⟨b,off,none⟩->v.ownBlock≠some b:=by
 intro b off r B;obtain⟨g,c,j,-⟩:=jR h G;injection j with j;rw[r] at j;injection j with j;injection j with C E;subst C E r;exact jL h F o rfl B
theorem PE{w:World}{base:Nat}{e:TypeId}{sz n cap:Nat}{a:Option Addr}{xs:List Value}(h:w.ownsRow base e sz (a,n,cap) n xs)(m:0<n):∀b off,a=some ⟨b,off,none⟩->base<=b:=by
 intro b off j;obtain⟨g,c,f,hb,-⟩:=jR h m;injection f with f;rw[j] at f;injection f with f;injection f with o q;omega
theorem AS{w:World}{base m:Nat}{e t:TypeId}{sz n cap:Nat}{a:Option Addr}{xs:List Value}{cs:Array Value}(h:w.ownsRow base e sz (a,n,cap) n xs)(hb:w.heap[m]?=some (.cells cs t))(j:e≠t)(C:0<n):∀b off,a=some ⟨b,off,none⟩->b≠m:=by
 intro b off o q;obtain⟨g,c,f,-⟩:=jR h C;injection f with f;rw[o] at f;injection f with f;injection f with r B;subst r B o q;exact gP h hb j rfl
theorem A0(base q:Nat)(E:List gD.Ev)(v:Value)(a:Option Addr)(n cap:Nat)(l:List Rb)(w:World)(hB:Bs w a n cap l)(V:w.heap[q]?=some (.cells #[v] 40))(N:w.ownsRow base 78 3 v E.length (hQ E))(hb:base<=w.heap.size)(ak:base<=q)
  (hA:0<n->∀b off,a=some ⟨b,off,none⟩->b≠q/\v.ownBlock≠some b) (hR:∀r∈l,0<r.n->∀b off,r.a=some ⟨b,off,none⟩->b≠q/\v.ownBlock≠some b) (hn:n<=1000) (hk:∀r∈l,r.il.length<=10) (hE:E.length<=100000):
  Calls prog 59 #[(a,n,cap),(q,gy)] w fun e w'=>e=.returned (.tuple #[])/\∃v',w'.heap[q]?=some (.cells #[v'] 40)/\w'.ownsRow base 78 3 v' (E++kV l).length (hQ (E++kV l))/\gU w w' (q::v.ownBlock.toList):=by
 have HN:=gx hB.n;have HB:=gx hB;have HQ:=gx V;have HO:=gx N;have HA:=gx hA;have HR:=gx hR;have HK:=gx hk;clear hB V N hA hR hk;go_enter func59,ntmps59;go_wp2_with fail;go_loopg[7] n (fun gg s7 wr=>∃(k:Nat) (v1:Value),gg=n-k/\k<=n/\s7=.int .i64 (k:Int)/\wr.heap[q]?=some (.cells #[v1] 40)/\wr.ownsRow base 78 3 v1 (E++kV (l.take k)).length (hQ (E++kV (l.take k)))/\gU w wr (q::v.ownBlock.toList)/\Hid (v1.ownBlock=v.ownBlock∨∀k,v1.ownBlock=some k->w.heap.size<=k));case atStart=>exact⟨0,v,rfl,by omega,rfl,HQ,by simpa[kV] using HO.out,gU.refl _ _,gx (.inl rfl)⟩
 case round=>
  obtain⟨k,v1,rfl,hk,rfl,V,N,hO,HL⟩:=hrel;obtain⟨wo,rfl⟩:∃wo:World,wo=wr:=⟨_,rfl⟩;have G:=gx V;have C:=gx N;have m:=gx hO;obtain⟨Y,Z,rfl,-⟩:=gK N;clear V N hO;by_cases af:k<n
  .have S:k<l.length:=by rw[HN.out];exact af
   have U:(E++kV (l.take k)).length<=110000:=by
    have:=rF (l.take k) 10 (fun r W=>HK r (ry W));rw[jh] at this;rw[iH];have:min k l.length<=1000:=by omega
    omega
   have I:=gx (A8 l k S);have O:=gx (show Bs wo a n cap l from⟨HB.sl.off m (fun h0 b off e hm=>by
    have f:=HA h0 b off e;rcases jC.1 hm with o|o
    .exact f.1 o
    .exact f.2 (by simpa using o)),fun r W=>⟨(HB.ev r W).sl.off m (fun h0 b off e hm=>by
    have f:=HR r W h0 b off e;rcases jC.1 hm with o|o
    .exact f.1 o
    .exact f.2 (by simpa using o)),(HB.ev r W).ok⟩⟩)
   obtain⟨ab,ao,rfl,-⟩:=HB.sl.addr (by omega);obtain⟨e0,e1,B⟩:=O.at k S;have Q:=HK l[k] (iE _);generalize l[k]=r at e0 e1 B I Q;obtain⟨rc,ra,rn,h,il⟩:=r;simp only at e0 e1 B I Q;have ag:=B.n;subst ag;have ad:=gx B;clear B O;have i0:(0:Int)<=(k:Int):=by omega
   have i1:(k:Int)<(n:Int):=by omega
   obtain⟨F,K⟩:∃F,F=E++kV (l.take k):=⟨_,rfl⟩;rw[<-K] at U C G;replace K:=gx K;have aj:base<=wo.heap.size:=jY hb m.size;have q1:(wo.alloc (.cells #[rc,(ra,il,h)] 50)).cell? (q,gy)=some (.slice Y F.length Z):=gw (gF G);go_wp2_with (at_builtin;refine wpList_append_t rfl (.tmp 11) (.tmp 13) 40 40 rfl base 78 3 32 (.agg #[.string ⟨#[]⟩,gy,gy]) underlying40 qF rfl (by decide) (Y,F,Z) F.length (hQ F) rfl (OT.start (C.alloc _)) (ra,il,h) il.length (hQ il) rfl (Sl.src (ad.sl.alloc _) underlying40 (qz il)) (by unfold maxLen;omega) (by omega) (by simp;omega) ?_;intro v5 w5 o5 g5;obtain⟨ah,ai,rfl,-⟩:=gK o5.own;have q5:=ie (C.alloc (.cells #[rc,(ra,il,h)] 50)) g5 (gF G) (by decide);have q6:w5.cell? (q,gy)=some (.slice Y F.length Z):=(gw q5);have f6:∀j,w5.frozen? ⟨q,j,none⟩=false:=(fun j=>gA q5));go_roundg (n-(k+1));case measure=>omega
   case rel=>
    have L:(E++kV (l.take (k+1))).length=F.length+il.length:=by rw[I.out,K.out,<-ky,iH]
    have P:hQ (E++kV (l.take (k+1)))=hQ F++hQ il:=by rw[I.out,K.out,<-ky];simp[hQ]
    refine⟨k+1,.slice ah (F.length+il.length) ai,rfl,by omega,by go_num,mB (i:=0) q5 _,?_,?_,gx ?_⟩
    .rw[L,P];exact ji (a:=(q,gy)) o5.own (gP o5.own q5 (by decide)) _
    .refine((m.alloc (.cells #[rc,(ra,il,h)] 50)).more g5 (fun x X=>?_)).setCell (a:=(q,gy)) (.inl (by simp)) _;have ae:(Value.slice Y F.length Z).ownBlock=v.ownBlock∨∀k,(Value.slice Y F.length Z).ownBlock=some k->w.heap.size<=k:=by rw[K.out];exact HL
     rcases ae with f|f
     .rw[f] at X;exact .inl (by rw[X];simp)
     .exact .inr (f x X)
    .rcases o5.F6 with f|f
     .rw[f,K.out];exact HL
     .refine .inr fun x X=>?_;have o:=f x X;have h3:=m.size;simp only[jH] at o;omega
  .obtain rfl:k=n:=by omega
   go_wp2_with fail;go_end0;have hl:l.take k=l:=ld (by rw[HN.out];exact jb _);have f:=G.out;have o:=C.out;rw[hl] at f o;exact⟨rfl,_,f,o,m⟩
theorem pX(a b:List gD.Ba):gE.events (a++b)=gE.events a++gE.events b:=by unfold gE.events;simp
theorem yH(m:ig)(K:Nat)(w:World)(h:nv w m)(hk:gE.Ok m.st K):
  Calls prog 26 #[jd m] w fun e w'=>∃a n cap L,e=.returned (.tuple #[.slice a n cap,.int .i64 (gE.all m.st).2])/\Es w' a n cap L/\((gE.all m.st).2=0->L=gE.events (gE.all m.st).1)/\L.length<=100000/\Below w w w'/\Ty w' a n 78:=by
 have aC:=gx h;have a8:=gx hk;have aS:m.g<=40:=hk.g;have bm:1<=m.d/\m.d<=8:=hk.d;have aU:m.D.length<=12:=by have:=hk.Eh;simpa[ig.st] using this
 have aG:=gx (show∀x∈m.D,x.H.length<=1000 from fun x hx=>by have:=hk.len (x:=x.dk) (iu.2 ⟨x,hx,rfl⟩);simp only[Dm.dk,iz] at this;omega)
 have aI:=gx (show∀x∈m.D,((x.H.map Hm.hd).map gE.Hd.jy).Pairwise (·<·) from fun x hx=>(hk.bl x.dk (iu.2 ⟨x,hx,rfl⟩)).1);have aJ:m.T.length<=10:=by have Q:=hk.t;have h2:=hk.b;simp only[ig.st,iz] at Q h2;omega
 have aw:=gx (show∀r∈m.T,r.il.length<=10 from fun r X=>hk.ev (b:=r.ba) (iu.2 ⟨r,X,rfl⟩));have O:=gx (show∀V,Below w w V->∀k:Int,Calls prog 31 #[jd m,k] V (fun e w'=>∃a cap R,e=.returned (.slice a m.D.length cap)/\Ms w' a m.D.length cap R/\gz R=gE.blocks (m.D.map Dm.dk) k/\Below V V w') from fun V hV k=>sH m k V (aC.below hV) (by omega) aG aI);have o:=gx (show m.st.iF=m.g/\m.st.gI=m.D.map Dm.dk/\m.st.data=m.d/\m.st.tail=m.T.map Rb.ba from⟨rfl,rfl,rfl,rfl⟩);obtain⟨d,s,b,dv,D,g,tv,T,sv,seen,u,av,A⟩:=m;obtain⟨da,dc,aR,aQ⟩:=h.ng;obtain⟨Y,Z,aY,ay⟩:=h.tail;obtain⟨sa,sc,aX,aW⟩:=h.seen;obtain⟨aa,ac,aK,has⟩:=h.ib;simp only at aR aY aX aK aQ ay aW has aS bm aU aJ;subst aR aY aX aK;obtain⟨S,hS⟩:∃S,S=(⟨d,s,b,.slice da D.length dc,D,g,.slice Y T.length Z,T,.slice sa seen.length sc,seen,u,.slice aa A.length ac,A⟩:ig).st:=⟨_,rfl⟩;rw[<-hS] at o⊢;simp only at o O aw;unfold jd at O⊢;simp only at O⊢;have ah:=gx ay;clear h hk aQ ay aW has aC a8 aG aI hS;have B0:=gF (o':=.cells #[()] 40) (gO w (.cells #[d,s,b,(da,D,dc),g,(Y,T,Z),(sa,seen,sc),u,(aa,A,ac)] 32));have B1:=gO (w.alloc (.cells #[d,s,b,(da,D,dc),g,(Y,T,Z),(sa,seen,sc),u,(aa,A,ac)] 32)) (.cells #[()] 40);rw[jH] at B1;have bV:=gx (((iU w.heap.size w).alloc gM (.cells #[d,s,b,(da,D,dc),g,(Y,T,Z),(sa,seen,sc),u,(aa,A,ac)] 32)).alloc (by simp) (.cells #[()] 40));go_enter func26,ntmps26;go_upto_region 2 with(fail);generalize (w.alloc (.cells #[d,s,b,(da,D,dc),g,(Y,T,Z),(sa,seen,sc),u,(aa,A,ac)] 32)).alloc (.cells #[()] 40)=V at B0 B1 bV⊢;have C:=gx B0;have ab:=gx B1;clear B0 B1;go_wp2_with fail;go_loopg[6] g (fun gg s6 wr=>∃(k:Nat) (E:List gD.Ev) (v:Value),gg=g-k/\k<=g/\s6=.int .i64 (k:Int)/\wr.heap[w.heap.size]?=some (.cells #[d,s,b,(da,D,dc),g,(Y,T,Z),(sa,seen,sc),u,(aa,A,ac)] 32)/\wr.heap[w.heap.size+1]?=some (.cells #[v] 40)/\wr.ownsRow w.heap.size 78 3 v E.length (hQ E)/\Hid (∃Bs:List gD.Ba,gE.ln S.gI S.data k=(Bs,0)/\E=gE.events Bs)/\E.length<=1500*k/\Hid (∀e∈E,e.s.size<=maxLen)/\Below w w wr);case atStart=>exact⟨0,[],.slice none 0 0,rfl,by omega,rfl,C,ab,iY _ _ _ _,gx ⟨[],rfl,rfl⟩,by simp,gx (fun e he=>by cases he),bV⟩
 case round=>
  obtain⟨k,E,v,rfl,hk,rfl,aL,aM,ak,ap,bq,aA,aO⟩:=hrel;obtain⟨wo,rfl⟩:∃wo:World,wo=wr:=⟨_,rfl⟩;have C:=gx aL;have ab:=gx aM;have U:=gx ak;have j:=gx aO;clear aL aM ak aO;have c4:wo.cell? (w,pR)=some (.int .i64 (g:Int)):=gw C;by_cases aT:k<g
  .have C1:=gx (show∀W,Below wo wo W->Calls prog 31 #[.agg #[d,s,b,(da,D,dc),g,(Y,T,Z),(sa,seen,sc),u,(aa,A,ac)],k] W (fun e w'=>∃a cap R,e=.returned (.slice a D.length cap)/\Ms w' a D.length cap R/\Hid (gz R=gE.blocks S.gI k)/\Below wo wo w') from fun W hW=>(O W (gH j hW) (k:Int)).mono fun e w'⟨a,cap,R,Q,h2,h3,h4⟩=>⟨a,cap,R,Q,h2,gx (by rw[h3,o.out.2.1]),gH hW h4⟩);go_upto_region 6 with(fail);go_cut[7,8] (fun s7 s8 wc=>∃a n cap bs,s7=.slice a n cap/\s8=.int .i64 (gW.kX (gE.blocks S.gI k) k S.data).2/\Bt wc a n cap bs/\bs=(gW.kX (gE.blocks S.gI k) k S.data).1/\Below wo wo wc);case first=>
    have kc:∀W,Below wo wo W->W.cell? (w,gy)=some (.int .i64 d)/\W.cell? (w,ia)=some (.int .i64 s)/\W.cell? (w,j6)=some (.int .i64 b)/\W.cell? (w,jF)=some (.slice da D.length dc)/\W.cell? (w,pR)=some (.int .i64 (g:Int))/\W.cell? (w,nk)=some (.slice Y T.length Z)/\W.cell? (w,mu)=some (.slice sa seen.length sc)/\W.cell? (w,ps)=some (.int .i64 u)/\W.cell? (w,pt)=some (.slice aa A.length ac):=fun W hW=>by have q:=gB C hW;exact⟨gw q,gw q,gw q,gw q,gw q,gw q,gw q,gw q,gw q⟩
    have KC:=gx kc;clear kc;have aE:-9223372036854775808<=d/\d<=9223372036854775807:=by omega
    have a0:=gx aE;clear aE;go_region_held3 (fun W=>W.cell? (w,gy)=some (.int .i64 d)/\W.cell? (w,ia)=some (.int .i64 s)/\W.cell? (w,j6)=some (.int .i64 b)/\W.cell? (w,jF)=some (.slice da D.length dc)/\W.cell? (w,pR)=some (.int .i64 (g:Int))/\W.cell? (w,nk)=some (.slice Y T.length Z)/\W.cell? (w,mu)=some (.slice sa seen.length sc)/\W.cell? (w,ps)=some (.int .i64 u)/\W.cell? (w,pt)=some (.slice aa A.length ac)) (first|with_reducible exact KC.out _ b3|with_reducible exact KC.out _ b2|with_reducible exact KC.out _ gZ|exact KC.out _ (iV gZ))
     (first
      |(go_at_call 31;refine(C1 _ (iV gZ)).mono ?_;rintro e w2⟨a2,aD,R2,rfl,bj,bk,b2⟩)
      |(go_at_call 60;refine(A3 a2 D.length aD R2 (k:Int) d w2 bj a0).mono ?_;rintro e w3⟨a3,n3,c3,bi,e3,rfl,ai,aH,bh⟩;have b3:=gH b2 bh))
    all_goals (go_wp2_with fail;go_meet)
    all_goals
     rw[bk.out] at aH;obtain⟨Q,h2⟩:=gW.Gv aH;rw[o.out.2.2.1];exact⟨a3,n3,c3,bi,rfl,by rw[h2],ai,Q,b3⟩
   case rest=>
    obtain⟨wD,rfl⟩:∃wD:World,wD=wc:=⟨_,rfl⟩;obtain⟨a3,n3,c3,bs,rfl,rfl,ai,aN,b3⟩:=hcut;have al:=gx b3;clear C1 c4;obtain⟨e3,I⟩:∃e3,e3=(gW.kX (gE.blocks S.gI k) k S.data).2:=⟨_,rfl⟩;rw[<-I];by_cases hz:e3=0
    .have HZ:=gx (I.symm.trans hz);subst hz;clear I;have DP:=gx (Et a3 n3 c3 bs wD ai);have a1:=gx aN;clear aN ai;go_wp2_with fail;go_at_call 61;refine DP.mono ?_;rintro e w4⟨a4,n4,c4,Rs,rfl,aF,au,b4,o4,aZ⟩;rw[a1.out] at au⊢;have B4:=gx (gH al b4);have B5:=gx b4;have aq:=gx au;have af:=gx aF;have aB:=gx o4;have aj:=gx aZ;clear DP b3 b4 au aF o4 aZ;obtain⟨e4,N⟩:∃e4,e4=(gD.parse (gW.kX (gE.blocks S.gI k) k S.data).1).err:=⟨_,rfl⟩;rw[<-N];obtain⟨Bs,G,ad⟩:=ap.out;by_cases B:e4=0
     .have bg:=gx (N.symm.trans B);subst B;clear N;have bo:=gx (gE.vl G HZ bg);have ax:=gE.Gn (l:=(gW.kX (gE.blocks S.gI k) k S.data).1);have br:n4<=150:=by have Q:=af.n;have h2:=ax.1;rw[<-aq.out,iz] at h2;omega
      have ar:∀r∈Rs,r.il.length<=10:=fun r X=>(gD.lh (ax.2 r.ba (by rw[<-aq.out];exact iu.2 ⟨r,X,rfl⟩))).2.2.2.1;have ag:=gx ar;have q4:=gB ab B4;have P:=gx (gL U B4);have DA:=gx (A0 w.heap.size (w.heap.size+1) E v a4 n4 c4 Rs w4 af q4 P (by have:=j.size;have:=B4.size;omega) (by omega)
       (fun F b off e=>⟨AS aB q4 (by decide) F b off e,Kg aB P (by decide) F b off e⟩)
       (fun r X F b off e=>⟨AS (aj r X).1 q4 (by decide) F b off e,fun e2=>by have Q:=PE (aj r X).1 F b off e;have h2:=(U.lt b e2).2;have h3:=al.size;omega⟩) (by omega) ar (by omega))
      have bp:=gx q4;clear ax ar q4;go_wp2_with fail;go_at_call 59;refine DA.mono ?_;rintro e w6⟨rfl,v6,q6,o6,O6⟩;have f:Below w w w6:=gH j (B4) |>.trans (O6.nZ (by have:=j.size;have:=B4.size;omega) (fun x hx=>by
       rcases jC.1 hx with rfl|hx
       .omega
       .exact(P.lt x (by simpa using hx)).1))
      have aP:w6.heap[w.heap.size]?=some (.cells #[d,s,b,(da,D,dc),g,(Y,T,Z),(sa,seen,sc),u,(aa,A,ac)] 32):=O6.jJ (gB C B4) (fun hx=>by
       rcases jC.1 hx with hx|hx
       .omega
       .exact gP P (gB C B4) (by decide) (by simpa using hx))
      have a9:=gx q6;have a7:=gx o6;have ao:=gx f;have bf:=gx aP;clear DA q6 o6 O6 f aP;go_wp2_with fail;go_roundg (g-(k+1));case measure=>omega
      case rel=>
       refine⟨k+1,E++kV Rs,v6,rfl,by omega,by go_num,bf,a9,a7,gx ⟨_,bo,?_⟩,?_,gx (fun e he=>?_),ao⟩;·rw[pX,<-ad,<-aq.out,xv]
       .have Q:=rF Rs 10 ag;have h2:=af.n;rw[iH];omega
       .rcases kd.1 he with he|he
        .exact aA e he
        .exact A7 af e he
     .have ae:=gx (gE.rl (s:=S) (k:=k+1) (by rw[o.out.1];exact aT) (by rw[<-N];exact B) (gE.Aj G HZ (by rw[<-N];exact B)));have t1:(e4 !=0)=true:=ij.2 B;have ag:=gx N;replace B:=gx B;clear N;go_wp2_with fail;go_ret2;refine⟨none,0,0,[],?_,⟨Sl.none _ _,fun r X=>by cases X⟩,fun F=>?_,by simp,gH j B4,Ty.zero _ _ _⟩;·rw[ae.out,ag.out];rfl
      .rw[ae.out] at F;exact absurd F (by rw[<-ag.out];exact B)
    .have ae:=gx (by obtain⟨Bs,G,ad⟩:=ap.out;exact gE.rl (s:=S) (k:=k+1) (by rw[o.out.1];exact aT) (by rw[<-I];exact hz) (gE.vk G (by rw[<-I];exact hz)))
     have t1:(e3 !=0)=true:=ij.2 hz;have az:=gx I;replace hz:=gx hz;clear I;go_wp2_with fail;go_ret2;refine⟨none,0,0,[],?_,⟨Sl.none _ _,fun r X=>by cases X⟩,fun F=>?_,by simp,gH j al,Ty.zero _ _ _⟩;·rw[ae.out,az.out];rfl
     .rw[ae.out] at F;exact absurd F (by rw[<-az.out];exact hz)
  .obtain rfl:k=g:=by omega
   obtain⟨Bs,G,ad⟩:=ap.out;have oz:=gx (gE.tk (s:=S) (l:=Bs) (by rw[o.out.1];exact G));have a5:=gx ad;clear G ad;have bu:=iq ab;have c5:wo.cell? (w,nk)=some (.slice Y T.length Z):=gw C;have DA:=gx (A0 w.heap.size (w.heap.size+1) E v Y T.length Z T wo (ah.below j) ab U j.size (by omega)
    (fun F b off e=>by have Q:=ah.sl;rw[e] at Q;have h2:=Q.lt F (by omega);exact⟨by omega,fun e2=>by have:=(U.lt b e2).1;omega⟩)
    (fun r X F b off e=>by have Q:=(ah.ev r X).sl;rw[e] at Q;have h2:=Q.lt F (by omega);exact⟨by omega,fun e2=>by have:=(U.lt b e2).1;omega⟩) (by omega) aw (by omega))
   go_wp2_with fail;go_at_call 59;refine DA.mono ?_;rintro e w6⟨rfl,v6,q6,o6,O6⟩;have f:Below w w w6:=j.trans (O6.nZ j.size (fun x hx=>by
    rcases jC.1 hx with rfl|hx
    .omega
    .exact(U.lt x (by simpa using hx)).1))
   obtain⟨a6,c6,rfl,aV⟩:=gK o6;have z0:w6.cell? (w.heap.size+1,gy)=some (.slice a6 (E++kV T).length c6):=gw q6;have bc:=gx aV;have bd:=gx (nb o6);have ao:=gx f;have bn:(E++kV T).length<=100000:=by have:=rF T 10 aw;rw[iH];omega
   clear DA q6 o6 O6 f aV c4 c5;go_wp2_with fail;go_ret2;refine⟨a6,(E++kV T).length,c6,E++kV T,by rw[oz.out,iH];rfl,⟨bc,fun e he=>?_⟩,fun _=>?_,bn,ao,by have h:=bd.out;exact h⟩
   .rcases kd.1 he with he|he
    .exact aA e he
    .exact A7 ah e he
   .rw[oz.out,o.out.2.2.2,pX,<-a5.out,xv]
end Go.Proofs.YthhcdfjijagalaaGreat
namespace Go.Proofs.YthhcdfjijagalaaGreat
open Qz Go.Proofs.Tryz Go.RowKit
theorem gW.Qp{z d k:Nat}(h:1<=k)(f:k<gW.wd z d)(hd:1<=d):k*d<z:=by
 unfold gW.wd at f;have e:k<(z+d-1)/d:=by omega
 have j:=(Nat.lt_div_iff_mul_lt (show 0<d by omega)).1 e;omega
theorem gW.Qo{z d:Nat}(hd:1<=d):z<=gW.wd z d*d:=gW.Nd hd
theorem gW.Lu{b l:List UInt8}{N i:Nat}(f:l.length=N)(h:∀v,v<N->l.getD v 0=b.getD (i*N+v) 0):l=gW.chunk b N i:=by
 apply mW;·rw[f,gW.pJ]
 .intro v e j;rw[gW.Cs];have:=h v (by omega);simpa[List.getD,e] using this
def ES(P:List (List UInt8)->Int->Prop)(w:World)(e:Ending)(w':World):Prop:=
 ∃a n cap R err,e=.returned (.tuple #[.slice a n cap,.int .i64 err])/\Ms w' a n cap R/\P (gz R) err/\Below w w w'/\w'.ownsRow w.heap.size 64 1 (.slice a n cap) n (iv R)/\∀r∈R,Ty w' r.a r.n 5
theorem ES.A9{P:List (List UInt8)->Int->Prop}{w:World}{e:Ending}{w':World}(h:ES P w e w'):rR P w e w':=by
 obtain⟨a,n,cap,R,err,f,j,m,o,_⟩:=h;exact⟨a,n,cap,R,err,f,j,m,o⟩
theorem NW(a:Option Addr)(n cap:Nat)(b:List UInt8)(g d s:Nat)(w:World)(hb:Bt w a n cap b)(h1:1<=d)(h2:d<=8)(h3:s<=4)(hg:g<=39)(hz:n<=400*d):
  Calls prog 58 #[(a,n,cap),g,d,s] w (ES (gW.mv b (g:Int) (d:Int) (s:Int)) w):=by
 have Y:=gx (Bt.n hb);have a9:=hb.le;have aF:=hb.max;unfold maxLen at aF;have HC:gJ.gT (d:Int) (s:Int)=0:=gJ.kl (by omega);have DC:=gx (HC▸kz (d:Int) (s:Int) w);replace HC:=gx HC;obtain⟨N,Q⟩:∃N,N=gW.wd n d:=⟨_,rfl⟩;have aQ:1<=N:=by rw[Q];exact gW.IV _ _
 have aR:N<=400:=by rw[Q];exact gW.JB h1 hz
 have V:Hid (∀k,1<=k->k<N->k*d<n):=gx (fun k k1 k2=>gW.Qp k1 (by rw[<-Q];exact k2) h1);have U:Hid (n<=N*d):=gx (by rw[Q];exact gW.Qo h1);have t0:¬(g:Int)<0:=by omega
 have t1:¬(39:Int)<(g:Int):=by omega
 have t2:¬400*(d:Int)<(n:Int):=by omega
 replace Q:=gx Q;go_enter func58,ntmps58;go_wp2_with fail;go_at_call 14;refine(DC).mono ?_;rintro e w1⟨rfl,rfl⟩;go_wp2_with fail;go_loopg[11] N (fun gg aW wr=>∃k:Nat,gg=N+1-k/\1<=k/\k<=N/\aW=.int .i64 (k:Int)/\w=wr);case atStart=>exact⟨1,by omega,jb _,aQ,by simp,rfl⟩
 case round=>
  obtain⟨k,rfl,aC,hk,rfl,rfl⟩:=hrel;have hP:k*d<=400*8:=Nat.mul_le_mul (by omega) h2;have ae:((k:Int)*(d:Int))=((k*d:Nat):Int):=by simp
  by_cases h:k<N
  .have hl:=V k aC h;generalize k*d=P at *;have aE:(P:Int)<(n:Int):=by omega
   go_wp2_with fail;go_roundg (N+1-(k+1));case measure=>omega
   case rel=>exact⟨k+1,rfl,by omega,by omega,by go_num,rfl⟩
  .obtain rfl:N=k:=by omega
   have hl:=U.out;generalize N*d=P at *;have aE:¬(P:Int)<(n:Int):=by omega
   clear hl V U hk aC h;have bc:=iU w.heap.size w;go_wp2_with fail;clear ae aE hP;go_loopg[12,13] d (fun gg aX aZ wr=>∃(k:Nat) (R:List Rw),gg=d-k/\k<=d/\aZ=.int .i64 (k:Int)/\Hid (R.length=k)/\Mb w wr none w.heap.size aX R/\Hid (∀i (hi:i<R.length),R[i].n=N/\R[i].l=gW.chunk b N i));case atStart=>exact⟨0,[],rfl,by omega,rfl,gx rfl,Mb.nil _ _ gZ _ gM,gx (fun i hi=>absurd hi (by simp))⟩
   case round=>
    obtain⟨k,R,rfl,hk,rfl,m,C,HD⟩:=hrel;obtain⟨wo,rfl⟩:∃wo:World,wo=wr:=⟨_,rfl⟩;have ai:=C.own.im gM (fun k e=>by cases e);have a6:=ai.size;by_cases h:k<d
    .have hP:k*N<=3200:=jY (Nat.mul_le_mul (pp h) aR) (by omega);have ae:((k:Int)*(N:Int))=((k*N:Nat):Int):=by simp
     obtain⟨P,L⟩:∃P,P=k*N:=⟨_,rfl⟩;rw[<-L] at hP ae;replace L:=gx L;go_wp2_with (refine wpList_make_bytes rfl (.tmp 53) (.tmp 53) rfl N rfl rfl (by omega) ?_;intro w3 o3 b3 z3);go_loopg[57] N (fun gg a0 wr=>∃(t:Nat) (l:List UInt8),gg=N-t/\t<=N/\a0=.int .i64 (t:Int)/\wr.ownsRow wo.heap.size 5 1 (some (wo,gy),N,N) N (cb l)/\Below wo wo wr/\Hid (∀v,v<N->l.getD v 0=if v<t then b.getD (P+v) 0 else 0));case atStart=>exact⟨0,_,rfl,by omega,rfl,o3,b3,gx (fun v hv=>by simp[List.getD,hv])⟩
     case round=>
      clear o3 b3 z3;obtain⟨t,l,rfl,ht,rfl,W,K,HJ⟩:=hrel;obtain⟨wp,rfl⟩:∃wp:World,wp=wr:=⟨_,rfl⟩;have aI:=K.size;by_cases aJ:t<N
      .have i0:(0:Int)<=(t:Int):=by omega
       have i1:(t:Int)<(N:Int):=by omega
       have aL:=gx (lp W);by_cases aU:P+t<n
       .have i2:(P:Int)+(t:Int)<(n:Int):=by omega
        have i3:(0:Int)<=(P:Int)+(t:Int):=by omega
        have e4:((P:Int)+(t:Int)).toNat=P+t:=by omega
        have o:=Sl.below hb (gH ai K);obtain⟨qb,a7,rfl,_⟩:=o.addr (by omega);have x0:=Bt.at o (P+t) aU;have x3:=nS W t aJ;have f0:=nD W t;have hs:=gx (oZ W t _ (b.getD (P+t) 0) rfl);have aP:Hid (∀v,Below wo wo (wp.setCell (wo,t) v)):=gx (fun v=>K.setCell gM _);go_wp2_with fail;go_roundg (N-(t+1));case measure=>omega
        case rel=>
         refine⟨t+1,_,rfl,by omega,by go_num,hs,aP _,gx (fun v hv=>?_)⟩;rw[nW (by rw[aL.out];exact aJ)];by_cases e:v=t;·subst e;rw[gG rfl,gG (by omega)]
         .rw[gC e,HJ.out v hv];by_cases E:v<t;·rw[gG E,gG (by omega)]
          .rw[gC E,gC (by omega)]
       .have i2:¬(P:Int)+(t:Int)<(n:Int):=by omega
        go_wp2_with fail;go_roundg (N-(t+1));case measure=>omega
        case rel=>
         refine⟨t+1,l,rfl,by omega,by go_num,W,K,gx (fun v hv=>?_)⟩;rw[HJ.out v hv];by_cases e:v<t;·rw[gG e,gG (by omega)]
         .rw[gC e];by_cases E:v<t+1
          .have e3:v=t:=by omega
           subst e3;rw[gG E];have:=Y.out;simp[List.getD,rz (show b.length<=P+v by omega)]
          .rw[gC E]
      .obtain rfl:N=t:=by omega
       have X:l=gW.chunk b N k:=gW.Lu (lp W) (fun v hv=>by rw[HJ.out v hv,gG hv,L.out]);subst X;have M2:=C.below K;go_wp2_with (refine wpList_append_row rfl (.tmp 80) (.tmp 82) 81 jt rfl w.heap.size _ R rfl M2 ⟨some (wo,gy),N,N,gW.chunk b N k⟩ _ rfl rfl (qX W) (mg M2.own.own W _) (by rw[m.out];omega) (by omega) ?_;intro v5 w5 M5 g5);go_roundg (d-(k+1));case measure=>omega
       case rel=>
        refine⟨k+1,R++[⟨some (wo,gy),N,N,gW.chunk b N k⟩],rfl,by omega,by go_num,gx (by simp[m.out]),M5,gx (fun i hi=>?_)⟩;by_cases e:i<R.length;·rw[oC e];exact HD i e
        .have aT:i<R.length+1:=by simpa using hi
         have E:i=k:=by have:=m.out;omega
         subst E;rw[nI (by omega)];simp only[m.out,lU,jr];exact⟨trivial,trivial⟩
    .obtain rfl:d=k:=by omega
     have af:=gx (show gz R=gW.lr b d from by
      apply mW;·rw[gY,m.out,gW.sL]
      .intro i k1 k2;have hi:i<R.length:=by rwa[gY] at k1
       have:=(HD i hi).2;simp only[gz,rB,gW.lr,yA];rw[this,Q.out,Y.out])
     have hF:=gx (gW.sK (b:=b) h1 h2 (by rw[Y.out];exact hz));obtain⟨a',aw,rfl,F⟩:=C.ms;rw[m.out] at F;have DS:=Eu a' d aw R (s:Int) wo F;rw[af.out] at DS;replace DS:=gx DS;have j:=gx C.own.own;have f:=m.out;rw[f];rw[f] at j C;replace f:=gx f;go_wp2_with fail;go_at_call 84;refine(DS).mono ?_;rintro e w1⟨a1,n1,c1,S,e1,rfl,hS,hp,b1,nw⟩;obtain⟨I,rfl⟩:=gJ.j8.ok hF h2 h3 hp;obtain rfl:s=n1:=by rw[<-hS.dn,I.rows]
     have HS:=gx hS.jO;have HP:=gx hp;have M1:=C.below b1;have aB:=gH ai b1;have aH:=aB.size;have ak:=gx (gW.LY (g:=g) HC hg (by rw[Y.out];exact hz) hp);have aV:Hid (gJ.m8 (gW.lr b d) (gz S) d s (gW.wd b.length d)):=gx ⟨hF,h2,h3,I⟩;have MO:=gx M1.own;rw[<-f.out] at MO;have Z:=Sl.src (P:=prog) hS.sl (tx:=81) (e':=64) jt (qP S);clear hp I DS DC;go_upto_region 26 with(refine wpList_append_t rfl (.tmp 90) (.tmp 91) 81 81 rfl w.heap.size 64 1 24 () jt l3 rfl (by decide) _ R.length (iv R) (by rw[f.out];rfl) MO (a1,s,c1) s (iv S) rfl Z (by unfold maxLen;rw[f.out];omega) (by rw[f.out];omega) aH ?_;intro v2 w2 ao aj;obtain⟨aM,aN,rfl,G⟩:=gK ao.own);have aA:∀r∈R++S,Bt w2 r.a r.n r.cap r.l:=fun r hr=>by
      rcases kd.1 hr with hr|hr
      .exact(M1.bt r hr).grown aj (by rw[f.out];exact M1.apart r hr)
      .refine(hS.row r hr).grown aj (fun Y b off e E=>?_);have h1:=nw r hr Y b off e;have h2:=(j.lt b (by rw[<-f.out];exact E)).2;omega
     rw[<-qq,f.out] at G;have hT:Ms w2 aM (d+s) aN (R++S):=⟨G,aA⟩;have ay:=gx (show gz (R++S)=gW.lr b d++gz S by rw[<-af.out];simp[gz]);have ah:=ao.im (b:=w) gM (fun k e=>by cases e);have a4:=ah.size;have X:=G.le;have al:=G.max;unfold maxLen at al;rw[f.out];clear aA G ao aj nw hS Z MO M1 b1 j m HD af C F h hF;generalize ax:R++S=T at *;replace ax:=gx ax;have HT:=gx hT.jO;go_loopg[18,94] (d+s) (fun gg aY a2 wr=>∃(k:Nat) (O:List Rw),gg=d+s-k/\k<=d+s/\a2=.int .i64 (k:Int)/\Hid (O.length=k)/\Mb w2 wr none w2.heap.size aY O/\Hid (∀r∈O,Ty wr r.a r.n 5)/\Hid (∀i (hi:i<O.length) (q:i<T.length),O[i].l=jT.bytes g i n T[i].l));case atStart=>exact⟨0,[],rfl,by omega,rfl,gx rfl,Mb.nil _ _ gZ _ gM,gx (fun r hr=>by cases hr),gx (fun i hi=>absurd hi (by simp))⟩
     case round=>
      obtain⟨k,O,rfl,hk,rfl,m,C,aq,HD⟩:=hrel;obtain⟨wp,rfl⟩:∃wp:World,wp=wr:=⟨_,rfl⟩;have o:=C.own.im gM (fun k e=>by cases e);have aI:=o.size;by_cases h:k<d+s
      .have aD:k<T.length:=by rw[HT.out];exact h
       obtain⟨tb,a8,rfl,_⟩:=hT.sl.addr (by omega);obtain⟨x0,az⟩:=(hT.below o).at k aD;have i0:(0:Int)<=(k:Int):=by omega
       have i1:(k:Int)<(d:Int)+(s:Int):=by omega
       have ap:T[k].l.length=gW.wd b.length d:=by have:=aV.row (i:=k) h;rw[<-ay.out,ki aD] at this;exact this
       have aG:=Bt.n az;have aK:jT.jN (g:Int) (k:Int) (n:Int) T[k].n=0:=by have:=Q.out;rw[Y.out] at ap;unfold jT.jN;rw[gC (by omega),gC (by omega)]
       have D:=yI (g:Int) (k:Int) (n:Int) T[k].a T[k].n T[k].cap T[k].l wp az;rw[aK,gG rfl] at D;simp only[lS] at D;have ab:=jT.lx g k n T[k].l;obtain⟨B,K⟩:∃B,B=jT.bytes g k n T[k].l:=⟨_,rfl⟩;rw[<-K] at D ab;replace K:=gx K;generalize ag:T[k]=r at *;replace ag:=gx ag;replace D:=gx D;have aO:0<B.length:=by omega
       replace ab:=gx ab;replace ap:=gx ap;replace aG:=gx aG;clear aK;go_wp2_with fail;go_at_call 85;refine(D).mono ?_;rintro e w3⟨v3,rfl,b3,o3⟩;obtain⟨gb,gc,rfl,-,-,-,-⟩:=jR o3 aO;have M3:=C.below b3;have ar:=gx (fun r hr=>(aq r hr).below b3);have au:=gx (nb o3);have a5:=b3.size;go_wp2_with (refine wpList_append_row rfl (.tmp 109) (.tmp 111) 81 jt rfl w2.heap.size _ O rfl M3 ⟨some (gb,gy),B.length,gc,B⟩ _ rfl rfl (qX o3) (mg M3.own.own o3 _) (by rw[m.out];omega) (by omega) ?_;intro v5 w5 M5 g5);go_roundg (d+s-(k+1));case measure=>omega
       case rel=>
        refine⟨k+1,O++[⟨some (gb,gy),B.length,gc,B⟩],rfl,by omega,by go_num,gx (by simp[m.out]),M5,gx (fun r hr=>?_),gx (fun i hi q=>?_)⟩
        .have ho:=M3.own.own.alloc (.cells #[(some (gb,gy),B,gc)] 64);rcases kd.1 hr with hr|hr
         .exact((ar r hr).alloc _).grown ho g5 (by decide)
         .obtain rfl:=iA.1 hr;exact(au.alloc _).grown ho g5 (by decide)
        by_cases e:i<O.length;·rw[oC e];exact HD i e q
        .have aT:i<O.length+1:=by simpa using hi
         have E:i=k:=by have:=m.out;omega
         subst E;rw[nI (by omega)];simp only[m.out,lU,jr];rw[K.out,ag.out]
      .obtain rfl:d+s=k:=by omega
       have ad:gz O=gW.blocks g b.length (gW.lr b d++gz S):=by
        rw[<-ay.out];apply mW;·rw[gY,m.out,gW.qS,gY,HT.out]
        .intro i k1 k2;have hi:i<O.length:=by rwa[gY] at k1
         have q:i<T.length:=by have:=m.out;rw[HT.out];omega
         have h5:=HD i hi q;have h6:=gW.vn g b.length (gz T) i (by rw[gY];exact q);rw[jz k2] at h6;rw[kO h6,ki q,Y.out];simpa[gz] using h5
       replace ad:=gx ad;obtain⟨a3,c3,rfl,F⟩:=C.ms;have j:=gx (hJ C.own.own ah.size);have aS:=gH ah o;go_wp2_with fail;go_ret2;exact⟨_,_,_,O,0,rfl,F,by rw[ad.out];exact ak,aS,j,aq⟩
theorem A2(a:Option Addr)(n cap:Nat)(b:List UInt8)(g d s:Int)(w:World)(hb:Bt w a n cap b):
  Calls prog 58 #[(a,n,cap),g,d,s] w (ES (gW.mv b g d s) w):=by
 have K:=Bt.n hb;have I:=hb.le;have m:=hb.max;unfold maxLen at m;by_cases hc:gJ.gT d s=0
 .have G:=gJ.kv hc;obtain⟨d',rfl⟩:=jD (a:=d) (by omega);obtain⟨F,rfl⟩:=jD (a:=s) (by omega);have j:=gx (hc▸kz (d':Int) (F:Int) w);by_cases o:g<0
  .have f:=gx (gW.F4 (b:=b) hc (.inl o));replace hc:=gx hc;go_enter func58,ntmps58;go_wp2_with fail;go_at_call 14;refine(j).mono ?_;rintro e B⟨rfl,rfl⟩;go_wp2_with fail;go_ret2;exact⟨_,_,_,[],_,rfl,Ms.nil _,f,iU _ _,iY _ _ _ _,(fun r h=>by cases h)⟩
  by_cases q:39<g
  .have f:=gx (gW.F4 (b:=b) hc (.inr q));replace hc:=gx hc;go_enter func58,ntmps58;go_wp2_with fail;go_at_call 14;refine(j).mono ?_;rintro e B⟨rfl,rfl⟩;go_wp2_with fail;go_ret2;exact⟨_,_,_,[],_,rfl,Ms.nil _,f,iU _ _,iY _ _ _ _,(fun r h=>by cases h)⟩
  obtain⟨C,rfl⟩:=jD (a:=g) (by omega);by_cases L:400*(d':Int)<(n:Int)
  .have f:=gx (gW.LX (b:=b) (g:=(C:Int)) hc (by omega) (by omega));replace hc:=gx hc;go_enter func58,ntmps58;go_wp2_with fail;go_at_call 14;refine(j).mono ?_;rintro e B⟨rfl,rfl⟩;go_wp2_with fail;go_ret2;exact⟨_,_,_,[],_,rfl,Ms.nil _,f,iU _ _,iY _ _ _ _,(fun r h=>by cases h)⟩
  exact NW a n cap b C d' F w hb (by omega) (by omega) (by omega) (by omega) (by omega)
 .have N:(gJ.gT d s !=0)=true:=ij.2 hc;have j:=gx (kz d s w);have f:=gx (gW.LW (b:=b) (g:=g) hc);generalize gJ.gT d s=E at *;replace hc:=gx hc;go_enter func58,ntmps58;go_wp2_with fail;go_at_call 14;refine(j).mono ?_;rintro e B⟨rfl,rfl⟩;go_wp2_with fail;go_ret2;exact⟨_,_,_,[],_,rfl,Ms.nil _,f,iU _ _,iY _ _ _ _,(fun r h=>by cases h)⟩
end Go.Proofs.YthhcdfjijagalaaGreat

import Derived.Test.YthhcdfjijagalaaGreatM10
import Derived.Test.YthhcdfjijagalaaGreatM20
set_option linter.all false
set_option maxHeartbeats 4000000
set_option maxRecDepth 100000
namespace Go.Proofs.YthhcdfjijagalaaGreat
open Qz Go.Proofs.Tryz Go.RowKit
theorem GM(ea:Option Addr)(e ec k:Nat)(j:k<=e)(W:World):(Instr.slice 64 (ea,e,ec) (some (.int .i64 (k:Int))) none none).run prog W=.ok (.slice (if ec=k then ea else ea.map (·.add (k*1))) (e-k) (ec-k)) W:=by
 have f:(0:Int)<=(k:Int):=by omega
 have h:(k:Int)<=(e:Int):=by omega
 refine(run_slice_l (P:=prog) (w:=W) (t:=64) (a:=ea) (len:=e) (cap:=ec) underlying64 .i64 (k:Int) f h).trans ?_;simp only[lS];rfl
theorem Bt.Qb{w:World}{a:Option Addr}{n cap:Nat}{l:List UInt8}(h:Bt w a n cap l){k:Nat}(e:k<=n):Bt w (if cap=k then a else a.map (·.add (k*1))) (n-k) (cap-k) (l.drop k):=by
 have:=Bt.slice h e (jb n);rwa[ld (by rw[kG,Bt.n h];exact jb _)] at this
theorem yp{w w':World}{base:Nat}{e:TypeId}{sz:Nat}{v:Value}{n:Nat}{xs:List Value}{q:Option Nat}(h:w.ownsRow base e sz v n xs)(B:w.grownBy w' q)(j:∀k,q=some k->v.ownBlock≠some k):w'.ownsRow base e sz v n xs:=by
 refine⟨h.1,?_⟩;rcases h.2 with o|⟨g,cap,f,rfl,hb,m,r⟩
 .exact .inl o
 .exact .inr ⟨g,cap,f,rfl,hb,by rw[B.block g (tQ.1 m).1 (fun e=>j g e.symm rfl)];exact m,r⟩
theorem CQ{w:World}{base f:Nat}{e e':TypeId}{sz m n E:Nat}{v v':Value}{xs o:List Value}(h:w.ownsRow base e sz v n xs)(B:w.ownsRow f e' m v' E o)(j:e≠e')(k:Nat)(q:v'.ownBlock=some k):v.ownBlock≠some k:=by
 rcases B.2 with⟨rfl,_⟩|⟨g,cap,r,rfl,_,C,_⟩
 .simp[Value.ownBlock] at q
 .obtain rfl:g=k:=by simpa[Value.ownBlock] using q
  exact gP h C j
def BN(w:World)(base:Nat)(a:Option Addr)(n cap:Nat)(R:List Rw):Prop:=w.ownsRow base 64 1 (a,n,cap) n (iv R)/\∀r∈R,w.ownsRow base 5 1 r.v r.n (cb r.l)
theorem BN.nil(w:World)(base:Nat):BN w base none 0 0 []:=⟨iY _ _ _ _,fun r e=>by cases e⟩
def ER(P:List (List UInt8)->Int->Prop)(w:World)(e:Ending)(w':World):Prop:=
 ∃a n cap R err,e=.returned (.tuple #[.slice a n cap,.int .i64 err])/\Ms w' a n cap R/\P (gz R) err/\Below w w w'/\BN w' w.heap.size a n cap R
theorem ER.A9{P:List (List UInt8)->Int->Prop}{w:World}{e:Ending}{w':World}(h:ER P w e w'):rR P w e w':=by
 obtain⟨a,n,cap,R,err,f,j,m,o,_⟩:=h;exact⟨a,n,cap,R,err,f,j,m,o⟩
theorem Om(a:Option Addr)(n cap:Nat)(b:List UInt8)(g d s:Nat)(w:World)(hb:Bt w a n cap b)(h1:1<=d)(h2:d<=8)(h3:s<=4)(hg:g<=39)(hz:n<=400*d):
  Calls prog 71 #[(a,n,cap),g,d,s] w (ER (gW.mv b (g:Int) (d:Int) (s:Int)) w):=by
 have Q:=gx (Bt.n hb);have a4:=hb.le;have aH:=hb.max;unfold maxLen at aH;have HC:gJ.gT (d:Int) (s:Int)=0:=gJ.kl (by omega);have DC:=gx (HC▸lZ (d:Int) (s:Int) w);replace HC:=gx HC;obtain⟨N,hN⟩:∃N,N=gW.wd n d:=⟨_,rfl⟩;have a0:1<=N:=by rw[hN];exact gW.IV _ _
 have aP:N<=400:=by rw[hN];exact gW.JB h1 hz
 have t0:¬(g:Int)<0:=by omega
 have t1:¬(40:Int)<=(g:Int):=by omega
 have t2:¬(d:Int)*400<(n:Int):=by omega
 replace hN:=gx hN;go_enter func71,ntmps71;go_wp2_with fail;go_at_call 13;refine(DC).mono ?_;rintro e w1⟨rfl,rfl⟩;have hq:(((n:Int)+(d:Int)-1)/(d:Int))=(((n+d-1)/d:Nat):Int):=by rw[Int.natCast_ediv];congr 1;omega
 have C:N=max ((n+d-1)/d) 1:=by rw[hN.out];rfl
 generalize (n+d-1)/d=q at *;go_upto_region 8 with(fail);go_cut[11] from 39 to 46 (fun c wx=>c=.int .i64 (N:Int)/\w=wx);case first=>
  by_cases a5:1<=q
  .obtain rfl:N=q:=by omega
   replace C:=gx C;go_wp2_with fail;go_meet;exact⟨rfl,rfl⟩
  .obtain rfl:q=0:=by omega
   obtain rfl:N=1:=by omega
   replace C:=gx C;go_wp2_with fail;go_meet;exact⟨rfl,rfl⟩
 case rest=>
  obtain⟨rfl,rfl⟩:=hcut;clear hq C;have a6:=iU w.heap.size w;go_wp2_with fail;go_loopg[12,48] d (fun gg aS aU wr=>∃(k:Nat) (R:List Rw),gg=d-k/\k<=d/\aU=.int .i64 (k:Int)/\Hid (R.length=k)/\Mb w wr none w.heap.size aS R/\Hid (∀i (hi:i<R.length),R[i].n=N/\R[i].l=gW.chunk b N i));case atStart=>exact⟨0,[],rfl,by omega,rfl,gx rfl,Mb.nil _ _ gZ _ gM,gx (fun i hi=>absurd hi (by simp))⟩
  case round=>
   obtain⟨k,R,rfl,hk,rfl,h,j,Y⟩:=hrel;obtain⟨wo,rfl⟩:∃wo:World,wo=wr:=⟨_,rfl⟩;have ah:=j.own.im gM (fun k e=>by cases e);have aY:=ah.size;by_cases G:k<d
   .go_upto_region 14 with(refine wpList_make_bytes rfl (.tmp 51) (.tmp 51) rfl N rfl rfl (by omega) ?_;intro w3 U b3 z3);have hP:k*N<=3200:=jY (Nat.mul_le_mul (pp G) aP) (by omega);obtain⟨lo,F⟩:∃lo,lo=min (k*N) n:=⟨_,rfl⟩;have ax:=fun W=>GM a n cap lo (by omega) W;have hx:=Bt.Qb (w:=w3) (l:=b) (k:=lo) (Sl.below (Sl.below hb ah) b3) (by omega);have aj:=gx (gW.Hq (b:=b) (N:=N) (i:=k) (lo:=lo) (by rw[Q.out];exact F));rw[Q.out] at aj;have a2:((k:Int)*(N:Int))=((k*N:Nat):Int):=by simp
    generalize k*N=P at *;generalize (if cap=lo then a else a.map (·.add (lo*1)))=da at *;generalize aE:n-lo=dn at *;generalize cap-lo=dc at *;replace aE:=gx aE;by_cases L:P<=n
    .obtain rfl:lo=P:=by omega
     have i5:(lo:Int)<=(n:Int):=by omega
     replace F:=gx F;replace L:=gx L;go_upto_region 15 with(refine wpList_copy_bytes rfl (.tmp 53) (.tmp 61) rfl wo.heap.size wo.heap.size N N (List.replicate N 0) (b.drop lo) rfl U da dn dc rfl hx wo.heap.size wo b3 gM ?_;intro w4 r4 o4 b4;rw[aj.out] at o4);have M2:=j.below b4;have ar:=b4.size;clear ax hx U b3 z3;go_wp2_with (refine wpList_append_row rfl (.tmp 63) (.tmp 65) 81 jt rfl w.heap.size _ R rfl M2 ⟨some (wo,gy),N,N,gW.chunk b N k⟩ _ rfl rfl (qX o4) (mg M2.own.own o4 _) (by rw[h.out];omega) (by omega) ?_;intro v5 w5 M5 g5);go_roundg (d-(k+1));case measure=>omega
     case rel=>
      refine⟨k+1,R++[⟨some (wo,gy),N,N,gW.chunk b N k⟩],rfl,by omega,by go_num,gx (by simp[h.out]),M5,gx (fun i hi=>?_)⟩;by_cases e:i<R.length;·rw[oC e];exact Y i e
      .have aF:i<R.length+1:=by simpa using hi
       have Z:i=k:=by have:=h.out;omega
       subst Z;rw[nI (by omega)];simp only[h.out,lU,jr];exact⟨trivial,trivial⟩
    .obtain rfl:lo=n:=by omega
     have i5:¬(P:Int)<=(lo:Int):=by omega
     replace F:=gx F;replace L:=gx L;go_upto_region 15 with(refine wpList_copy_bytes rfl (.tmp 53) (.tmp 61) rfl wo.heap.size wo.heap.size N N (List.replicate N 0) (b.drop lo) rfl U da dn dc rfl hx wo.heap.size wo b3 gM ?_;intro w4 r4 o4 b4;rw[aj.out] at o4);have M2:=j.below b4;have ar:=b4.size;clear ax hx U b3 z3;go_wp2_with (refine wpList_append_row rfl (.tmp 63) (.tmp 65) 81 jt rfl w.heap.size _ R rfl M2 ⟨some (wo,gy),N,N,gW.chunk b N k⟩ _ rfl rfl (qX o4) (mg M2.own.own o4 _) (by rw[h.out];omega) (by omega) ?_;intro v5 w5 M5 g5);go_roundg (d-(k+1));case measure=>omega
     case rel=>
      refine⟨k+1,R++[⟨some (wo,gy),N,N,gW.chunk b N k⟩],rfl,by omega,by go_num,gx (by simp[h.out]),M5,gx (fun i hi=>?_)⟩;by_cases e:i<R.length;·rw[oC e];exact Y i e
      .have aF:i<R.length+1:=by simpa using hi
       have Z:i=k:=by have:=h.out;omega
       subst Z;rw[nI (by omega)];simp only[h.out,lU,jr];exact⟨trivial,trivial⟩
   .obtain rfl:d=k:=by omega
    have ae:=gx (show gz R=gW.lr b d from by
     apply mW;·rw[gY,h.out,gW.sL]
     .intro i k1 k2;have hi:i<R.length:=by rwa[gY] at k1
      have:=(Y i hi).2;simp only[gz,rB,gW.lr,yA];rw[this,hN.out,Q.out])
    have hF:=gx (gW.sK (b:=b) h1 h2 (by rw[Q.out];exact hz));obtain⟨a',aw,rfl,o⟩:=j.ms;rw[h.out] at o;have DS:=wm a' d aw R (s:Int) wo o;rw[ae.out] at DS;replace DS:=gx DS;have I:=gx j.own.own;have f:=h.out;rw[f];rw[f] at I j;replace f:=gx f;go_wp2_with fail;go_at_call 98;refine(DS).mono ?_;rintro e w1⟨a1,n1,c1,S,e1,rfl,hS,hp,b1,nw⟩;obtain⟨K,rfl⟩:=gJ.j8.ok hF h2 h3 hp;obtain rfl:s=n1:=by rw[<-hS.dn,K.rows]
    have HS:=gx hS.jO;have HP:=gx hp;have M1:=j.below b1;have aD:=gH ah b1;have aJ:=aD.size;have al:=gx (gW.LY (g:=g) HC hg (by rw[Q.out];exact hz) hp);have aR:Hid (gJ.m8 (gW.lr b d) (gz S) d s (gW.wd b.length d)):=gx ⟨hF,h2,h3,K⟩;have MO:=gx M1.own;rw[<-f.out] at MO;have V:=Sl.src (P:=prog) hS.sl (tx:=81) (e':=64) jt (qP S);clear hp K DS DC;go_upto_region 22 with(refine wpList_append_t rfl (.tmp 77) (.tmp 78) 81 81 rfl w.heap.size 64 1 24 () jt l3 rfl (by decide) _ R.length (iv R) (by rw[f.out];rfl) MO (a1,s,c1) s (iv S) rfl V (by unfold maxLen;rw[f.out];omega) (by rw[f.out];omega) aJ ?_;intro v2 w2 ap ak;obtain⟨aM,aN,rfl,E⟩:=gK ap.own);have aC:∀r∈R++S,Bt w2 r.a r.n r.cap r.l:=fun r hr=>by
     rcases kd.1 hr with hr|hr
     .exact(M1.bt r hr).grown ak (by rw[f.out];exact M1.apart r hr)
     .refine(hS.row r hr).grown ak (fun Q b off e Z=>?_);have h1:=nw r hr Q b off e;have h2:=(I.lt b (by rw[<-f.out];exact Z)).2;omega
    rw[<-qq,f.out] at E;have hT:Ms w2 aM (d+s) aN (R++S):=⟨E,aC⟩;have az:=gx (show gz (R++S)=gW.lr b d++gz S by rw[<-ae.out];simp[gz]);have aA:=ap.im (b:=w) gM (fun k e=>by cases e);have X:=aA.size;have aW:=E.le;have ao:=E.max;unfold maxLen at ao;rw[f.out];clear aC E ap ak nw hS V MO M1 b1 I h Y ae j o G hF;generalize ay:R++S=T at *;replace ay:=gx ay;have HT:=gx hT.jO;go_loopg[17,81] (d+s) (fun gg aT aV wr=>∃(k:Nat) (O:List Rw),gg=d+s-k/\k<=d+s/\aV=.int .i64 (k:Int)/\Hid (O.length=k)/\Mb w2 wr none w2.heap.size aT O/\Hid (∀i (hi:i<O.length) (m:i<T.length),O[i].l=jT.bytes g i n T[i].l)/\Hid (∀r∈O,wr.ownsRow w2.heap.size 5 1 r.v r.n (cb r.l)));case atStart=>exact⟨0,[],rfl,by omega,rfl,gx rfl,Mb.nil _ _ gZ _ gM,gx (fun i hi=>absurd hi (by simp)),gx (fun r hr=>by cases hr)⟩
    case round=>
     obtain⟨k,O,rfl,hk,rfl,h,j,Y,HO⟩:=hrel;obtain⟨wp,rfl⟩:∃wp:World,wp=wr:=⟨_,rfl⟩;have ai:=j.own.im gM (fun k e=>by cases e);have aK:=ai.size;by_cases G:k<d+s
     .have aG:k<T.length:=by rw[HT.out];exact G
      obtain⟨tb,aZ,rfl,_⟩:=hT.sl.addr (by omega);obtain⟨x0,aB⟩:=(hT.below ai).at k aG;have i0:(0:Int)<=(k:Int):=by omega
      have i1:(k:Int)<(d:Int)+(s:Int):=by omega
      have aq:T[k].l.length=gW.wd b.length d:=by have:=aR.row (i:=k) G;rw[<-az.out,ki aG] at this;exact this
      have aI:=Bt.n aB;have aL:jT.jN (g:Int) (k:Int) (n:Int) T[k].n=0:=by have:=hN.out;rw[Q.out] at aq;unfold jT.jN;rw[gC (by omega),gC (by omega)]
      have D:=E4 (g:Int) (k:Int) (n:Int) T[k].a T[k].n T[k].cap T[k].l wp aB;rw[aL,gG rfl] at D;simp only[lS] at D;have ab:=jT.lx g k n T[k].l;obtain⟨B,hB⟩:∃B,B=jT.bytes g k n T[k].l:=⟨_,rfl⟩;rw[<-hB] at D ab;replace hB:=gx hB;generalize af:T[k]=r at *;replace af:=gx af;replace D:=gx D;have aO:0<B.length:=by omega
      replace ab:=gx ab;replace aq:=gx aq;replace aI:=gx aI;clear aL;go_wp2_with fail;go_at_call 99;refine(D).mono ?_;rintro e w3⟨v3,rfl,b3,U⟩;obtain⟨gb,gc,rfl,-,-,-,-⟩:=jR U aO;have M3:=j.below b3;have aX:=b3.size;have au:=gx (fun r (hr:r∈O++[(⟨some (gb,gy),B.length,gc,B⟩:Rw)])=>show w3.ownsRow w2.heap.size 5 1 r.v r.n (cb r.l) from by
       rcases kd.1 hr with hr|hr
       .exact gL (HO r hr) b3
       .obtain rfl:=iA.1 hr;exact hJ U aK)
      go_wp2_with (refine wpList_append_row rfl (.tmp 99) (.tmp 101) 81 jt rfl w2.heap.size _ O rfl M3 ⟨some (gb,gy),B.length,gc,B⟩ _ rfl rfl (qX U) (mg M3.own.own U _) (by rw[h.out];omega) (by omega) ?_;intro v5 w5 M5 g5);go_roundg (d+s-(k+1));case measure=>omega
      case rel=>
       refine⟨k+1,O++[⟨some (gb,gy),B.length,gc,B⟩],rfl,by omega,by go_num,gx (by simp[h.out]),M5,gx (fun i hi m=>?_),?_⟩
       .by_cases e:i<O.length;·rw[oC e];exact Y i e m
        have aF:i<O.length+1:=by simpa using hi
        have Z:i=k:=by have:=h.out;omega
        subst Z;rw[nI (by omega)];simp only[h.out,lU,jr];rw[hB.out,af.out]
       .have ag:Below w3 w3 (w3.alloc (.cells #[(some (gb,gy),B,gc)] 64)):=gZ.alloc gM _;exact gx (fun r hr=>yp (gL (au r hr) ag) g5 (fun k hk=>CQ (gL (au r hr) ag) (gL M3.own.own ag) (by decide) k hk))
     .obtain rfl:d+s=k:=by omega
      have ad:gz O=gW.blocks g b.length (gW.lr b d++gz S):=by
       rw[<-az.out];apply mW;·rw[gY,h.out,gW.qS,gY,HT.out]
       .intro i k1 k2;have hi:i<O.length:=by rwa[gY] at k1
        have m:i<T.length:=by have:=h.out;rw[HT.out];omega
        have h5:=Y i hi m;have h6:=gW.vn g b.length (gz T) i (by rw[gY];exact m);rw[jz k2] at h6;rw[kO h6,ki m,Q.out];simpa[gz] using h5
      replace ad:=gx ad;obtain⟨a3,c3,rfl,o⟩:=j.ms;have aQ:=gH aA ai;go_wp2_with fail;go_ret2;exact⟨_,_,_,O,0,rfl,o,by rw[ad.out];exact al,aQ,hJ j.own.own X,fun r hr=>hJ (HO r hr) X⟩
theorem Bd(a:Option Addr)(n cap:Nat)(b:List UInt8)(g d s:Int)(w:World)(hb:Bt w a n cap b):
  Calls prog 71 #[(a,n,cap),g,d,s] w (ER (gW.mv b g d s) w):=by
 have G:=Bt.n hb;have F:=hb.le;have j:=hb.max;unfold maxLen at j;by_cases hc:gJ.gT d s=0
 .have B:=gJ.kv hc;obtain⟨d',rfl⟩:=jD (a:=d) (by omega);obtain⟨r,rfl⟩:=jD (a:=s) (by omega);have h:=gx (hc▸lZ (d':Int) (r:Int) w);by_cases m:g<0
  .have f:=gx (gW.F4 (b:=b) hc (.inl m));replace hc:=gx hc;go_enter func71,ntmps71;go_wp2_with fail;go_at_call 13;refine(h).mono ?_;rintro e o⟨rfl,rfl⟩;go_wp2_with fail;go_ret2;exact⟨_,_,_,[],_,rfl,Ms.nil _,f,iU _ _,BN.nil _ _⟩
  by_cases C:40<=g
  .have f:=gx (gW.F4 (b:=b) hc (.inr (show 39<g by omega)));replace hc:=gx hc;go_enter func71,ntmps71;go_wp2_with fail;go_at_call 13;refine(h).mono ?_;rintro e o⟨rfl,rfl⟩;go_wp2_with fail;go_ret2;exact⟨_,_,_,[],_,rfl,Ms.nil _,f,iU _ _,BN.nil _ _⟩
  obtain⟨q,rfl⟩:=jD (a:=g) (by omega);by_cases I:(d':Int)*400<(n:Int)
  .have f:=gx (gW.LX (b:=b) (g:=(q:Int)) hc (by omega) (by omega));replace hc:=gx hc;go_enter func71,ntmps71;go_wp2_with fail;go_at_call 13;refine(h).mono ?_;rintro e o⟨rfl,rfl⟩;go_wp2_with fail;go_ret2;exact⟨_,_,_,[],_,rfl,Ms.nil _,f,iU _ _,BN.nil _ _⟩
  exact Om a n cap b q d' r w hb (by omega) (by omega) (by omega) (by omega) (by omega)
 .have K:(gJ.gT d s !=0)=true:=ij.2 hc;have h:=gx (lZ d s w);have f:=gx (gW.LW (b:=b) (g:=g) hc);generalize gJ.gT d s=E at *;replace hc:=gx hc;go_enter func71,ntmps71;go_wp2_with fail;go_at_call 13;refine(h).mono ?_;rintro e o⟨rfl,rfl⟩;go_wp2_with fail;go_ret2;exact⟨_,_,_,[],_,rfl,Ms.nil _,f,iU _ _,BN.nil _ _⟩
end Go.Proofs.YthhcdfjijagalaaGreat

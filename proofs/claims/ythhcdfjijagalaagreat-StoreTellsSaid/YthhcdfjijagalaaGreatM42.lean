import Derived.Test.YthhcdfjijagalaaGreatM09
set_option linter.all false
set_option maxHeartbeats 4000000
set_option maxRecDepth 100000
namespace Go.Proofs.YthhcdfjijagalaaGreat
open Qz Go.Proofs.Tryz Go.RowKit
theorem CY(d s:Int)(w:World)(h:gJ.gT d s≠0):Calls prog 107 #[d,s] w (oy (gJ.gT d s) w):=by
 have C:=gx (kz d s w);have f:(gJ.gT d s !=0)=true:=by rw[ij];exact h
 clear h;generalize gJ.gT d s=e at *;go_enter func107,ntmps107;go_wp2_with fail;go_at_call 14;refine(C).mono ?_;rintro e' j⟨rfl,rfl⟩;go_wp2_with fail;go_ret2;exact⟨rfl,iU _ _⟩
theorem A4(d s:Nat)(w:World)(h1:1<=d)(h2:d<=8)(h3:s<=4):Calls prog 107 #[d,s] w (rR (fun L e=>gJ.pG L (d+s) d (gJ.mf d)/\e=0) w):=by
 have C:=gx (kz d s w);rw[gJ.kl (by omega)] at C;obtain⟨N,U⟩:∃N,d+s=N:=⟨_,rfl⟩;have s1:IntKind.i64.wrap ((d:Int)+(s:Int))=(N:Int):=by rw[iO _ (by omega)];omega
 have s2:(d:Int)+(s:Int)=(N:Int):=by omega
 have ae:N<=12:=by omega
 rw[U];replace U:=gx U;go_enter func107,ntmps107;go_wp2_with fail;go_at_call 14;refine(C).mono ?_;rintro e' w1⟨rfl,rfl⟩;go_wp2_with fail;go_loopg[7,8] N (fun g s7 s8 wr=>∃(k:Nat) (R:List Rw),g=N-k/\k<=N/\s8=.int .i64 (k:Int)/\Hid (R.length=k)/\Mb w wr none w.heap.size s7 R/\Hid (∀i (hi:i<R.length),R[i].l.length=d/\∀j,j<d->R[i].l.getD j 0=gJ.mf d i j));case atStart=>exact⟨0,[],rfl,by omega,rfl,gx rfl,Mb.nil _ _ gZ _ gM,gx (fun i hi=>absurd hi (by simp))⟩
 case round=>
  obtain⟨k,R,rfl,hk,rfl,B,O,HD⟩:=hrel;obtain⟨wo,rfl⟩:∃wo:World,wo=wr:=⟨_,rfl⟩;by_cases ak:k<N
  .have ag:=(O.own.im gM (fun k e=>by cases e)).size;have af:k<12:=by omega
   go_wp2_with (refine wpList_make_bytes rfl (.tmp 24) (.tmp 24) rfl d rfl rfl (by omega) ?_;intro w2 o2 b2 z2);go_loopg[28] d (fun g ab wr=>∃(j:Nat) (l:List UInt8),g=d-j/\j<=d/\ab=.int .i64 (j:Int)/\wr.ownsRow wo.heap.size 5 1 (some (wo,gy),d,d) d (cb l)/\Below wo wo wr/\Hid (∀t,t<d->l.getD t 0=if t<j then gJ.mf d k t else 0));case atStart=>exact⟨0,_,rfl,by omega,rfl,o2,b2,gx (fun t I=>by simp[List.getD,I])⟩
   case round=>
    clear o2 b2 z2;obtain⟨j,l,rfl,W,rfl,m,E,P⟩:=hrel;obtain⟨wp,rfl⟩:∃wp:World,wp=wr:=⟨_,rfl⟩;have ah:=E.size;by_cases G:j<d
    .have Q:=gx (lp m);have c0:=nS m j G;have f0:=nD m j;have f:∀(y:UInt8),y=gJ.mf d k j->Hid (∀t,t<d->(l.set j y).getD t 0=if t<j+1 then gJ.mf d k t else 0):=fun y K=>gx (fun t I=>by
      rw[nW (by rw[Q.out];exact G)];by_cases e:t=j;·subst e;rw[gG rfl,gG (by omega),K]
      .rw[gC e,P.out t I];by_cases q:t<j;·rw[gG q,gG (by omega)]
       .rw[gC q,gC (by omega)])
     replace f:=gx f;by_cases V:d<=k
     .have u0:(d:Int)<=(k:Int):=by omega
      have hx:=qD k j (by omega) (by omega);have K:=GB (d:=d) (i:=k) (j:=j) V (by omega) (by omega);have Z:k^^^j<256:=qk (n:=8) (by omega) (by omega);have al:IntKind.u8.wrap ((k^^^j:Nat):Int)=((k^^^j:Nat):Int):=by rw[IntKind.wrap_u8];omega
      obtain⟨y,o⟩:∃y,gJ.mf d k j=y:=⟨_,rfl⟩;rw[o] at K;replace o:=gx o;have D:=gx (CV (k^^^j) Z wp);rw[<-K] at D;have Y:=gx (oZ m j y.toNat y rfl);have r:Hid (Below wo wo (wp.setCell (wo,j) (.int .u8 (y.toNat:Int)))):=gx (E.setCell gM _);generalize k^^^j=x at *;clear K;go_wp2_with fail;go_at_call 126;refine(D).mono ?_;rintro e w5⟨rfl,rfl⟩;go_wp2_with fail;go_roundg (d-(j+1));case measure=>omega
      case rel=>exact⟨j+1,_,rfl,by omega,by go_num,Y,r,f y o.symm⟩
     .have u0:¬(d:Int)<=(k:Int):=by omega
      by_cases h:k=j
      .have Y:Hid ((wp.setCell (wo,j) (.int .u8 1)).ownsRow wo.heap.size 5 1 (some (wo,gy),d,d) d (cb (l.set j 1))):=gx (oZ m j 1 1 rfl);have r:Hid (Below wo wo (wp.setCell (wo,j) (.int .u8 1))):=gx (E.setCell gM _);have X:=gx (show(1:UInt8)=gJ.mf d k j by unfold gJ.mf gJ.one;rw[gG (by omega),gG h]);subst h;go_wp2_with fail;go_roundg (d-(k+1));case measure=>omega
       case rel=>exact⟨k+1,_,rfl,by omega,by go_num,Y,r,f 1 X⟩
      .have u1:((k:Int)==(j:Int))=false:=jB.2 (by omega);have u2:(k==j)=false:=jB.2 h;have X:=gx (show(0:UInt8)=gJ.mf d k j by unfold gJ.mf gJ.one;rw[gG (by omega),gC h]);have ai:=gx h;clear h;go_wp2_with fail;go_roundg (d-(j+1));case measure=>omega
       case rel=>
        refine⟨j+1,l,rfl,by omega,by go_num,m,E,gx (fun t I=>?_)⟩;rw[P.out t I];by_cases e:t=j;·subst e;rw[gC (by omega),gG (by omega)];exact X
        .by_cases q:t<j;·rw[gG q,gG (by omega)]
         .rw[gC q,gC (by omega)]
    .obtain rfl:d=j:=by omega
     have M2:=O.below E;have F:R.length<=65536:=by rw[B.out];omega
     go_wp2_with (refine wpList_append_row rfl (.tmp 49) (.tmp 51) 150 ku rfl w.heap.size _ R rfl M2 ⟨some (wo,gy),d,d,l⟩ _ rfl rfl (qX m) (mg M2.own.own m _) F (by omega) ?_;intro v5 w5 M5 g5);go_roundg (N-(k+1));case measure=>omega
     case rel=>
      refine⟨k+1,R++[⟨some (wo,gy),d,d,l⟩],rfl,by omega,by go_num,gx (by simp[B.out]),M5,gx (fun i hi=>?_)⟩;by_cases e:i<R.length;·rw[oC e];exact HD i e
      .have aj:i<R.length+1:=by simpa using hi
       have q:i=k:=by have:=B.out;omega
       subst q;rw[nI (by omega)];simp only[B.out,lU,jr];exact⟨lp m,fun j W=>by rw[P.out j W,gG W]⟩
  .obtain rfl:N=k:=by omega
   obtain⟨a',ad,rfl,S⟩:=O.ms;have hb:=O.own.im gM (fun k e=>by cases e);go_wp2_with fail;go_ret2;refine⟨_,_,_,R,0,rfl,S,⟨mI (by rw[gY];exact B) (fun i hi=>?_),rfl⟩,hb⟩;rw[oT hi];exact HD i (by simpa[gz] using hi)
def MT(d i:Nat)(a:gJ.M)(t j:Nat):UInt8:=gJ.sum j fun q=>gJ.iZ (gJ.mf d (d+i) q) (a q t)
theorem MU(d i:Nat)(a:gJ.M)(t:Nat):MT d i a t d=gJ.ot d a i t:=rfl
theorem KM(d i:Nat)(a:gJ.M)(t j:Nat):MT d i a t (j+1)=gJ.iG (MT d i a t j) (gJ.iZ (gJ.mf d (d+i) j) (a j t)):=rfl
theorem Ks(a:Option Addr)(n ac m s:Nat)(A:List Rw)(w:World)(hA:Ms w a n ac A)(U:gJ.lD (gz A) n m)(aC:n<=8)(aF:s<=4):Calls prog 84 #[(a,n,ac),s] w (yW (fun L e=>gJ.pG L s m (gJ.ot n (gJ.ja (gz A)))/\e=0) w):=by
 have aB:1<=n:=U.n1;have aS:=U.m1;have jE:=U.m2;have HW:=gx U.jN;have HA:=gx hA.jO;obtain⟨ab,aJ,aV,aW,rfl,W⟩:=hA.QL U;replace W:=gx W;have XA:=gx (hA.uQ U.lP);clear U;go_enter func84,ntmps84;go_wp2_with fail;go_at_call 107;refine(A4 n s w aB aC aF).mono ?_;rintro e w1⟨a1,n1,c1,Z,e1,rfl,hR,⟨I,rfl⟩,b1⟩;have A1:=hA.below b1;have HR:=gx hR.jO;have ak:n1=n+s:=by rw[<-hR.dn,I.rows]
 obtain⟨rb,aO,rfl,_⟩:=hR.sl.addr (by omega);have XR:=gx (hR.uQ I.lP);have HP:=gx I;have aL:=hR.sl.le;have aM:n<=n1:=by omega
 clear I;go_wp2_with fail;go_at_call 108;refine(ly _ _ _ _ _ A1).mono ?_;rintro e w2⟨rfl,q2,Y⟩;rw[HW.out];have S:Below w1 w1 w2:=by rw[Y];exact below_drewN gZ q2
 replace Y:=gx Y;have b2:=gH b1 S;have HS:Hid (n1=n+s):=gx ak;have C:Hid (s=0->gJ.pG [] s m (gJ.ot n (gJ.ja (gz A)))):=gx (fun h=>⟨h.symm,(fun r hr=>by cases hr),fun i j hi=>absurd hi (by omega)⟩);by_cases aE:s=0
 .subst aE;by_cases ah:c1=n;all_goals
   go_wp2_with fail;go_loopg[9,35] 0 (fun g s9 i wr=>g=0/\s9=.slice none 0 0/\i=.int .i64 0/\w2=wr);case atStart=>exact⟨rfl,rfl,rfl,rfl⟩
   case round=>
    obtain⟨rfl,rfl,rfl,rfl⟩:=hrel;go_wp2_with fail;go_ret2;exact⟨_,_,_,[],0,rfl,Ms.nil _,⟨C (by first|exact trivial|rfl),rfl⟩,b2,xM.nil _⟩
 .have ah:¬c1=n:=by omega
  clear C;go_wp2_with fail;clear W;go_loopg[9,35] s (fun g s9 aG wr=>∃(k:Nat) (R:List Rw),g=s-k/\k<=s/\aG=.int .i64 (k:Int)/\Hid (R.length=k)/\Mb w2 wr none w2.heap.size s9 R/\Hid (xM w.heap.size R)/\Hid (∀i (hi:i<R.length),R[i].l.length=m/\∀j,j<m->R[i].l.getD j 0=gJ.ot n (gJ.ja (gz A)) i j));case atStart=>exact⟨0,[],rfl,by omega,rfl,gx rfl,Mb.nil _ _ gZ _ gM,gx (xM.nil _),gx (fun i hi=>absurd hi (by simp))⟩
  case round=>
   obtain⟨k,R,rfl,hk,rfl,HL,hM,ad,HD⟩:=hrel;obtain⟨wo,rfl⟩:∃wo:World,wo=wr:=⟨_,rfl⟩;have F:=hM.own.im gM (fun k e=>by cases e);have aq:=F.size;by_cases aR:k<s
   .have aj:n+k<Z.length:=by rw[HR.out,HS.out];omega
    obtain⟨ra,rc,ao,e0⟩:=XR (n+k) aj;have E:=S.trans (F.mono S.size);have x0:=e0 wo E;have ay:0<A.length:=by rw[HA.out];omega
    obtain⟨qa,qc,_,ae⟩:=XA 0 ay;have c0:=ae wo (gH b2 F);rw[mH] at c0;rw[<-Nat.add_assoc] at x0;have aT:=gx (Bt.n ao);have ap:Hid (∀j,j<n->Z[n+k].l.getD j 0=gJ.mf n (n+k) j):=gx (fun j hj=>by rw[<-xW aj];exact HP.eq (n+k) j (by omega) hj)
    clear e0 ae;go_wp2_with (refine wpList_make_bytes rfl (.tmp 42) (.tmp 42) rfl m rfl rfl (by omega) ?_;intro w3 o3 b3 z3);clear x0 c0;go_loopg[46] m (fun g aH wr=>∃(t:Nat) (l:List UInt8),g=m-t/\t<=m/\aH=.int .i64 (t:Int)/\wr.ownsRow wo.heap.size 5 1 (some (wo,gy),m,m) m (cb l)/\Below wo wo wr/\Hid (∀v,v<m->l.getD v 0=if v<t then gJ.ot n (gJ.ja (gz A)) k v else 0));case atStart=>exact⟨0,_,rfl,by omega,rfl,o3,b3,gx (fun v o=>by simp[List.getD,o])⟩
    case round=>
     clear o3 b3 z3;obtain⟨t,l,rfl,ht,rfl,B,G,Q⟩:=hrel;obtain⟨wp,rfl⟩:∃wp:World,wp=wr:=⟨_,rfl⟩;have O:=G.size;by_cases K:t<m
     .go_wp2_with fail;go_loopg[51] n (fun g aI wr=>∃(j:Nat) (P:List UInt8),g=n-j/\j<=n/\aI=.int .i64 (j:Int)/\wr.ownsRow wo.heap.size 5 1 (some (wo,gy),m,m) m (cb P)/\Below wo wo wr/\Hid (∀v,v<m->P.getD v 0=if v<t then gJ.ot n (gJ.ja (gz A)) k v else if v=t then MT n k (gJ.ja (gz A)) t j else 0));case atStart=>
       refine⟨0,l,rfl,by omega,rfl,B,G,gx (fun v o=>?_)⟩;rw[Q.out v o];by_cases e:v<t;·rw[gG e,gG e]
       .rw[gC e,gC e];by_cases f:v=t;·rw[gG f];rfl
        .rw[gC f]
      case round=>
       clear B G Q O;obtain⟨j,P,rfl,hj,rfl,B,G,Q⟩:=hrel;obtain⟨V,rfl⟩:∃V:World,V=wr:=⟨_,rfl⟩;have O:=G.size;by_cases X:j<n
       .have ai:j<A.length:=by rw[HA.out];exact X
        have ag:=gH (gH b2 F) G;obtain⟨qa,qc,aD,e1⟩:=XA j ai;have x0:=e1 V ag;have al:=aD.below ag;obtain⟨qb,aN,rfl,_⟩:=al.addr (by omega);have x1:=Bt.at al t K;have N:=ao.below (E.trans (G.mono E.size));obtain⟨sb,aP,rfl,_⟩:=N.addr (by omega);have x2:=Bt.at N j X;have x3:=nS B t K;have f0:=nD B t;have i0:(0:Int)<=(j:Int):=by omega
        have i1:(j:Int)<(n:Int):=by omega
        have i2:(0:Int)<=(t:Int):=by omega
        have i3:(t:Int)<(m:Int):=by omega
        have ar:=gx (lp B);have au:=iP Z[n+k].l j;have aw:=iP A[j].l t;have ax:=iP P t;have e8:(MT n k (gJ.ja (gz A)) t (j+1)).toNat=iB P t^^^kM.mul (iB Z[n+k].l j) (iB A[j].l t):=by rw[KM,gJ.toNat_add,gJ.toNat_mul,<-ap.out j X,xW ai];have:=Q t K;rw[gC (by omega),gG rfl] at this;rw[<-this];rfl
        have hs:=gx (fun q=>oZ (mO B q) t _ _ e8);have az:Hid (∀q v,Below wo wo ((V.drewN q).setCell (wo,t) v)):=gx (fun q v=>(below_drewN G q).setCell gM _);have D:=gx (fun q=>oQ _ _ au aw (V.drewN q));have o:=kM.mul_lt (iB Z[n+k].l j) (iB A[j].l t);have aU:=sG (iB P t) _ ax o;clear e8 e1;generalize iB Z[n+k].l j=va at *;generalize iB A[j].l t=vb at *;generalize kM.mul va vb=v at *;generalize iB P t=vc at *;generalize vc^^^v=u at *;go_wp2_with fail;refine vH 20 (by kernel_rfl) (by kernel_rfl) ?_;change wpStill _ _ (World.drew _) _ _ _;simp only[su,oO,sw,tK];repeat (first|still_step|still_call ((D 1).mono fun _ _ h=>⟨h.1,h.2.symm⟩))
        refine wpStill_nil ?_;change wpList _ _ _ _ _ (World.drewN V 1);go_wp2_with fail;go_roundg (n-(j+1));case measure=>omega
        case rel=>
         refine⟨j+1,_,rfl,by omega,by go_num,hs _,az _ _,gx (fun v o=>?_)⟩;rw[nW (by rw[ar.out];exact K)];by_cases e:v=t;·subst e;rw[gG rfl,gC (by omega),gG rfl]
         .rw[gC e,Q.out v o];by_cases f:v<t;·rw[gG f,gG f]
          .rw[gC f,gC f,gC e,gC e]
       .obtain rfl:n=j:=by omega
        go_wp2_with fail;go_roundg (m-(t+1));case measure=>omega
        case rel=>
         refine⟨t+1,P,rfl,by omega,by go_num,B,G,gx (fun v o=>?_)⟩;rw[Q.out v o];by_cases e:v<t;·rw[gG e,gG (by omega)]
         .rw[gC e];by_cases f:v=t;·subst f;rw[gG rfl,gG (by omega),MU]
          .rw[gC f,gC (by omega)]
     .obtain rfl:m=t:=by omega
      have M2:=hM.below G;have af:R.length<=65536:=by rw[HL.out];omega
      go_wp2_with (refine wpList_append_row rfl (.tmp 76) (.tmp 78) 81 jt rfl w2.heap.size _ R rfl M2 ⟨some (wo,gy),m,m,l⟩ _ rfl rfl (qX B) (mg M2.own.own B _) af (by omega) ?_;intro v5 w5 M5 g5);go_roundg (s-(k+1));case measure=>omega
      case rel=>
       refine⟨k+1,R++[⟨some (wo,gy),m,m,l⟩],rfl,by omega,by go_num,gx (by simp[HL.out]),M5,gx (fun r hr hn b off e=>?_),gx (fun i hi=>?_)⟩
       .rcases kd.1 hr with hr|hr
        .exact ad r hr hn b off e
        .obtain rfl:=iA.1 hr;cases e;exact jY b2.size aq
       by_cases e:i<R.length;·rw[oC e];exact HD i e
       .have aQ:i<R.length+1:=by simpa using hi
        have f:i=k:=by have:=HL.out;omega
        subst f;rw[nI (by omega)];simp only[HL.out,lU,jr];exact⟨lp B,fun v o=>by rw[Q.out v o,gG o]⟩
   .obtain rfl:s=k:=by omega
    obtain⟨a',aK,rfl,aA⟩:=hM.ms;go_wp2_with fail;go_ret2;refine⟨_,_,_,R,0,rfl,aA,⟨mI (by rw[gY];exact HL) (fun i hi=>?_),rfl⟩,gH b2 F,ad⟩;rw[oT hi];exact HD i (by simpa[gz] using hi)
theorem IB(a:Option Addr)(n ac:Nat)(A:List Rw)(z:Int)(w:World)(f:Ms w a n ac A)(hc:gJ.gT (n:Int) z≠0):Calls prog 84 #[(a,n,ac),z] w (oy (gJ.gT (n:Int) z) w):=by
 have h:(gJ.gT (n:Int) z !=0)=true:=ij.2 hc;have D:=gx (CY (n:Int) z w hc);generalize gJ.gT (n:Int) z=e at *;replace hc:=gx hc;go_enter func84,ntmps84;go_wp2_with fail;go_at_call 107;refine(D).mono ?_;rintro e' j⟨rfl,b1⟩;go_wp2_with fail;go_ret2;exact⟨rfl,b1⟩
theorem Ew(a:Option Addr)(n ac s:Nat)(A:List Rw)(w:World)(C:Ms w a n ac A)(m:1<=n)(o:n<=8)(q:s<=4)(r:gJ.ir (gz A)≠0):Calls prog 84 #[(a,n,ac),s] w (oy (gJ.ir (gz A)) w):=by
 have N:(gJ.ir (gz A) !=0)=true:=ij.2 r;generalize j:gJ.ir (gz A)=W at *;replace r:=gx r;go_enter func84,ntmps84;go_wp2_with fail;go_at_call 107;refine(A4 n s w m o q).mono ?_;rintro e O⟨I,n1,c1,G,K,rfl,L,⟨h,rfl⟩,b1⟩;have B:=C.below b1;replace h:=gx h;go_wp2_with fail;go_at_call 108;refine(ly _ _ _ _ _ B).mono ?_;rintro e F⟨rfl,E,f⟩;rw[j];have b2:Below w w F:=by rw[f];exact below_drewN b1 E
 replace f:=gx f;replace j:=gx j;go_wp2_with fail;go_ret2;exact⟨rfl,b2⟩
theorem Eu(a:Option Addr)(n ac:Nat)(A:List Rw)(z:Int)(w:World)(f:Ms w a n ac A):Calls prog 84 #[(a,n,ac),z] w (yW (gJ.j8 (gz A) z) w):=by
 by_cases hc:gJ.gT (n:Int) z=0
 .have o:=gJ.kv hc;obtain⟨s,rfl⟩:=jD (a:=z) (by omega);by_cases j:gJ.ir (gz A)=0
  .have m:=f.wid j;exact(Ks a n ac _ s A w f m (by omega) (by omega)).mono fun e w'⟨q,r,B,C,E,F,G,⟨I,L⟩,K,N⟩=>⟨q,r,B,C,E,F,G,by subst L;exact vR m (by omega) (by omega) I,K,N⟩
  .exact(Ew a n ac s A w f (by omega) (by omega) (by omega) j).mono fun e w' h=>oy.II h (zx (by rw[f.dn];exact hc) j)
 .exact(IB a n ac A z w f hc).mono fun e w' h=>oy.II h (by have:=Bj (l:=gz A) (s:=z) (by rw[f.dn];exact hc);rwa[f.dn] at this)
theorem gJ.JP{n m c i:Nat}{L L' a:gJ.M}{y:Nat->UInt8}(h:∀r j,r<n->j<m->L r j=gJ.kT c y i a r j)(E:i<n)(o:c<n)(q:i≠c)
  (C:∀r j,r<n->j<m->L' r j=if r=i then gJ.iG (L i j) (gJ.iZ (y i) (L c j)) else L r j):∀r j,r<n->j<m->L' r j=gJ.kT c y (i+1) a r j:=by
 intro r j w f;have hc:L c j=a c j:=by
  rw[h c j o f];unfold gJ.kT gJ.elimM;split;·rw[gG rfl]
  .rfl
 rw[C r j w f];by_cases e:r=i
 .subst e;rw[gG rfl,hc,h r j w f];unfold gJ.kT;rw[gC (by omega),gG (by omega)];unfold gJ.elimM;rw[gC q,gJ.mul_comm (y r)]
 .rw[gC e,h r j w f];unfold gJ.kT;by_cases B:r<i;·rw[gG B,gG (by omega)]
  .rw[gC B,gC (by omega)]
def nu(n i:Nat)(l:List UInt8):List UInt8:=l++p9 n i
theorem GL(n i:Nat)(l:List UInt8)(e:l.length=n):(l++List.replicate n 0).set (n+i) 1=nu n i l:=by
 unfold nu p9;rw[xp _ _ (by omega)];congr 2;omega
theorem tZ{n i:Nat}{l:List UInt8}(e:l.length=n):(nu n i l).length=n+n:=by
 unfold nu;rw[iH,uT,e]
theorem EA{n i:Nat}{l:List UInt8}(f:l.length=n){j:Nat}(e:j<n):(nu n i l).getD j 0=l.getD j 0:=FL _ _ (by omega)
theorem Cd{n i:Nat}{l:List UInt8}(f:l.length=n)(hi:i<n){j:Nat}(e:j<n):(nu n i l).getD (n+j) 0=gJ.one i j:=by
 rw[<-AR hi e];unfold nu;simp[List.getD,sY,f]
theorem Fx(R:List Wr)(i k:Nat)(hi:i<R.length)(m:k<R[i].l.length)(y:UInt8)(a j:Nat):gJ.ja (gQ (R.set i ⟨R[i].g,R[i].cap,R[i].l.set k y⟩)) a j=if a=i/\j=k then y else gJ.ja (gQ R) a j:=by
 rw[data_set,gJ.wF (by rw[mh];exact hi)];by_cases e:a=i
 .subst e;rw[gG rfl,nW m];by_cases f:j=k;·rw[gG f,gG ⟨rfl,f⟩]
  .rw[gC f,gC (fun h=>f h.2),px hi]
 .rw[gC e,gC (fun h=>e h.1)]
structure Mw (w W:World) (v:Value) (R:List Wr):Prop where
 mb:Mb w W none w.heap.size v (R.map Wr.rw)
 row:∀r∈R,W.ownsRow w.heap.size 5 1 r.v r.l.length (cb r.l)
 nodup:(R.map Wr.g).Nodup
theorem Mw.nil(w:World):Mw w w () []:=⟨Mb.nil w w gZ _ gM,(fun r e=>by cases e),vM⟩
theorem Mw.td{w W e:World}{v:Value}{R:List Wr}(h:Mw w W v R)(hb:Below W W e):Mw w e v R:=⟨h.mb.below hb,fun r f=>gL (h.row r f) hb,h.nodup⟩
theorem Mw.below{w W:World}{v:Value}{R:List Wr}(h:Mw w W v R):Below w w W:=h.mb.own.im gM (fun k e=>by cases e)
theorem Mw.lt{w W:World}{v:Value}{R:List Wr}(h:Mw w W v R){r:Wr}(e:r∈R):r.g<W.heap.size:=((h.row r e).lt _ rfl).2
theorem Mw.push{w W j m:World}{v v':Value}{R:List Wr}{r:Wr}(h:Mw w W v R)(hb:Below W W j)(L:j.ownsRow w.heap.size 5 1 r.v r.l.length (cb r.l))(Q:W.heap.size<=r.g)(K:Mb w m none w.heap.size v' (R.map Wr.rw++[r.rw]))(C:j.grownBy m v.ownBlock):Mw w m v' (R++[r]):=by
 have f:∀q∈R++[r],j.ownsRow w.heap.size 5 1 q.v q.l.length (cb q.l):=fun q hq=>by
  rcases kd.1 hq with hq|hq
  .exact gL (h.row q hq) hb
  .obtain rfl:=iA.1 hq;exact L
 have N:=(h.mb.below hb).own.own;refine⟨by rw[li];exact K,fun q hq=>?_,?_⟩
 .obtain⟨P,E⟩:∃cs,j.heap[q.g]?=some (.cells cs 5):=by obtain⟨I,F,_⟩:=sn (f q hq);exact⟨_,F⟩
  have o:=gP N E (by decide);cases B:v.ownBlock with
  |none=>
   rw[B] at C;exact((gU.refl j []).more C (fun x e=>by cases e)).own (f q hq) (by simp)
  |some x=>
   rw[B] at C o;exact((gU.refl j [x]).more C (fun y e=>by cases e;exact .inl (by simp))).own (f q hq) (fun y G e=>by
    obtain rfl:y=x:=by simpa using G
    have e:some q.g=some y:=e;exact o e.symm)
 .rw[li,List.nodup_append];refine⟨h.nodup,by simp,fun x O y G=>?_⟩;obtain⟨q,hq,rfl⟩:=iu.1 O;obtain rfl:y=r.g:=by simpa using G
  have:=h.lt hq;omega
structure Wk (w W:World) (G n m cap:Nat) (R:List Wr):Prop where
 mo:Mo W w.heap.size G n cap R
 len:R.length=n
 wid:∀r∈R,r.l.length=m
 below:Below w w W
theorem Mw.wk{w W:World}{v:Value}{R:List Wr}{n m:Nat}(h:Mw w W v R)(j:R.length=n)(f:0<n)(o:∀r∈R,r.l.length=m):∃G cap,v=.slice (some ⟨G,0,none⟩) n cap/\Wk w W G n m cap R:=by
 subst j;have e:=h.mb.own.own;rw[vT,iz] at e;obtain⟨G,cap,rfl,_⟩:=jR e f;refine⟨G,cap,rfl,⟨jb _,?_,h.row,h.nodup⟩,rfl,o,h.below⟩;rw[lU,List.replicate_zero,mY];exact e
theorem Wk.td{w W e:World}{G n m cap:Nat}{R:List Wr}(h:Wk w W G n m cap R)(hb:Below W W e):Wk w e G n m cap R:=⟨h.mo.below hb,h.len,h.wid,h.below.trans (hb.mono h.below.size)⟩
theorem Wk.drewN{w W:World}{G n m cap:Nat}{R:List Wr}(h:Wk w W G n m cap R)(q:Nat):Wk w (W.drewN q) G n m cap R:=⟨h.mo.drewN q,h.len,h.wid,below_drewN h.below q⟩
theorem Wk.swap{w W:World}{G n m cap:Nat}{R:List Wr}(h:Wk w W G n m cap R)(i k:Nat)(hi:i<R.length)(j:k<R.length):
  Wk w ((W.setCell (G,i) R[k].v).setCell (G,k) R[i].v) G n m cap ((R.set i R[k]).set k R[i]):=by
 refine⟨h.mo.swap i k hi j,by simpa using h.len,fun r o=>?_,(h.below.setCell h.mo.lt.1 _).setCell h.mo.lt.1 _⟩;rcases lH o with e|rfl
 .rcases lH e with f|rfl
  .exact h.wid r f
  .exact h.wid _ (iE _)
 .exact h.wid _ (iE _)
theorem Wk.mK{w W:World}{G n m cap:Nat}{R:List Wr}(h:Wk w W G n m cap R)(i k:Nat)(hi:i<R.length)(y:UInt8)(v:Nat)(j:y.toNat=v):Wk w (W.setCell ⟨R[i].g,k,none⟩ (.int .u8 (v:Int))) G n m cap (R.set i ⟨R[i].g,R[i].cap,R[i].l.set k y⟩):=by
 subst j;refine⟨h.mo.Ez i k hi y,by simpa using h.len,fun r f=>?_,h.below.setCell (h.mo.Oc (iE _)).1 _⟩;rcases lH f with e|rfl
 .exact h.wid r e
 .rw[kH];exact h.wid _ (iE _)
theorem Wk.at{w W:World}{G n m cap:Nat}{R:List Wr}(h:Wk w W G n m cap R)(i:Nat)(hi:i<R.length):W.cell? (G,i)=some (.slice (some ⟨R[i].g,0,none⟩) m R[i].cap):=by
 have:=h.mo.at i hi;rwa[h.wid _ (iE _)] at this
theorem Wk.byte{w W:World}{G n m cap:Nat}{R:List Wr}(h:Wk w W G n m cap R)(i j:Nat)(hi:i<R.length)(e:j<m):W.cell? ⟨R[i].g,j,none⟩=some (.int .u8 ((gJ.ja (gQ R) i j).toNat:Int)):=by
 rw[h.mo.byte i j hi (by rw[h.wid _ (iE _)];exact e),px hi];rfl
end Go.Proofs.YthhcdfjijagalaaGreat

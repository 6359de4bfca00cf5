import Derived.Test.YthhcdfjijagalaaGreatM42
set_option linter.all false
set_option maxHeartbeats 4000000
set_option maxRecDepth 100000
namespace Go.Proofs.YthhcdfjijagalaaGreat
open Qz Go.Proofs.Tryz Go.RowKit
theorem Km(a:Option Addr)(n ac:Nat)(A:List Rw)(w:World)(m:Ms w a n ac A)(h:gJ.ir (gz A)≠0):Calls prog 112 #[(a,n,ac)] w (oy (gJ.ir (gz A)) w):=by
 have j:=gx (ly a n ac A w m);have r:(gJ.ir (gz A) !=0)=true:=by rw[ij];exact h
 clear h;generalize gJ.ir (gz A)=e at *;go_enter func112,ntmps112;go_wp2_with fail;go_at_call 108;refine(j).mono ?_;rintro e' o⟨rfl,q,f⟩;have b1:Below w w o:=by rw[f];exact below_drewN gZ q
 replace f:=gx f;go_wp2_with fail;go_ret2;exact⟨rfl,b1⟩
theorem Kn(a:Option Addr)(n ac:Nat)(A:List Rw)(w:World)(f:Ms w a n ac A)(j:gJ.ir (gz A)=0)(B:gJ.wid (gz A) 0≠n):Calls prog 112 #[(a,n,ac)] w (oy 8 w):=by
 have E:=gx (j▸ly a n ac A w f);have e:=gJ.mM j;have G:1<=n:=by have:=e.n1;rw[gY,f.jO] at this;omega
 obtain⟨I,r,rfl,_⟩:=f.sl.addr (by omega);obtain⟨K,L,_,h⟩:=f.uQ (m:=gJ.wid (gz A) 0) e.lP 0 (by rw[f.jO];omega);replace h:=gx h;generalize gJ.wid (gz A) 0=k at *;have N:((k:Int) !=(n:Int))=true:=by rw[ij];omega
 have O:(k !=n)=true:=by rw[ij];exact B
 clear j e B;go_enter func112,ntmps112;go_wp2_with fail;go_at_call 108;refine(E).mono ?_;rintro e' C⟨rfl,q,o⟩;have b1:Below w w C:=by rw[o];exact below_drewN gZ q
 have F:=h C b1;simp only[mH] at F;replace o:=gx o;go_wp2_with fail;go_ret2;exact⟨rfl,b1⟩
theorem step_start{n:Nat}{A:List (List UInt8)}(o:gJ.lD A n n){R:List Wr}(q:R.length=n)(h:∀i (hi:i<R.length) (o:i<A.length),R[i].l=nu n i A[i]):
  gJ.Step n (gJ.ja A) (fun i j=>gJ.ja (gQ R) i j) (fun i j=>gJ.ja (gQ R) i (n+j)) (fun j=>n<=j/\j<n):=by
 have r:∀i (hi:i<A.length),A[i].length=n:=fun i hi=>o.lP _ (iE hi);refine(gJ.Step.start n (gJ.ja A)).congr (fun i j hi m=>?_) (fun i j hi m=>?_) (fun j m=>absurd m (by omega))
 .have e:i<A.length:=by rw[o.rows];exact hi
  have f:i<R.length:=by rw[q];exact hi
  show gJ.ja (gQ R) i j=gJ.ja A i j;rw[px f,h i f e,EA (r i e) m,gJ.xU e]
 .have e:i<A.length:=by rw[o.rows];exact hi
  have f:i<R.length:=by rw[q];exact hi
  show gJ.ja (gQ R) i (n+j)=_;rw[px f,h i f e,Cd (r i e) hi m]
theorem Ix(a:Option Addr)(n ac:Nat)(A:List Rw)(w:World)(hA:Ms w a n ac A)(ad:gJ.lD (gz A) n n):Calls prog 112 #[(a,n,ac)] w (rR (Pe n (gJ.ja (gz A))) w):=by
 have CA:=gx (ad.jN▸ly a n ac A w hA);have HA:=gx hA.jO;have bu:=ad.n1;have bM:=ad.n2;obtain⟨ab,bF,rfl,_⟩:=hA.sl.addr (by omega);have bh:0<A.length:=by rw[HA.out];omega
 have XA:=gx (hA.uQ ad.lP);have HF:=gx ad;obtain⟨m,hm⟩:∃m,m=n+n:=⟨_,rfl⟩;have HM:=gx hm;have bH:m<=24:=by omega
 have bO:n<m:=by omega
 clear hm;obtain⟨bP,bQ,_,q0⟩:=XA 0 bh;replace q0:=gx q0;clear ad hA;go_enter func112,ntmps112;go_wp2_with fail;go_at_call 108;refine(CA).mono ?_;rintro e' w1⟨rfl,q,hq⟩;have b1:Below w w w1:=by rw[hq];exact below_drewN gZ q
 have c0:=q0 w1 b1;simp only[mH] at c0;replace hq:=gx hq;go_wp2_with fail;clear c0 q0 CA;go_loopg[6,35] n (fun g s6 bE wr=>∃(k:Nat) (R:List Wr),g=n-k/\k<=n/\bE=.int .i64 (k:Int)/\Hid (R.length=k)/\Mw w1 wr s6 R/\Hid (∀i (hi:i<R.length) (hA:i<A.length),R[i].l=nu n i A[i].l));case atStart=>exact⟨0,[],rfl,by omega,rfl,gx rfl,Mw.nil _,gx (fun i hi=>absurd hi (by simp))⟩
 case round=>
  obtain⟨k,R,rfl,hk,rfl,W,hM,HR⟩:=hrel;obtain⟨wo,rfl⟩:∃wo:World,wo=wr:=⟨_,rfl⟩;have O:=hM.below;by_cases aB:k<n
  .have bq:k<A.length:=by rw[HA.out];exact aB
   obtain⟨ra,rc,a1,e0⟩:=XA k bq;have aV:Below w w (wo.alloc (.cells #[] 5)):=(gH b1 O).alloc (gH b1 O).size _;have e0:=e0 _ aV;have aC:=gx (Bt.n a1);have s1:IntKind.i64.wrap ((n:Int)+(k:Int))=(n:Int)+(k:Int):=iO _ (by omega);have s2:(0:Int)<=(n:Int)+(k:Int):=by omega
   have s3:((n:Int)+(k:Int)).toNat=n+k:=by omega
   have s4:(n:Int)+(k:Int)<(m:Int):=by have:=HM.out;omega
   have bK:A[k].l.length<=1000:=by rw[aC.out];omega
   go_wp2_with (first
    |(refine wpList_append_ob rfl (.tmp 38) (.tmp 42) rfl wo.heap.size (some (wo,gy),gy,gy) [] A[k].l rfl (OB.lit gZ _ [] (by decide) rfl) ra n rc rfl (a1.below aV) (by simp;omega) (by simp) ?_;intro v2 w2 aY bm;rw[mZ] at aY;have bA:=bm.size)
    |(refine wpList_append_zeros rfl (.tmp 43) (.tmp 44) rfl wo.heap.size v2 A[k].l rfl aY n rfl (by omega) (by omega) (by simp at bA;omega) ?_;intro v3 w3 aZ bI;have au:=aZ.own;rw[show(A[k].l++List.replicate n (0:UInt8)).length=m by simp[aC.out,HM.out]] at au;obtain⟨g3,c3,rfl,aT,bJ,bN,BK⟩:=jR au (by omega);have k1:=nS au (n+k) (by have:=HM.out;omega);have k2:=nD au (n+k);have aO:Below wo wo w3:=aZ.im gM (fun k e=>by cases e);have aP:Hid (Below wo wo (w3.setCell (g3,n+k) (.int .u8 1))):=gx (aO.setCell aT _);have ag:(w3.setCell (g3,n+k) (.int .u8 1)).ownsRow wo.heap.size 5 1 (some (g3,gy),m,c3) m (cb ((A[k].l++List.replicate n 0).set (n+k) 1)):=oZ au (n+k) 1 1 rfl;rw[GL n k _ aC.out] at ag;replace ag:=gx ag;have aR:=gx (hM.td aP))
    |(refine wpList_append_row rfl (.tmp 51) (.tmp 53) 81 jt rfl w1.heap.size _ (R.map Wr.rw) rfl aR.mb ⟨some (g3,gy),m,c3,nu n k A[k].l⟩ _ (pn _ _ _) rfl (qX ag) (mg aR.mb.own.own ag _) (by rw[iz,W.out];omega) (by rw[pn];have:=O.size;omega) ?_;intro v5 w5 M5 g5))
   have a2:(nu n k A[k].l).length=m:=by rw[tZ aC.out,HM.out]
   go_roundg (n-(k+1));case measure=>omega
   case rel=>
    refine⟨k+1,R++[⟨g3,c3,nu n k A[k].l⟩],rfl,by omega,by go_num,gx (by simp;exact W),hM.push (aP.alloc (by rw[pn];exact aO.size) _) ?_ aT (by simpa[Wr.rw,a2] using M5) g5,gx (fun i hi af=>?_)⟩
    .simp only[Wr.v,a2];exact hJ (gL ag (gZ.alloc gM _)) O.size
    .by_cases e:i<R.length;·rw[oC e];exact HR i e af
     .have bp:i<R.length+1:=by simpa using hi
      have e2:i=k:=by have:=W.out;omega
      subst e2;rw[nI (by omega)];simp only[W.out,lU,jr]
  .obtain rfl:n=k:=by omega
   obtain⟨G,cap,rfl,E⟩:=hM.wk (m:=m) W bu (fun r hr=>by
    obtain⟨i,hi,rfl⟩:=rA hr;have af:i<A.length:=by rw[HA.out,<-W.out];exact hi
    obtain⟨_,_,hb,_⟩:=XA i af;rw[HR.out i hi af,tZ (Bt.n hb),HM.out])
   have HS:=gx (step_start HF W (fun i hi af=>by rw[HR.out i hi (by simpa[gz] using af),oT]));clear hM HR W aB O;go_wp2_with fail;go_loopg[9] n (fun g s9 wr=>∃(c:Nat) (z:Int) (R:List Wr),g=c/\c<=n/\s9=.int .i64 z/\Hid (z+1=c)/\Wk w1 wr G n m cap R/\Hid (gJ.Step n (gJ.ja (gz A)) (fun i j=>gJ.ja (gQ R) i j) (fun i j=>gJ.ja (gQ R) i (n+j)) (fun j=>c<=j/\j<n)));case atStart=>exact⟨n,(n:Int)-1,R,rfl,by omega,by go_num,gx (by omega),E,HS⟩
   case round=>
    clear E HS;obtain⟨c,z,R,bn,hc,rfl,hz,E,HS⟩:=hrel;obtain rfl:=bn.symm;obtain⟨wo,rfl⟩:∃wo:World,wo=wr:=⟨_,rfl⟩;rcases c with _|c
    .obtain rfl:z=-1:=by have:=hz.out;omega
     clear hz;have hu:=gx (HS.done (fun j C=>⟨by omega,C⟩));go_wp2_with fail;go_loopg[17,174] n (fun g bD bd wr=>∃(k:Nat) (K:List Rw),g=n-k/\k<=n/\bd=.int .i64 (k:Int)/\Hid (K.length=k)/\Mb wo wr none wo.heap.size bD K/\Hid (∀i (hi:i<K.length) (o:i<R.length),K[i].l=R[i].l.drop n));case atStart=>exact⟨0,[],rfl,by omega,rfl,gx rfl,Mb.nil _ _ gZ _ gM,gx (fun i hi=>absurd hi (by simp))⟩
     case round=>
      obtain⟨k,K,rfl,hk,rfl,W,hM,HR⟩:=hrel;obtain⟨wp,rfl⟩:∃wp:World,wp=wr:=⟨_,rfl⟩;have O:Below wo wo wp:=hM.own.im gM (fun k e=>by cases e);by_cases aB:k<n
      .have Y:k<R.length:=by rw[E.len];exact aB
       have aA:=E.td O;have x0:=aA.at k Y;have ak:=aA.mo.rw (iE Y);have a4:=gx (E.wid _ (iE Y));have bo:=(E.mo.Oc (iE Y)).2;rw[a4.out] at ak;have bL:=ak.le;have aW:=Bt.slice ak (lo:=n) (hi:=m) (by omega) gM;rw[gC (by omega),re,je,jk,me,ld (by rw[kG,a4.out];exact jb _)] at aW;replace ak:=gx ak;replace aA:=gx aA;have bj:sS _ (⟨some ⟨R[k].g,n,none⟩,m-n,R[k].cap-n,R[k].l.drop n⟩:Rw):=xQ hM.own.own (base:=wo) (fun _ b off e=>by cases e;exact bo);have aQ:K.length<=65536:=by rw[W.out];omega
       have a3:=O.size;go_wp2_with (refine wpList_append_row rfl (.tmp 178) (.tmp 182) 150 ku rfl wo.heap.size _ K rfl hM ⟨some ⟨R[k].g,n,none⟩,m-n,R[k].cap-n,R[k].l.drop n⟩ _ rfl rfl aW bj aQ a3 ?_;intro v5 w5 M5 g5);go_roundg (n-(k+1));case measure=>omega
       case rel=>
        refine⟨k+1,K++[⟨some ⟨R[k].g,n,none⟩,m-n,R[k].cap-n,R[k].l.drop n⟩],rfl,by omega,by go_num,gx (by simp;exact W),M5,gx (fun i hi o=>?_)⟩;by_cases e:i<K.length;·rw[oC e];exact HR i e o
        .have bp:i<K.length+1:=by simpa using hi
         have e2:i=k:=by have:=W.out;omega
         subst e2;rw[nI (by omega)];simp only[W.out,lU,jr]
      .obtain rfl:n=k:=by omega
       obtain⟨a',bG,rfl,bi⟩:=hM.ms;go_wp2_with fail;go_ret2;refine⟨_,_,_,K,0,rfl,bi,.inr ⟨_,mI (by rw[gY];exact W) (fun i hi=>?_),hu,rfl⟩,gH b1 (gH E.below O)⟩;have aX:i<K.length:=by rw[<-gY];exact hi
       have o:i<R.length:=by rw[E.len,<-W.out];exact aX
       rw[oT hi,HR.out i aX o,kG,E.wid _ (iE o)];refine⟨by have:=HM.out;omega,fun j C=>?_⟩;rw[px o];simp[List.getD]
    .obtain rfl:z=(c:Int):=by have:=hz.out;omega
     clear hz;have B:c<n:=by omega
     have al:c<m:=by omega
     have f:c<R.length:=by rw[E.len];exact B
     have i0:(0:Int)<=(c:Int):=by omega
     have i1:(c:Int)<(n:Int):=by omega
     have i2:(c:Int)<(m:Int):=by omega
     go_wp2_with fail;go_loopg[10,11] (c+1) (fun g bB bC wr=>∃(k:Nat) (z:Int),g=c+1-k/\k<=c+1/\bC=.int .i64 (k:Int)/\bB=.int .i64 z/\wo=wr/\Hid ((z=-1/\∀i,i<k->gJ.ja (gQ R) i c=0)∨∃p:Nat,z=p/\p<k/\gJ.ja (gQ R) p c≠0));case atStart=>exact⟨0,-1,rfl,by omega,rfl,rfl,rfl,gx (.inl ⟨rfl,fun i hi=>absurd hi (by omega)⟩)⟩
     case round=>
      obtain⟨k,z,rfl,hk,rfl,rfl,rfl,HZ⟩:=hrel;by_cases br:k<=c
      .have Y:k<R.length:=by rw[E.len];omega
       have x0:=E.at k Y;have x1:=E.byte k c Y al;have j0:(0:Int)<=(k:Int):=by omega
       have j1:(k:Int)<(n:Int):=by omega
       obtain⟨y,Z⟩:∃y,gJ.ja (gQ R) k c=y:=⟨_,rfl⟩;rw[Z] at x1;replace Z:=gx Z;by_cases aw:y.toNat=0
       .rw[aw] at x1;have aI:Hid (y=0):=gx (UInt8.toNat_inj.1 aw);clear aw;go_wp2_with fail;go_roundg (c+1-(k+1));case measure=>omega
        case rel=>
         refine⟨k+1,z,rfl,by omega,by go_num,rfl,rfl,gx ?_⟩;rcases HZ.out with⟨h1,h2⟩|⟨p,h1,h2,h3⟩
         .refine .inl ⟨h1,fun i hi=>?_⟩;by_cases e:i=k;·subst e;rw[Z.out];exact aI
          .exact h2 i (by omega)
         .exact .inr ⟨p,h1,by omega,h3⟩
       .have u0:((y.toNat:Int) !=0)=true:=by rw[ij];omega
        have u1:(y.toNat !=0)=true:=by rw[ij];exact aw
        have aI:Hid (y≠0):=gx (fun e=>aw (by rw[e];rfl));go_wp2_with fail;go_roundg (c+1-(k+1));case measure=>omega
        case rel=>exact⟨k+1,k,rfl,by omega,by go_num,rfl,rfl,gx (.inr ⟨k,rfl,by omega,by rw[Z.out];exact aI⟩)⟩
      .obtain rfl:k=c+1:=by omega
       clear hk br;rcases HZ.out with⟨rfl,a8⟩|⟨p,rfl,hp,aq⟩
       .have bz:=gx (HS.stuck B (by omega) (fun i hi ao=>a8 i (by omega)));have bk:=E.below;clear HZ a8;go_wp2_with fail;go_ret2;exact⟨_,_,_,[],6,rfl,Ms.nil _,.inl ⟨rfl,rfl,bz⟩,gH b1 bk⟩
       .clear HZ;have a0:p<n:=by omega
        have ah:p<R.length:=by rw[E.len];exact a0
        have x0:=E.at p ah;have x1:=E.at c f;have x2:=E.mo.free p;have x3:=E.mo.free c;have j0:(0:Int)<=(p:Int):=by omega
        have j1:(p:Int)<(n:Int):=by omega
        have u0:¬(p:Int)<0:=by omega
        have ae:=E.swap p c ah f;simp only[Wr.v,E.wid _ (iE f),E.wid _ (iE ah)] at ae;replace ae:=gx ae;replace aq:=gx aq;obtain⟨V,rfl⟩:∃V:World,V=wo:=⟨_,rfl⟩;clear E;go_upto_region 26 with(fail);go_cut[91] (fun bR wc=>∃X,Wk w1 wc G n m cap X/\Hid (X=(R.set p R[c]).set c R[p]));case first=>
         by_cases bw:p=c
         .subst bw;go_region;all_goals (go_wp2_with fail;go_meet)
          exact⟨_,ae.drewN 1,gx rfl⟩
         .go_region;all_goals (go_wp2_with fail;go_meet)
          exact⟨_,ae.drewN 1,gx rfl⟩
        case rest=>
         obtain⟨X,aj,az⟩:=hcut;clear x0 x1 x2 x3 ae;have aM:=gx ((HS.swap a0 B (by omega) (by omega)).congr (work':=fun i j=>gJ.ja (gQ X) i j) (out':=fun i j=>gJ.ja (gQ X) i (n+j)) (P':=fun j=>c+1<=j/\j<n) (fun i j _ _=>by rw[az.out,pP R p c ah f]) (fun i j _ _=>by rw[az.out,pP R p c ah f];rfl) (fun j C=>⟨C,C.2⟩));have ar:Hid (gJ.ja (gQ X) c c≠0):=gx (by
          rw[az.out,pP R p c ah f];unfold gJ.nM;by_cases e:c=p;·subst e;rw[gG rfl];exact aq
          .rw[gC e,gG rfl];exact aq)
         clear HS az aq u0;obtain⟨V,rfl⟩:∃V:World,V=wc:=⟨_,rfl⟩;have f:c<X.length:=by rw[aj.len];exact B
         have x0:=aj.at c f;have x1:=aj.byte c c f al;have U:=gJ.lt (gJ.ja (gQ X) c c);obtain⟨xi,ai⟩:∃xi,gJ.mD (gJ.ja (gQ X) c c)=xi:=⟨_,rfl⟩;have e8:kM.inv (gJ.ja (gQ X) c c).toNat=xi.toNat:=by rw[<-ai,gJ.uF]
         have DI:=gx (CV _ U V);rw[e8] at DI;have aD:Hid (xi≠0):=gx (by rw[<-ai];exact gJ.vs ar);replace ai:=gx ai;clear e8;obtain⟨y,Z⟩:∃y,gJ.ja (gQ X) c c=y:=⟨_,rfl⟩;rw[Z] at x1 DI U;replace Z:=gx Z;go_wp2_with fail;go_at_call 126;refine(DI).mono ?_;rintro e w5⟨rfl,rfl⟩;clear x1 DI U;have a6:=gJ.lt xi;go_wp2_with fail;clear x0;go_loopg[105] m (fun g a9 wr=>∃(k:Nat) (N:List Wr),g=m-k/\k<=m/\a9=.int .i64 (k:Int)/\Wk w1 wr G n m cap N/\Hid (∀i j,i<n->j<m->gJ.ja (gQ N) i j=if i=c/\j<k then gJ.iZ (gJ.ja (gQ X) c j) xi else gJ.ja (gQ X) i j));case atStart=>exact⟨0,X,rfl,by omega,rfl,aj,gx (fun i j _ _=>by rw[gC (by omega)])⟩
         case round=>
          clear aj;obtain⟨k,N,rfl,hk,rfl,Q,HX⟩:=hrel;obtain⟨V,rfl⟩:∃V:World,V=wr:=⟨_,rfl⟩;have f:c<N.length:=by rw[Q.len];exact B
          by_cases F:k<m
          .have x0:=Q.at c f;have x1:=Q.byte c k f F;have f0:=Q.mo.MG c k f;have j2:(0:Int)<=(k:Int):=by omega
           have j3:(k:Int)<(m:Int):=by omega
           have U:=gJ.lt (gJ.ja (gQ N) c k);have HE:=gx (HX c k B F);have hs:=gx (fun q=>(Q.drewN q).mK c k f (gJ.iZ (gJ.ja (gQ N) c k) xi) _ (gJ.toNat_mul _ _));have D:=gx (fun q=>oQ _ _ U a6 (V.drewN q));have HY:=gx (fun i j=>Fx N c k f (by rw[Q.wid _ (iE _)];exact F) (gJ.iZ (gJ.ja (gQ N) c k) xi) i j);obtain⟨y3,aH⟩:∃y,gJ.ja (gQ N) c k=y:=⟨_,rfl⟩;rw[aH] at x1 D hs U HY HE;replace aH:=gx aH;generalize kM.mul y3.toNat xi.toNat=v at *;go_wp2_with fail;go_region_law (first|(go_simp;go_at_call 109;refine(D _).mono ?_;rintro e w6⟨rfl,rfl⟩));all_goals go_wp2_with fail
           all_goals
            go_roundg (m-(k+1));case measure=>omega
            case rel=>
             refine⟨k+1,_,rfl,by omega,by go_num,hs _,gx (fun i j hi C=>?_)⟩;rw[HY.out,HX.out i j hi C];by_cases e:i=c
             .subst e;by_cases e2:j=k
              .subst e2;have:=HE.out;rw[gC (by omega)] at this;rw[gG ⟨rfl,rfl⟩,gG ⟨rfl,by omega⟩,this]
              .rw[gC (fun h=>e2 h.2)];by_cases e3:j<k;·rw[gG ⟨rfl,e3⟩,gG ⟨rfl,by omega⟩]
               .rw[gC (fun h=>e3 h.2),gC (by omega)]
             .rw[gC (fun h=>e h.1),gC (fun h=>e h.1),gC (fun h=>e h.1)]
          .obtain rfl:m=k:=by omega
           have ay:=gx (show∀i j,i<n->j<m->gJ.ja (gQ N) i j=gJ.lX c xi (gJ.ja (gQ X)) i j from fun i j hi C=>by
            rw[HX.out i j hi C];unfold gJ.lX;by_cases e:i=c;·rw[gG ⟨e,C⟩,gG e]
            .rw[gC (fun h=>e h.1),gC e])
           have bf:=gx ((aM.scale B (by omega) aD).congr (work':=fun i j=>gJ.ja (gQ N) i j) (out':=fun i j=>gJ.ja (gQ N) i (n+j)) (P':=fun j=>c+1<=j/\j<n) (fun i j hi C=>ay i j hi (by omega)) (fun i j hi C=>(ay i (n+j) hi (by have:=HM.out;omega)).trans rfl) (fun j C=>⟨C,C.2⟩));have H1:=gx (show gJ.ja (gQ N) c c=1 by rw[ay.out c c B al,<-ai.out];exact gJ.C5 ar);clear aM HX ay ar ai aD a6 Z F hk;go_wp2_with fail;go_loopg[126] n (fun g bc wr=>∃(i:Nat) (P:List Wr),g=n-i/\i<=n/\bc=.int .i64 (i:Int)/\Wk w1 wr G n m cap P/\Hid (∀r j,r<n->j<m->gJ.ja (gQ P) r j=gJ.kT c (fun r=>gJ.ja (gQ N) r c) i (gJ.ja (gQ N)) r j));case atStart=>exact⟨0,N,rfl,by omega,rfl,Q,gx (fun r j _ _=>(gJ.tp _ _ _ _ _).symm)⟩
           case round=>
            clear Q;obtain⟨i,P,rfl,hi,rfl,S,HX⟩:=hrel;obtain⟨V,rfl⟩:∃V:World,V=wr:=⟨_,rfl⟩;have f:c<P.length:=by rw[S.len];exact B
            by_cases ap:i<n
            .have o:i<P.length:=by rw[S.len];exact ap
             have x0:=S.at i o;have x1:=S.byte i c o al;have j2:(0:Int)<=(i:Int):=by omega
             have j3:(i:Int)<(n:Int):=by omega
             have aN:=gx (show gJ.ja (gQ N) i c=gJ.ja (gQ P) i c by rw[HX.out i c ap al];unfold gJ.kT;rw[gC (by omega)])
             obtain⟨y,Z⟩:∃y,gJ.ja (gQ P) i c=y:=⟨_,rfl⟩;rw[Z] at x1 aN;replace Z:=gx Z;have U:=gJ.lt y;by_cases ao:i=c
             .subst ao;have aE:=gx (show∀r j,r<n->j<m->gJ.ja (gQ P) r j=gJ.kT i (fun r=>gJ.ja (gQ N) r i) (i+1) (gJ.ja (gQ N)) r j from fun r j hr C=>by rw[HX.out r j hr C];exact(gJ.tm (.inl rfl) r j).symm)
              go_wp2_with fail;go_loopg[141] m (fun g ax wr=>∃k:Nat,g=m-k/\k<=m/\ax=.int .i64 (k:Int)/\V=wr);case atStart=>exact⟨0,rfl,by omega,rfl,rfl⟩
              case round=>
               obtain⟨k,rfl,hk,rfl,rfl⟩:=hrel;by_cases F:k<m
               .go_wp2_with fail;go_roundg (m-(k+1));case measure=>omega
                case rel=>exact⟨k+1,rfl,by omega,by go_num,rfl⟩
               .obtain rfl:m=k:=by omega
                go_wp2_with fail;go_roundg (n-(i+1));case measure=>omega
                case rel=>exact⟨i+1,P,rfl,by omega,by go_num,S,aE⟩
             .have u0:((i:Int) !=(c:Int))=true:=by rw[ij];omega
              have u1:(i !=c)=true:=by rw[ij];exact ao
              have aL:=gx ao;clear ao;go_wp2_with fail;clear x0 x1;go_loopg[141] m (fun g ax wr=>∃(k:Nat) (I:List Wr),g=m-k/\k<=m/\ax=.int .i64 (k:Int)/\Wk w1 wr G n m cap I/\Hid (∀r j,r<n->j<m->gJ.ja (gQ I) r j=if r=i/\j<k then gJ.iG (gJ.ja (gQ P) i j) (gJ.iZ y (gJ.ja (gQ P) c j)) else gJ.ja (gQ P) r j));case atStart=>exact⟨0,P,rfl,by omega,rfl,S,gx (fun r j _ _=>by rw[gC (by omega)])⟩
              case round=>
               clear S;obtain⟨k,I,rfl,hk,rfl,L,HZ⟩:=hrel;obtain⟨V,rfl⟩:∃V:World,V=wr:=⟨_,rfl⟩;have f:c<I.length:=by rw[L.len];exact B
               have o:i<I.length:=by rw[L.len];exact ap
               by_cases F:k<m
               .have x0:=L.at i o;have x1:=L.byte i k o F;have x2:=L.at c f;have x3:=L.byte c k f F;have f0:=L.mo.MG i k o;have j4:(0:Int)<=(k:Int):=by omega
                have j5:(k:Int)<(m:Int):=by omega
                have aS:=gJ.lt (gJ.ja (gQ I) i k);have aU:=gJ.lt (gJ.ja (gQ I) c k);have aJ:=gx (show gJ.ja (gQ I) i k=gJ.ja (gQ P) i k by rw[HZ.out i k ap F,gC (by omega)]);have aK:=gx (show gJ.ja (gQ I) c k=gJ.ja (gQ P) c k by rw[HZ.out c k B F,gC (fun h=>aL.out h.1.symm)]);have hs:=gx (fun q=>(L.drewN q).mK i k o (gJ.iG (gJ.ja (gQ I) i k) (gJ.iZ y (gJ.ja (gQ I) c k))) ((gJ.ja (gQ I) i k).toNat^^^kM.mul y.toNat (gJ.ja (gQ I) c k).toNat) (by rw[gJ.toNat_add,gJ.toNat_mul]));have D:=gx (fun q=>oQ _ _ U aU (V.drewN q));have HY:=gx (fun r j=>Fx I i k o (by rw[L.wid _ (iE _)];exact F) (gJ.iG (gJ.ja (gQ I) i k) (gJ.iZ y (gJ.ja (gQ I) c k))) r j);have hv:=kM.mul_lt y.toNat (gJ.ja (gQ I) c k).toNat;have a7:=sG (gJ.ja (gQ I) i k).toNat _ aS hv;obtain⟨a5,aF⟩:∃y,gJ.ja (gQ I) i k=y:=⟨_,rfl⟩;obtain⟨b5,aG⟩:∃y,gJ.ja (gQ I) c k=y:=⟨_,rfl⟩;rw[aF] at x1 hs aS HY aJ a7;rw[aG] at x3 D hs aU HY aK a7 hv;replace aF:=gx aF;replace aG:=gx aG;generalize kM.mul y.toNat b5.toNat=v at *;generalize a5.toNat^^^v=u at *;go_wp2_with fail;go_upto_region 41 with(fail);refine vH 23 (by kernel_rfl) (by kernel_rfl) ?_;change wpStill _ _ (World.drew _) _ _ _;simp only[su,oO,sw,tK];repeat (first|still_step|still_call ((D 1).mono fun _ _ h=>⟨h.1,h.2.symm⟩))
                refine wpStill_nil ?_;change wpList _ _ _ _ _ (World.drewN V 1);go_wp2_with fail;go_roundg (m-(k+1));case measure=>omega
                case rel=>
                 refine⟨k+1,_,rfl,by omega,by go_num,hs _,gx (fun r j hr C=>?_)⟩;rw[HY.out,HZ.out r j hr C];by_cases e:r=i
                 .subst e;by_cases e2:j=k
                  .subst e2;rw[gG ⟨rfl,rfl⟩,gG ⟨rfl,by omega⟩,aJ.out,aK.out]
                  .rw[gC (fun h=>e2 h.2)];by_cases e3:j<k;·rw[gG ⟨rfl,e3⟩,gG ⟨rfl,by omega⟩]
                   .rw[gC (fun h=>e3 h.2),gC (by omega)]
                 .rw[gC (fun h=>e h.1),gC (fun h=>e h.1),gC (fun h=>e h.1)]
               .obtain rfl:m=k:=by omega
                have aE:=gx (gJ.JP (n:=n) (m:=m) (y:=fun r=>gJ.ja (gQ N) r c) (L':=gJ.ja (gQ I)) HX ap B aL (fun r j hr C=>by
                 rw[HZ.out r j hr C];by_cases e:r=i;·rw[gG ⟨e,C⟩,gG e,aN.out]
                 .rw[gC (fun h=>e h.1),gC e]))
                go_wp2_with fail;go_roundg (n-(i+1));case measure=>omega
                case rel=>exact⟨i+1,I,rfl,by omega,by go_num,L,aE⟩
            .obtain rfl:n=i:=by omega
             have bg:=gx ((bf.elim B (by omega) H1).congr (work':=fun i j=>gJ.ja (gQ P) i j) (out':=fun i j=>gJ.ja (gQ P) i (n+j)) (P':=fun j=>c<=j/\j<n) (fun i j hi C=>by
              rw[HX.out i j hi (by omega),gJ.rY hi]) (fun i j hi C=>by
              rw[HX.out i (n+j) hi (by have:=HM.out;omega),gJ.rY hi];rfl) (fun j C=>⟨by
               by_cases e:j=c;·exact .inr e
               .exact .inl ⟨by omega,C.2⟩,C.2⟩))
             go_wp2_with fail;go_roundg c;case measure=>omega
             case rel=>exact⟨c,(c:Int)-1,P,rfl,by omega,by go_num,gx (by omega),S,bg⟩
theorem En(a:Option Addr)(n ac:Nat)(A:List Rw)(w:World)(f:Ms w a n ac A):Calls prog 112 #[(a,n,ac)] w (rR (gJ.rQ (gz A)) w):=by
 refine CM (A:=gz A) (fun h=>?_) (fun h m=>?_) (fun q r j=>?_);·exact(Km a n ac A w f h).mono fun e w' o=>oy.A9 o (LP h)
 .exact(Kn a n ac A w f h (by rw[f.dn] at m;exact m)).mono fun e w' o=>oy.A9 o (LQ h m)
 .obtain rfl:q=n:=r.symm.trans f.dn;exact(Ix a q ac A w f j).mono fun e w'⟨B,C,E,F,G,I,K,L,N⟩=>⟨B,C,E,F,G,I,K,LR j L,N⟩
end Go.Proofs.YthhcdfjijagalaaGreat

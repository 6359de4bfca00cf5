import Derived.Test.YthhcdfjijagalaaGreatM07
import Derived.BigRegion
set_option linter.all false
set_option maxHeartbeats 4000000
set_option maxRecDepth 100000
namespace Go.Proofs.YthhcdfjijagalaaGreat
open Qz Go.Proofs.Tryz Go.RowKit
def Pe(n:Nat)(a:gJ.M)(L:List (List UInt8))(e:Int):Prop:=(L=[]/\e=6/\¬gJ.I0 n a)∨∃f,gJ.pG L n n f/\gJ.rU n a f/\e=0
theorem CM{A:List (List UInt8)}{P:Prop}(j:gJ.ir A≠0->P)(m:gJ.ir A=0->gJ.wid A 0≠A.length->P)(o:∀n,A.length=n->gJ.lD A n n->P):P:=by
 by_cases e:gJ.ir A=0
 .by_cases f:gJ.wid A 0=A.length
  .have h:=gJ.mM e;rw[f] at h;exact o _ rfl h
  .exact m e f
 .exact j e
theorem LP{A:List (List UInt8)}(h:gJ.ir A≠0):gJ.rQ A [] (gJ.ir A):=by unfold gJ.rQ;rw[gG h];exact⟨rfl,rfl⟩
theorem LQ{A:List (List UInt8)}(h:gJ.ir A=0)(f:gJ.wid A 0≠A.length):gJ.rQ A [] 8:=by unfold gJ.rQ;rw[gC (fun e=>e h),gG f];exact⟨rfl,rfl⟩
theorem LR{A:List (List UInt8)}{n:Nat}(f:gJ.lD A n n){L:List (List UInt8)}{e:Int}(h:Pe n (gJ.ja A) L e):gJ.rQ A L e:=by
 unfold gJ.rQ;rw[gC (fun e=>e f.jN),gC (by rw[f.Ci,f.rows];exact fun e=>e rfl),f.rows];exact h
theorem px{X:List Wr}{i:Nat}(hi:i<X.length)(j:Nat):gJ.ja (gQ X) i j=X[i].l.getD j 0:=by
 unfold gJ.ja gQ;simp[List.getD,hi]
def PW(n c:Nat)(X:List Wr)(w:World)(e:Ending)(w':World):Prop:=
 w=w'/\((∃p,c+p<n/\e=.returned (.int .i64 (p:Int))/\gJ.ja (gQ X) (c+p) c≠0)∨(e=.returned (.int .i64 (-1))/\∀i,c<=i->i<n->gJ.ja (gQ X) i c=0))
theorem LC{X:List Wr}{c n:Nat}(C:X.length=n){w:World}{e:Ending}{w':World}(h:IZ (n-c) c ((X.map Wr.rw).drop c) w e w'):PW n c X w e w':=by
 obtain⟨m,⟨p,E,f,o,j⟩|⟨f,q⟩⟩:=h
 .refine⟨m,.inl ⟨p,by omega,f,?_⟩⟩;rw[px (by omega)];simpa[Wr.rw] using j
 .refine⟨m,.inr ⟨f,fun i r B=>?_⟩⟩;have:=q (i-c) (by simp;omega);rw[px (by omega)];simp only[List.getElem_drop,rB,Wr.rw] at this;simpa[show c+(i-c)=i by omega] using this
theorem JW(a:Option Addr)(n ac:Nat)(A:List Rw)(w:World)(j:Ms w a n ac A)(h:gJ.ir (gz A)≠0):Calls prog 122 #[(a,n,ac)] w (oy (gJ.ir (gz A)) w):=by
 have f:=gx (kw a n ac A w j);have m:(gJ.ir (gz A) !=0)=true:=by rw[ij];exact h
 clear h;generalize gJ.ir (gz A)=e at *;go_enter func122,ntmps122;go_wp2_with fail;go_at_call 117;refine(f).mono ?_;rintro e' o⟨rfl,rfl⟩;go_wp2_with fail;go_ret2;exact⟨rfl,iU _ _⟩
theorem JX(a:Option Addr)(n ac:Nat)(A:List Rw)(w:World)(f:Ms w a n ac A)(j:gJ.ir (gz A)=0)(q:gJ.wid (gz A) 0≠n):Calls prog 122 #[(a,n,ac)] w (oy 8 w):=by
 have r:=gx (j▸kw a n ac A w f);have e:=gJ.mM j;have B:1<=n:=by have:=e.n1;rw[gY,f.jO] at this;omega
 obtain⟨C,o,rfl,_⟩:=f.sl.addr (by omega);obtain⟨E,F,_,h⟩:=f.uQ (m:=gJ.wid (gz A) 0) e.lP 0 (by rw[f.jO];omega);have h:=h w gZ;simp only[mH] at h;generalize gJ.wid (gz A) 0=k at *;have G:((k:Int) !=(n:Int))=true:=by rw[ij];omega
 have I:(k !=n)=true:=by rw[ij];exact q
 clear j e q;go_enter func122,ntmps122;go_wp2_with fail;go_at_call 117;refine(r).mono ?_;rintro e' K⟨rfl,rfl⟩;go_wp2_with fail;go_ret2;exact⟨rfl,iU _ _⟩
theorem Ia(a:Option Addr)(n ac:Nat)(A:List Rw)(w:World)(hA:Ms w a n ac A)(aH:gJ.lD (gz A) n n):Calls prog 122 #[(a,n,ac)] w (rR (Pe n (gJ.ja (gz A))) w):=by
 have CA:=gx (aH.jN▸kw a n ac A w hA);have HA:=gx hA.jO;have bJ:=aH.n1;have bK:=aH.n2;obtain⟨ab,bL,rfl,_⟩:=hA.sl.addr (by omega);have bF:0<A.length:=by rw[HA.out];omega
 have XA:=gx (hA.uQ aH.lP);obtain⟨bT,bU,_,q0⟩:=XA 0 bF;have q0:=q0 w gZ;simp only[mH] at q0;clear aH hA;go_enter func122,ntmps122;go_wp2_with fail;go_at_call 117;refine(CA).mono ?_;rintro e' w1⟨rfl,rfl⟩;go_wp2_with fail;go_at_call 130;refine(xL _).mono ?_;rintro e w1⟨⟨rfl,a3⟩,bB,-⟩;clear q0 CA;go_wp2_with fail;go_at_call 128;refine(Je n w1 bJ bK).mono ?_;rintro e w2⟨Go,Ro,rfl,bm,ad,al,a4⟩;have a7:=gx bm;have al:=gx al;clear bm;go_wp2_with (refine wpList_make_mat rfl (.tmp 36) (.tmp 36) 150 ku rfl n rfl rfl (by omega) ?_;intro w3 M3 b3 z3);have aJ:=gH a3 a4;have bp:=gH aJ b3;have bC:=(bB.below a4).below b3;have aT:=(ad.below b3).mono a3.size;have bG:=ad.lt.2;replace M3:=M3.mono aJ.size;have bn:∀r∈Ro,r.g<w2.heap.size:=fun r hr=>(ad.Oc hr).2;have a5:w2.heap.size≠Go:=by omega
 obtain⟨Gw,bk⟩:∃G,w2.heap.size=G:=⟨_,rfl⟩;rw[bk] at M3 a5⊢;clear bB a3 a4 b3 z3 aJ ad bG bk bn;go_loopg[40] n (fun g i wr=>∃(k:Nat) (R:List Wr),g=n-k/\k<=n/\i=.int .i64 (k:Int)/\Hid (R.length=k)/\Mo wr w.heap.size Gw n n R/\Mo wr w.heap.size Go n n Ro/\uL wr w.heap.size/\Below w w wr/\Hid (∀r∈R,∀q∈Ro,r.g≠q.g)/\Hid (gQ R=(gz A).take k));case atStart=>exact⟨0,[],rfl,by omega,rfl,gx rfl,M3,aT,bC,bp,gx (fun r hr=>by cases hr),gx rfl⟩
 case round=>
  clear M3 aT bC bp;obtain⟨k,R,rfl,hk,rfl,HK,hM,ad,aR,aC,aX,HD⟩:=hrel;obtain⟨wo,rfl⟩:∃wo:World,wo=wr:=⟨_,rfl⟩;have aW:=aC.size;by_cases m:k<n
  .have bu:k<A.length:=by rw[HA.out];exact m
   obtain⟨ra,rc,a6,e0⟩:=XA k bu;have e0:=e0 wo aC;have D:=gx (ma ra n rc A[k].l wo (a6.below aC) (by omega));go_wp2_with fail;go_at_call 81;refine(D).mono ?_;rintro e w4⟨v,rfl,aB,bA⟩;obtain⟨g,cap,rfl,bN,bP,bR,bO⟩:=jR bA (by omega);have k0:=(hM.below aB).Lj k (by rw[HK.out];exact jb _) m;have k1:=(hM.below aB).free k;clear e0;go_wp2_with fail;have P1:=(hM.below aB).push (by rw[HK.out];exact m) ⟨g,cap,A[k].l⟩ (by have:=Bt.n a6;simp only[Wr.v,this];exact hJ bA aW) (fun r hr e=>by have:=(hM.Oc hr).2;simp at e;omega)
   rw[HK.out] at P1;unfold Wr.v at P1;simp only[Bt.n a6] at P1;have aI:gU w4 (w4.setCell (Gw,k) (some (g,gy),n,cap)) [Gw]:=(gU.refl w4 [Gw]).setCell (.inl (by simp)) _;go_roundg (n-(k+1));case measure=>omega
   case rel=>
    refine⟨k+1,R++[⟨g,cap,A[k].l⟩],rfl,by omega,by go_num,gx (by simp;exact HK),P1,(ad.below aB).only aI (by simpa using lE a5) (fun r hr=>by simpa using ad.Pt hM hr),(aR.below aB).only aI (by simpa using hM.IR aR),(gH aC aB).setCell hM.lt.1 _,gx (fun r hr q hq=>?_),gx ?_⟩
    .rcases kd.1 hr with hr|hr
     .exact aX r hr q hq
     .obtain rfl:=iA.1 hr;have:=(ad.Oc hq).2;show g≠q.g;omega
    .have bz:k<(gz A).length:=by rw[gY];exact bu
     rw[qG bz,<-HD.out,oT bz];simp[gQ]
  .obtain rfl:k=n:=by omega
   have bI:(gz A).length=k:=by rw[gY];exact HA
   have hD:gQ R=gz A:=by rw[HD.out,ld (by omega)]
   have bh:∀r∈R,r.l.length=k:=fun r hr=>by
    obtain⟨i,hi,rfl⟩:=rA hr;have br:i<A.length:=by rw[HA.out,<-HK.out];exact hi
    obtain⟨_,_,hb,_⟩:=XA i br;have e:R[i].l=A[i].l:=by have:=congrArg (fun L=>L[i]?) hD;simpa[gQ,gz,hi,br] using this
    rw[e];exact Bt.n hb
   have B:Gx w wo w.heap.size Gw Go k k k R Ro:=⟨hM,ad,HK,a7,bh,fun r hr=>al.lP _ (iu.2 ⟨r,hr,rfl⟩),a5,aX,aR,aC⟩;have hS:gJ.Step k (gJ.ja (gz A)) (gJ.ja (gQ R)) (gJ.ja (gQ Ro)) (fun j=>j<0):=(gJ.Step.start k (gJ.ja (gz A))).congr (fun i j _ _=>by rw[hD]) (fun i j hi E=>al.eq i j hi E) (fun j E=>absurd E (by omega));have HS:=gx hS;clear hS hD bI bh hM ad aR aC aX HD al XA a7;go_wp2_with fail;go_loopg[52] k (fun g i wr=>∃(c:Nat) (X Y:List Wr),g=k-c/\c<=k/\i=.int .i64 (c:Int)/\Gx w wr w.heap.size Gw Go k k k X Y/\Hid (gJ.Step k (gJ.ja (gz A)) (gJ.ja (gQ X)) (gJ.ja (gQ Y)) (fun j=>j<c)));case atStart=>exact⟨0,R,Ro,rfl,by omega,rfl,B,HS⟩
   case round=>
    clear B HS HK;obtain⟨c,X,Y,rfl,hc,rfl,B,HS⟩:=hrel;obtain⟨wo,rfl⟩:∃wo:World,wo=wr:=⟨_,rfl⟩;have aW:=B.below.size;by_cases m:c<k
    .have hX:=gx B.lw;have hY:=gx B.lo;have f:c<X.length:=by rw[hX.out];exact m
     have ak:=B.alloc (.cells #[c] 3);have aP:=gO wo (.cells #[c] 3);have a0:=(ak.mw.ms B.lw).drop (lo:=c) (by omega);rw[gC (by omega),re,je,jk,me] at a0;have D:=gx (zC _ _ _ wo.heap.size c k _ _ a0 (fun r hr=>by obtain⟨q,hq,rfl⟩:=iu.1 (tD hr);exact B.ww q hq) m aP |>.mono fun e w' h=>LC hX h)
     have bc:(wo.alloc (.cells #[c] 3)).cell? (wo,gy)=some (.int .i64 (c:Int)):=gw aP;go_wp2_with fail;go_at_call 132;refine(D).mono ?_;rintro e w5⟨rfl,⟨p,hp,rfl,aQ⟩|⟨rfl,hz⟩⟩
     .have au:c+p<X.length:=by rw[hX.out];exact hp
      have S:=ak.mw.at c f;have x1:=ak.mw.at (c+p) au;rw[B.ww _ (iE f)] at S;rw[B.ww _ (iE au)] at x1;have x2:=ak.mw.free c;have x3:=ak.mw.free (c+p);have s1:IntKind.i64.wrap ((c:Int)+(p:Int))=(c:Int)+(p:Int):=iO _ (by omega);have s2:(0:Int)<=(c:Int)+(p:Int):=by omega
      have s3:((c:Int)+(p:Int)).toNat=c+p:=by omega
      have s4:(c:Int)+(p:Int)<(k:Int):=by omega
      have i0:(0:Int)<=(c:Int):=by omega
      have i1:(c:Int)<(k:Int):=by omega
      have ap:=ak.swap c (c+p) f au;simp only[Wr.v,B.ww _ (iE f),B.ww _ (iE au)] at ap;have n1:Gw≠wo.heap.size:=by have:=B.mw.lt;omega
      have n2:Go≠wo.heap.size:=by have:=B.mo.lt;omega
      have n3:wo.heap.size≠Gw:=lE n1;have n4:wo.heap.size≠Go:=lE n2;generalize wo.alloc (.cells #[c] 3)=W at *;generalize wo.heap.size=bx at *;replace ap:=gx ap;replace aQ:=gx aQ;have bw:W.heap[bx]?=some (.cells #[c] 3):=aP;clear a0 D ak B;go_upto_region 21 with(fail);go_cut[79] (fun bV wc=>∃O,Gx w wc w.heap.size Gw Go k k k O Y/\Hid (O=(X.set c X[c+p]).set (c+p) X[c])/\wc.heap[bx]?=some (.cells #[c] 3));case first=>
       rcases pD p with h0|h0
       .subst h0;simp only[mH] at x1 x3 ap;clear s1 s2 s3 s4;go_region;all_goals (go_wp2_with fail;go_meet)
        exact⟨_,ap.drewN 1,gx rfl,(mG _ _ _ _ n3).trans ((mG _ _ _ _ n3).trans bw)⟩
       .go_region;all_goals (go_wp2_with fail;go_meet)
        exact⟨_,ap.drewN 1,gx rfl,(mG _ _ _ _ n3).trans ((mG _ _ _ _ n3).trans bw)⟩
      case rest=>
       obtain⟨O,Z,aZ,aO⟩:=hcut;clear S x1 x2 x3 ap bc bw aP;have aF:c+p<Y.length:=by rw[hY.out];exact hp
       have o:c<Y.length:=by rw[hY.out];exact m
       have S:=Z.mo.at c o;have x1:=Z.mo.at (c+p) aF;rw[Z.wo _ (iE o)] at S;rw[Z.wo _ (iE aF)] at x1;have x2:=Z.mo.free c;have x3:=Z.mo.free (c+p);have bc:wc.cell? (bx,gy)=some (.int .i64 (c:Int)):=gw aO;have aq:=(Z.symm.swap c (c+p) o aF).symm;simp only[Wr.v,Z.wo _ (iE o),Z.wo _ (iE aF)] at aq;replace aq:=gx aq;obtain⟨V,rfl⟩:∃V:World,V=wc:=⟨_,rfl⟩;clear Z;go_upto_region 22 with(fail);go_cut[97] (fun bW wc=>∃Y2,Gx w wc w.heap.size Gw Go k k k O Y2/\Hid (Y2=(Y.set c Y[c+p]).set (c+p) Y[c])/\wc.heap[bx]?=some (.cells #[c] 3));case first=>
        rcases pD p with h0|h0
        .subst h0;simp only[mH] at x1 x3 aq;clear s1 s2 s3 s4;go_region;all_goals (go_wp2_with fail;go_meet)
         exact⟨_,aq.drewN 1,gx rfl,(mG _ _ _ _ n4).trans ((mG _ _ _ _ n4).trans aO)⟩
        .go_region;all_goals (go_wp2_with fail;go_meet)
         exact⟨_,aq.drewN 1,gx rfl,(mG _ _ _ _ n4).trans ((mG _ _ _ _ n4).trans aO)⟩
       case rest=>
        obtain⟨Y2,ag,bi,aY⟩:=hcut;clear S x1 x2 x3 aq bc aO n1 n2 n3 n4 s1 s2 s3 s4;have a8:=gx ((HS.swap m hp (by omega) (by omega)).congr (work':=gJ.ja (gQ O)) (out':=gJ.ja (gQ Y2)) (P':=fun j=>j<c) (fun i j _ _=>by rw[aZ.out];exact pP X c (c+p) f au i j) (fun i j _ _=>by rw[bi.out];exact pP Y c (c+p) o aF i j) (fun j E=>⟨E,by omega⟩));have aL:=gx (show gJ.ja (gQ O) c c≠0 by rw[aZ.out,pP X c (c+p) f au];unfold gJ.nM;rw[gG rfl];exact aQ);clear HS aZ bi aQ au aF f o hX hY hp;have hX:=gx ag.lw;have hY:=gx ag.lo;have f:c<O.length:=by rw[hX.out];exact m
        have o:c<Y2.length:=by rw[hY.out];exact m
        obtain⟨V,rfl⟩:∃V:World,V=wc:=⟨_,rfl⟩;have C:=ag.ww _ (iE f);have N:=ag.wo _ (iE o);have S:=ag.mw.at c f;have x1:=ag.mw.byte c c f (by omega);rw[C] at S;have bc:V.cell? (bx,gy)=some (.int .i64 (c:Int)):=gw aY;have h8:=iP O[c].l c;have DI:=gx (fun q=>Cm w.heap.size (iB O[c].l c) h8 (V.drewN q) (ag.EI.drewN q));obtain⟨xi,aS⟩:∃xi,xi=gJ.mD (O[c].l.getD c 0):=⟨_,rfl⟩;have e8:kM.inv (iB O[c].l c)=xi.toNat:=by rw[aS,gJ.uF];rfl
        have ay:xi≠0:=by rw[aS];exact gJ.vs (by rw[<-px f];exact aL)
        have bd:=gx (show xi=gJ.mD (gJ.ja (gQ O) c c) by rw[aS,px f]);rw[e8] at DI;clear e8 aS;generalize iB O[c].l c=xb at *;replace C:=gx C;replace N:=gx N;replace ay:=gx ay;go_wp2_with fail;go_quiet ((go_at_call 134;exact Calls.quiet_of (DI _)));have F:=ag.drewN nq;have ao:(V.drewN nq).heap[bx]?=some (.cells #[c] 3):=aY;generalize V.drewN nq=V5 at *;clear DI S x1 bc aY ag;have S:=F.mw.at c f;rw[C.out] at S;have bc:V5.cell? (bx,gy)=some (.int .i64 (c:Int)):=gw ao;have K:=F.mw.row O[c] (iE f);simp only[Wr.v,C.out] at K;have D1:=gx (zi w.heap.size w.heap.size O[c].g k O[c].cap O[c].l xi V5 F.EI K (by omega));go_wp2_with fail;go_at_call 135;refine(D1).mono ?_;rintro e V6⟨rfl,m1,aj,aD,ah⟩;have aU:=lp aj;have I:=F.row c f aU ah (by simp only[Wr.v,C.out];exact aj);have aA:=F.box ao (iE f) ah;clear D1 S bc ao ah aj K;have a2:=gx (show∀i j,i<k->j<k->gJ.ja (gQ (O.set c ⟨O[c].g,O[c].cap,m1⟩)) i j=gJ.lX c xi (gJ.ja (gQ O)) i j from fun i j _ E=>by rw[data_set];exact gJ.Cw (n:=k) (by rw[mh];exact f) (fun j E=>by rw[aD j E];simp[gQ]) i j E)
        clear aD F;have S:=I.mo.at c o;rw[N.out] at S;have bc:V6.cell? (bx,gy)=some (.int .i64 (c:Int)):=gw aA;have K:=I.mo.row Y2[c] (iE o);simp only[Wr.v,N.out] at K;have D1:=gx (zi w.heap.size w.heap.size Y2[c].g k Y2[c].cap Y2[c].l xi V6 I.EI K (by omega));go_wp2_with fail;go_at_call 135;refine(D1).mono ?_;rintro e V7⟨rfl,m2,jE,bq,a1⟩;have aV:=lp jE;have bj:=(I.symm.row c o aV a1 (by simp only[Wr.v,N.out];exact jE)).symm;have bg:=I.symm.box aA (iE o) a1;clear D1 S bc aA a1 jE K;have bo:=gx (show∀i j,i<k->j<k->gJ.ja (gQ (Y2.set c ⟨Y2[c].g,Y2[c].cap,m2⟩)) i j=gJ.lX c xi (gJ.ja (gQ Y2)) i j from fun i j _ E=>by rw[data_set];exact gJ.Cw (n:=k) (by rw[mh];exact o) (fun j E=>by rw[bq j E];simp[gQ]) i j E)
        clear bq I aU aV;generalize O.set c ⟨O[c].g,O[c].cap,m1⟩=X3 at *;generalize Y2.set c ⟨Y2[c].g,Y2[c].cap,m2⟩=Y3 at *;have bD:=gx ((a8.scale m (by omega) ay).congr (work':=gJ.ja (gQ X3)) (out':=gJ.ja (gQ Y3)) (P':=fun j=>j<c) a2 bo (fun j E=>⟨E,by omega⟩));have H1:=gx (show gJ.ja (gQ X3) c c=1 by rw[a2.out c c m m,bd.out];exact gJ.C5 aL);clear a8 a2 bo bd aL ay C N hX hY;go_wp2_with fail;go_loopg[122] k (fun g ix wr=>∃(i:Nat) (P Q:List Wr),g=k-i/\i<=k/\ix=.int .i64 (i:Int)/\Gx w wr w.heap.size Gw Go k k k P Q/\wr.heap[bx]?=some (.cells #[c] 3)/\Hid (∀r j,r<k->j<k->gJ.ja (gQ P) r j=gJ.kT c (fun r=>gJ.ja (gQ X3) r c) i (gJ.ja (gQ X3)) r j)/\Hid (∀r j,r<k->j<k->gJ.ja (gQ Q) r j=gJ.kT c (fun r=>gJ.ja (gQ X3) r c) i (gJ.ja (gQ Y3)) r j));case atStart=>exact⟨0,X3,Y3,rfl,by omega,rfl,bj,bg,gx (fun r j _ _=>(gJ.tp _ _ _ _ _).symm),gx (fun r j _ _=>(gJ.tp _ _ _ _ _).symm)⟩
        case round=>
         clear bj bg;obtain⟨i,P,Q,rfl,bQ,rfl,B,bw,HX,HY⟩:=hrel;obtain⟨U,rfl⟩:∃U:World,U=wr:=⟨_,rfl⟩;have hX:=gx B.lw;have hY:=gx B.lo;have bc:U.cell? (bx,gy)=some (.int .i64 (c:Int)):=gw bw;by_cases aK:i<k
         .have ae:i<P.length:=by rw[hX.out];exact aK
          have ar:i<Q.length:=by rw[hY.out];exact aK
          have f:c<P.length:=by rw[hX.out];exact m
          have o:c<Q.length:=by rw[hY.out];exact m
          have C:=B.ww _ (iE ae);have N:=B.ww _ (iE f);have aw:=B.wo _ (iE ar);have aG:=B.wo _ (iE o);have S:=B.mw.at i ae;have x1:=B.mw.byte i c ae (by omega);rw[C] at S;obtain⟨y,hy⟩:∃y,y=P[i].l.getD c 0:=⟨_,rfl⟩;have e8:iB P[i].l c=y.toNat:=by rw[hy];rfl
          have az:=gx (show y=gJ.ja (gQ X3) i c by rw[hy,<-px ae,HX.out i c aK m];unfold gJ.kT;rw[gC (by omega)])
          rw[e8] at x1;have bS:=gJ.lt y;clear e8 hy;have j0:(0:Int)<=(i:Int):=by omega
          have j1:(i:Int)<(k:Int):=by omega
          by_cases af:i=c∨y=0
          .have a9:=gx (show∀r j,r<k->j<k->gJ.ja (gQ P) r j=gJ.kT c (fun r=>gJ.ja (gQ X3) r c) (i+1) (gJ.ja (gQ X3)) r j from fun r j hr E=>by rw[HX.out r j hr E];exact(gJ.tm (af.imp id (fun e=>by rw[<-az.out];exact e)) r j).symm)
           have bf:=gx (show∀r j,r<k->j<k->gJ.ja (gQ Q) r j=gJ.kT c (fun r=>gJ.ja (gQ X3) r c) (i+1) (gJ.ja (gQ Y3)) r j from fun r j hr E=>by rw[HY.out r j hr E];exact(gJ.tm (af.imp id (fun e=>by rw[<-az.out];exact e)) r j).symm)
           rcases Nat.eq_or_lt_of_le (jb 0) with _|hx
           .by_cases ai:i=c
            .clear af az C N aw aG;subst ai;go_wp2_with fail;go_quiet (fail);go_wp2_with fail;go_roundg (k-(i+1));case measure=>omega
             case rel=>exact⟨i+1,P,Q,rfl,by omega,by go_num,B.drewN _,bw,a9,bf⟩
            .have aM:y.toNat=0:=by rw[af.resolve_left ai];rfl
             rw[aM] at x1;have u0:((i:Int) !=(c:Int))=true:=by rw[ij];omega
             have u1:(i !=c)=true:=by rw[ij];exact ai
             clear af az C N aw aG aM ai;go_wp2_with fail;go_quiet (fail);go_wp2_with fail;go_roundg (k-(i+1));case measure=>omega
             case rel=>exact⟨i+1,P,Q,rfl,by omega,by go_num,B.drewN _,bw,a9,bf⟩
           .omega
          .have ai:i≠c:=fun e=>af (.inl e);have aM:y.toNat≠0:=fun e=>af (.inr (UInt8.toNat_inj.1 e));have u0:((i:Int) !=(c:Int))=true:=by rw[ij];omega
           have u1:(i !=c)=true:=by rw[ij];exact ai
           have u2:((y.toNat:Int) !=0)=true:=by rw[ij];omega
           have u3:(y.toNat !=0)=true:=by rw[ij];exact aM
           replace C:=gx C;replace N:=gx N;replace aw:=gx aw;replace aG:=gx aG;have aN:=gx ai;clear af aM ai;go_wp2_with fail;go_quiet (fail);have F:=B.drewN nq;have ao:(U.drewN nq).heap[bx]?=some (.cells #[c] 3):=bw;generalize U.drewN nq=U5 at *;clear S x1 bc B bw;have S:=F.mw.at i ae;have x1:=F.mw.at c f;rw[C.out] at S;rw[N.out] at x1;have bc:U5.cell? (bx,gy)=some (.int .i64 (c:Int)):=gw ao;have K:=F.mw.row P[i] (iE ae);have aE:=F.mw.row P[c] (iE f);simp only[Wr.v,C.out] at K;simp only[Wr.v,N.out] at aE;have ax:P[c].g≠P[i].g:=F.mw.QF f ae (lE aN);have D1:=gx (fun q=>CE w.heap.size w.heap.size P[i].g k P[i].cap w.heap.size P[c].g P[c].cap P[i].l P[c].l y (U5.drewN q) (F.EI.drewN q) (mO K q) (mO aE q) ax (by omega));go_upto_region 31 with(fail);go_cut[131] (fun bM wc=>∃X5,Gx w wc w.heap.size Gw Go k k k X5 Q/\wc.heap[bx]?=some (.cells #[c] 3)/\Hid (∀r j,r<k->j<k->gJ.ja (gQ X5) r j=gJ.kT c (fun r=>gJ.ja (gQ X3) r c) (i+1) (gJ.ja (gQ X3)) r j));case first=>
            go_region_law (first|(go_simp;go_at_call 136;refine(D1 _).mono ?_;rintro e w6⟨rfl,m1,aj,aD,ah⟩));all_goals (go_wp2_with fail;go_meet)
            all_goals
             refine⟨P.set i ⟨P[i].g,P[i].cap,m1⟩,(F.drewN _).row i ae (lp aj) ah (by simp only[Wr.v,C.out];exact aj),(F.drewN _).box ao (iE ae) ah,gx (fun r j hr E=>?_)⟩;rw[data_set];exact gJ.Fw (n:=k) (by rw[mh];exact ae) HX aK m aN (fun j E=>by rw[aD j E,<-az.out,px f];simp[gQ]) r j hr E
           case rest=>
            obtain⟨X5,I,aA,bE⟩:=hcut;clear S x1 bc K aE ax D1 F ao C N;obtain⟨U6,rfl⟩:∃U:World,U=wc:=⟨_,rfl⟩;have S:=I.mo.at i ar;have x1:=I.mo.at c o;rw[aw.out] at S;rw[aG.out] at x1;have bc:U6.cell? (bx,gy)=some (.int .i64 (c:Int)):=gw aA;have K:=I.mo.row Q[i] (iE ar);have aE:=I.mo.row Q[c] (iE o);simp only[Wr.v,aw.out] at K;simp only[Wr.v,aG.out] at aE;have ax:Q[c].g≠Q[i].g:=I.mo.QF o ar (lE aN);have D1:=gx (fun q=>CE w.heap.size w.heap.size Q[i].g k Q[i].cap w.heap.size Q[c].g Q[c].cap Q[i].l Q[c].l y (U6.drewN q) (I.EI.drewN q) (mO K q) (mO aE q) ax (by omega));go_wp2_with fail;go_region_law (first|(go_simp;go_at_call 136;refine(D1 _).mono ?_;rintro e w6⟨rfl,m1,aj,aD,ah⟩));all_goals go_wp2_with fail
            all_goals
             go_roundg (k-(i+1));case measure=>omega
             case rel=>
              refine⟨i+1,X5,Q.set i ⟨Q[i].g,Q[i].cap,m1⟩,rfl,by omega,by go_num,((I.drewN _).symm.row i ar (lp aj) ah (by simp only[Wr.v,aw.out];exact aj)).symm,(I.drewN _).symm.box aA (iE ar) ah,bE,gx (fun r j hr E=>?_)⟩;rw[data_set];exact gJ.Fw (n:=k) (by rw[mh];exact ar) HY aK m aN (fun j E=>by rw[aD j E,<-az.out,px o];simp[gQ]) r j hr E
         .obtain rfl:i=k:=by omega
          go_wp2_with fail;go_roundg (i-(c+1));case measure=>omega
          case rel=>
           refine⟨c+1,P,Q,rfl,by omega,by go_num,B,gx ?_⟩;refine(bD.elim m (by omega) H1).congr (fun r j hr E=>?_) (fun r j hr E=>?_) (fun j E=>⟨?_,by omega⟩);·rw[HX.out r j hr E,gJ.rY hr]
           .rw[HY.out r j hr E,gJ.rY hr]
           .by_cases e:j=c;·exact .inr e
            .exact .inl (by omega)
     .have af:=HS.stuck m (by omega) (fun i hi ai=>hz i (by omega) hi);have bH:=ak.below;clear hz D;go_wp2_with fail;go_ret2;exact⟨_,_,_,[],6,rfl,Ms.nil _,.inl ⟨rfl,rfl,af⟩,bH⟩
    .obtain rfl:c=k:=by omega
     go_wp2_with fail;go_ret2;have hu:=HS.done (fun j E=>E);exact⟨_,_,_,_,0,rfl,B.mo.ms B.lo,.inr ⟨_,by rw[yV];exact gJ.pG.self (by rw[mh];exact B.lo) (fun r hr=>by obtain⟨q,hq,rfl⟩:=iu.1 hr;exact B.wo q hq),hu,rfl⟩,B.below⟩
theorem D9(a:Option Addr)(n ac:Nat)(A:List Rw)(w:World)(f:Ms w a n ac A):Calls prog 122 #[(a,n,ac)] w (rR (gJ.rQ (gz A)) w):=by
 refine CM (A:=gz A) (fun h=>?_) (fun h m=>?_) (fun q r j=>?_);·exact(JW a n ac A w f h).mono fun e w' o=>oy.A9 o (LP h)
 .exact(JX a n ac A w f h (by rw[f.dn] at m;exact m)).mono fun e w' o=>oy.A9 o (LQ h m)
 .obtain rfl:q=n:=r.symm.trans f.dn;exact(Ia a q ac A w f j).mono fun e w'⟨B,C,E,F,G,I,K,L,N⟩=>⟨B,C,E,F,G,I,K,LR j L,N⟩
end Go.Proofs.YthhcdfjijagalaaGreat

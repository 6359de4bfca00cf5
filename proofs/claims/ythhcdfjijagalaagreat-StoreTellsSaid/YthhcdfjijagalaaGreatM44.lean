import Derived.Test.YthhcdfjijagalaaGreatM25
import Derived.Test.YthhcdfjijagalaaGreatM43
set_option linter.all false
set_option maxHeartbeats 4000000
set_option maxRecDepth 100000
namespace Go.Proofs.YthhcdfjijagalaaGreat
open Qz Go.Proofs.Tryz Go.RowKit
theorem J3:(Tryz.prog.info? 3).map (fun i=>(i.zero,i.size,i.bytes))=some (some (.int .i64 0),1,8):=by kernel_rfl
def ph(U:List Nat):List Value:=U.map fun(u:Nat)=>Value.int .i64 (u:Int)
theorem zL(U V:List Nat):ph (U++V)=ph U++ph V:=by simp[ph]
def mR(l:List (List UInt8))(k:Nat):List Nat:=(List.range k).filter (gJ.lM l)
theorem GW(l:List (List UInt8)):mR l l.length=gJ.there l:=rfl
theorem IS{l:List (List UInt8)}{k:Nat}(h:gJ.lM l k=false):mR l (k+1)=mR l k:=by
 unfold mR;rw[sr,tS,List.filter_cons_of_neg (by simp[h]),vI,mY]
theorem GX{l:List (List UInt8)}{k:Nat}(h:gJ.lM l k=true):mR l (k+1)=mR l k++[k]:=by
 unfold mR;rw[sr,tS,List.filter_cons_of_pos h,vI]
theorem Bq(l:List (List UInt8))(k:Nat):(mR l k).length<=k:=by
 have:=vG (gJ.lM l) (List.range k);rwa[yt] at this
def vr(l:List (List UInt8))(U:List Nat)(f:gJ.M)(j t p:Nat):UInt8:=gJ.sum p fun q=>gJ.iZ (f j q) (gJ.ja l (U.getD q 0) t)
def Gk(d:Nat)(l:List (List UInt8))(U:List Nat)(f:gJ.M)(i t j:Nat):UInt8:=gJ.sum j fun q=>gJ.iZ (gJ.mf d i q) (vr l U f q t d)
theorem J2(l:List (List UInt8))(U:List Nat)(f:gJ.M)(j t p:Nat):vr l U f j t (p+1)=gJ.iG (vr l U f j t p) (gJ.iZ (f j p) (gJ.ja l (U.getD p 0) t)):=rfl
theorem Ip(d:Nat)(l:List (List UInt8))(U:List Nat)(f:gJ.M)(i t j:Nat):Gk d l U f i t (j+1)=gJ.iG (Gk d l U f i t j) (gJ.iZ (gJ.mf d i j) (vr l U f j t d)):=rfl
theorem Kb(d:Nat)(l:List (List UInt8))(f:gJ.M)(i t:Nat):Gk d l (gJ.there l) f i t d=gJ.wV l d f i t:=rfl
theorem Ko(a:Option Addr)(n ac:Nat)(A:List Rw)(d:Int)(hd:-9223372036854775808<=d/\d<=9223372036854775807)(w:World)(h:Ms w a n ac A)(hc:gJ.gT d ((n:Int)-d)≠0):Calls prog 87 #[(a,n,ac),d] w (oy (gJ.gT d ((n:Int)-d)) w):=by
 have f:=qR h.NP hd;rw[<-f] at hc⊢;generalize j:IntKind.i64.wrap ((n:Int)-d)=z at *;have m:(gJ.gT d z !=0)=true:=ij.2 hc;have D:=gx (CY d z w hc);generalize gJ.gT d z=e at *;replace hc:=gx hc;replace f:=gx f;replace hd:=gx hd;go_enter func87,ntmps87;go_wp2_with fail;go_at_call 107;refine(D).mono ?_;rintro e' o⟨rfl,b1⟩;go_wp2_with fail;go_ret2;exact⟨rfl,b1⟩
theorem MD(a:Option Addr)(n ac D s:Nat)(A:List Rw)(w:World)(hA:Ms w a n ac A)(hn:n=D+s)(h1:1<=D)(h2:D<=8)(bD:s<=4):Calls prog 87 #[(a,n,ac),D] w (rR (gJ.lm (gz A) (D:Int)) w):=by
 have HN:=gx hA.jO;have HL:=gx hA.dn;have s1:IntKind.i64.wrap ((n:Int)-(D:Int))=(s:Int):=by rw[iO _ (by omega)];omega
 have s2:(n:Int)-(D:Int)=(s:Int):=by omega
 have hC:=gx (show gJ.gT (D:Int) (((gz A).length:Int)-(D:Int))=0 by rw[HL.out];exact gJ.kl (by omega));have cc:n<=12:=by omega
 have cw:1<=n:=by omega
 replace hn:=gx hn;obtain⟨ab,bZ,rfl,_⟩:=hA.sl.addr (by omega);go_enter func87,ntmps87;go_wp2_with fail;go_at_call 107;refine(A4 D s w h1 h2 bD).mono ?_;rintro e w1⟨a1,n1,c1,P,e1,rfl,hR,⟨ae,rfl⟩,b1⟩;obtain rfl:n1=n:=by rw[<-hR.dn,ae.rows,hn.out]
 have HR:=gx hR.jO;have HP:=gx ae;obtain⟨rb,ck,rfl,_⟩:=hR.sl.addr (by omega);have aW:=hA.below b1;clear ae;go_wp2_with fail;go_loopg[8,40] n1 (fun g s8 bX wr=>∃k:Nat,g=n1-k/\k<=n1/\bX=.int .i64 (k:Int)/\OT w1 wr none w1.heap.size 3 1 s8 (mR (gz A) k).length (ph (mR (gz A) k)));case atStart=>exact⟨0,rfl,by omega,rfl,OT.fresh (iY _ _ _ _) gZ gM⟩
 case round=>
  obtain⟨k,rfl,hk,rfl,C⟩:=hrel;obtain⟨wo,rfl⟩:∃wo:World,wo=wr:=⟨_,rfl⟩;have E:=C.im gM (fun k e=>by cases e);have cf:=E.size;by_cases aQ:k<n1
  .have Q:k<A.length:=by rw[HN.out];exact aQ
   have G:=aW.below E;have x0:=(G.at k Q).1;have hl:=Bt.n (G.at k Q).2;have S:gJ.lM (gz A) k=decide (0<A[k].n):=by unfold gJ.lM;rw[show(gz A).getD k []=A[k].l by simp[List.getD,gz,Q],hl]
   have ct:=Bq (gz A) k;generalize A[k]=ra at *;replace hl:=gx hl;by_cases hz:0<ra.n
   .have hy:=gx (GX (l:=gz A) (k:=k) (by rw[S];simpa using hz));have u0:(0:Int)<(ra.n:Int):=by omega
    go_wp2_with (refine wpList_append_t rfl (.tmp 48) (.tmp 50) 27 27 rfl w1.heap.size 3 1 8 gy underlying27 J3 rfl (by decide) _ (mR (gz A) k).length (ph (mR (gz A) k)) rfl (C.alloc (.cells #[k] 3)) (some (wo,gy),ia,ia) 1 [.int .i64 (k:Int)] rfl (Src.mr wo #[.int .i64 (k:Int)] 3 1 1 underlying27 rfl (by simp[Value.oneCell'])) (by unfold maxLen;omega) (by omega) (by simp;omega) ?_;intro v2 w2 bR cr);go_roundg (n1-(k+1));case measure=>omega
    case rel=>
     refine⟨k+1,rfl,by omega,by go_num,?_⟩;rw[hy.out,zL,iH];exact bR
   .have hf:=gx (IS (l:=gz A) (k:=k) (by rw[S];simpa using hz));have u0:ra.n=0:=by omega
    rw[u0] at x0;go_wp2_with fail;go_roundg (n1-(k+1));case measure=>omega
    case rel=>exact⟨k+1,rfl,by omega,by go_num,by rw[hf.out];exact C⟩
  .obtain rfl:n1=k:=by omega
   have hU:=gx (show mR (gz A) n1=gJ.there (gz A) by rw[<-HL.out];exact GW _);have a6:=Bq (gz A) n1;rw[hU.out] at C a6;obtain⟨ua,uc,rfl,ad⟩:=gK C.own;obtain⟨ul,U⟩:∃ul,(gJ.there (gz A)).length=ul:=⟨_,rfl⟩;rw[U] at ad a6⊢;replace U:=gx U;have G:=aW.below E;clear C;by_cases b8:ul<D
   .have u0:(ul:Int)<(D:Int):=by omega
    have hb:=gH b1 E;have hM:=gx (gJ.wY (l:=gz A) (d:=(D:Int)) hC (by have:=U.out;omega));go_wp2_with fail;go_ret2;exact⟨_,_,_,[],10,rfl,Ms.nil _,hM,hb⟩
   .have u0:¬(ul:Int)<(D:Int):=by omega
    have aB:Hid (∀u∈gJ.there (gz A),u<n1):=gx (fun u hu=>by have:=(gJ.qs hu).1;rwa[HL.out] at this);obtain⟨ub,cm,rfl,_⟩:=ad.addr (by omega);have I:Hid (∀p,p<ul->∃hp:p<(gJ.there (gz A)).length,(ph (gJ.there (gz A)))[p]?=some (.int .i64 (((gJ.there (gz A)).getD p 0:Nat):Int))/\(gJ.there (gz A)).getD p 0<n1/\(gJ.there (gz A)).getD p 0∈gJ.there (gz A)):=gx (fun p hp=>by
     have aR:p<(gJ.there (gz A)).length:=by rw[U.out];exact hp
     have e:(gJ.there (gz A)).getD p 0=(gJ.there (gz A))[p]:=by simp[List.getD,aR]
     rw[e];exact⟨aR,by simp[ph,aR],aB _ (iE _),iE _⟩)
    obtain⟨cx,a8,bm,cu⟩:=I 0 (by omega);have y0:=ad.cell (by omega) a8;rw[mH] at y0;obtain⟨v0,ax⟩:∃v0,(gJ.there (gz A)).getD 0 0=v0:=⟨_,rfl⟩;rw[ax] at y0 bm;have al:v0<A.length:=by rw[HN.out];exact bm
    have y1:=(G.at v0 al).1;have ao:Hid (gJ.wid (gz A) ((gJ.there (gz A)).getD 0 0)=A[v0].n):=gx (by rw[ax,zY al,Bt.n (G.at v0 al).2])
    obtain⟨m,hm⟩:∃m,A[v0].n=m:=⟨_,rfl⟩;rw[hm] at y1 ao;replace hm:=gx hm;replace ax:=gx ax;clear a8;go_wp2_with fail;clear y0 y1;have S:=gx (show D<=(gJ.there (gz A)).length by have:=U.out;omega);go_loopg[66] n1 (fun g i wr=>∃k:Nat,g=n1-k/\k<=n1/\i=.int .i64 (k:Int)/\wo=wr/\Hid (∀j (hj:j<A.length),j<k->A[j].n<=400/\(0<A[j].n->A[j].n=m)));case atStart=>exact⟨0,rfl,by omega,rfl,rfl,gx (fun j _ hj=>absurd hj (by omega))⟩
    case round=>
     obtain⟨k,rfl,hk,rfl,rfl,X⟩:=hrel;by_cases aQ:k<n1
     .have Q:k<A.length:=by rw[HN.out];exact aQ
      have x0:=(G.at k Q).1;have hl:=gx (Bt.n (G.at k Q).2);have aH:Hid (A[k].l∈gz A):=gx (iu.2 ⟨_,iE Q,rfl⟩);generalize af:A[k]=ra at *;replace af:=gx af;have i0:(0:Int)<=(k:Int):=by omega
      have i1:(k:Int)<(n1:Int):=by omega
      by_cases hz:ra.n=0
      .rw[hz] at x0;go_wp2_with fail;go_roundg (n1-(k+1));case measure=>omega
       case rel=>
        refine⟨k+1,rfl,by omega,by go_num,rfl,gx (fun j hj bP=>?_)⟩;by_cases e:j=k;·subst e;rw[af.out,hz];exact⟨by omega,fun h=>absurd h (by omega)⟩
        .exact X j hj (by omega)
      .have v0:(0:Int)<(ra.n:Int):=by omega
       have v1:0<ra.n:=by omega
       by_cases aV:400<ra.n
       .have hM:=gx (gJ.ru (l:=gz A) (d:=(D:Int)) hC (by have:=S.out;omega) ⟨_,aH,.inl (by rw[hl.out];exact aV)⟩);have hb:=gH b1 E;have v2:(400:Int)<(ra.n:Int):=by omega
        go_wp2_with fail;go_ret2;exact⟨_,_,_,[],2,rfl,Ms.nil _,hM,hb⟩
       .have v2:¬(400:Int)<(ra.n:Int):=by omega
        by_cases aj:ra.n=m
        .subst aj;go_wp2_with fail;go_roundg (n1-(k+1));case measure=>omega
         case rel=>
          refine⟨k+1,rfl,by omega,by go_num,rfl,gx (fun j hj bP=>?_)⟩;by_cases e:j=k;·subst e;rw[af.out];exact⟨by omega,fun _=>rfl⟩
          .exact X j hj (by omega)
        .have hM:=gx (gJ.ru (l:=gz A) (d:=(D:Int)) hC (by have:=S.out;omega) ⟨_,aH,.inr ⟨by rw[hl.out];exact v1,by rw[hl.out,ao.out];exact aj⟩⟩);have hb:=gH b1 E;have v3:((ra.n:Int) !=(m:Int))=true:=by rw[ij];omega
         have v4:(ra.n !=m)=true:=ij.2 aj;have cd:=gx aj;clear aj;go_wp2_with fail;go_ret2;exact⟨_,_,_,[],2,rfl,Ms.nil _,hM,hb⟩
     .obtain rfl:n1=k:=by omega
      have ai:Hid (¬gJ.rP (gz A)):=gx (fun⟨q,hq,aD⟩=>by
       obtain⟨r,hr,rfl⟩:=iu.1 hq;obtain⟨j,hj,rfl⟩:=rA hr;have h1:=X j hj (by rw[<-HN.out];exact hj);have h2:=Bt.n (G.at j hj).2;rw[h2,ao.out] at aD;rcases aD with h|⟨h,h'⟩
       .omega
       .exact h' (h1.2 h))
      have ak:Hid (∀p,p<ul->((gz A).getD ((gJ.there (gz A)).getD p 0) []).length=m/\((gz A).getD ((gJ.there (gz A)).getD p 0) []).length<=400):=gx (fun p hp=>by obtain⟨_,_,_,h4⟩:=I p hp;have:=gJ.Jc ai h4;rwa[ao.out] at this)
      have cv:1<=m/\m<=400:=by
       have h1:=ak 0 (by omega);obtain⟨_,_,_,h4⟩:=I 0 (by omega);have h2:=(gJ.qs h4).2;have h2:0<((gz A).getD ((gJ.there (gz A)).getD 0 0) []).length:=by simpa[gJ.lM] using h2
       omega
      have bL:=gH b1 E;have aO:=hR.below E;clear X;have cj:=ad.le;have cq:D<=uc:=by omega
      have b5:(D:Int)<=(uc:Int):=by omega
      have b6:(0:Int)<=(D:Int):=by omega
      have b7:D<=ul:=by omega
      go_wp2_with fail;go_loopg[14,89] D (fun g bT bY wr=>∃(k:Nat) (K:List Rw),g=D-k/\k<=D/\bY=.int .i64 (k:Int)/\Hid (K=((gJ.there (gz A)).take k).map fun u=>P.getD u Kw)/\Mb wo wr none wo.heap.size bT K);case atStart=>exact⟨0,[],rfl,by omega,rfl,gx rfl,Mb.nil _ _ gZ _ gM⟩
      case round=>
       obtain⟨k,K,rfl,hk,rfl,HK,hM⟩:=hrel;obtain⟨wp,rfl⟩:∃wp:World,wp=wr:=⟨_,rfl⟩;have O:=hM.own.im gM (fun k e=>by cases e);by_cases b9:k<D
       .obtain⟨ae,a9,bn,ca⟩:=I k (by omega);have x0:=(ad.below O).cell (by omega) a9;have ah:K.length=k:=by rw[HK.out,iz,jh];have:=U.out;omega
        have bk:=gx (show(gJ.there (gz A)).take (k+1)=(gJ.there (gz A)).take k++[(gJ.there (gz A)).getD k 0] by rw[qG ae];simp[List.getD,ae])
        obtain⟨v,F⟩:∃v,(gJ.there (gz A)).getD k 0=v:=⟨_,rfl⟩;rw[F] at x0 bn bk;have ay:v<P.length:=by rw[HR.out];exact bn
        have x1:=((aO.below O).at v ay).1;have bN:=((aO.below O).at v ay).2;have bI:sS _ P[v]:=xQ hM.own.own (base:=wo) (fun hn b off e=>by have:=(aO.at v ay).2;rw[e] at this;exact Bt.Qt this hn)
        have bO:Hid (P.getD v Kw=P[v]):=gx (by simp[List.getD,ay]);have i0:(0:Int)<=(v:Int):=by omega
        have i1:(v:Int)<(n1:Int):=by omega
        generalize P[v]=rr at *;have a2:K.length<=65536:=by omega
        have bj:=O.size;replace F:=gx F;replace ah:=gx ah;clear a9;go_wp2_with (refine wpList_append_row rfl (.tmp 93) (.tmp 98) 150 ku rfl wo.heap.size _ K rfl hM rr _ rfl rfl bN bI a2 bj ?_;intro v5 w5 M5 g5);go_roundg (D-(k+1));case measure=>omega
        case rel=>exact⟨k+1,K++[rr],rfl,by omega,by go_num,gx (by rw[bk.out,li,<-HK.out,lI,nj,bO.out]),M5⟩
       .obtain rfl:D=k:=by omega
        obtain⟨pa,pc,rfl,aN⟩:=hM.ms;have aJ:Hid (K=(gJ.jg (gz A) D n1).map fun u=>P.getD u Kw):=gx (by rw[HK.out,<-HL.out,gJ.oJ]);have B:Hid ((gJ.jg (gz A) D n1).length=D):=gx (by rw[<-HL.out,gJ.H7];have:=S.out;omega);have ah:Hid (K.length=D):=gx (by rw[aJ.out,iz];exact B);have aP:Hid (∀u∈gJ.jg (gz A) D n1,u<n1):=gx (fun u hu=>aB u (by rw[<-HL.out,gJ.oJ] at hu;exact ry hu))
        have aZ:Hid (gJ.lD (gz K) D D):=gx ⟨by rw[gY,ah.out],fun r hr=>by
         rw[aJ.out,sq] at hr;obtain⟨u,hu,rfl⟩:=iu.1 hr;have bS:u<(gz P).length:=by rw[HP.out.rows,<-hn.out];exact aP u hu
         rw[show(gz P).getD u []=(gz P)[u] by simp[List.getD,bS]];exact HP.lP _ (iE _),h1,by omega,h1,by omega⟩
        have aS:Hid (∀i j,i<D->j<D->gJ.ja (gz K) i j=gJ.tC D (gJ.jg (gz A) D n1) i j):=gx (fun i j hi hj=>by
         rw[aJ.out,xV _ _ (by rw[B.out];exact hi)];have hm:(gJ.jg (gz A) D n1).getD i 0<n1:=by rw[show(gJ.jg (gz A) D n1).getD i 0=(gJ.jg (gz A) D n1)[i]'(by rw[B.out];exact hi) by simp[List.getD,B.out,hi]];exact aP _ (iE _)
         exact HP.eq _ j (by rw[<-hn.out];exact hm) hj)
        have aF:Hid (gJ.I0 D (gJ.ja (gz K))):=gx (fun x hx=>gJ.vD (gJ.jg (gz A) D n1) B (by rw[<-HL.out,gJ.oJ];exact(gJ.ug _).sublist (List.take_sublist _ _)) (fun u hu=>by have:=aP u hu;omega) x (fun i hi=>by rw[<-hx i hi];exact gJ.pO (fun k hk=>(aS i k hi hk).symm) (fun _ _=>rfl)))
        have bK:=gH bL O;have aE:=E.trans (O.mono E.size);replace hM:=gx hM;rw[ah.out] at aN⊢;go_wp2_with fail;go_at_call 112;refine(En _ _ _ _ _ aN).mono ?_;rintro e w3⟨a3,o,c3,R3,e3,rfl,h3,bh,b3⟩;obtain⟨f,aq,a5,rfl⟩:=gJ.rQ.inj aZ aF bh;obtain rfl:o=D:=by rw[<-h3.dn,aq.rows]
        have HB:=gx h3.jO;obtain⟨bb,b0,rfl,_⟩:=h3.sl.addr (by omega);have XB:=gx (h3.uQ aq.lP);have XR:=gx (hR.uQ HP.lP);have bH:=gx aq;have a0:Hid (∀L,gJ.pG L n1 m (gJ.wV (gz A) o f)->gJ.lm (gz A) (o:Int) L 0):=gx (fun L hL=>gJ.zQ hC S ai (f:=f) (n:=m) (by rw[HL.out];exact gJ.Bv a5 aS) ao (by rw[HL.out];exact hL));have ap:=aE.trans (b3.mono aE.size);have aU:=O.trans (b3.mono O.size);replace b3:=gH bK b3;clear bh aq a5 aN aS aF aZ;go_wp2_with fail;go_loopg[18,111] n1 (fun g bU bu wr=>∃(k:Nat) (R:List Rw),g=n1-k/\k<=n1/\bu=.int .i64 (k:Int)/\Hid (R.length=k)/\Mb w3 wr none w3.heap.size bU R/\Hid (∀i (hi:i<R.length),R[i].l.length=m/\∀t,t<m->R[i].l.getD t 0=gJ.wV (gz A) o f i t));case atStart=>exact⟨0,[],rfl,by omega,rfl,gx rfl,Mb.nil _ _ gZ _ gM,gx (fun i hi=>absurd hi (by simp))⟩
        case round=>
         obtain⟨k,R,rfl,hk,rfl,ag,aM,HD⟩:=hrel;obtain⟨V,rfl⟩:∃V:World,V=wr:=⟨_,rfl⟩;have ar:=aM.own.im gM (fun k e=>by cases e);have cg:=ar.size;by_cases aG:k<n1
         .go_wp2_with (refine wpList_make_bytes rfl (.tmp 114) (.tmp 114) rfl m rfl rfl (by omega) ?_;intro w4 o4 b4 z4);go_loopg[118] m (fun g bw wr=>∃(t:Nat) (l:List UInt8),g=m-t/\t<=m/\bw=.int .i64 (t:Int)/\wr.ownsRow V.heap.size 5 1 (some (V,gy),m,m) m (cb l)/\Below V V wr/\Hid (∀v,v<m->l.getD v 0=if v<t then gJ.wV (gz A) o f k v else 0));case atStart=>exact⟨0,_,rfl,by omega,rfl,o4,b4,gx (fun v F=>by simp[List.getD,F])⟩
          case round=>
           clear o4 b4 z4;obtain⟨t,l,rfl,ht,rfl,C,hB,HJ⟩:=hrel;obtain⟨wt,rfl⟩:∃wt:World,wt=wr:=⟨_,rfl⟩;by_cases aw:t<m
           .go_wp2_with fail;go_loopg[22] o (fun g bV wr=>∃(j:Nat) (l':List UInt8),g=o-j/\j<=o/\bV=.int .i64 (j:Int)/\wr.ownsRow V.heap.size 5 1 (some (V,gy),m,m) m (cb l')/\Below V V wr/\Hid (∀v,v<m->l'.getD v 0=if v<t then gJ.wV (gz A) o f k v else if v=t then Gk o (gz A) (gJ.there (gz A)) f k t j else 0));case atStart=>
             refine⟨0,l,rfl,by omega,rfl,C,hB,gx (fun v F=>?_)⟩;rw[HJ.out v F];by_cases e:v<t;·rw[gG e,gG e]
             .rw[gC e,gC e];by_cases e2:v=t;·rw[gG e2];rfl
              .rw[gC e2]
            case round=>
             clear C hB HJ;obtain⟨j,l',rfl,hj,rfl,C,hB,HJ⟩:=hrel;obtain⟨wu,rfl⟩:∃wu:World,wu=wr:=⟨_,rfl⟩;by_cases au:j<o
             .have N:=ar.trans (hB.mono ar.size);have bf:j<R3.length:=by rw[HB.out];exact au
              obtain⟨ba,bc,bM,eb⟩:=XB j bf;go_wp2_with fail;go_loopg[23,130] o (fun g bW bz wr=>∃p q:Nat,g=o-p/\p<=o/\bz=.int .i64 (p:Int)/\bW=.int .u8 ((vr (gz A) (gJ.there (gz A)) f j t p).toNat:Int)/\wr=wu.drewN q);case atStart=>exact⟨0,0,rfl,by omega,rfl,rfl,rfl⟩
              case round=>
               obtain⟨p,q,rfl,hp,rfl,rfl,rfl⟩:=hrel;by_cases bi:p<o
               .have Y:=below_drewN N q;obtain⟨_,bd,bo,bQ⟩:=I p (by omega);have x0:=(ad.below (aU.trans (Y.mono aU.size))).cell (by omega) bd;have x1:=eb _ Y;have aC:=bM.below Y;obtain⟨cp,bC,rfl,_⟩:=aC.addr (by omega);have x2:=Bt.at aC p bi;obtain⟨v,F⟩:∃v,(gJ.there (gz A)).getD p 0=v:=⟨_,rfl⟩;have az:=(ak p (by omega)).1;have Z:(gJ.ja (gz A) ((gJ.there (gz A)).getD p 0) t)=((gz A).getD ((gJ.there (gz A)).getD p 0) []).getD t 0:=rfl;rw[F] at x0 bo az Z;have bp:v<A.length:=by rw[HN.out];exact bo
                have aX:=(hA.below (gH b3 Y)).at v bp;rw[NG bp] at az Z;have bq:A[v].n=m:=by rw[<-Bt.n aX.2];exact az
                obtain⟨x3,aA⟩:=aX;rw[bq] at x3 aA;obtain⟨cn,bB,a7,_⟩:=aA.addr (by omega);rw[a7] at x3 aA;have x4:=Bt.at aA t aw;have aK:=iP R3[j].l p;have aL:=iP A[v].l t;have bF:=gJ.lt (vr (gz A) (gJ.there (gz A)) f j t p);have e8:(vr (gz A) (gJ.there (gz A)) f j t (p+1)).toNat=(vr (gz A) (gJ.there (gz A)) f j t p).toNat^^^kM.mul (iB R3[j].l p) (iB A[v].l t):=by rw[J2,F,Z,gJ.toNat_add,gJ.toNat_mul,<-bH.out.eq j p au bi,xW bf];rfl
                have br:=sG (vr (gz A) (gJ.there (gz A)) f j t p).toNat (kM.mul (iB R3[j].l p) (iB A[v].l t)) bF (kM.mul_lt _ _);rw[<-e8] at br;have D:=gx (fun W=>(oQ (iB R3[j].l p) (iB A[v].l t) aK aL W).mono fun _ _ h=>h.drew);have i0:(0:Int)<=(p:Int):=by omega
                have i1:(p:Int)<(o:Int):=by omega
                have i2:(0:Int)<=(v:Int):=by omega
                have i3:(v:Int)<(n1:Int):=by omega
                have i4:(0:Int)<=(t:Int):=by omega
                have i5:(t:Int)<(m:Int):=by omega
                have i6:(0:Int)<=(j:Int):=by omega
                have i7:(j:Int)<(o:Int):=by omega
                have iw:IntKind.i64.wrap (v:Int)=(v:Int):=iO _ (by omega);clear e8 bd bQ Z az a7 bq;generalize iB R3[j].l p=va at *;generalize iB A[v].l t=vb at *;generalize kM.mul va vb=vm at *;generalize (vr (gz A) (gJ.there (gz A)) f j t p).toNat=z0 at *;generalize aT:(vr (gz A) (gJ.there (gz A)) f j t (p+1)).toNat=z1 at *;replace aT:=gx aT;replace F:=gx F;obtain⟨W,hW⟩:∃W,wu.drewN q=W:=⟨_,rfl⟩;rw[hW] at x0 x1 x2 x3 x4⊢;replace hW:=gx hW;go_wp2_with fail;go_quiet ((go_at_call 109;exact Calls.quiet_of (D _)));go_wp2_with fail;go_roundg (o-(p+1));case measure=>omega
                case rel=>exact⟨p+1,_,rfl,by omega,by go_num,by rw[aT.out],by rw[<-hW.out];exact World.drewN_drewN _ _ _⟩
               .obtain rfl:o=p:=by omega
                have C:=mO C q;have hB:=below_drewN hB q;have N:=below_drewN N q;have bg:k<P.length:=by rw[HR.out];exact aG
                obtain⟨ra,rc,af,er⟩:=XR k bg;have x0:=er _ (ap.trans (N.mono ap.size));have aI:=af.below (ap.trans (N.mono ap.size));obtain⟨sb,cl,rfl,_⟩:=aI.addr (by omega);have x1:=Bt.at aI j au;have x2:=nS C t aw;have f0:=nD C t;have bA:=gx (lp C);have aK:=iP P[k].l j;have aL:=gJ.lt (vr (gz A) (gJ.there (gz A)) f j t o);have bE:=iP l' t;have e8:(Gk o (gz A) (gJ.there (gz A)) f k t (j+1)).toNat=iB l' t^^^kM.mul (iB P[k].l j) (vr (gz A) (gJ.there (gz A)) f j t o).toNat:=by have h5:=HJ t aw;rw[gC (by omega),gG rfl] at h5;rw[Ip,gJ.toNat_add,gJ.toNat_mul,<-HP.out.eq k j (by rw[<-hn.out];exact aG) au,xW bg,<-h5];rfl
                have hs:=gx (fun q=>oZ (mO C q) t _ _ e8);have aY:Hid (∀q' v,Below V V (((wu.drewN q).drewN q').setCell (V,t) v)):=gx (fun q' v=>(below_drewN hB q').setCell gM _);obtain⟨W,hW⟩:∃W,wu.drewN q=W:=⟨_,rfl⟩;rw[hW] at x0 x1 x2 f0 hs aY⊢;have D:=gx (fun q=>oQ _ _ aK aL (W.drewN q));have br:=sG (iB l' t) _ bE (kM.mul_lt (iB P[k].l j) (vr (gz A) (gJ.there (gz A)) f j t o).toNat);have i0:(0:Int)<=(j:Int):=by omega
                have i1:(j:Int)<(o:Int):=by omega
                have i2:(0:Int)<=(t:Int):=by omega
                have i3:(t:Int)<(m:Int):=by omega
                have i4:(0:Int)<=(k:Int):=by omega
                have i5:(k:Int)<(n1:Int):=by omega
                replace hW:=gx hW;clear e8 C hB;generalize iB P[k].l j=va at *;generalize (vr (gz A) (gJ.there (gz A)) f j t o).toNat=vb at *;generalize kM.mul va vb=vm at *;generalize iB l' t=vc at *;generalize vc^^^vm=u at *;go_wp2_with fail;refine vH 17 (by kernel_rfl) (by kernel_rfl) ?_;change wpStill _ _ (World.drew _) _ _ _;simp only[su,oO,sw,tK];repeat (first|still_step|still_call ((D 1).mono fun _ _ h=>⟨h.1,h.2.symm⟩))
                refine wpStill_nil ?_;change wpList _ _ _ _ _ (World.drewN W 1);go_wp2_with fail;go_roundg (o-(j+1));case measure=>omega
                case rel=>
                 refine⟨j+1,_,rfl,by omega,by go_num,hs _,aY _ _,gx (fun v F=>?_)⟩;rw[nW (by rw[bA.out];exact aw)];by_cases e:v=t;·subst e;rw[gG rfl,gC (by omega),gG rfl]
                 .rw[gC e,HJ.out v F];by_cases e2:v<t;·rw[gG e2,gG e2]
                  .rw[gC e2,gC e2,gC e,gC e]
             .obtain rfl:o=j:=by omega
              go_wp2_with fail;go_roundg (m-(t+1));case measure=>omega
              case rel=>
               refine⟨t+1,l',rfl,by omega,by go_num,C,hB,gx (fun v F=>?_)⟩;rw[HJ.out v F];by_cases e:v<t;·rw[gG e,gG (by omega)]
               .rw[gC e];by_cases e2:v=t;·subst e2;rw[gG rfl,gG (by omega),Kb]
                .rw[gC e2,gC (by omega)]
           .obtain rfl:m=t:=by omega
            have M2:=aM.below hB;have ch:=hB.size;have a4:R.length<=65536:=by rw[ag.out];omega
            go_wp2_with (refine wpList_append_row rfl (.tmp 171) (.tmp 173) 81 jt rfl w3.heap.size _ R rfl M2 ⟨some (V,gy),m,m,l⟩ _ rfl rfl (qX C) (mg M2.own.own C _) a4 (by omega) ?_;intro v5 w5 M5 g5);go_roundg (n1-(k+1));case measure=>omega
            case rel=>
             refine⟨k+1,R++[⟨some (V,gy),m,m,l⟩],rfl,by omega,by go_num,gx (by simp[ag.out]),M5,gx (fun i hi=>?_)⟩;by_cases e:i<R.length;·rw[oC e];exact HD i e
             .have cs:i<R.length+1:=by simpa using hi
              have e2:i=k:=by have:=ag.out;omega
              subst e2;rw[nI (by omega)];simp only[ag.out,lU,jr];exact⟨lp C,fun v F=>by rw[HJ.out v F,gG F]⟩
         .obtain rfl:n1=k:=by omega
          obtain⟨a',b2,rfl,bG⟩:=aM.ms;have bJ:=gH b3 ar;go_wp2_with fail;go_ret2;refine⟨_,_,_,R,0,rfl,bG,a0 _ (mI (by rw[gY];exact ag) (fun i hi=>?_)),bJ⟩;rw[oT hi];exact HD i (by simpa[gz] using hi)
theorem Iy(a:Option Addr)(n ac:Nat)(A:List Rw)(d:Int)(hd:-9223372036854775808<=d/\d<=9223372036854775807)(w:World)(f:Ms w a n ac A):Calls prog 87 #[(a,n,ac),d] w (rR (gJ.lm (gz A) d) w):=by
 by_cases hc:gJ.gT d ((n:Int)-d)=0
 .have h:=gJ.kv hc;obtain⟨D,rfl⟩:=jD (a:=d) (by omega);exact MD a n ac D (n-D) A w f (by omega) (by omega) (by omega) (by omega)
 .exact(Ko a n ac A d hd w f hc).mono fun e w' j=>oy.A9 j (by have:=gJ.yk (l:=gz A) (d:=d) (by rw[f.dn];exact hc);rwa[f.dn] at this)
def gW.Qv(x:Int):Int:=if 0<=x then x else 0
theorem gW.zW{x:Int}(h:0<=x):gW.Qv x=x:=by unfold gW.Qv;rw[gG h]
theorem NA(w:World)(l:List UInt8)(B:l.length<=maxLen):∃W m,(convert 9 64 (.string ⟨l.toArray⟩)).run prog w=.ok (.slice (some (w,gy)) l.length m) W/\Below w w W/\Bt W (some (w,gy)) l.length m l:=by
 have h:(⟨l.toArray⟩:ByteArray).size=l.length:=by simp[ByteArray.size]
 have q:=Lib.run_convert_string_bytes (P:=prog) w 9 64 5 ⟨l.toArray⟩ underlying9 underlying64 underlying5;rw[h] at q;refine⟨_,_,q,⟨rfl,rfl,rfl,by rw[Lib.bytesWorld_size];omega,fun k r=>Lib.bytesWorld_at_old w 5 _ k r⟩,grownCap_ge _ _ _ _,vL _ _ _ _ B,by rw[lO];omega,(fun e=>by cases e),fun C=>⟨_,0,rfl,fun j u o=>?_⟩⟩;have f:j<l.length:=by have:=(nH.1 o).1;rwa[lO] at this
 rw[jk,Lib.bytesWorld_cell w 5 ⟨l.toArray⟩ j (by rw[h];exact f),<-o,Ar l j f];rfl
theorem MF(a:Option Addr)(n cap:Nat)(L:List Rw)(g:Int)(D s:Nat)(w:World)(hL:Ms w a n cap L)(hn:n=D+s)(h1:1<=D)(h2:D<=8)(h3:s<=4):
  Calls prog 60 #[(a,n,cap),g,D] w (Cj (gW.kN (gz L) g (D:Int)) w):=by
 have HN:=gx hL.jO;have HD:=gx hL.dn;have s1:IntKind.i64.wrap ((n:Int)-(D:Int))=(s:Int):=by rw[iO _ (by omega)];omega
 have s2:(n:Int)-(D:Int)=(s:Int):=by omega
 have aX:n<=12:=by omega
 have bd:1<=n:=by omega
 have a5:D<=n:=by omega
 have HC:gJ.gT (D:Int) (s:Int)=0:=gJ.kl (by omega);have DC:=gx (HC▸kz (D:Int) (s:Int) w);have K:=gx (show gJ.gT (D:Int) (((gz L).length:Int)-(D:Int))=0 by rw[HD.out,s2];exact HC);replace HC:=gx HC;replace hn:=gx hn;obtain⟨ab,aT,rfl,_⟩:=hL.sl.addr (by omega);have aU:Hid (∀r∈L,0<r.n->∀b off,r.a=some ⟨b,off,none⟩->b<w.heap.size):=gx (fun r hr hn b off e=>by have h5:=hL.row r hr;rw[e] at h5;exact Bt.Qt h5 hn)
 go_enter func60,ntmps60;go_wp2_with fail;go_at_call 14;refine(DC).mono ?_;rintro e w0⟨rfl,rfl⟩;go_wp2_with fail;go_loopg[9,10,11,31] n (fun gg s9 aO aP aS wr=>∃(k:Nat) (O:List Rw),gg=n-k/\k<=n/\aS=.int .i64 (k:Int)/\aO=.int .i64 (gW.Qv (gW.th (gW.lk (gz L) g k)))/\aP=.bool (decide (0<=gW.th (gW.lk (gz L) g k)))/\Mb w wr none w.heap.size s9 O/\Hid (O.length=k)/\Hid (∀i (hi:i<O.length),O[i].l=(gW.jP (gz L) g (gz L).length).getD i [])/\Hid (gW.mS (gz L) g k));case atStart=>exact⟨0,[],rfl,by omega,rfl,rfl,rfl,Mb.nil _ _ gZ _ gM,gx rfl,gx (fun i hi=>absurd hi (by simp)),gx gW.Ah⟩
 case round=>
  obtain⟨k,O,rfl,hk,rfl,rfl,rfl,hM,B,N,HA⟩:=hrel;obtain⟨wo,rfl⟩:∃wo:World,wo=wr:=⟨_,rfl⟩;have S:=hM.own.im gM (fun k e=>by cases e);have a0:=S.size;by_cases ae:k<n
  .have aq:k<L.length:=by rw[HN.out];exact ae
   have ar:k<(gz L).length:=by rw[HD.out];exact ae
   obtain⟨x0,hb⟩:=(hL.below S).at k aq;have hl:=ki aq;have I:=gW.oH (l:=gz L) (g:=g) (k:=(gz L).length) ar;have D1:=tU L[k].a L[k].n L[k].cap L[k].l g (k:Int) wo hb;have aK:=hL.row L[k] (iE aq);generalize L[k]=r at *;have i0:(0:Int)<=(k:Int):=by omega
   have i1:(k:Int)<(n:Int):=by omega
   have Q:O.length<=65536:=by rw[B.out];omega
   cases hx:gW.right r.l g (k:Int) with
   |false=>
    have h:gW.right ((gz L).getD k []) g k=false:=by rw[hl];exact hx
    have y1:=gx (gW.EH h);have y3:=gx (gW.EX h HA);have y5:Hid (gW.th (gW.lk (gz L) g (k+1))=gW.th (gW.lk (gz L) g k)):=gx (by rw[y1.out]);have y6:Hid ((gW.jP (gz L) g (gz L).length).getD k []=[]):=gx (by rw[I,gC (by rw[h];simp)]);rw[hx] at D1;replace D1:=gx D1;replace hl:=gx hl;replace hx:=gx hx;replace h:=gx h;replace I:=gx I;generalize gW.th (gW.lk (gz L) g k)=q at *;go_wp2_with fail;go_at_call 64;refine(D1).mono ?_;rintro e w2⟨rfl,b2⟩;have ad:=hM.below b2;have aY:=b2.size;go_wp2_with (refine wpList_append_row rfl (.tmp 41) (.tmp 42) 81 jt rfl w.heap.size _ O rfl ad ⟨none,0,0,[]⟩ _ rfl rfl (Bt.empty _) (fun hn=>absurd hn (by simp)) Q (by omega) ?_;intro v5 w5 M5 g5);go_roundg (n-(k+1));case measure=>omega
    case rel=>
     refine⟨k+1,O++[⟨none,0,0,[]⟩],rfl,by omega,by go_num,by rw[y5.out],by rw[y5.out],M5,gx (by simp[B.out]),gx (fun i hi=>?_),y3⟩;by_cases e:i<O.length;·rw[oC e];exact N i e
     .have aD:i<O.length+1:=by simpa using hi
      have e2:i=k:=by have:=B.out;omega
      subst e2;rw[nI (by omega),y6.out];simp only[B.out,lU,jr]
   |true=>
    have h:gW.right ((gz L).getD k []) g k=true:=by rw[hl];exact hx
    have y1:=gx (gW.xF h);have y3:=gx (gW.Co h HA);have y4:=gx (gW.Cn h ar);rw[hl] at y1 y3 y4;have o:Hid (gW.th (gW.lk (gz L) g (k+1))=((jT.parse r.l).z:Int)):=gx (by rw[y1.out];exact gW.GU _ _);have y6:Hid ((gW.jP (gz L) g (gz L).length).getD k []=(jT.parse r.l).data):=gx (by rw[I,gG ⟨ar,h⟩,hl]);rw[hx] at D1;have D2:=gx (fun W (hW:Bt W r.a r.n r.cap r.l)=>qL r.a r.n r.cap r.l W hW);unfold QT at D2;obtain⟨q,m⟩:∃q,q=gW.th (gW.lk (gz L) g k):=⟨_,rfl⟩;rw[<-m] at y3 y4⊢;replace m:=gx m;generalize jT.parse r.l=P at *;obtain⟨E,G,Sh,Z,data⟩:=P;simp only at D2 y3 y4 y6 o;replace D1:=gx D1;replace hl:=gx hl;replace hx:=gx hx;replace h:=gx h;replace I:=gx I;go_wp2_with fail;go_at_call 64;refine(D1).mono ?_;rintro e w2⟨rfl,b2⟩;have ad:=hM.below b2;have az:=Sl.below hb b2;go_wp2_with fail;go_at_call 86;refine(D2 w2 az).mono ?_;rintro e w3⟨a2,n2,c2,rfl,b3,hF⟩;have al:=(ad.below b3).alloc (.cells #[G,Sh,Z,(a2,n2,c2)] 125);have B2:=gO w3 (.cells #[G,Sh,Z,(a2,n2,c2)] 125);have U:=gH (gH S b2) b3;have j:=U.alloc U.size (.cells #[G,Sh,Z,(a2,n2,c2)] 125);have aB:=hF w aK;go_upto_region 12 with(fail);generalize w3.alloc (.cells #[G,Sh,Z,(a2,n2,c2)] 125)=V at *;have r2:=gw (i:=2) B2;have r3:=gw (i:=3) B2;have aZ:=j.size;have aA:=Sl.below aB j;have ay:sS u9 ⟨a2,n2,c2,data⟩:=xQ al.own.own (fun hn b off e=>by have h5:=aB;have e':a2=some (b,off):=e;rw[e'] at h5;exact Bt.Qt h5 hn)
    clear hM ad S x0 hb az hF b2 b3 U;by_cases c1:0<=q
    .have hd:decide (0<=q)=true:=kr c1;have ag:=gW.zW c1;by_cases C:(Z:Int)=q
     .have ak:=gx (y3 (.inr C));subst C;have t1:((Z:Int) !=(Z:Int))=false:=by simp
      clear y3 y4;go_wp2_with (refine wpList_append_row rfl (.tmp 58) (.tmp 61) 81 jt rfl w.heap.size _ O rfl al ⟨a2,n2,c2,data⟩ _ rfl rfl aA ay Q (by omega) ?_;intro v5 w5 M5 g5);go_roundg (n-(k+1));case measure=>omega
      case rel=>
       refine⟨k+1,O++[⟨a2,n2,c2,data⟩],rfl,by omega,by go_num,by rw[o.out,gW.zW (by omega)],by rw[o.out,kr (by omega)],M5,gx (by simp[B.out]),gx (fun i hi=>?_),gx ak⟩;by_cases e:i<O.length;·rw[oC e];exact N i e
       .have aD:i<O.length+1:=by simpa using hi
        have e2:i=k:=by have:=B.out;omega
        subst e2;rw[nI (by omega),y6.out];simp only[B.out,lU,jr]
     .have aI:=gx (y4 c1 C);have t1:((Z:Int) !=q)=true:=ij.2 C;replace C:=gx C;clear y3 y4;go_wp2_with fail;go_ret2;exact⟨_,_,_,[],8,rfl,Bt.empty _,gW.IE K aI,j⟩
    .have ak:=gx (y3 (.inl (by omega)));have hd:decide (0<=q)=false:=ju c1;clear y3 y4;go_wp2_with (refine wpList_append_row rfl (.tmp 58) (.tmp 61) 81 jt rfl w.heap.size _ O rfl al ⟨a2,n2,c2,data⟩ _ rfl rfl aA ay Q (by omega) ?_;intro v5 w5 M5 g5);go_roundg (n-(k+1));case measure=>omega
     case rel=>
      refine⟨k+1,O++[⟨a2,n2,c2,data⟩],rfl,by omega,by go_num,by rw[o.out,gW.zW (by omega)],by rw[o.out,kr (by omega)],M5,gx (by simp[B.out]),gx (fun i hi=>?_),gx ak⟩;by_cases e:i<O.length;·rw[oC e];exact N i e
      .have aD:i<O.length+1:=by simpa using hi
       have e2:i=k:=by have:=B.out;omega
       subst e2;rw[nI (by omega),y6.out];simp only[B.out,lU,jr]
  .obtain rfl:n=k:=by omega
   obtain⟨ao,co,e1,ax⟩:=hM.ms;rw[B.out] at e1 ax;cases e1;have aH:Hid (gz O=gW.jP (gz L) g (gz L).length):=gx (gW.FB (by rw[gY,B.out,gW.jo,HD.out]) (fun i hi=>by rw[gY] at hi;rw[ki hi];exact N i hi))
   have ai:Hid (gW.mS (gz L) g (gz L).length):=gx (by rw[HD.out];exact HA);have DM:=Iy ao n co O (D:Int) (by omega) wo ax;rw[aH.out] at DM;obtain⟨q,m⟩:∃q,q=gW.th (gW.lk (gz L) g (gz L).length):=⟨_,rfl⟩;have e5:gW.th (gW.lk (gz L) g n)=q:=by rw[m,HD.out]
   rw[e5];clear e5;replace m:=gx m;replace DM:=gx DM;clear hM B HA DC ae N;generalize hd:decide (0<=q)=db at *;replace hd:=gx hd;generalize ag:gW.Qv q=sz at *;replace ag:=gx ag;go_wp2_with fail;go_at_call 87;refine(DM).mono ?_;rintro e w3⟨a3,n3,c3,X,f,rfl,hX,hp,b3⟩;have j:=gH S b3;by_cases hf:f=0
   .subst hf;have ap:=gW.Ge hp;obtain rfl:n3=n:=by rw[<-hX.dn,ap.1,gW.jo,HD.out]
    have aF:=gW.yl K hp;obtain⟨z,hz,_⟩:=gW.Bo aF;rw[<-m.out] at hz;subst hz;have aG:=ag.out;rw[gW.zW (by omega)] at aG;subst aG;have HX:=gx hX.jO;have au:=gx ap.2;have a1:=hX.sl.le;obtain⟨xb,a4,rfl,_⟩:=hX.sl.addr (by omega);have HP:=gx hp;clear hp aF ap DM;go_wp2_with fail;go_loopg[18,19] D (fun gg aQ aR wr=>∃(k:Nat),gg=D-k/\k<=D/\aR=.int .i64 (k:Int)/\aQ=.string ⟨((gz X).take k).flatten.toArray⟩/\w3=wr);case atStart=>exact⟨0,rfl,by omega,rfl,rfl,rfl⟩
    case round=>
     obtain⟨k,rfl,hk,rfl,rfl,rfl⟩:=hrel;have aC:=gW.Ax (X:=(gz X).take k) (fun r hr=>au r (ry hr));rw[jh] at aC;have aW:((gz X).take k).flatten.length<=4800:=by have:min k (gz X).length*400<=12*400:=ss _ (by omega);omega
     clear aC;by_cases ae:k<D
     .have aE:k<X.length:=by rw[HX.out];omega
      obtain⟨x0,hb⟩:=hX.at k aE;have aN:Hid (((gz X).take (k+1)).flatten=((gz X).take k).flatten++X[k].l):=gx (by rw[qg,List.flatten_append];simp[gz,aE])
      have Y:X[k].l.length<=400:=au _ (by unfold gz;exact List.mem_map_of_mem (iE _));generalize X[k]=r at *;have i0:(0:Int)<=(k:Int):=by omega
      have i1:(k:Int)<(D:Int):=by omega
      have i2:(k:Int)<(n3:Int):=by omega
      have q1:=Bt.str hb;generalize ((gz X).take k).flatten=F at *;have a9:IntKind.i64.max=9223372036854775807:=rfl;have aV:((⟨F.toArray⟩:ByteArray)++(⟨r.l.toArray⟩:ByteArray))=⟨(F++r.l).toArray⟩:=by apply ByteArray.ext;simp[ByteArray.data_append]
      have a6:¬(9223372036854775807:Int)<(F.length:Int)+(r.l.length:Int):=by omega
      have a7:(F.length:Int)+(r.l.length:Int)<=(9223372036854775807:Int):=by omega
      have a8:((F.length+r.l.length:Nat):Int)<=(9223372036854775807:Int):=by omega
      go_wp2_with fail;go_roundg (D-(k+1));case measure=>omega
      case rel=>exact⟨k+1,rfl,by omega,by go_num,by rw[aN.out],rfl⟩
     .obtain rfl:D=k:=by omega
      have hF:Hid (gW.flat (gz X) (D:Int)=((gz X).take D).flatten):=gx (by unfold gW.flat;simp);generalize ((gz X).take D).flatten=F at *;have Y:=gx (gW.IG K ai HP);have af:=gx (gW.IH K ai HP);rw[hF.out,<-m.out] at Y af;by_cases c1:F.length<z
      .have aj:(F.length:Int)<(z:Int):=by omega
       replace Y:=gx (Y aj);go_wp2_with fail;go_ret2;exact⟨_,_,_,[],8,rfl,Bt.empty _,Y,j⟩
      .have aj:(z:Int)<=(F.length:Int):=by omega
       replace af:=gx (af aj);have c2:(0:Int)<=(z:Int):=by omega
       have bc:(⟨F.toArray⟩:ByteArray).extract 0 z=⟨(F.take z).toArray⟩:=by apply ByteArray.ext;simp[ByteArray.data_extract]
       have ah:(F.take z).length=z:=by rw[jh];omega
       obtain⟨W,cp,aL,aJ,aw⟩:=NA w3 (F.take z) (by rw[ah];unfold maxLen;omega);rw[ah] at aL aw;replace ah:=gx ah;go_wp2_with fail;go_ret2;exact⟨_,_,_,F.take z,0,rfl,aw,by simpa using af.out,gH j aJ⟩
   .have aM:=gx (gW.IF K ai hp hf);have t1:(f !=0)=true:=ij.2 hf;replace hf:=gx hf;clear hp;go_wp2_with fail;go_ret2;exact⟨_,_,_,[],_,rfl,Bt.empty _,aM,j⟩
theorem Kr(a:Option Addr)(n cap:Nat)(L:List Rw)(g d:Int)(w:World)(f:Ms w a n cap L)(hd:-9223372036854775808<=d/\d<=9223372036854775807)(hc:gJ.gT d ((n:Int)-d)≠0):
  Calls prog 60 #[(a,n,cap),g,d] w (Cj (gW.kN (gz L) g d) w):=by
 have h:=gx (gW.ID (l:=gz L) (g:=g) (d:=d) (by rw[f.dn];exact hc));rw[f.dn] at h;have j:=qR f.NP hd;rw[<-j] at hc h;generalize o:IntKind.i64.wrap ((n:Int)-d)=z at *;have q:(gJ.gT d z !=0)=true:=ij.2 hc;have m:=gx (kz d z w);generalize gJ.gT d z=E at *;replace hc:=gx hc;replace j:=gx j;replace hd:=gx hd;go_enter func60,ntmps60;go_wp2_with fail;go_at_call 14;refine(m).mono ?_;rintro e r⟨rfl,rfl⟩;go_wp2_with fail;go_ret2;exact⟨_,_,_,[],_,rfl,Bt.empty _,h,iU _ _⟩
theorem A3(a:Option Addr)(n cap:Nat)(L:List Rw)(g d:Int)(w:World)(e:Ms w a n cap L)(hd:-9223372036854775808<=d/\d<=9223372036854775807):
  Calls prog 60 #[(a,n,cap),g,d] w (Cj (gW.kN (gz L) g d) w):=by
 by_cases hc:gJ.gT d ((n:Int)-d)=0
 .have f:=gJ.kv hc;obtain⟨D,rfl⟩:=jD (a:=d) (by omega);exact MF a n cap L g D (n-D) w e (by omega) (by omega) (by omega) (by omega)
 .exact Kr a n cap L g d w e hd hc
end Go.Proofs.YthhcdfjijagalaaGreat

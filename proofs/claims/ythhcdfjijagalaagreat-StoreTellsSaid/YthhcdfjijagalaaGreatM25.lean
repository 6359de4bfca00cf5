import Derived.Test.YthhcdfjijagalaaGreatM24
import Derived.Maps.Own
import Derived.Maps.OwnOps
import Derived.Maps.OwnSet
import Derived.Maps.Views
set_option linter.all false
set_option maxHeartbeats 4000000
set_option maxRecDepth 100000
namespace Go.Proofs.YthhcdfjijagalaaGreat
open Qz Go.Proofs.Tryz Go.RowKit
theorem qR{d:Int}{n:Nat}(e:n<=9223372036854775807)(hd:-9223372036854775808<=d/\d<=9223372036854775807):gJ.gT d (IntKind.i64.wrap ((n:Int)-d))=gJ.gT d ((n:Int)-d):=by
 by_cases h:d<1;·rw[nm (.inl h),nm (.inl h)]
 .rw[iO _ (by omega)]
theorem Ms.NP{w:World}{a:Option Addr}{n cap:Nat}{A:List Rw}(h:Ms w a n cap A):n<=9223372036854775807:=by
 have f:=h.sl.le;have e:=h.sl.max;unfold maxLen at e;omega
theorem LJ(A:List Rw)(u:Nat):(A.getD u Kw).l=(gz A).getD u []:=by
 unfold gz;by_cases h:u<A.length;·simp[List.getD,h]
 .simp[List.getD,h,Kw]
theorem sq(A:List Rw)(U:List Nat):gz (U.map fun u=>A.getD u Kw)=U.map fun u=>(gz A).getD u []:=by
 show List.map Rw.l _=_;rw[List.map_map];exact List.map_congr_left fun u _=>LJ A u
theorem xV(A:List Rw)(U:List Nat){p:Nat}(e:p<U.length)(k:Nat):gJ.ja (gz (U.map fun u=>A.getD u Kw)) p k=gJ.ja (gz A) (U.getD p 0) k:=by
 rw[sq];unfold gJ.ja;simp[List.getD,e]
theorem Gp{w:World}{a:Option Addr}{n cap:Nat}{A:List Rw}(h:Ms w a n cap A)(U:List Nat)(f:∀u∈U,u<n):∀r∈(U.map fun u=>A.getD u Kw),Bt w r.a r.n r.cap r.l:=fun r j=>by
 obtain⟨u,m,rfl⟩:=iu.1 j;have e:u<A.length:=by rw[h.jO];exact f u m
 rw[show A.getD u Kw=A[u] by simp[List.getD,e]];exact h.row _ (iE e)
theorem gJ.Bv{n:Nat}{a b f:gJ.M}(h:gJ.rU n a f)(e:∀i j,i<n->j<n->a i j=b i j):gJ.rU n b f:=
 ⟨fun i j hi m=>(gJ.kj (fun k o=>by rw[e k j o m])).trans (h.1 i j hi m),fun i j hi m=>(gJ.kj (fun k o=>by rw[e i k hi o])).trans (h.2 i j hi m)⟩
theorem JJ(a:Option Addr)(n ac:Nat)(A:List Rw)(d:Int)(hd:-9223372036854775808<=d/\d<=9223372036854775807)(w:World)(h:Ms w a n ac A)(hc:gJ.gT d ((n:Int)-d)≠0):Calls prog 101 #[(a,n,ac),d] w (oy (gJ.gT d ((n:Int)-d)) w):=by
 have f:=qR h.NP hd;rw[<-f] at hc⊢;generalize j:IntKind.i64.wrap ((n:Int)-d)=z at *;have m:(gJ.gT d z !=0)=true:=ij.2 hc;have D:=gx (Cr d z w hc);generalize gJ.gT d z=e at *;replace hc:=gx hc;replace f:=gx f;replace hd:=gx hd;go_enter func101,ntmps101;go_wp2_with fail;go_at_call 116;refine(D).mono ?_;rintro e' o⟨rfl,b1⟩;go_wp2_with fail;go_ret2;exact⟨rfl,b1⟩
theorem Ls(a:Option Addr)(n ac D s:Nat)(A:List Rw)(w:World)(hA:Ms w a n ac A)(hn:n=D+s)(h1:1<=D)(h2:D<=8)(aM:s<=4):Calls prog 101 #[(a,n,ac),D] w (rR (gJ.lm (gz A) (D:Int)) w):=by
 have HN:=gx hA.jO;have HL:=gx hA.dn;have s1:IntKind.i64.wrap ((n:Int)-(D:Int))=(s:Int):=by rw[iO _ (by omega)];omega
 have s2:(n:Int)-(D:Int)=(s:Int):=by omega
 have hC:=gx (show gJ.gT (D:Int) (((gz A).length:Int)-(D:Int))=0 by rw[HL.out];exact gJ.kl (by omega));have bu:n<=12:=by omega
 have bA:1<=n:=by omega
 replace hn:=gx hn;obtain⟨ab,bp,rfl,_⟩:=hA.sl.addr (by omega);go_enter func101,ntmps101;go_wp2_with fail;go_at_call 116;refine(wj D s w h1 h2 aM).mono ?_;rintro e w1⟨a1,n1,c1,R1,e1,rfl,hR,⟨aK,rfl⟩,b1⟩;obtain rfl:n1=n:=by rw[<-hR.dn,aK.rows,hn.out]
 have HR:=gx hR.jO;have HP:=gx aK;obtain⟨rb,bc,rfl,_⟩:=hR.sl.addr (by omega);have a0:=Sl.lt hR.sl (by omega) (by decide);have aA:=hA.below b1;have bz:=Sl.lt aA.sl (by omega) (by decide);clear aK;go_wp2_with fail;go_loopg[8,9,31] n1 (fun g s8 s9 bo wr=>∃(k:Nat) (T P:List Rw),g=n1-k/\k<=n1/\bo=.int .i64 (k:Int)/\Tw w1 wr s8 T s9 P/\Hid (T=(gJ.jg (gz A) D k).map fun u=>A.getD u Kw)/\Hid (P=(gJ.jg (gz A) D k).map fun u=>R1.getD u Kw));case atStart=>exact⟨0,[],[],rfl,by omega,rfl,Tw.nil _,gx (by rw[gJ.zh];rfl),gx (by rw[gJ.zh];rfl)⟩
 case round=>
  obtain⟨k,T,P,rfl,hk,rfl,C,HT,I⟩:=hrel;obtain⟨wo,rfl⟩:∃wo:World,wo=wr:=⟨_,rfl⟩;have F:=C.below;have Z:=gx (show T.length=(gJ.jg (gz A) D k).length by rw[HT.out];simp);have aD:=gx (show P.length=T.length by rw[HT.out,I.out];simp);have bh:T.length<=D:=by rw[Z.out];exact gJ.JS _ _ _
  obtain⟨t1,bd,rfl,aL⟩:=gK C.t.own;obtain⟨m,B⟩:∃m,T.length=m:=⟨_,rfl⟩;by_cases ao:k<n1
  .have G:k<A.length:=by rw[HN.out];exact ao
   have aS:k<R1.length:=by rw[HR.out];exact ao
   have K:=aA.below F;have aE:=hR.below F;have x0:=(K.at k G).1;have x1:=(aE.at k aS).1;have hl:=Bt.n (K.at k G).2;have aI:A.getD k Kw=A[k]:=by simp[List.getD,G]
   have aJ:R1.getD k Kw=R1[k]:=by simp[List.getD,aS]
   have N:gJ.lM (gz A) k=decide (0<A[k].n):=by unfold gJ.lM;rw[show(gz A).getD k []=A[k].l by simp[List.getD,gz,G],hl]
   generalize L:A[k]=E at *;generalize a2:R1[k]=rr at *;replace L:=gx L;replace a2:=gx a2;replace aI:=gx aI;replace aJ:=gx aJ;replace hl:=gx hl;have i0:(0:Int)<=(k:Int):=by omega
   have i1:(k:Int)<(n1:Int):=by omega
   rw[B] at bh;by_cases hz:0<E.n
   .by_cases aH:m<D
    .
     have hf:=gx (gJ.H9 (l:=gz A) (d:=D) (k:=k) (by rw[N];simpa using hz) (by rw[<-Z.out,B];exact aH));have ai:T.length<=1000:=by omega
     have aj:P.length<=1000:=by rw[aD.out];omega
     have u0:(0:Int)<(E.n:Int):=by omega
     have u1:(m:Int)<(D:Int):=by omega
     obtain⟨V1,aG⟩:∃V,Value.slice t1 m bd=V:=⟨_,rfl⟩;replace aG:=gx aG;rw[B] at C⊢;go_wp2_with fail;rw[aG.out] at C⊢;have a8:rb<w1.heap.size:=a0;have a7:rb<wo.heap.size:=qK a0 F.size;have bk:=gK C.p.own;obtain⟨p1,a9,S,aq⟩:=bk;clear B aL aq F;have C:=gx C;obtain⟨V2,rfl⟩:∃V:Value,V=u9:=⟨_,rfl⟩;clear S;go_region_law (first
       |(refine step_append_tw (v1:=V1) (v2:=V2) (T:=T) (P:=P) rfl (.tmp 45) (.tmp 47) 81 jt rfl (by first|exact(C.alloc _).drew|exact((C.alloc _).alloc _).drew) rfl E _ rfl (by first|exact C.Qf _ rfl|exact((C.lit _ rfl).alloc _).drew|exact((C.alloc _).lit _ (by simp)).drew) ai ?_;intro v4 w4 W g4 q4;have c4:w4.cell? (rb,bc+k)=some (.slice rr.a rr.n rr.cap):=Tw.old (T:=T) (P:=P) (v1:=V1) (v2:=V2) (by first|exact(C.alloc _).drew|exact((C.alloc _).alloc _).drew) g4 (by first|exact(ik a7).trans x1|exact(ik (show rb<(wo.alloc _).heap.size by simp;omega)).trans ((ik a7).trans x1)) a8;(try have l4:pS w4 v4 V2 (wo.heap.size+1) rr.v:=pS.CR (((C.alloc (.cells #[(E.a,E.n,E.cap)] 64)).lit rr.v (by simp)).drew) g4 q4);(try have l4:pS w4 v4 V2 wo.heap.size rr.v:=pS.CR (((C.lit rr.v rfl).alloc (.cells #[(E.a,E.n,E.cap)] 64)).drew) g4 q4))
       |(refine step_append_tw (v1:=V2) (v2:=V1) (T:=P) (P:=T) rfl (.tmp 49) (.tmp 54) 150 ku rfl (by first|exact(C.alloc _).drew.symm|exact((C.alloc _).alloc _).drew.symm) rfl rr _ rfl (by first|exact(C.Qf _ rfl).symm|exact((C.lit _ rfl).alloc _).drew.symm|exact((C.alloc _).lit _ (by simp)).drew.symm) aj ?_;intro v5 w5 h5 g5 q5;(try have l5:pS w5 v5 V1 (wo.heap.size+1) E.v:=pS.CR (((C.alloc (.cells #[(rr.a,rr.n,rr.cap)] 64)).lit E.v (by simp)).drew.symm) g5 q5);(try have l5:pS w5 v5 V1 wo.heap.size E.v:=pS.CR (((C.lit E.v rfl).alloc (.cells #[(rr.a,rr.n,rr.cap)] 64)).drew.symm) g5 q5))
       |(refine step_append_tw (v1:=V2) (v2:=v4) (T:=P) (P:=T++[E]) rfl (.tmp 49) (.tmp 54) 150 ku rfl (by first|exact W.symm|exact(W.alloc _).symm) rfl rr _ rfl (by first|exact l4.symm|exact(W.lit _ rfl).symm) aj ?_;intro v5 w5 h5 g5 q5)
       |(refine step_append_tw (v1:=V1) (v2:=v5) (T:=T) (P:=P++[rr]) rfl (.tmp 45) (.tmp 47) 81 jt rfl (by first|exact h5.symm|exact(h5.alloc _).symm) rfl E _ rfl (by first|exact l5.symm|exact(h5.lit _ rfl).symm) ai ?_;intro v4 w4 W g4 q4))
     all_goals go_wp2_with fail
     all_goals
      go_roundg (n1-(k+1));case measure=>omega
      case rel=>exact⟨k+1,T++[E],P++[rr],rfl,by omega,by go_num,(by first|exact W.symm.symm|exact h5.symm),gx (by rw[hf.out,li,<-HT.out,lI,nj,aI.out]),gx (by rw[hf.out,li,<-I.out,lI,nj,aJ.out])⟩
    .have hf:=gx (gJ.FH (l:=gz A) (d:=D) (k:=k) (by rw[<-Z.out,B];omega));have u0:(0:Int)<(E.n:Int):=by omega
     have u1:¬(m:Int)<(D:Int):=by omega
     rw[B] at⊢ C;go_wp2_with fail;go_roundg (n1-(k+1));case measure=>omega
     case rel=>exact⟨k+1,T,P,rfl,by omega,by go_num,C,gx (by rw[hf.out];exact HT),gx (by rw[hf.out];exact I)⟩
   .have hf:=gx (gJ.JT (l:=gz A) (d:=D) (k:=k) (by rw[N];simpa using hz));have u0:E.n=0:=by omega
    rw[u0] at x0;go_wp2_with fail;go_roundg (n1-(k+1));case measure=>omega
    case rel=>exact⟨k+1,T,P,rfl,by omega,by go_num,C,gx (by rw[hf.out];exact HT),gx (by rw[hf.out];exact I)⟩
  .obtain rfl:n1=k:=by omega
   have hU:=gx (show gJ.jg (gz A) D n1=(gJ.there (gz A)).take D by rw[<-HL.out];exact gJ.oJ _ _);have ax:=gx (show T.length=min D (gJ.there (gz A)).length by rw[Z.out,hU.out,jh]);by_cases br:m<D
   .have u0:(m:Int)<(D:Int):=by omega
    have hb:=gH b1 F;have hM:=gx (gJ.wY (l:=gz A) (d:=(D:Int)) hC (by have:=ax.out;omega));rw[B];go_wp2_with fail;go_ret2;exact⟨_,_,_,[],10,rfl,Ms.nil _,hM,hb⟩
   .obtain rfl:m=D:=by omega
    have u0:¬(m:Int)<(m:Int):=by omega
    have N:=gx (show m<=(gJ.there (gz A)).length by have:=ax.out;omega);have ae:Hid (∀u∈gJ.jg (gz A) m n1,u∈gJ.there (gz A)):=gx (fun u X=>by rw[hU.out] at X;exact ry X);have af:Hid (∀u∈gJ.jg (gz A) m n1,u<n1):=gx (fun u X=>by have:=(gJ.qs (ae u X)).1;rwa[HL.out] at this);have ad:Hid (∀i,i<m->(gJ.jg (gz A) m n1).getD i 0=(gJ.there (gz A)).getD i 0):=gx (fun i hi=>by have:=gJ.H6 (l:=gz A) hi N;rwa[HL.out] at this)
    have o:Hid ((gJ.jg (gz A) m n1).length=m):=gx (by rw[<-Z.out,B]);have K:=aA.below F;have aE:=hR.below F;have Q:Ms wo t1 T.length bd T:=⟨aL,by rw[HT.out];exact Gp K _ af⟩;obtain⟨p1,a9,S,aq⟩:=gK C.p.own;have aC:Ms wo p1 P.length a9 P:=⟨aq,by rw[I.out];exact Gp aE _ af⟩;rw[aD.out,B] at aC S;rw[B] at Q;have aP:0<T.length:=by omega
    obtain⟨g1,bq,rfl,_⟩:=Q.sl.addr (by omega);have y0:=(Q.at 0 aP).1;have ap:=Bt.n (Q.at 0 aP).2;have aZ:T[0].l=(gz A).getD ((gJ.there (gz A)).getD 0 0) []:=by
     rw[<-ad.out 0 (by omega),<-LJ];have bn:0<(gJ.jg (gz A) m n1).length:=by rw[o.out];omega
     simp only[HT.out,rB];simp[List.getD,bn]
    rw[aZ] at ap;generalize T[0]=r0 at *;obtain⟨bB,n0,bC,bD⟩:=r0;simp only[mH] at y0 ap;have ar:Hid (gJ.wid (gz A) ((gJ.there (gz A)).getD 0 0)=n0):=gx ap;clear aZ ap aq aL;replace C:=gx C;replace S:=gx S;replace B:=gx B;rw[B.out];rw[S.out];go_wp2_with fail;go_loopg[63] n1 (fun g i wr=>∃k:Nat,g=n1-k/\k<=n1/\i=.int .i64 (k:Int)/\wo=wr/\Hid (∀j (O:j<A.length),j<k->A[j].n<=400/\(0<A[j].n->A[j].n=n0)));case atStart=>exact⟨0,rfl,by omega,rfl,rfl,gx (fun j _ O=>absurd O (by omega))⟩
    case round=>
     obtain⟨k,rfl,hk,rfl,rfl,ag⟩:=hrel;by_cases ao:k<n1
     .have G:k<A.length:=by rw[HN.out];exact ao
      have x0:=(K.at k G).1;have hl:=gx (Bt.n (K.at k G).2);have aw:Hid (A[k].l∈gz A):=gx (iu.2 ⟨_,iE G,rfl⟩);generalize L:A[k]=E at *;replace L:=gx L;have i0:(0:Int)<=(k:Int):=by omega
      have i1:(k:Int)<(n1:Int):=by omega
      by_cases hz:E.n=0
      .rw[hz] at x0;go_wp2_with fail;go_roundg (n1-(k+1));case measure=>omega
       case rel=>
        refine⟨k+1,rfl,by omega,by go_num,rfl,gx (fun j O bj=>?_)⟩;by_cases e:j=k;·subst e;rw[L.out,hz];exact⟨by omega,fun h=>absurd h (by omega)⟩
        .exact ag j O (by omega)
      .have v0:(0:Int)<(E.n:Int):=by omega
       have v1:0<E.n:=by omega
       by_cases U:E.n=n0
       .by_cases aN:400<E.n
        .have hM:=gx (gJ.ru (l:=gz A) (d:=(m:Int)) hC (by have:=N.out;omega) ⟨_,aw,.inl (by rw[hl.out];exact aN)⟩);have hb:=gH b1 F;have v2:(400:Int)<(E.n:Int):=by omega
         subst U;go_wp2_with fail;go_ret2;exact⟨_,_,_,[],2,rfl,Ms.nil _,hM,hb⟩
        .have v2:¬(400:Int)<(E.n:Int):=by omega
         subst U;go_wp2_with fail;go_roundg (n1-(k+1));case measure=>omega
         case rel=>
          refine⟨k+1,rfl,by omega,by go_num,rfl,gx (fun j O bj=>?_)⟩;by_cases e:j=k;·subst e;rw[L.out];exact⟨by omega,fun _=>rfl⟩
          .exact ag j O (by omega)
       .have hM:=gx (gJ.ru (l:=gz A) (d:=(m:Int)) hC (by have:=N.out;omega) ⟨_,aw,.inr ⟨by rw[hl.out];exact v1,by rw[hl.out,ar.out];exact U⟩⟩);have hb:=gH b1 F;have v2:((E.n:Int) !=(n0:Int))=true:=by rw[ij];omega
        have v3:(E.n !=n0)=true:=ij.2 U;have bw:=gx U;clear U;go_wp2_with fail;go_ret2;exact⟨_,_,_,[],2,rfl,Ms.nil _,hM,hb⟩
     .obtain rfl:n1=k:=by omega
      have ah:Hid (¬gJ.rP (gz A)):=gx (fun⟨q,hq,au⟩=>by
       obtain⟨r,hr,rfl⟩:=iu.1 hq;obtain⟨j,O,rfl⟩:=rA hr;have h1:=ag j O (by rw[<-HN.out];exact O);have h2:=Bt.n (K.at j O).2;rw[h2,ar.out] at au;rcases au with h|⟨h,h'⟩
       .omega
       .exact h' (h1.2 h))
      have bf:Hid (gJ.lD (gz P) m m):=gx ⟨by rw[gY,aD.out,B.out],fun r hr=>by
       rw[I.out,sq] at hr;obtain⟨u,X,rfl⟩:=iu.1 hr;have bm:u<(gz R1).length:=by rw[HP.out.rows,<-hn.out];exact af u X
       rw[show(gz R1).getD u []=(gz R1)[u] by simp[List.getD,bm]];exact HP.lP _ (iE _),h1,by omega,h1,by omega⟩
      have aY:Hid (∀i j,i<m->j<m->gJ.ja (gz P) i j=gJ.tC m (gJ.jg (gz A) m n1) i j):=gx (fun i j hi O=>by
       rw[I.out,xV _ _ (by rw[o.out];exact hi)];have hm:(gJ.jg (gz A) m n1).getD i 0<n1:=by rw[show(gJ.jg (gz A) m n1).getD i 0=(gJ.jg (gz A) m n1)[i]'(by rw[o.out];exact hi) by simp[List.getD,o.out,hi]];exact af _ (iE _)
       exact HP.eq _ j (by rw[<-hn.out];exact hm) O)
      have aR:Hid (gJ.I0 m (gJ.ja (gz P))):=gx (fun x hx=>gJ.vD (gJ.jg (gz A) m n1) o (by rw[hU.out];exact(gJ.ug _).sublist (List.take_sublist _ _)) (fun u X=>by have:=af u X;omega) x (fun i hi=>by rw[<-hx i hi];exact gJ.pO (fun k hk=>(aY i k hi hk).symm) (fun _ _=>rfl)))
      have aB:Hid (gJ.lD (gz T) m n0):=gx (by
       have az:∀u∈gJ.jg (gz A) m n1,((gz A).getD u []).length=n0/\((gz A).getD u []).length<=400:=fun u X=>by have:=gJ.Jc ah (ae u X);rwa[ar.out] at this
       have ay:1<=n0/\n0<=400:=by
        have hm:(gJ.jg (gz A) m n1)[0]'(by rw[o.out];omega)∈gJ.jg (gz A) m n1:=iE _;have h1:=az _ hm;have h2:=(gJ.qs (ae _ hm)).2;have h2:0<((gz A).getD ((gJ.jg (gz A) m n1)[0]'(by rw[o.out];omega)) []).length:=by simpa[gJ.lM] using h2
        omega
       refine⟨by rw[gY,B.out],fun r hr=>?_,h1,by omega,ay.1,ay.2⟩;rw[HT.out,sq] at hr;obtain⟨u,X,rfl⟩:=iu.1 hr;exact(az u X).1)
      have bi:=gH b1 F;clear y0;go_wp2_with fail;go_at_call 122;refine(D9 _ _ _ _ _ aC).mono ?_;rintro e w3⟨a3,n3,c3,R3,e3,rfl,h3,aV,b3⟩;obtain⟨f,ak,aF,rfl⟩:=gJ.rQ.inj bf aR aV;have bg:=gx (ak.qU h1 (by omega) h1 (by omega));replace ak:=gx ak;replace aF:=gx aF;have aQ:=Q.below b3;replace b3:=gH bi b3;clear aV aC;go_wp2_with fail;go_at_call 118;refine(JY _ _ _ _ _ _ _ _ _ h3 aQ).mono ?_;rintro e w4⟨a4,n4,c4,R4,e4,rfl,W,aW,b4⟩;obtain⟨Y,rfl⟩:=gJ.rS.ok bg aB aW;have aO:=gx (Y.qU h1 (by omega) aB.m1 aB.m2);replace Y:=gx Y;replace b4:=gH b3 b4;clear aW b3 h3 aQ Q;go_wp2_with fail;go_at_call 98;refine(Fj _ _ _ _ _ _ W).mono ?_;rintro e w5⟨a5,n5,c5,R5,e5,rfl,h5,aX,b5⟩;obtain⟨al,rfl⟩:=gJ.j8.ok aO (by omega) aM aX;replace W:=W.below b5;replace b5:=gH b4 b5;have aT:n4=m:=by rw[<-W.dn,Y.out.rows]
      have aU:n5=s:=by rw[<-h5.dn,al.rows]
      rw[aT] at W;rw[aU] at h5;obtain rfl:=aT.symm;obtain rfl:=aU.symm;replace al:=gx al;clear aX b4;go_wp2_with fail;have B5:Below w5 w5 (w5.alloc (.cells #[(a4,m,c4),(a5,s,c5)] 150)):=gZ.alloc gM _;go_at_call 123;refine(De _ _ _ _ _ _ _ _ _ _ (W.below B5) (h5.below B5) (nT _ _ _ 0) (nT _ _ _ 1) (by omega) (by omega)).mono ?_;rintro e w6⟨a6,n6,c6,rfl,h6,b6⟩;have b7:=gH b5 (B5.trans (b6.mono B5.size));go_wp2_with fail;go_ret2;refine⟨_,_,_,_,0,rfl,h6,gJ.zQ hC N ah (f:=f) (n:=n0) ?_ ar ?_,b7⟩;·rw[HL.out];exact gJ.Bv aF aY
      .have e1:gz (R4++R5)=gz R4++gz R5:=by simp[gz]
       rw[e1,HL.out,hn.out];refine(gJ.EZ aO.PT al).congr fun i j hi O=>?_;unfold gJ.wV;refine gJ.mul_congr (fun _ _=>rfl) fun k hk=>?_;rw[Y.out.eq k j hk O];refine gJ.mul_congr (fun q hq=>ak.eq k q hk hq) fun q hq=>?_;rw[HT.out,xV _ _ (by rw[o.out];exact hq),ad.out q hq]
theorem Ho(a:Option Addr)(n ac:Nat)(A:List Rw)(d:Int)(hd:-9223372036854775808<=d/\d<=9223372036854775807)(w:World)(f:Ms w a n ac A):Calls prog 101 #[(a,n,ac),d] w (rR (gJ.lm (gz A) d) w):=by
 by_cases hc:gJ.gT d ((n:Int)-d)=0
 .have h:=gJ.kv hc;obtain⟨D,rfl⟩:=jD (a:=d) (by omega);exact Ls a n ac D (n-D) A w f (by omega) (by omega) (by omega) (by omega)
 .exact(JJ a n ac A d hd w f hc).mono fun e w' j=>oy.A9 j (by have:=gJ.yk (l:=gz A) (d:=d) (by rw[f.dn];exact hc);rwa[f.dn] at this)
theorem Bc(A:List Rw)(i:Nat)(r:Rw):gz (A.set i r)=(gz A).set i r.l:=by simp[gz,nz]
theorem gJ.lD.set{L:List (List UInt8)}{n m:Nat}(h:gJ.lD L n m)(i:Nat)(r:List UInt8)(j:r.length=m):gJ.lD (L.set i r) n m:=
 ⟨by rw[kH];exact h.rows,fun q f=>by
  rcases lH f with e|rfl
  .exact h.lP _ e
  .exact j,h.n1,h.n2,h.m1,h.m2⟩
abbrev Is(w:World)(a:Option Addr)(n cap:Nat)(e:List Int):Prop:=Sl w 1 a n cap (e.map (Value.int .i64))
theorem Is.jO{w:World}{a:Option Addr}{n cap:Nat}{e:List Int}(h:Is w a n cap e):e.length=n:=by
 have:=h.len;simpa using this
theorem Is.at{w:World}{b off n cap:Nat}{e:List Int}(h:Is w (some (b,off)) n cap e)(i:Nat)(hi:i<e.length):w.cell? (b,off+i)=some (.int .i64 e[i]):=
 Sl.cell h (by have:=h.jO;omega) (by simp[hi])
theorem NG{X:List Rw}{i:Nat}(hi:i<X.length):(gz X).getD i []=X[i].l:=by simp[List.getD,gz,hi]
end Go.Proofs.YthhcdfjijagalaaGreat
namespace Go.Proofs.YthhcdfjijagalaaGreat
open Qz Go.Proofs.Tryz Go.RowKit Go.Maps
structure Ck where
 sh:Int
 t:Int
 y:UInt8
def BK(x:Ck):List Value:=[.int .i64 x.sh,.int .i64 x.t,.int .u8 (x.y.toNat:Int)]
def oX(l:List Ck):List Value:=l.flatMap BK
theorem AB(l:List Ck):(oX l).length=l.length*3:=by
 induction l with
 |nil=>rfl
 |cons e l f=>unfold oX at *;rw[sD,iH,f];simp[BK];omega
theorem FO(l:List Ck):∀(i:Nat) (h:i<l.length),(oX l)[i*3]?=some (.int .i64 l[i].sh)/\(oX l)[i*3+1]?=some (.int .i64 l[i].t)/\(oX l)[i*3+2]?=some (.int .u8 (l[i].y.toNat:Int)):=by
 induction l with
 |nil=>intro i h;exact absurd h (by simp)
 |cons e l m=>
  intro i h;have f:oX (e::l)=BK e++oX l:=rfl;rw[f]
  match i with
  |0=>exact⟨rfl,rfl,rfl⟩
  |i+1=>
   have:=m i (by simpa using h);have g:∀j,(BK e++oX l)[(i+1)*3+j]?=(oX l)[i*3+j]?:=by intro j;rw[sY (by simp[BK];omega)];congr 1;simp[BK];omega
   exact⟨(g 0).trans this.1,(g 1).trans this.2.1,(g 2).trans this.2.2⟩
structure Hs (w:World) (a:Option Addr) (n cap:Nat) (l:List Ck):Prop where
 sl:Sl w 3 a n cap (oX l)
 ok:∀x∈l,-9223372036854775808<=x.t/\x.t<=9223372036854775807
section
variable {w w' : World} {a : Option Addr} {n cap : Nat} {l : List Ck}
theorem Hs.jO(h:Hs w a n cap l):l.length=n:=by
 have:=h.sl.len;rw[AB] at this;omega
theorem Hs.below(h:Hs w a n cap l)(hb:Below w w w'):Hs w' a n cap l:=⟨h.sl.below hb,h.ok⟩
theorem Hs.at{b off:Nat}(h:Hs w (some (b,off)) n cap l)(i:Nat)(hi:i<l.length):
  w.cell? (b,off+i*3)=some (.int .i64 l[i].sh)/\w.cell? ⟨b,off+i*3+1,none⟩=some (.int .i64 l[i].t)/\w.cell? ⟨b,off+i*3+2,none⟩=some (.int .u8 (l[i].y.toNat:Int)):=by
 have f:=h.jO;have e:=FO l i hi;exact⟨h.sl.cell (by omega) e.1,h.sl.cell (by omega) e.2.1,h.sl.cell (by omega) e.2.2⟩
end
theorem Mb.set{w0 w:World}{row:Option Nat}{base g n cap:Nat}{R:List Rw}(h:Mb w0 w row base (some (g,gy),n,cap) R)(i:Nat)(hi:i<R.length)(r:Rw)(hb:Bt w r.a r.n r.cap r.l)(E:sS (some (g,gy),n,cap) r):
  Mb w0 (w.setCell (g,i) (r.a,r.n,r.cap)) row base (some (g,gy),n,cap) (R.set i r):=by
 have F:R.length=n:=by
  have:=h.own.own;rcases this.2 with⟨j,_⟩|⟨I,B,C,j,_⟩
  .simp at j
  .simp only[kx] at j;exact j.2.1.symm
 have G:=h.own.own;subst F;have o:=yx G i (r.a,r.n,r.cap);have f:∀q∈R.set i r,Bt w q.a q.n q.cap q.l/\sS (some (g,gy),R,cap) q:=fun q f=>by
  rcases lH f with f|rfl
  .exact⟨h.bt q f,h.apart q f⟩
  .exact⟨hb,E⟩
 refine⟨?_,fun q m=>(f q m).1.grown o.2 (f q m).2,fun q m=>(f q m).2⟩;have e:iv (R.set i r)=(iv R).set i (r.a,r.n,r.cap):=by simp[iv,nz,Rw.v]
 rw[e,kH];exact h.own.more o.1 o.2 (.inl rfl)
structure Sz (DD:DataW Unit) (U:List Nat):Prop where
 size:Maps.size DD=U.length
 has:∀v:Nat,Maps.has DD (.int .i64 (v:Int))=decide (v∈U)
theorem Sz.start:Sz (.map []) []:=⟨rfl,fun v=>rfl⟩
end Go.Proofs.YthhcdfjijagalaaGreat
namespace Go.Proofs.YthhcdfjijagalaaGreat
open Qz Go.Proofs.Tryz Go.RowKit
def Cj(P:List UInt8->Int->Prop)(w:World)(e:Ending)(w':World):Prop:=
 ∃a n cap R err,e=.returned (.tuple #[.slice a n cap,.int .i64 err])/\Bt w' a n cap R/\P R err/\Below w w w'
theorem Bt.Ql{w:World}{a:Option Addr}{n cap:Nat}{l:List UInt8}(h:Bt w a n cap l){k:Nat}(j:k<=n):Bt w a k k (l.take k):=by
 have f:=Bt.take h j;exact⟨jb _,jY f.le f.max,f.len,fun e=>by have:=f.nil e;have:=f.le;omega,f.addr⟩
theorem Bt.empty(w:World):Bt w none 0 0 []:=Sl.none w 1
theorem MK(a:Option Addr)(n cap:Nat)(L:List Rw)(g:Int)(D s:Nat)(w:World)(hL:Ms w a n cap L)(hn:n=D+s)(h1:1<=D)(h2:D<=8)(h3:s<=4):
  Calls prog 74 #[(a,n,cap),g,D] w (Cj (gW.kN (gz L) g (D:Int)) w):=by
 have HN:=gx hL.jO;have HD:=gx hL.dn;have s1:IntKind.i64.wrap ((n:Int)-(D:Int))=(s:Int):=by rw[iO _ (by omega)];omega
 have s2:(n:Int)-(D:Int)=(s:Int):=by omega
 have aT:n<=12:=by omega
 have a0:1<=n:=by omega
 have aY:D<=n:=by omega
 have HC:gJ.gT (D:Int) (s:Int)=0:=gJ.kl (by omega);have DC:=gx (HC▸lZ (D:Int) (s:Int) w);have I:=gx (show gJ.gT (D:Int) (((gz L).length:Int)-(D:Int))=0 by rw[HD.out,s2];exact HC);replace HC:=gx HC;replace hn:=gx hn;obtain⟨ab,aR,rfl,_⟩:=hL.sl.addr (by omega);go_enter func74,ntmps74;go_wp2_with fail;go_at_call 13;refine(DC).mono ?_;rintro e w0⟨rfl,rfl⟩;go_wp2_with (refine wpList_make_mat rfl (.tmp 30) (.tmp 30) 81 jt rfl n rfl rfl (by omega) ?_;intro w1 N1 b1 z1);have M1:Mb w w1 none w.heap.size (some (w,gy),n,n) (List.replicate n ⟨none,0,0,[]⟩):=by
  have ho:=N1.own;simp only[nj,mZ,qZ,Nat.sub_zero] at ho;have e:iv (List.replicate n ⟨none,0,0,[]⟩)=List.replicate n (.slice none 0 0):=by simp[iv,Rw.v]
  refine⟨?_,fun r hr=>?_,fun r hr=>?_⟩;·rw[e,vF];exact OT.fresh ho b1 gM
  .rw[(oE.1 hr).2];exact Bt.empty _
  .rw[(oE.1 hr).2];intro hn;exact absurd hn (by simp)
 clear N1 b1;go_loopg[9,34] n (fun gg s9 aP wr=>∃(k:Nat) (O:List Rw),gg=n-k/\k<=n/\aP=.int .i64 (k:Int)/\s9=.int .i64 (gW.th (gW.lk (gz L) g k))/\Mb w wr none w.heap.size (some (w,gy),n,n) O/\Hid (gz O=gW.jP (gz L) g k)/\Hid (gW.mS (gz L) g k));case atStart=>exact⟨0,_,rfl,by omega,rfl,rfl,M1,gx (by rw[gW.Fq,HD.out];simp[gz]),gx gW.Ah⟩
 case round=>
  clear M1 z1;obtain⟨k,O,rfl,hk,rfl,rfl,hM,HO,HA⟩:=hrel;obtain⟨wo,rfl⟩:∃wo:World,wo=wr:=⟨_,rfl⟩;have N:=hM.own.im gM (fun k e=>by cases e);have aU:=N.size;have aH:=(hM.own.own.lt _ rfl).2;by_cases U:k<n
  .have aD:k<L.length:=by rw[HN.out];exact U
   have aG:k<(gz L).length:=by rw[HD.out];exact U
   obtain⟨x0,hb⟩:=(hL.below N).at k aD;have hl:=ki aD;have D1:=zy L[k].a L[k].n L[k].cap L[k].l g (k:Int) wo hb;unfold zN at D1;generalize L[k]=r at *;have i0:(0:Int)<=(k:Int):=by omega
   have i1:(k:Int)<(n:Int):=by omega
   have ad:Hid (O.length=n):=gx (by have:=congrArg List.length HO;rw[gY,gW.jo,HD.out] at this;exact this);cases hx:gW.right r.l g (k:Int) with
   |false=>
    have h:gW.right ((gz L).getD k []) g k=false:=by rw[hl];exact hx
    have y1:=gx (gW.EH h);have y2:=gx (gW.JM h);have y3:=gx (gW.EX h HA);rw[hx] at D1;replace D1:=gx D1;replace hl:=gx hl;replace hx:=gx hx;replace h:=gx h;have y5:Hid (gW.th (gW.lk (gz L) g (k+1))=gW.th (gW.lk (gz L) g k)):=gx (by rw[y1.out]);generalize gW.th (gW.lk (gz L) g k)=Y at *;go_wp2_with fail;go_at_call 78;refine(D1).mono ?_;rintro e w2⟨a2,c2,rfl,b2,-⟩;have K:=hM.below b2;go_wp2_with fail;go_roundg (n-(k+1));case measure=>omega
    case rel=>exact⟨k+1,O,rfl,by omega,by go_num,by rw[y5.out],K.alloc _,gx (by rw[y2.out];exact HO),y3⟩
   |true=>
    have h:gW.right ((gz L).getD k []) g k=true:=by rw[hl];exact hx
    have y1:=gx (gW.xF h);have y2:=gx (gW.Hu h aG);have y3:=gx (gW.Co h HA);have y4:=gx (gW.Cn h aG);rw[hl] at y1 y2 y3 y4;have W:Hid (gW.th (gW.lk (gz L) g (k+1))=((jT.parse r.l).z:Int)):=gx (by rw[y1.out];exact gW.GU _ _);rw[hx] at D1;obtain⟨Y,j⟩:∃Y,Y=gW.th (gW.lk (gz L) g k):=⟨_,rfl⟩;rw[<-j] at y3 y4⊢;replace j:=gx j;generalize jT.parse r.l=P at *;obtain⟨E,G,Sh,Z,data⟩:=P;simp only at D1 y2 y3 y4 W;replace D1:=gx D1;replace hl:=gx hl;replace hx:=gx hx;replace h:=gx h;go_wp2_with fail;go_at_call 78;refine(D1).mono ?_;rintro e w2⟨a2,c2,rfl,b2,az,nw⟩;have K:=(hM.below b2).alloc (.cells #[G,Sh,Z,(a2,data,c2)] 125);have B2:=gO w2 (.cells #[G,Sh,Z,(a2,data,c2)] 125);have ag:=Sl.alloc az (.cells #[G,Sh,Z,(a2,data,c2)] 125);have Q:=gH N b2;have C:=Q.alloc Q.size (.cells #[G,Sh,Z,(a2,data,c2)] 125);go_upto_region 11 with(fail);generalize w2.alloc (.cells #[G,Sh,Z,(a2,data,c2)] 125)=V at *;have r2:=gw (i:=2) B2;have r3:=gw (i:=3) B2;have ax:sS (some (w,gy),n,n) ⟨a2,data.length,c2,data⟩:=fun hn b off e e2=>by have:=nw b off e;have e3:w.heap.size=b:=kO e2;omega
    have aE:k<O.length:=by rw[ad.out];exact U
    have ah:=gx (fun q=>(K.below (below_drewN gZ q)).set k aE ⟨a2,data.length,c2,data⟩ (Sl.drewN ag q) ax);have ho:=K.own.own;rw[ad.out] at ho;have f0:=ho.frozenAt k;have f1:V.cell? (w,k)=some (O[k].v):=by rw[ho.cellAt k (by omega)];simp[iv,aE]
    have aB:Hid (gW.jP (gz L) g (k+1)=(gW.jP (gz L) g k).set k data):=y2;clear ho hM K N x0 hb az ag nw ax b2 Q;generalize O[k].v=ov at *;by_cases c1:0<=Y
    .by_cases B:(Z:Int)=Y
     .have ak:=gx (y3 (.inr B));have t1:((Z:Int) !=Y)=false:=by rw[B];simp
      subst B;clear t1;have t1:((Z:Int) !=(Z:Int))=false:=by simp
      clear y3 y4;go_upto_region 13 with(fail);refine vH 8 (by kernel_rfl) (by kernel_rfl) ?_;change wpStill _ _ (World.drew _) _ _ _;simp only[su,oO,sw,tK];repeat still_step
      refine wpStill_nil ?_;change wpList _ _ _ _ _ (World.drewN V 1);go_wp2_with fail;go_roundg (n-(k+1));case measure=>omega
      case rel=>
       refine⟨k+1,O.set k ⟨a2,data.length,c2,data⟩,rfl,by omega,by go_num,by rw[W.out],ah 1,gx ?_,gx ak⟩;rw[Bc,HO.out];exact aB.symm
     .have aL:=gx (y4 c1 B);have t1:((Z:Int) !=Y)=true:=ij.2 B;replace B:=gx B;clear y3 y4;go_wp2_with fail;go_ret2;exact⟨_,_,_,[],8,rfl,Bt.empty _,gW.IE I aL,C⟩
    .have ak:=gx (y3 (.inl (by omega)));clear y3 y4;go_upto_region 13 with(fail);refine vH 8 (by kernel_rfl) (by kernel_rfl) ?_;change wpStill _ _ (World.drew _) _ _ _;simp only[su,oO,sw,tK];repeat still_step
     refine wpStill_nil ?_;change wpList _ _ _ _ _ (World.drewN V 1);go_wp2_with fail;go_roundg (n-(k+1));case measure=>omega
     case rel=>
      refine⟨k+1,O.set k ⟨a2,data.length,c2,data⟩,rfl,by omega,by go_num,by rw[W.out],ah 1,gx ?_,gx ak⟩;rw[Bc,HO.out];exact aB.symm
  .obtain rfl:n=k:=by omega
   have ad:O.length=n:=by have:=congrArg List.length HO;rw[gY,gW.jo,HD.out] at this;exact this
   obtain⟨ao,co,e1,aw⟩:=hM.ms;rw[ad] at e1 aw;cases e1;have aK:Hid (gz O=gW.jP (gz L) g (gz L).length):=gx (by rw[HO.out,HD.out]);have ai:Hid (gW.mS (gz L) g (gz L).length):=gx (by rw[HD.out];exact HA);have DM:=Ho (some (w,gy)) n n O (D:Int) (by omega) wo aw;rw[aK.out] at DM;obtain⟨Y,j⟩:∃Y,Y=gW.th (gW.lk (gz L) g (gz L).length):=⟨_,rfl⟩;have e5:gW.th (gW.lk (gz L) g n)=Y:=by rw[j,HD.out]
   rw[e5];clear e5;replace j:=gx j;replace DM:=gx DM;clear hM HO HA DC U aH;go_wp2_with fail;go_at_call 101;refine(DM).mono ?_;rintro e w3⟨a3,n3,c3,X,f,rfl,hX,hp,b3⟩;have C:=gH N b3;by_cases hf:f=0
   .subst hf;have ae:=gW.Ge hp;obtain rfl:n3=n:=by rw[<-hX.dn,ae.1,gW.jo,HD.out]
    have aI:=gW.yl I hp;obtain⟨z,hz,_⟩:=gW.Bo aI;rw[<-j.out] at hz;subst hz;have HX:=gx hX.jO;have au:=gx ae.2;have aZ:=gx ae.1;have aV:=hX.sl.le;have ar:=hX.sl.max;unfold maxLen at ar;obtain⟨xb,aW,rfl,_⟩:=hX.sl.addr (by omega);have j0:(0:Int)<=(D:Int):=by omega
    have j1:(D:Int)<=(c3:Int):=by omega
    have HP:=gx hp;clear hp aI ae DM;go_wp2_with fail;go_loopg[17,77] D (fun gg aO aQ wr=>∃(k:Nat),gg=D-k/\k<=D/\aQ=.int .i64 (k:Int)/\OB w3 wr none w3.heap.size aO ((gz X).take k).flatten);case atStart=>exact⟨0,rfl,by omega,rfl,OT.fresh (iY _ _ _ _) gZ gM⟩
    case round=>
     obtain⟨k,rfl,hk,rfl,hO⟩:=hrel;obtain⟨wp,rfl⟩:∃wp:World,wp=wr:=⟨_,rfl⟩;have al:=hO.im gM (fun k e=>by cases e);have aJ:=al.size;have aC:=gW.Ax (X:=(gz X).take k) (fun r hr=>au r (ry hr));rw[jh] at aC;have S:((gz X).take k).flatten.length<=4800:=by have:min k (gz X).length*400<=12*400:=ss _ (by omega);omega
     clear aC;by_cases U:k<D
     .have aF:k<X.length:=by rw[HX.out];omega
      obtain⟨x0,hb⟩:=(hX.below al).at k aF;have aN:Hid (((gz X).take (k+1)).flatten=((gz X).take k).flatten++X[k].l):=gx (by rw[qg,List.flatten_append];simp[gz,aF])
      have o:X[k].l.length<=400:=au _ (by unfold gz;exact List.mem_map_of_mem (iE _));generalize X[k]=r at *;have i0:(0:Int)<=(k:Int):=by omega
      have i1:(k:Int)<(D:Int):=by omega
      generalize ((gz X).take k).flatten=F at *;replace o:=gx o;replace S:=gx S;go_wp2_with (refine wpList_append_ob rfl (.tmp 81) (.tmp 82) rfl w3.heap.size _ F r.l rfl hO r.a r.n r.cap rfl hb (by have:=o.out;have:=S.out;omega) aJ ?_;intro v5 w5 o5 g5);go_roundg (D-(k+1));case measure=>omega
      case rel=>exact⟨k+1,rfl,by omega,by go_num,by rw[aN.out];exact o5⟩
     .obtain rfl:D=k:=by omega
      obtain⟨ao,co,rfl,ap⟩:=OB.sl hO;have ay:=gH C al;have hF:Hid (gW.flat (gz X) (D:Int)=((gz X).take D).flatten):=gx (by unfold gW.flat;simp);generalize ((gz X).take D).flatten=F at *;have o:=gx (gW.IG I ai HP);have af:=gx (gW.IH I ai HP);rw[hF.out,<-j.out] at o af;have aS:=ap.le;have aq:=ap.max;unfold maxLen at aq;clear hO;by_cases c1:F.length<z
      .have aj:(F.length:Int)<(z:Int):=by omega
       replace o:=gx (o aj);generalize F.length=m at *;go_wp2_with fail;go_ret2;exact⟨_,_,_,[],8,rfl,Bt.empty _,o,ay⟩
      .have aj:(z:Int)<=(F.length:Int):=by omega
       replace af:=gx (af aj);have aA:=gx (Bt.Ql ap (k:=z) (by omega));have c2:(0:Int)<=(z:Int):=by omega
       have aX:(z:Int)<=(co:Int):=by omega
       generalize F.length=m at *;go_wp2_with fail;go_ret2;exact⟨_,_,_,F.take z,0,rfl,aA,by simpa using af.out,ay⟩
   .have aM:=gx (gW.IF I ai hp hf);have t1:(f !=0)=true:=ij.2 hf;replace hf:=gx hf;clear hp;go_wp2_with fail;go_ret2;exact⟨_,_,_,[],_,rfl,Bt.empty _,aM,C⟩
theorem Kz(a:Option Addr)(n cap:Nat)(L:List Rw)(g d:Int)(w:World)(f:Ms w a n cap L)(hd:-9223372036854775808<=d/\d<=9223372036854775807)(hc:gJ.gT d ((n:Int)-d)≠0):
  Calls prog 74 #[(a,n,cap),g,d] w (Cj (gW.kN (gz L) g d) w):=by
 have h:=gx (gW.ID (l:=gz L) (g:=g) (d:=d) (by rw[f.dn];exact hc));rw[f.dn] at h;have j:=qR f.NP hd;rw[<-j] at hc h;generalize o:IntKind.i64.wrap ((n:Int)-d)=z at *;have q:(gJ.gT d z !=0)=true:=ij.2 hc;have m:=gx (lZ d z w);generalize gJ.gT d z=E at *;replace hc:=gx hc;replace j:=gx j;replace hd:=gx hd;go_enter func74,ntmps74;go_wp2_with fail;go_at_call 13;refine(m).mono ?_;rintro e r⟨rfl,rfl⟩;go_wp2_with fail;go_ret2;exact⟨_,_,_,[],_,rfl,Bt.empty _,h,iU _ _⟩
theorem Be(a:Option Addr)(n cap:Nat)(L:List Rw)(g d:Int)(w:World)(e:Ms w a n cap L)(hd:-9223372036854775808<=d/\d<=9223372036854775807):
  Calls prog 74 #[(a,n,cap),g,d] w (Cj (gW.kN (gz L) g d) w):=by
 by_cases hc:gJ.gT d ((n:Int)-d)=0
 .have f:=gJ.kv hc;obtain⟨D,rfl⟩:=jD (a:=d) (by omega);exact MK a n cap L g D (n-D) w e (by omega) (by omega) (by omega) (by omega)
 .exact Kz a n cap L g d w e hd hc
end Go.Proofs.YthhcdfjijagalaaGreat
namespace Go.Proofs.YthhcdfjijagalaaGreat
open Qz Go.Proofs.Tryz
namespace gW
def yX(l:List (List UInt8))(g d:Int)(L:List (List UInt8))(e:Int):Prop:=∃b f,kN l g d b f/\((f≠0/\L=[]/\e=f)∨(f=0/\mv b g d ((l.length:Int)-d) L e))
theorem yX.ou{l:List (List UInt8)}{g d:Int}{L K:List (List UInt8)}{e f:Int}(h:yX l g d L e)(k:yX l g d K f):L=K/\e=f:=by
 obtain⟨b,C,q,r⟩:=h;obtain⟨c,E,w,B⟩:=k;obtain⟨rfl,rfl⟩:=q.ou w;rcases r with⟨j,m,o⟩|⟨j,m⟩<;>rcases B with⟨b1,b2,b3⟩|⟨b1,b2⟩
 .exact⟨m.trans b2.symm,o.trans b3.symm⟩
 .exact absurd b1 j
 .exact absurd j b1
 .exact m.ou b2
theorem kN.code{l:List (List UInt8)}{g d:Int}{R:List UInt8}(h:kN l g d R 0):gJ.gT d ((l.length:Int)-d)=0:=by
 classical
 refine mU fun hc=>?_;unfold kN at h;rw[gG hc] at h;exact hc h.2.symm
end gW
open Go.RowKit
theorem GI(a:Option Addr)(n cap:Nat)(L:List Rw)(g d:Int)(w:World)(C:Ms w a n cap L)(hd:-9223372036854775808<=d/\d<=9223372036854775807):
  Calls prog 52 #[(a,n,cap),g,d] w (ER (gW.yX (gz L) g d) w):=by
 have F:=gx (Be a n cap L g d w C hd);have B:=gx C.dn;replace hd:=gx hd;go_enter func52,ntmps52;go_wp2_with fail;go_at_call 74;refine(F).mono ?_;rintro e U⟨I,n1,c1,b,f,rfl,hb,m,b1⟩;by_cases o:f=0
 .subst o;have hc:=m.code;rw[B.out] at hc;have j:=gJ.kv hc;obtain⟨D,rfl⟩:=jD (a:=d) (by omega);obtain⟨s,Q⟩:=jD (a:=(n:Int)-(D:Int)) (by omega);have W:IntKind.i64.wrap ((n:Int)-(D:Int))=(s:Int):=by rw[iO _ (by omega)];omega
  have S:s<=4:=by omega
  have N:D<=8:=by omega
  have q:=gx m;replace hc:=gx hc;replace j:=gx j;clear m;go_wp2_with fail;go_at_call 71;refine(Bd I n1 c1 b g (D:Int) (s:Int) U hb).mono ?_;rintro e Z⟨V,n2,c2,X,K,rfl,O,h,b2,E⟩;replace h:=gx h;go_wp2_with fail;go_ret2;exact⟨_,_,_,X,K,rfl,O,⟨b,0,q,.inr ⟨rfl,by rw[B.out,Q];exact h⟩⟩,gH b1 b2,hJ E.1 b1.size,fun r P=>hJ (E.2 r P) b1.size⟩
 .have Y:(f !=0)=true:=ij.2 o;have G:=gx o;have q:=gx m;clear m o;go_wp2_with fail;go_ret2;exact⟨_,_,_,[],f,rfl,Ms.nil _,⟨b,f,q,.inl ⟨G,rfl,rfl⟩⟩,b1,BN.nil _ _⟩
end Go.Proofs.YthhcdfjijagalaaGreat

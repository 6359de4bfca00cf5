import Derived.Test.YthhcdfjijagalaaGreatM40
set_option linter.all false
set_option maxHeartbeats 8000000
set_option maxRecDepth 100000
namespace Go.Proofs.YthhcdfjijagalaaGreat
open Qz Go.Proofs.Tryz Go.RowKit Go.Maps
def tw:Rw:=⟨none,0,0,[]⟩
theorem IK(R S:List Rw)(r e:Rw):(iv (R++r::S)).set R.length e.v=iv (R++e::S):=by
 simp[iv,li,List.set_append]
theorem Mg(n:Nat):iv (List.replicate n tw)=List.replicate n (.slice none 0 0):=by
 simp[iv,tw,Rw.v]
theorem Ds{g:Bool}{H:List Hm}{k:Int}{j:Nat}(f:j<H.length)(e:H[j].s≠k):gE.jx ⟨g,(H.take (j+1)).map Hm.hd⟩ k=gE.jx ⟨g,(H.take j).map Hm.hd⟩ k:=by
 unfold gE.jx;simp only;rw[JR f e]
theorem Hl{H:List Hm}{k:Int}(h:((H.map Hm.hd).map gE.Hd.jy).Pairwise (·<·)){j:Nat}(f:j<H.length)(e:H[j].s=k):gE.jx ⟨false,(H.take (j+1)).map Hm.hd⟩ k=H[j].b:=by
 unfold gE.jx;simp only;rw[gC (by decide),ND h f e];rfl
theorem v9{L:List gE.Hd}{k:Int}:gE.jx ⟨true,L⟩ k=[]:=by unfold gE.jx;rw[gG rfl]
theorem Dt{g:Bool}{H:List Hm}{k:Int}:gE.jx ⟨g,(H.take 0).map Hm.hd⟩ k=[]:=by
 unfold gE.jx;simp only[oO,nj];split<;>rfl
theorem sH(m:ig)(k:Int)(w:World)(h:nv w m)(hD:m.D.length<=100)(hH:∀x∈m.D,x.H.length<=1000)(hP:∀x∈m.D,((x.H.map Hm.hd).map gE.Hd.jy).Pairwise (·<·)):
  Calls prog 31 #[jd m,k] w fun e w'=>∃a cap R,e=.returned (.slice a m.D.length cap)/\Ms w' a m.D.length cap R/\gz R=gE.blocks (m.D.map Dm.dk) k/\Below w w w':=by
 obtain⟨d,s,b,dv,D,g,tv,T,sv,seen,u,av,A⟩:=m;obtain⟨da,dc,aD,ah⟩:=h.ng;obtain⟨ta,tc,aI,aL⟩:=h.tail;obtain⟨sa,sc,aH,aK⟩:=h.seen;obtain⟨aa,ac,aB,has⟩:=h.ib;simp only at aD aI aH aB ah hD hH hP;subst aD aI aH aB;have aq:=gx ah;have ap:=gx h.held;have ao:=gx h.bytes;have HH:=gx hH;have HP:=gx hP;simp only at ap ao;clear h ah aL aK has hH hP;unfold jd;simp only;have B0:=gO w (.cells #[d,s,b,(da,D,dc),g,(ta,T,tc),(sa,seen,sc),u,(aa,A,ac)] 32);have bV:=gx ((iU w.heap.size w).alloc gM (.cells #[d,s,b,(da,D,dc),g,(ta,T,tc),(sa,seen,sc),u,(aa,A,ac)] 32));go_enter func31,ntmps31;go_upto_region 1 with(fail);generalize w.alloc (.cells #[d,s,b,(da,D,dc),g,(ta,T,tc),(sa,seen,sc),u,(aa,A,ac)] 32)=V at B0 bV⊢;have c3:V.cell? (w,jF)=some (.slice da D.length dc):=gw B0;have aA:=bV.size;go_wp2_with (refine wpList_make_mat rfl (.tmp 12) (.tmp 12) 81 jt rfl D.length rfl rfl (by omega) ?_;intro w1 N1 b1 z1;have B1:=gx (gB B0 b1);have x3:w1.cell? (w,jF)=some (.slice da D.length dc):=(gw B1));have U:=N1.own;simp only[nj,mZ,qZ,Nat.sub_zero] at U;rw[<-Mg] at U;have ar:=gx (hJ U aA);have BW:=gx (gH bV b1);obtain⟨G,hG⟩:∃G,G=V.heap.size:=⟨_,rfl⟩;rw[<-hG] at ar⊢;clear U N1 b1 z1 c3 hG B0 bV aA;go_loopg[17] D.length (fun gg aM wr=>∃(i:Nat) (R:List Rw),gg=D.length-i/\i<=D.length/\aM=.int .i64 (i:Int)/\Hid (R.length=i)/\Hid (gz R=(gE.blocks (D.map Dm.dk) k).take i)/\Hid (∀r∈R,Bt w r.a r.n r.cap r.l)/\wr.ownsRow w.heap.size 64 1 (some (G,gy),D,D.length) D.length (iv (R++List.replicate (D.length-i) tw))/\Below w w wr);case atStart=>exact⟨0,[],rfl,by omega,rfl,gx rfl,gx rfl,gx (fun r hr=>by cases hr),ar,BW⟩
 case round=>
  obtain⟨i,R,rfl,hi,rfl,N,aw,au,F,I⟩:=hrel;obtain⟨wo,rfl⟩:∃wo:World,wo=wr:=⟨_,rfl⟩;have ax:=gx F;have C:=gx I;clear F I;by_cases aE:i<D.length
  .obtain⟨db,aO,rfl,-⟩:=aq.addr (by omega);obtain⟨e0,e1⟩:=pd (aq.below C) i aE;have S:=gx (ap D[i] (iE _));have ag:=gx (ao D[i] (iE _));have aF:=HH D[i] (iE _);have ai:=gx (HP D[i] (iE _));have al:=gx (fun b hb=>zd D k i aE (gz R) aw b hb);generalize D[i]=x at e0 e1 S ag aF ai al;obtain⟨xg,xa,xc,o⟩:=x;simp only at e0 e1 S ag aF ai;have i0:(0:Int)<=(i:Int):=by omega
   have i1:(i:Int)<(D.length:Int):=by omega
   go_upto_region 5 with(fail);obtain⟨W,hW⟩:∃W,W=wo.alloc (.cells #[.bool xg,(xa,o,xc)] 63):=⟨_,rfl⟩;have O:W.heap[wo.heap.size]?=some (.cells #[.bool xg,(xa,o,xc)] 63):=by rw[hW];exact gO _ _
   have az:=gx (show Below w w W by rw[hW];exact C.alloc C.size _);have Z:List.replicate (D.length-i) tw=tw::List.replicate (D.length-(i+1)) tw:=by rw[show D.length-i=(D.length-(i+1))+1 by omega,List.replicate_succ]
   have ay:=gx (show W.ownsRow w.heap.size 64 1 (some (G,gy),D,D.length) D.length (iv (R++tw::List.replicate (D.length-(i+1)) tw)) by rw[hW,<-Z];exact ax.alloc _);rw[<-hW];clear hW e0 e1 Z;generalize wo.heap.size=P at O⊢;have aJ:=gx O;have c1:W.cell? (P,ia)=some (.slice xa o.length xc):=gw O;go_wp2_with fail;clear O c1;go_loopg[25] o.length (fun gg aN wr=>∃(j:Nat) (r:Rw),gg=o.length-j/\j<=o.length/\aN=.int .i64 (j:Int)/\Hid (r.l=gE.jx ⟨xg,(o.take j).map Hm.hd⟩ k)/\Hid (Bt w r.a r.n r.cap r.l)/\wr.heap[P]?=some (.cells #[.bool xg,(xa,o,xc)] 63)/\wr.ownsRow w.heap.size 64 1 (some (G,gy),D,D.length) D.length (iv (R++r::List.replicate (D.length-(i+1)) tw))/\Below w w wr);case atStart=>exact⟨0,tw,rfl,by omega,rfl,gx Dt.symm,gx (Sl.none w 1),aJ,ay,az⟩
   case round=>
    obtain⟨j,r,rfl,hj,rfl,ae,ad,aC,F,I⟩:=hrel;obtain⟨wi,rfl⟩:∃wi:World,wi=wr:=⟨_,rfl⟩;have B:=gx aC;have L:=gx F;have f:=gx I;clear aC F I;by_cases E:j<o.length
    .obtain⟨xb,xo,rfl,-⟩:=S.addr (by omega);obtain⟨e0,e1⟩:=qA (S.below f) j E;have af:=gx (ag o[j] (iE _));have ak:=gx (fun h=>Ds (g:=xg) (k:=k) E h);have aj:=gx (fun h=>Hl (k:=k) ai E h);generalize o[j]=y at e0 e1 af ak aj;obtain⟨ys,X,Y,K⟩:=y;simp only at e0 e1 af ak aj;have i0:(0:Int)<=(j:Int):=by omega
     have i1:(j:Int)<(o.length:Int):=by omega
     have i2:(0:Int)<=(i:Int):=by omega
     have i3:(i:Int)<(D.length:Int):=by omega
     by_cases hk:ys=k
     .subst hk;have d0:(wi.alloc (.cells #[ys,(X,K,Y)] 66)).cell? (P,gy)=some (.bool xg):=gw (gF B);cases xg with
      |true=>
       go_wp2_with fail;go_roundg (o.length-(j+1));case measure=>omega
       case rel=>exact⟨j+1,r,rfl,by omega,by go_num,gx (by rw[ae.out,v9,v9]),ad,gF B,L.alloc _,f.alloc f.size _⟩
      |false=>
       have Q:=L.alloc (.cells #[ys,(X,K,Y)] 66);have ab:=gx Q;have fz:∀q,(wi.alloc (.cells #[ys,(X,K,Y)] 66)).frozen? ⟨G,q,none⟩=false:=fun q=>Q.frozenAt q;have ge:(wi.alloc (.cells #[ys,(X,K,Y)] 66)).cell? (G,i)=some r.v:=by obtain⟨a1,c1,ee,hs⟩:=gK Q;cases ee;have:=hs.cell (by omega) (j:=i) (u:=r.v) (by rw[iv,nJ,sY (by rw[N.out];exact jb _),N.out,lU];rfl);simpa using this
       unfold Rw.v at ge;clear Q;go_wp2_with fail;go_roundg (o.length-(j+1));case measure=>omega
       case rel=>
        have hO:gU (wi.alloc (.cells #[ys,(X,K,Y)] 66)) ((wi.alloc (.cells #[ys,(X,K,Y)] 66)).setCell (G,i) (X,K,Y)) [G]:=(gU.refl _ [G]).setCell (a:=(G,i)) (.inl (by simp)) _;have hs:=IK R (List.replicate (D.length-(i+1)) tw) r ⟨X,K.length,Y,K⟩;rw[N.out] at hs;refine⟨j+1,⟨X,K.length,Y,K⟩,rfl,by omega,by go_num,gx (aj trivial).symm,af,hO.jJ (gF B) (fun hm=>gP ab (gF B) (by decide) (by have e:P=G:=(by simpa using hm);rw[e];rfl)),jQ ab i _ hs (by omega),(f.alloc f.size _).setCell (p:=(G,i)) (ab.lt G rfl).1 _⟩
     .have t1:(ys==k)=false:=jB.2 hk;have aG:=gx (ak hk);replace hk:=gx hk;go_wp2_with fail;go_roundg (o.length-(j+1));case measure=>omega
      case rel=>exact⟨j+1,r,rfl,by omega,by go_num,gx (by rw[ae.out,aG.out]),ad,gF B,L.alloc _,f.alloc f.size _⟩
    .obtain rfl:j=o.length:=by omega
     go_wp2_with fail;go_roundg (D.length-(i+1));case measure=>omega
     case rel=>
      refine⟨i+1,R++[r],rfl,by omega,by go_num,gx (by rw[iH,N.out];rfl),gx ?_,gx (fun q hq=>?_),?_,f⟩
      .rw[<-al.out r.l (by rw[ae.out,sE];rfl)];simp[gz]
      .rcases kd.1 hq with hq|hq
       .exact au q hq
       .obtain rfl:=iA.1 hq;exact ad
      .rw[ky];exact L
  .obtain rfl:i=D.length:=by omega
   go_wp2_with fail;go_ret;have hr:=ax.out;rw[lU,List.replicate_zero,mY] at hr;obtain⟨a1,c1,ee,hs⟩:=gK hr;cases ee;refine⟨some (G,gy),D.length,R,rfl,⟨hs,fun q hq=>(au q hq).below C⟩,?_,C⟩;rw[aw.out];refine ld ?_;simp[gE.blocks]
def NM:Value->Bool
 |.slice _ _ _=>true
 |_=>false
def Ns(w w':World):Prop:=∀(b o:Nat) (u:Value),w.cell? (b,o)=some u->NM u=false->w'.cell? (b,o)=some u
theorem Ns.refl(w:World):Ns w w:=fun b o u h _=>h
theorem Ns.trans{a b c:World}(h:Ns a b)(k:Ns b c):Ns a c:=fun i o u f e=>k i o u (h i o u f e) e
theorem Ns.below{w w':World}(h:Below w w w'):Ns w w':=fun b o u e _=>(h.cell (p:=(b,o)) (iM _ _ e)).trans e
theorem Ns.set{w:World}{b o:Nat}{x:Option Addr}{n c:Nat}(h:w.cell? (b,o)=some (.slice x n c))(v:Value):Ns w (w.setCell (b,o) v):=fun i j u f r=>by
 rw[World.cell?_setCell_other];·exact f
 .intro e;have m:b=i:=congrArg Addr.block e;have q:o=j:=congrArg Addr.off e;subst m q;rw[h] at f;cases f;cases r
theorem Sl.ns{w w':World}{sz:Nat}{a:Option Addr}{n cap:Nat}{cs:List Value}(h:Sl w sz a n cap cs)(hc:∀u∈cs,NM u=false)(o:Ns w w'):Sl w' sz a n cap cs:=
 ⟨h.le,h.max,h.len,h.nil,fun m=>by obtain⟨b,off,e,hb⟩:=h.addr m;exact⟨b,off,e,fun j u f=>o b _ u (hb j u f) (hc u (jX f))⟩⟩
theorem Qa(l:List UInt8):∀u∈cb l,NM u=false:=by
 intro u e;simp only[cb,iu] at e;obtain⟨x,_,rfl⟩:=e;rfl
theorem Bt.ns{w w':World}{a:Option Addr}{n cap:Nat}{l:List UInt8}(h:Bt w a n cap l)(e:Ns w w'):Bt w' a n cap l:=Sl.ns h (Qa l) e
theorem Ly{D:List Dm}{i:Nat}{x:Dm}(hi:i<D.length)(e:D[i]=x)(a:Option Addr)(c:Nat)(H:List Hm):(rows mT D).set (i*2+1) (a,H,c)=rows mT (D.set i ⟨x.g,a,c,H⟩):=
 mJ lJ D ⟨x.g,a,c,H⟩ (a,H,c) 1 (by decide) i hi (by rw[e];unfold mT Dm.v;simp)
structure KW (w wr:World) (base G dc n:Nat) (D0:List Dm) (k:Int) (L:List (List UInt8)) (i:Nat) (D:List Dm):Prop where
 len:D.length=n
 dk:D.map Dm.dk=sP (D0.map Dm.dk) k L i
 own:wr.ownsRow base 63 2 (some (G,gy),n,dc) n (rows mT D)
 held:∀x∈D,wr.ownsRow base 66 2 x.v x.H.length (rows jE x.H)
 bytes:∀x∈D,∀h∈x.H,Bt wr h.a h.b.length h.cap h.b
 only:gU w wr [G]
 ns:Ns w wr
 KZ:∀x∈D,∀h∈x.H,Ty wr h.a h.b.length 5
section
variable {w wr Wz : World} {base G dc n i : Nat} {D0 D : List Dm} {k : Int} {L : List (List UInt8)}
theorem KW.at(h:KW w wr base G dc n D0 k L i D)(j:D0.length=n)(hi:i<n):∃x,D[i]?=some x/\(D0[i]'(by omega)).dk=x.dk:=by
 have f:i<D.length:=by rw[h.len];exact hi
 refine⟨D[i],jz f,?_⟩;have e:=Bz (D0.map Dm.dk) k L i (by simp;omega);rw[<-h.dk,nJ,jz f,rB] at e;exact(kO e).symm
theorem KW.same(h:KW w wr base G dc n D0 k L i D)(f:D0.length=n)(hi:i<n){x:Dm}(m:D[i]?=some x)(j:x.g=true):KW w wr base G dc n D0 k L (i+1) D:=by
 refine⟨h.len,?_,h.own,h.held,h.bytes,h.only,h.ns,h.KZ⟩;obtain⟨o,e,hd⟩:=h.at f hi;rw[m] at e;cases e;rw[h.dk,Db (D0.map Dm.dk) k L i (by simp;omega)];rw[rB,hd];exact kW j
theorem KW.put(h:KW w wr base G dc n D0 k L i D)(h0:D0.length=n)(hi:i<n){x:Dm}(Q:D[i]?=some x)(hg:x.g=false)(hp:((x.H.map Hm.hd).map gE.Hd.jy).Pairwise (·<·)){y:Hm}(hy:y.s=k)(Z:L.getD i []=y.b)(Y:Bt wr y.a y.b.length y.cap y.b)(ab:Ty wr y.a y.b.length 5)
  {a:Option Addr} {m c:Nat} {H:List Hm} (V:OT wr Wz none wr.heap.size 66 2 (a,m,c) m (rows jE H)) (U:H=Nl (G5 k y x.H) y) (E:base<=wr.heap.size):
  KW w (Wz.setCell ⟨G,i*2+1,none⟩ (a,m,c)) base G dc n D0 k L (i+1) (D.set i ⟨x.g,a,c,H⟩):=by
 have hm:H.length=m:=by have:=V.own.1;rw[lz mq] at this;omega
 subst hm;have W:i<D.length:=by rw[h.len];exact hi
 have O:D[i]=x:=by rw[jz W] at Q;exact kO Q
 have P:x∈D:=jX Q;have hb:Below wr wr Wz:=V.im gM (fun k e=>by cases e);have j:=gL h.own hb;have F:Wz.cell? ⟨G,i*2+1,none⟩=some x.v:=by obtain⟨a1,c1,ee,hs⟩:=gK j;cases ee;have:=(pd hs i W).2;rw[O] at this;unfold Dm.v;simpa using this
 have C:Ns wr (Wz.setCell ⟨G,i*2+1,none⟩ (a,H,c)):=(Ns.below hb).trans (Ns.set F _);have f:∀{e:TypeId} {sz n' o:Nat} {v:Value} {xs:List Value},Wz.ownsRow o e sz v n' xs->e≠63->(Wz.setCell ⟨G,i*2+1,none⟩ (a,H,c)).ownsRow o e sz v n' xs:=fun ho X=>ji (a:=⟨G,i*2+1,none⟩) ho (jL j ho (fun e=>X e.symm) rfl) _;refine⟨by rw[kH];exact h.len,?_,?_,fun z B=>?_,fun z B q K=>?_,?_,h.ns.trans C,fun z B q K=>?_⟩
 .obtain⟨x',N,hd⟩:=h.at h0 hi;rw[Q] at N;cases N;rw[tY,h.dk,<-rN (D0.map Dm.dk) k L i (by simp;omega),rB,hd,Z];congr 1;refine(zZ (y:=⟨x.g,a,c,H⟩) hg rfl ?_).symm;rw[<-PO hy hp,U]
 .exact jQ j (i*2+1) _ (Ly W O a c H) (by omega)
 .rcases lH B with B|rfl
  .exact f (gL (h.held z B) hb) (by decide)
  .exact f (hJ V.own E) (by decide)
 .rcases lH B with B|rfl
  .exact(h.bytes z B q K).ns C
  .have r:q∈H:=K;rw[U] at r;rcases JD q r with S|rfl
   .exact(h.bytes x P q S).ns C
   .exact Y.ns C
 .exact(h.only.below hb).setCell (a:=⟨G,i*2+1,none⟩) (.inl (by simp)) _
 .obtain⟨ad,I,-⟩:=js j;rcases lH B with B|rfl
  .exact((h.KZ z B q K).below hb).setCell I _
  .have r:q∈H:=K;rw[U] at r;rcases JD q r with S|rfl
   .exact((h.KZ x P q S).below hb).setCell I _
   .exact(ab.below hb).setCell I _
end
theorem zr(p G dc base:Nat)(x0 x1 x2 x4 x5 x6 x7 x8:Value)(D0:List Dm)(k:Int)(la:Option Addr)(n lc:Nat)(R:List Rw)(w:World)(hp:w.heap[p]?=some (.cells #[x0,x1,x2,(some (G,gy),n,dc),x4,x5,x6,x7,x8] 32))
  (hl:D0.length=n) (ho:w.ownsRow base 63 2 (some (G,gy),n,dc) n (rows mT D0)) (hh:∀x∈D0,w.ownsRow base 66 2 x.v x.H.length (rows jE x.H)) (hy:∀x∈D0,∀h∈x.H,Bt w h.a h.b.length h.cap h.b)
  (ax:base<=w.heap.size) (aU:∀x∈D0,∀h∈x.H,Ty w h.a h.b.length 5) (aJ:∀r∈R,Ty w r.a r.n 5) (hR:Ms w la n lc R) (aI:w.ownsRow base 64 1 (la,n,lc) n (iv R)) (hn:n<=100) (hH:∀x∈D0,x.H.length<=1000) (hP:∀x∈D0,((x.H.map Hm.hd).map gE.Hd.jy).Pairwise (·<·)):
  Calls prog 33 #[(p,gy),k,(la,n,lc)] w fun e w'=>e=.returned (.tuple #[])/\∃D,KW w w' base G dc n D0 k (gz R) n D:=by
 have aY:=gx hp;have HI:=gx (show KW w w base G dc n D0 k (gz R) 0 D0 from⟨hl,(Dc _ _ _).symm,ho,hh,hy,gU.refl _ _,Ns.refl _,aU⟩);have a2:=gx aJ;have aW:=gx hR;have aG:=gx aI;have HL:=gx hl;have aV:=gx hH;have a3:=gx hP;have a0:=gx hR.jO;have aP:p≠G:=fun e=>gP ho hp (by decide) (by rw[e];rfl);have aZ:=gx aP;have c3:w.cell? (p,jF)=some (.slice (some (G,gy)) n dc):=gw hp;have a4:=gx (show∀wr,gU w wr [G]->Ns w wr->wr.heap[p]?=some (.cells #[x0,x1,x2,(some (G,gy),n,dc),x4,x5,x6,x7,x8] 32)/\Ms wr la n lc R/\∀r∈R,Ty wr r.a r.n 5 from fun wr S h2=>⟨S.jJ aY (by simpa using aZ.out),⟨by
   obtain⟨a1,c1,ee,f⟩:=gK (S.own aG (fun q hq e=>by
    obtain rfl:q=G:=by simpa using hq
    exact jL ho aG (by decide) rfl e))
   cases ee;exact f,fun r hr=>(aW.row r hr).ns h2⟩,fun r hr=>(a2 r hr).only S (fun B hB=>by
   obtain rfl:B=G:=by simpa using hB
   obtain⟨bh,a6,-⟩:=js ho;exact⟨_,_,a6,by decide⟩)⟩)
 clear hp ho hh hy hR aI hl hH hP aP aU aJ;go_enter func33,ntmps33;go_wp2_with fail;clear c3;go_loopg[17] n (fun gg bf wr=>∃(i:Nat) (D:List Dm),gg=n-i/\i<=n/\bf=.int .i64 (i:Int)/\KW w wr base G dc n D0 k (gz R) i D);case atStart=>exact⟨0,D0,rfl,by omega,rfl,HI⟩
 case round=>
  obtain⟨i,D,rfl,hi,rfl,hI⟩:=hrel;obtain⟨wo,rfl⟩:∃wo:World,wo=wr:=⟨_,rfl⟩;have Y:=gx hI;have aK:base<=wo.heap.size:=jY ax hI.only.size;clear hI;by_cases ad:i<n
  .obtain⟨x,hx,aS⟩:=Y.at HL ad;have aL:i<D.length:=by rw[Y.out.len];exact ad
   have aT:D[i]=x:=by rw[jz aL] at hx;exact kO hx
   have aA:x∈D:=jX hx;have af:D0[i]'(by have:=HL.out;omega)∈D0:=iE _;have az:x.H.map Hm.hd=(D0[i]'(by have:=HL.out;omega)).H.map Hm.hd:=by have:=congrArg gE.Dk.bl aS;exact this.symm
   have a7:x.H.length<=1000:=by have S:=congrArg List.length az;have h2:=aV _ af;simp only[iz] at S;omega
   have ay:=gx (show((x.H.map Hm.hd).map gE.Hd.jy).Pairwise (·<·) by rw[az];exact a3 _ af);have F:=Y.own;obtain⟨a1,c1,ee,f⟩:=gK F;cases ee;obtain⟨e0,e1⟩:=pd f i aL;rw[aT] at e0 e1;simp only[jk] at e0 e1;have X:=a4 wo Y.only Y.ns;have c3:wo.cell? (p,jF)=some (.slice (some (G,gy)) n dc):=gw X.1;have i0:(0:Int)<=(i:Int):=by omega
   have i1:(i:Int)<(n:Int):=by omega
   have HX:=gx hx;have ah:=gK (Y.held x aA);have a5:=gx (Y.bytes x aA);have aE:=gx X.2.1;have aX:=gx X.2.2;clear f F aS aT az af X hx aA;obtain⟨xg,xa,xc,I⟩:=x;simp only at e0 e1 a7 ay a5 ah;obtain⟨bo,bp,ee,aq⟩:=ah;cases ee;replace aq:=gx aq;cases xg with
   |true=>
    go_wp2_with fail;go_roundg (n-(i+1));case measure=>omega
    case rel=>exact⟨i+1,D,rfl,by omega,by go_num,Y.same HL ad HX rfl⟩
   |false=>
    have aj:=gx e1;go_wp2_with fail;clear e0 e1 c3;have aM:i<R.length:=by rw[a0.out];exact ad
    obtain⟨lb,lo,rfl,-⟩:=aE.sl.addr (by omega);have ae:=(aE.at i aM);have ap:=aX R[i] (iE _);obtain⟨r,hr⟩:∃r,r=R[i]:=⟨_,rfl⟩;rw[<-hr] at ae ap;have aQ:=Bt.n ae.2;have au:=gx (show(gz R).getD i []=r.l by rw[hr];simp[gz,List.getD,aM]);clear hr;obtain⟨m,rn,o,C⟩:=r;simp only at aQ ae au ap;subst aQ;have aD:=gx ap;have ak:=gx ae.1;have aC:=gx ae.2;clear ae ap;go_loopg[35,8,9] I.length (fun gg bg s8 s9 wr=>∃(j:Nat) (O:List Hm) (dn:Bool) (oa:Option Addr) (oc:Nat),gg=I.length-j/\j<=I.length/\bg=.int .i64 (j:Int)/\s8=.slice oa O.length oc/\s9=.bool dn/\Hid ((O,dn)=G5 k ⟨k,m,o,C⟩ (I.take j))/\OT wo wr none wo.heap.size 66 2 (oa,O,oc) O.length (rows jE O));case atStart=>exact⟨0,[],false,none,0,rfl,by omega,rfl,rfl,rfl,gx rfl,OT.fresh (iY _ _ _ _) gZ gM⟩
    case round=>
     obtain⟨j,O,dn,oa,oc,rfl,hj,rfl,rfl,rfl,HO,aw⟩:=hrel;obtain⟨W,rfl⟩:∃W:World,W=wr:=⟨_,rfl⟩;have al:=gx aw;have bi:=gx (aw.im gM (fun k e=>by cases e));clear aw;have aR:=bi.size;have bk:O.length<=2*j:=by have S:=JE k ⟨k,m,o,C⟩ I j hj;rw[<-HO.out] at S;exact S
     by_cases ar:j<I.length
     .obtain⟨xb,xo,rfl,-⟩:=aq.addr (by omega);obtain⟨e0,e1⟩:=qA (aq.below bi) j ar;have ai:=gx (Bx k ⟨k,m,o,C⟩ I j ar);generalize I[j]=h at e0 e1 ai;obtain⟨f,E,hc,hb⟩:=h;simp only at e0 e1;have Q:=gx (ai.trans (by rw[<-HO.out]));clear ai;have i0:(0:Int)<=(j:Int):=by omega
      have i1:(j:Int)<(I.length:Int):=by omega
      have i2:(0:Int)<=(i:Int):=by omega
      have i3:(i:Int)<(n:Int):=by omega
      have ag:=gO W (.cells #[f,(E,hb,hc)] 66);have ao:=gx ((iU W.heap.size W).alloc gM (.cells #[f,(E,hb,hc)] 66));go_upto_region 10 with(fail);obtain⟨U,hU⟩:∃U,U=W.alloc (.cells #[f,(E,hb,hc)] 66):=⟨_,rfl⟩;rw[<-hU] at ag ao⊢;clear hU e0 e1;have bm:=gx (iq ag);have aH:=gx ag;have P:=gx (al.below ao);have aO:=gx (show(Value.slice oa O.length oc).ownBlock≠some W.heap.size from fun e=>oP _ (al.own.lt _ e).2);have aN:U.cell? (lb,lo+i)=some (.slice m C.length o):=((bi.trans (ao.mono aR)).cell (p:=⟨lb,_,none⟩) (iM _ _ ak)).trans ak;have bn:wo.heap.size<=U.heap.size:=jY aR ao.size;obtain⟨u0,u1⟩:=lv ag;clear ag;by_cases S:f<k
      .have t1:¬k<=f:=by omega
       have t2:¬f=k:=by omega
       have t3:(f !=k)=true:=ij.2 t2;have HT:=gx (show zB k ⟨k,m,o,C⟩ (O,dn) ⟨f,E,hc,hb⟩=(O++[⟨f,E,hc,hb⟩],dn) by unfold zB;simp[t1,t2]);replace S:=gx S;replace t2:=gx t2;go_wp2_with (at_builtin;refine wpList_append_t rfl (.tmp 60) (.tmp 62) 61 61 rfl wo.heap.size 66 2 32 (.agg #[gy,()]) underlying61 lQ rfl (by decide) (oa,O,oc) O.length (rows jE O) rfl (OT.alloc P _) (some (U,gy),ia,ia) 1 (jE ⟨f,E,hc,hb⟩) rfl (Src.mr U #[.int .i64 f,.slice E hb.length hc] 66 1 2 underlying61 rfl (by simp[Value.oneCell'])) (by unfold maxLen;omega) (by omega) (by first|omega|(simp;omega)) ?_;intro v5 w5 V g5;obtain⟨K,N,rfl,-⟩:=gK V.own;skip);go_roundg (I.length-(j+1));case measure=>omega
       case rel=>exact⟨j+1,O++[⟨f,E,hc,hb⟩],dn,K,N,rfl,by omega,by go_num,by rw[iH];rfl,rfl,gx (by rw[Q.out,HT.out]),by rw[iH,kh];exact V⟩
      .by_cases h2:f=k
       .subst h2;have t1:f<=f:=Int.le_refl _;have t3:(f !=f)=false:=by simp
        cases dn with
        |true=>
         have HT:=gx (show zB f ⟨f,m,o,C⟩ (O,true) ⟨f,E,hc,hb⟩=(O,true) by unfold zB;simp);replace S:=gx S;go_wp2_with fail;go_roundg (I.length-(j+1));case measure=>omega
         case rel=>exact⟨j+1,O,true,oa,oc,rfl,by omega,by go_num,rfl,rfl,gx (by rw[Q.out,HT.out]),P⟩
        |false=>
         have HT:=gx (show zB f ⟨f,m,o,C⟩ (O,false) ⟨f,E,hc,hb⟩=(O++[⟨f,m,o,C⟩],true) by unfold zB;simp);replace S:=gx S;go_wp2_with (at_builtin;refine wpList_append_t rfl (.tmp 47) (.tmp 54) 61 61 rfl wo.heap.size 66 2 32 (.agg #[gy,()]) underlying61 lQ rfl (by decide) (oa,O,oc) O.length (rows jE O) rfl (OT.alloc P _) (some (U,gy),ia,ia) 1 (jE ⟨f,m,o,C⟩) rfl (Src.mr U #[.int .i64 f,.slice m C.length o] 66 1 2 underlying61 rfl (by simp[Value.oneCell'])) (by unfold maxLen;omega) (by omega) (by first|omega|(simp;omega)) ?_;intro v5 w5 V g5;obtain⟨K,N,rfl,-⟩:=gK V.own;have u5:=wH g5 aO (gF aH);have a8:w5.cell? (W,gy)=some (.int .i64 f):=(gw u5);have a9:w5.cell? (W,ia)=some (.slice E hb.length hc):=(gw u5));go_roundg (I.length-(j+1));case measure=>omega
         case rel=>exact⟨j+1,O++[⟨f,m,o,C⟩],true,K,N,rfl,by omega,by go_num,by rw[iH];rfl,rfl,gx (by rw[Q.out,HT.out]),by rw[iH,kh];exact V⟩
       .have t1:k<=f:=by omega
        have t3:(f !=k)=true:=ij.2 h2;have Z:=h2;replace S:=gx S;replace h2:=gx h2;cases dn with
        |true=>
         have HT:=gx (show zB k ⟨k,m,o,C⟩ (O,true) ⟨f,E,hc,hb⟩=(O++[⟨f,E,hc,hb⟩],true) by unfold zB;simp[Z]);replace Z:=gx Z;go_wp2_with (at_builtin;refine wpList_append_t rfl (.tmp 60) (.tmp 62) 61 61 rfl wo.heap.size 66 2 32 (.agg #[gy,()]) underlying61 lQ rfl (by decide) (oa,O,oc) O.length (rows jE O) rfl (OT.alloc P _) (some (U,gy),ia,ia) 1 (jE ⟨f,E,hc,hb⟩) rfl (Src.mr U #[.int .i64 f,.slice E hb.length hc] 66 1 2 underlying61 rfl (by simp[Value.oneCell'])) (by unfold maxLen;omega) (by omega) (by first|omega|(simp;omega)) ?_;intro v5 w5 V g5;obtain⟨K,N,rfl,-⟩:=gK V.own;skip);go_roundg (I.length-(j+1));case measure=>omega
         case rel=>exact⟨j+1,O++[⟨f,E,hc,hb⟩],true,K,N,rfl,by omega,by go_num,by rw[iH];rfl,rfl,gx (by rw[Q.out,HT.out]),by rw[iH,kh];exact V⟩
        |false=>
         have HT:=gx (show zB k ⟨k,m,o,C⟩ (O,false) ⟨f,E,hc,hb⟩=(O++[⟨k,m,o,C⟩]++[⟨f,E,hc,hb⟩],true) by unfold zB;simp[Z,t1]);replace Z:=gx Z;go_upto_region 13 with(at_builtin;refine wpList_append_t rfl (.tmp 47) (.tmp 54) 61 61 rfl wo.heap.size 66 2 32 (.agg #[gy,()]) underlying61 lQ rfl (by decide) (oa,O,oc) O.length (rows jE O) rfl (OT.alloc P _) (some (U,gy),ia,ia) 1 (jE ⟨k,m,o,C⟩) rfl (Src.mr U #[.int .i64 k,.slice m C.length o] 66 1 2 underlying61 rfl (by simp[Value.oneCell'])) (by unfold maxLen;omega) (by omega) (by first|omega|(simp;omega)) ?_;intro v5 w5 V g5;obtain⟨K,N,rfl,-⟩:=gK V.own;have u5:=wH g5 aO (gF aH);have a8:w5.cell? (W,gy)=some (.int .i64 f):=(gw u5);have a9:w5.cell? (W,ia)=some (.slice E hb.length hc):=(gw u5));have aF:=gx (show OT wo w5 none wo.heap.size 66 2 (K,(O.length+1),N) (O.length+1) (rows jE (O++[⟨k,m,o,C⟩])) by rw[kh];exact V);have bj:wo.heap.size<=w5.heap.size:=aF.grown.size;clear V g5 u5 u0 u1 aN;go_wp2_with (at_builtin;refine wpList_append_t rfl (.tmp 60) (.tmp 62) 61 61 rfl wo.heap.size 66 2 32 (.agg #[gy,()]) underlying61 lQ rfl (by decide) (K,(O.length+1),N) (O.length+1) (rows jE (O++[⟨k,m,o,C⟩])) rfl (OT.alloc aF _) (some (w5,gy),ia,ia) 1 (jE ⟨f,E,hc,hb⟩) rfl (Src.mr w5 #[.int .i64 f,.slice E hb.length hc] 66 1 2 underlying61 rfl (by simp[Value.oneCell'])) (by unfold maxLen;omega) (by omega) (by first|omega|(simp;omega)) ?_;intro v6 w6 o6 g6;obtain⟨bc,bd,rfl,-⟩:=gK o6.own);go_roundg (I.length-(j+1));case measure=>omega
         case rel=>exact⟨j+1,O++[⟨k,m,o,C⟩]++[⟨f,E,hc,hb⟩],true,bc,bd,rfl,by omega,by go_num,by rw[iH,iH];rfl,rfl,gx (by rw[Q.out,HT.out]),by rw[iH,kh,iH];exact o6⟩
     .obtain rfl:j=I.length:=by omega
      have ab:(O,dn)=G5 k ⟨k,m,o,C⟩ I:=by rw[HO.out,sE]
      have e1:W.cell? ⟨G,i*2+1,none⟩=some (.slice xa I.length xc):=(bi.cell (p:=⟨G,_,none⟩) (iM _ _ aj)).trans aj;have aN:W.cell? (lb,lo+i)=some (.slice m C.length o):=(bi.cell (p:=⟨lb,_,none⟩) (iM _ _ ak)).trans ak;have F:=gL Y.own bi;have fz:∀q,W.frozen? ⟨G,q,none⟩=false:=fun q=>F.frozenAt q;have i0:(0:Int)<=(i:Int):=by omega
      have i1:(i:Int)<(n:Int):=by omega
      cases dn with
      |true=>
       have HH:=gx (show O=Nl (G5 k ⟨k,m,o,C⟩ I) ⟨k,m,o,C⟩ by rw[<-ab];rfl);replace ab:=gx ab;clear F;go_wp2_with fail;go_roundg (n-(i+1));case measure=>omega
       case rel=>exact⟨i+1,_,rfl,by omega,by go_num,Y.put HL ad HX rfl ay (y:=⟨k,m,o,C⟩) rfl au aC aD al HH aK⟩
      |false=>
       have HH:=gx (show O++[⟨k,m,o,C⟩]=Nl (G5 k ⟨k,m,o,C⟩ I) ⟨k,m,o,C⟩ by rw[<-ab];rfl);replace ab:=gx ab;clear F;have aB:=gx (show∀w5,Below wo wo w5->(∀q,w5.frozen? ⟨G,q,none⟩=false)/\w5.cell? ⟨G,i*2+1,none⟩=some (.slice xa I.length xc) from fun w5 h=>⟨fun q=>(gL Y.own h).frozenAt q,(h.cell (p:=⟨G,_,none⟩) (iM _ _ aj)).trans aj⟩);go_wp2_with (at_builtin;refine wpList_append_t rfl (.tmp 67) (.tmp 74) 61 61 rfl wo.heap.size 66 2 32 (.agg #[gy,()]) underlying61 lQ rfl (by decide) (oa,O,oc) O.length (rows jE O) rfl (OT.alloc al _) (some (W,gy),ia,ia) 1 (jE ⟨k,m,o,C⟩) rfl (Src.mr W #[.int .i64 k,.slice m C.length o] 66 1 2 underlying61 rfl (by simp[Value.oneCell'])) (by unfold maxLen;omega) (by omega) (by first|omega|(simp;omega)) ?_;intro v5 w5 V g5;obtain⟨K,N,rfl,-⟩:=gK V.own;have b5:=V.im gM (fun k e=>by cases e);have f5:=(aB w5 b5).1;have c5:=(aB w5 b5).2);go_roundg (n-(i+1));case measure=>omega
       case rel=>exact⟨i+1,_,rfl,by omega,by go_num,Y.put HL ad HX rfl ay (y:=⟨k,m,o,C⟩) rfl au aC aD (by rw[kh];exact V) HH aK⟩
  .obtain rfl:i=n:=by omega
   go_wp2_with fail;go_end0;exact⟨rfl,D,Y⟩
end Go.Proofs.YthhcdfjijagalaaGreat

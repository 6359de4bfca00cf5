import Derived.Test.YthhcdfjijagalaaGreatM29
set_option linter.all false
set_option maxHeartbeats 8000000
set_option maxRecDepth 100000
namespace Go.Proofs.YthhcdfjijagalaaGreat
open Qz Go.Proofs.Tryz Go.RowKit
def sP(e:List gE.Dk)(k:Int)(L:List (List UInt8))(i:Nat):List gE.Dk:=(List.range e.length).map fun j=>if j<i then gE.uZ (e.getD j ⟨false,[]⟩) k (L.getD j []) else e.getD j ⟨false,[]⟩
theorem Dc(e:List gE.Dk)(k:Int)(L:List (List UInt8)):sP e k L 0=e:=by
 refine mW (by simp[sP]) (fun j h f=>?_);simp[sP,List.getD,f]
theorem By(e:List gE.Dk)(k:Int)(L:List (List UInt8)):sP e k L e.length=gE.write e k L:=by
 refine mW (by simp[sP,gE.write]) (fun j f m=>?_);have h:j<e.length:=by simpa[sP] using f
 simp[sP,gE.write,h]
theorem Bz(e:List gE.Dk)(k:Int)(L:List (List UInt8))(i:Nat)(hi:i<e.length):(sP e k L i)[i]?=some e[i]:=by
 simp[sP,hi,List.getD]
theorem rN(f:List gE.Dk)(k:Int)(L:List (List UInt8))(i:Nat)(hi:i<f.length):(sP f k L i).set i (gE.uZ f[i] k (L.getD i []))=sP f k L (i+1):=by
 refine mW (by simp[sP]) (fun j o m=>?_);have q:j<f.length:=by simpa[sP] using m
 rw[yE];by_cases e:i=j;·subst e;simp[sP,List.getD,hi]
 .rw[gC e];simp only[sP,rB,yA];by_cases h:j<i;·rw[gG h,gG (by omega)]
  .rw[gC h,gC (by omega)]
theorem Db(f:List gE.Dk)(k:Int)(L:List (List UInt8))(i:Nat)(hi:i<f.length)(h:gE.uZ f[i] k (L.getD i [])=f[i]):sP f k L i=sP f k L (i+1):=by
 rw[<-rN f k L i hi,h];refine mW (by simp) (fun j m o=>?_);rw[yE];split
 .next e=>
  subst e;have:=Bz f k L i hi;rw[jz m] at this;exact kO this
 .rfl
theorem tY(D:List Dm)(i:Nat)(y:Dm):(D.set i y).map Dm.dk=(D.map Dm.dk).set i y.dk:=by simp[nz]
theorem xD(base p:Nat)(m:ig)(k:Int)(w:World)(la:Option Addr)(n lc lb:Nat)(R:List Rw)(h:nN w base p m)(hL:BN w lb la n lc R)(hn:m.D.length=n)(bY:n<=12)(bg:∀r∈R,r.n<=1000000)(hH:∀x∈m.D,x.H.length<=1000):
  Calls prog 53 #[(p,gy),k,(la,n,lc)] w fun e w'=>e=.returned (.tuple #[])/\∃D',nN w' base p {m with D:=D'}/\D'.map Dm.dk=gE.write (m.D.map Dm.dk) k (gz R)/\Kd w w'/\Below base w w':=by
 have bB:R.length=n:=by have:=hL.1.1;rw[oq] at this;omega
 obtain⟨da,dc,a9,-⟩:=gK h.ng;have aW:base<=w.heap.size:=jY h.le (pp h.lt);have HS:=gx (h.alloc (.cells #[k] 3));have HB:=gx (gO w (.cells #[k] 3));have HW:=gx ((iU w.heap.size w).alloc gM (.cells #[k] 3));have a4:=gx (gL hL.1 HW);have a6:=gx (fun r (hr:r∈R)=>gL (hL.2 r hr) HW);have b3:(w.alloc (.cells #[k] 3)).cell? (p,jF)=some (.slice da n dc):=by have:=gw (i:=3) (h.alloc (.cells #[k] 3)).box;change _=some m.dv at this;rw[this,a9,hn]
 rw[hn] at a9;have ah:=gx a9;have HN:=gx hn;have bK:=gx hH;have bk:=gx bB;have bi:=gx bg;clear a9 hL h hn hH bB bg;go_enter func53,ntmps53;go_wp2_with fail;obtain⟨wb,bq⟩:∃wb,wb=w.alloc (.cells #[k] 3):=⟨_,rfl⟩;rw[<-bq] at HS HB HW a4 a6 b3⊢;have bU:w.heap.size<wb.heap.size:=by rw[bq];simp
 obtain⟨B,hB⟩:∃B,B=w.heap.size:=⟨_,rfl⟩;rw[<-hB] at HB⊢;replace hB:=gx hB;clear bq;go_wp2_with fail;go_loopg[15] n (fun gg bX wr=>∃(i:Nat) (D:List Dm),gg=n-i/\i<=n/\bX=.int .i64 (i:Int)/\Hid (nN wr base p {m with D:=D})/\Hid (Kd wb wr)/\Hid (Below base wb wr)/\Hid (D.length=n)/\Hid (D.map Dm.dk=sP (m.D.map Dm.dk) k (gz R) i));case atStart=>exact⟨0,m.D,rfl,by omega,rfl,HS,gx (Kd.refl _),gx gZ,HN,gx (Dc _ _ _).symm⟩
 case round=>
  obtain⟨i,D,rfl,hi,rfl,HX,HK,a3,N,aN⟩:=hrel;obtain⟨wo,rfl⟩:∃wo:World,wo=wr:=⟨_,rfl⟩;by_cases a0:i<n
  .have aB:i<D.length:=by rw[N.out];exact a0
   have aZ:i<(m.D.map Dm.dk).length:=by rw[iz,HN.out];exact a0
   obtain⟨bN,bO,e',bc⟩:=gK HX.ng;have e':m.dv=.slice bN D.length bO:=e';rw[ah.out,N.out] at e';cases e';change Sl wo 2 da D.length dc (rows mT D) at bc;rw[N.out] at bc;have bF:=jR HX.ng (show 0<D.length by omega);obtain⟨gd,cp,e',bE,b4,b5,b7⟩:=bF;have e':m.dv=.slice (some (gd,gy)) D.length cp:=e';rw[ah.out,N.out] at e';cases e';obtain⟨e0,X⟩:=pd bc i aB;simp only[jk] at e0 X;have c3:wo.cell? (p,jF)=some (.slice (some (gd,gy)) n dc):=by have:=gw (i:=3) HX.box;change _=some m.dv at this;rw[this,ah.out]
   have i0:(0:Int)<=(i:Int):=by omega
   have i1:(i:Int)<(n:Int):=by omega
   have bQ:=gx (HK.block B _ 3 HB (by decide));have ay:D[i].dk=(m.D.map Dm.dk)[i]:=by have h1:=Bz (m.D.map Dm.dk) k (gz R) i aZ;rw[<-aN.out,nJ,jz aB] at h1;exact kO h1
   have aM:D[i].H.length<=1000:=by have h1:=congrArg (fun d:gE.Dk=>d.bl.length) ay;simp only[rB,Dm.dk,iz] at h1;rw[h1];exact bK _ (iE _)
   have br:D[i]?=some D[i]:=jz aB;have bd:D[i]∈D:=iE aB;have bA:=gx (HX.held _ bd);obtain⟨x,hx⟩:∃x,x=D[i]:=⟨_,rfl⟩;rw[<-hx] at e0 X ay aM br bd bA;replace hx:=gx hx;replace bd:=gx bd;replace ay:=gx ay;have aG:=gx br;clear br bc;obtain⟨g,xa,xc,H⟩:=x;simp only at e0 X aM;cases g with
   |true=>
    go_wp2_with fail;go_roundg (n-(i+1));case measure=>omega
    case rel=>exact⟨i+1,D,rfl,by omega,by go_num,HX,HK,a3,N,gx (aN.trans (Db _ _ _ _ aZ (by rw[<-ay.out];exact kW rfl)))⟩
   |false=>
    obtain⟨a',C,e',F⟩:=gK bA;simp only[Dm.v,kx,kI] at e';obtain⟨rfl,rfl⟩:=e';change Sl wo 2 xa H.length xc (rows jE H) at F;have DI:=gx (Eb xa H.length xc H B k wo F (gw bQ));clear F;go_wp2_with fail;go_at_call 48;refine(DI).mono ?_;rintro e w1⟨b1,hf⟩;have X1:=gx (HX.below b1);have K1:=gx (HK.trans (Kd.below b1));have bZ:=b1.size;have bR:base<=wo.heap.size:=jY aW (jY (pp bU) a3.size);have bw:=gx (a3.trans (b1.mono bR));clear DI e0 X;rcases hf with⟨a,ha,rfl,aU,a7⟩|⟨rfl,bp⟩
    .have HF:=gx (ur ha aU a7);have bG:=gx (fun y (hy:y.s=H[a].s)=>(Kj (b:=y.b) HF).trans (Ey H k y a ha aU (hy.trans aU) a7));replace aU:=gx aU;replace a7:=gx a7;have I:=X1.held _ (jX aG);obtain⟨hb,ca,e',q1,q2,q3,q4⟩:=jR I (by show 0<H.length;omega);simp only[Dm.v,kx,kI] at e';obtain⟨rfl,rfl⟩:=e';have ak:=K1.own a4 (by decide);obtain⟨lg,cl,e',-,-,-,-⟩:=jR ak (by omega);simp only[kx,kI] at e';obtain⟨rfl,rfl⟩:=e';obtain⟨a',C,e',aF⟩:=gK ak;cases e';have ae:i<R.length:=by rw[bk.out];exact a0
     have l0:w1.cell? (lg,i)=some (.slice R[i].a R[i].n R[i].cap):=by have:=aF.cell (by omega) (qO R i ae);rwa[jk] at this
     have al:=K1.own (a6 _ (iE ae)) (by decide);have aE:=bi _ (iE ae);have G:=gx (ki ae);have f:=fun(U:Option Addr) (W:Nat)=>(fun L=>(zZ (x:=⟨false,some (hb,gy),xc,H⟩) (y:=⟨false,some (hb,gy),xc,H.set a ⟨H[a].s,U,W,L⟩⟩) (k:=k) (b:=L) rfl rfl (bG ⟨H[a].s,U,W,L⟩ rfl)).symm.trans (by rw[ay.out])) ((gz R).getD i []);rw[G.out] at f;obtain⟨r,hr⟩:∃r,r=R[i]:=⟨_,rfl⟩;rw[<-hr] at l0 al aE f;have au:=gx (G.trans (congrArg Rw.l hr.symm));clear G hr;obtain⟨ra,rn,rc,O⟩:=r;obtain⟨a',C,e',ab⟩:=gK al;simp only[Rw.v,kx,kI] at e';obtain⟨rfl,rfl⟩:=e';change Sl w1 1 ra rn rc (cb O) at ab;obtain rfl:O.length=rn:=Bt.n ab;simp only at l0 aE f au;obtain⟨a',C,e',F⟩:=gK I;simp only[Dm.v,kx,kI] at e';obtain⟨rfl,rfl⟩:=e';change Sl w1 2 (some (hb,gy)) H.length xc (rows jE H) at F;obtain⟨y0,y1⟩:=qA F a ha;simp only[jk] at y0 y1;obtain⟨a',C,e',Y⟩:=gK X1.ng;have e':m.dv=.slice a' D.length C:=e';have aS:D.length=n:=by first|exact N|(rw[kH];exact N)
     rw[ah.out,aS] at e';cases e';change Sl w1 2 (some (gd,gy)) D.length dc (rows mT D) at Y;have ag:i<D.length:=by omega
     obtain⟨e0,X⟩:=pd Y i ag;have aj:D[i]=⟨false,some (hb,gy),xc,H⟩:=by have:=aG.out;rw[jz ag] at this;exact kO this
     rw[aj] at e0 X;simp only[jk] at e0 X;obtain⟨bf,ao,-⟩:=js I;have ff:∀j,w1.frozen? ⟨hb,j,none⟩=false:=fun j=>gA ao;have aA:hb<w1.heap.size:=iq ao;have az:gd<w1.heap.size:=iM _ _ X;have aC:lg<w1.heap.size:=iM _ _ l0;have DC:=gx (show∀V,Below w1 w1 V->Calls prog 81 #[(ra,O,rc)] V (fun e w'=>∃U W,e=.returned (.slice U O.length W)/\Below w1 w1 w'/\w'.ownsRow w1.heap.size 5 1 (.slice U O.length W) O.length (cb O)/\w'.cell? ⟨gd,i*2+1,none⟩=some (.slice (some (hb,gy)) H.length xc)/\w'.cell? ⟨hb,a*2+1,none⟩=some (.slice H[a].a H[a].b.length H[a].cap)/\(∀j,w'.frozen? ⟨hb,j,none⟩=false)/\w'.cell? (lg,i)=some (.slice ra O.length rc)) from fun V hV=>
      (ma ra O.length rc O V (ab.below hV) (by omega)).mono fun e w'⟨v,h1,h2,h3⟩=>by obtain⟨U,W,rfl,-⟩:=gK h3;have Q:=gH hV h2;exact⟨U,W,h1,Q,hJ h3 hV.size,(Q.cell (p:=⟨gd,_,none⟩) az).trans X,(Q.cell (p:=⟨hb,_,none⟩) aA).trans y1,fun j=>(Q.frozen (p:=(hb,j)) aA).trans (ff j),(Q.cell (p:=⟨lg,_,none⟩) aC).trans l0⟩)
     have bu:(0:Int)<=(a:Int):=by omega
     have aL:(a:Int)<(H.length:Int):=by omega
     have aT:(H.length:Int)<2000:=by omega
     have K:base<=w1.heap.size:=by omega
     replace f:=gx f;clear I ak aF al ab F Y ao aj y0 e0;go_wp2_with fail;go_region_law (first
      |(go_simp;go_at_call 81;refine(DC _ ?_).mono ?_;(repeat (first|assumption|exact iU _ _|refine below_drewN ?_ _|refine iV ?_));rintro e w6⟨U,W,rfl,b6,o6,z1,z2,z3,z4⟩))
     all_goals
      have aD:=X1.AW i a _ aG ha b6 U W O o6 K hb rfl;have ax:Below base w1 (w6.setCell ⟨hb,a*2+1,none⟩ (U,O,W)):=(b6.mono K).setCell q1 _;have aw:=gx aD;have aP:=gx ax;clear aD ax DC z1 z2 z3 z4 b6 o6 X y1 l0;go_wp2_with fail;go_roundg (n-(i+1));case measure=>omega
      case rel=>
       refine⟨i+1,_,rfl,by omega,by go_num,gx aw.1,gx (K1.trans aw.2),gx (bw.trans aP),gx (by simp only[kH];exact N),gx ?_⟩;try simp only[List.set_set]
       try rw[tY,aN.out,<-rN _ _ _ _ aZ,au.out,f.out U W]
    .have HF:=gx (uq bp);replace bp:=gx bp;have bP:(H.length:Int)<=1000:=by omega
     go_wp2_with fail;go_loopg[8] H.length (fun gg s8 wr=>∃a:Nat,gg=H.length-a/\a<=H.length/\s8=.int .i64 (a:Int)/\Hid (Below w1 w1 wr)/\Hid (∀j (h:j<H.length),j<a->H[j].s<k));case atStart=>exact⟨0,rfl,by omega,rfl,gx gZ,gx (fun j h hj=>absurd hj (by omega))⟩
     case round=>
      obtain⟨a,rfl,ha,rfl,aQ,HJ⟩:=hrel;obtain⟨wx,rfl⟩:∃wx:World,wx=wr:=⟨_,rfl⟩;have X2:=gx (X1.below aQ);have K2:=gx (K1.trans (Kd.below aQ));have b0:=aQ.size;have bD:base<=w1.heap.size:=by omega
      have a2:=gx (bw.trans (aQ.mono bD));obtain⟨a',C,e',Y⟩:=gK X2.ng;have e':m.dv=.slice a' D.length C:=e';rw[ah.out,N.out] at e';cases e';change Sl wx 2 (some (gd,gy)) D.length dc (rows mT D) at Y;obtain⟨e0,X⟩:=pd Y i aB;have aj:D[i]=⟨false,xa,xc,H⟩:=by have:=aG.out;rw[jz aB] at this;exact kO this
      rw[aj] at e0 X;simp only[jk] at e0 X;have ap:=gx (X2.held _ (jX aG));have kB:wx.cell? (B,gy)=some (.int .i64 k):=gw (K2.block B _ 3 HB (by decide));have bu:(0:Int)<=(a:Int):=by omega
      clear Y aj e0;by_cases aH:∃h:a<H.length,H[a].s<k
      .obtain⟨a8,bo⟩:=aH;obtain⟨a',C,e',F⟩:=gK ap;simp only[Dm.v,kx,kI] at e';obtain⟨rfl,rfl⟩:=e';change Sl wx 2 xa H.length xc (rows jE H) at F;obtain⟨hb,ho,rfl,-⟩:=F.addr (by omega);obtain⟨y0,y1⟩:=qA F a a8;have aL:(a:Int)<(H.length:Int):=by omega
       have t1:decide ((a:Int)<(H.length:Int))=true:=kr aL;have t2:decide (H[a].s<k)=true:=kr bo;have bJ:=gx bo;obtain⟨sa,aK⟩:∃sa,sa=H[a].s:=⟨_,rfl⟩;rw[<-aK] at y0 t2 bo;replace aK:=gx aK;clear F y1;go_wp2_with fail;go_quiet (fail);go_wp2_with fail;go_roundg (H.length-(a+1));case measure=>omega
       case rel=>
        refine⟨a+1,rfl,by omega,by go_num,gx (below_drewN aQ _),gx (fun j h hj=>?_)⟩;by_cases e:j=a;·subst e;exact bJ
        .exact HJ j h (by omega)
      .have bj:=gx (show∀h:a<H.length,k<=H[a].s from fun h=>Int.not_lt.1 (fun h2=>aH ⟨h,h2⟩));clear aH;by_cases a8:a<H.length
       .obtain⟨a',C,e',F⟩:=gK ap;simp only[Dm.v,kx,kI] at e';obtain⟨rfl,rfl⟩:=e';change Sl wx 2 xa H.length xc (rows jE H) at F;obtain⟨hb,ho,rfl,-⟩:=F.addr (by omega);obtain⟨y0,y1⟩:=qA F a a8;have aL:(a:Int)<(H.length:Int):=by omega
        have t1:decide ((a:Int)<(H.length:Int))=true:=kr aL;have t2:decide (H[a].s<k)=false:=ju (Int.not_lt.2 (bj a8));obtain⟨sa,aK⟩:∃sa,sa=H[a].s:=⟨_,rfl⟩;rw[<-aK] at y0 t2;replace aK:=gx aK;clear F y1;go_wp2_with fail;go_quiet (fail);clear y0 t1 t2 aL;generalize a1:wx.drewN nq=wz;have bz:Below wx wx wz:=a1▸below_drewN gZ _;clear a1;have X3:=gx (X2.below bz);have K3:=gx (K2.trans (Kd.below bz));have bI:=bz.size;have aO:=gx (a2.trans (bz.mono (by omega)));have P:=gx (show wz.ownsRow base 66 2 (some (hb,ho),H,xc) H.length (rows jE H) from gL ap bz);have bW:=(bz.cell (p:=(B,gy)) (iM _ _ kB)).trans kB;have aq:=(bz.cell (p:=⟨gd,i*2+1,none⟩) (iM _ _ X)).trans X;clear bz X kB X2 K2 a2 ap;have S:=X3.ng;have S:wz.ownsRow base 63 2 m.dv D.length (rows mT D):=S;rw[ah.out,N.out] at S;obtain⟨aR,ad,-⟩:=js S;have aX:(aR.toArray)[i*2+1]?=some (.slice (some (hb,ho)) H.length xc):=by rw[<-gw ad];exact aq
        have f3:∀j,wz.frozen? ⟨gd,j,none⟩=false:=fun j=>gA ad;have DN:=gx (show∀(V:World) (vb:Nat),Below wz wz V->V.heap[vb]?=some (.cells #[k,()] 66)->wz.heap.size<=vb->Calls prog 80 #[(some (hb,ho),H,xc),a,(some (vb,gy),ia,ia)] V (fun e w'=>∃a' c',e=.returned (.slice a' (H.length+1) c')/\OT V w' (Value.slice (some (hb,ho)) H.length xc).ownBlock base 66 2 (.slice a' (H.length+1) c') (H.length+1) (rows jE (H.take a++⟨k,none,0,[]⟩::H.drop a))/\w'.cell? ⟨gd,i*2+1,none⟩=some (.slice (some (hb,ho)) H.length xc)/\(∀j,w'.frozen? ⟨gd,j,none⟩=false)/\Below wz wz V) from fun V vb hV hv bT=>
         (sV (some (hb,ho),H,xc) H.length H a ⟨k,none,0,[]⟩ vb base V (gL P hV) (by have:=hV.size;omega) (by omega) ha (fun e=>by have:=(P.lt vb e).2;omega) hv).mono fun e w'⟨v',h1,h2⟩=>by obtain⟨a',c',rfl,-⟩:=gK h2.own;have aY:=ie (gL P hV) h2.grown (gB ad hV) (by decide);exact⟨a',c',h1,h2,(gw aY).trans aX,fun j=>gA aY,hV⟩)
        have bn:=(ik (o:=.cells #[k,()] 66) (iM _ _ aq)).trans aq;clear S ad aX;go_wp2_with fail;go_region_law (first
         |(go_simp;go_at_call 80;refine(DN _ _ ?b1 ?b2 ?b3).mono ?_;(case b1=>(repeat (first|assumption|exact iU _ _|refine below_drewN ?_ _|refine iV ?_|refine m6 ?_ gM _)));(case b2=>exact gO _ _);(case b3=>exact jb _);rintro e w5⟨a5,c5,rfl,O5,s1,s2,ar⟩))
        all_goals
         obtain⟨bL,bM,bm,X4,K4⟩:=X3.ins i a _ k aG ar O5 ha gd dc (ah.trans (by show _=Value.slice _ D.length _;rw[N.out]));cases bm;have B4:Below base wz (w5.setCell ⟨gd,i*2+1,none⟩ (a5,(H.length+1),c5)):=((ar.mono (by omega)).trans (O5.im (by have:=ar.size;omega) (fun q hq=>(P.lt q hq).1))).setCell bE _;generalize w5.setCell ⟨gd,i*2+1,none⟩ (a5,(H.length+1),c5)=Z at *;have X5:=gx X4;have K5:=gx (K3.trans K4);have bh:=gx (aO.trans B4);have bH:=K4.size;obtain⟨E,af⟩:∃E,E=H.take a++(⟨k,none,0,[]⟩:Hm)::H.drop a:=⟨_,rfl⟩;have bS:E.length=H.length+1:=by rw[af,iH,l8,jh,kG];omega
         have aV:a<E.length:=by omega
         have bV:(a:Int)<(H.length:Int)+1:=by omega
         have aJ:E[a].s=k:=by subst af;rw[LO H a _ ha]
         have aI:=gx (fun(y:Hm) (hy:y.s=E[a].s)=>show gE.oh (H.map Hm.hd) k y.b=(E.set a y).map Hm.hd from by rw[CS HF.out,Ji H k y (hy.trans aJ) a ha HJ.out (fun h=>Int.not_lt.2 (bj.out h)),af,Jj H a _ y ha])
         have ai:=gx (show(D.set i ⟨false,a5,c5,E⟩)[i]?=some (⟨false,a5,c5,E⟩:Dm) from sZ aB);rw[<-af] at X5;replace af:=gx af;replace aJ:=gx aJ;clear X4 K4 B4 O5 s1 s2 ar DN X3 K3 aO P aq bn f3;have I:=X5.held _ (jX ai);obtain⟨hb,ca,e',q1,q2,q3,q4⟩:=jR I (by show 0<E.length;omega);simp only[Dm.v,kx,kI] at e';obtain⟨rfl,rfl⟩:=e';have ak:=K5.own a4 (by decide);obtain⟨lg,cl,e',-,-,-,-⟩:=jR ak (by omega);simp only[kx,kI] at e';obtain⟨rfl,rfl⟩:=e';obtain⟨a',C,e',aF⟩:=gK ak;cases e';have ae:i<R.length:=by rw[bk.out];exact a0
         have l0:Z.cell? (lg,i)=some (.slice R[i].a R[i].n R[i].cap):=by have:=aF.cell (by omega) (qO R i ae);rwa[jk] at this
         have al:=K5.own (a6 _ (iE ae)) (by decide);have aE:=bi _ (iE ae);have G:=gx (ki ae);have f:=fun(U:Option Addr) (W:Nat)=>(fun L=>(zZ (x:=⟨false,none,0,H⟩) (y:=⟨false,some (hb,gy),c5,E.set a ⟨E[a].s,U,W,L⟩⟩) (k:=k) (b:=L) rfl rfl (aI ⟨E[a].s,U,W,L⟩ rfl)).symm.trans (show gE.uZ (⟨false,none,0,H⟩:Dm).dk k L=gE.uZ (m.D.map Dm.dk)[i] k L from congrArg (fun z=>gE.uZ z k L) (show(⟨false,none,0,H⟩:Dm).dk=_ from ay))) ((gz R).getD i []);rw[G.out] at f;obtain⟨r,hr⟩:∃r,r=R[i]:=⟨_,rfl⟩;rw[<-hr] at l0 al aE f;have au:=gx (G.trans (congrArg Rw.l hr.symm));clear G hr;obtain⟨ra,rn,rc,O⟩:=r;obtain⟨a',C,e',ab⟩:=gK al;simp only[Rw.v,kx,kI] at e';obtain⟨rfl,rfl⟩:=e';change Sl Z 1 ra rn rc (cb O) at ab;obtain rfl:O.length=rn:=Bt.n ab;simp only at l0 aE f au;obtain⟨a',C,e',F⟩:=gK I;simp only[Dm.v,kx,kI] at e';obtain⟨rfl,rfl⟩:=e';change Sl Z 2 (some (hb,gy)) E.length c5 (rows jE E) at F;obtain⟨y0,y1⟩:=qA F a aV;simp only[jk] at y0 y1;obtain⟨a',C,e',Y⟩:=gK X5.ng;have e':m.dv=.slice a' (D.set i ⟨false,some (hb,gy),c5,E⟩).length C:=e';have aS:(D.set i ⟨false,some (hb,gy),c5,E⟩).length=n:=by first|exact N|(rw[kH];exact N)
         rw[ah.out,aS] at e';cases e';change Sl Z 2 (some (gd,gy)) (D.set i ⟨false,some (hb,gy),c5,E⟩).length dc (rows mT (D.set i ⟨false,some (hb,gy),c5,E⟩)) at Y;have ag:i<(D.set i ⟨false,some (hb,gy),c5,E⟩).length:=by omega
         obtain⟨e0,X⟩:=pd Y i ag;have aj:(D.set i ⟨false,some (hb,gy),c5,E⟩)[i]=⟨false,some (hb,gy),c5,E⟩:=by have:=ai.out;rw[jz ag] at this;exact kO this
         rw[aj] at e0 X;simp only[jk] at e0 X;obtain⟨bf,ao,-⟩:=js I;have ff:∀j,Z.frozen? ⟨hb,j,none⟩=false:=fun j=>gA ao;have aA:hb<Z.heap.size:=iq ao;have az:gd<Z.heap.size:=iM _ _ X;have aC:lg<Z.heap.size:=iM _ _ l0;have DC:=gx (show∀V,Below Z Z V->Calls prog 81 #[(ra,O,rc)] V (fun e w'=>∃U W,e=.returned (.slice U O.length W)/\Below Z Z w'/\w'.ownsRow Z.heap.size 5 1 (.slice U O.length W) O.length (cb O)/\w'.cell? ⟨gd,i*2+1,none⟩=some (.slice (some (hb,gy)) E.length c5)/\w'.cell? ⟨hb,a*2+1,none⟩=some (.slice E[a].a E[a].b.length E[a].cap)/\(∀j,w'.frozen? ⟨hb,j,none⟩=false)/\w'.cell? (lg,i)=some (.slice ra O.length rc)) from fun V hV=>
          (ma ra O.length rc O V (ab.below hV) (by omega)).mono fun e w'⟨v,h1,h2,h3⟩=>by obtain⟨U,W,rfl,-⟩:=gK h3;have Q:=gH hV h2;exact⟨U,W,h1,Q,hJ h3 hV.size,(Q.cell (p:=⟨gd,_,none⟩) az).trans X,(Q.cell (p:=⟨hb,_,none⟩) aA).trans y1,fun j=>(Q.frozen (p:=(hb,j)) aA).trans (ff j),(Q.cell (p:=⟨lg,_,none⟩) aC).trans l0⟩)
         have bu:(0:Int)<=(a:Int):=by omega
         have aL:(a:Int)<(E.length:Int):=by omega
         have aT:(E.length:Int)<2000:=by omega
         have K:base<=Z.heap.size:=by omega
         replace f:=gx f;clear I ak aF al ab F Y ao aj y0 e0;go_wp2_with fail;go_region_law (first
          |(go_simp;go_at_call 81;refine(DC _ ?_).mono ?_;(repeat (first|assumption|exact iU _ _|refine below_drewN ?_ _|refine iV ?_));rintro e w6⟨U,W,rfl,b6,o6,z1,z2,z3,z4⟩))
         all_goals
          have aD:=X5.AW i a _ ai aV b6 U W O o6 K hb rfl;have ax:Below base Z (w6.setCell ⟨hb,a*2+1,none⟩ (U,O,W)):=(b6.mono K).setCell q1 _;have aw:=gx aD;have aP:=gx ax;clear aD ax DC z1 z2 z3 z4 b6 o6 X y1 l0;go_wp2_with fail;go_roundg (n-(i+1));case measure=>omega
          case rel=>
           refine⟨i+1,_,rfl,by omega,by go_num,gx aw.1,gx (K5.trans aw.2),gx (bh.trans aP),gx (by simp only[kH];exact N),gx ?_⟩;try simp only[List.set_set]
           try rw[tY,aN.out,<-rN _ _ _ _ aZ,au.out,f.out U W]
       .have t1:decide ((a:Int)<(H.length:Int))=false:=ju (by omega);have bC:H.length<=a:=by omega
        go_wp2_with fail;go_quiet (fail);clear t1 bC;generalize a1:wx.drewN nq=wz;have bz:Below wx wx wz:=a1▸below_drewN gZ _;clear a1;have X3:=gx (X2.below bz);have K3:=gx (K2.trans (Kd.below bz));have bI:=bz.size;have aO:=gx (a2.trans (bz.mono (by omega)));have P:=gx (show wz.ownsRow base 66 2 (xa,H,xc) H.length (rows jE H) from gL ap bz);have bW:=(bz.cell (p:=(B,gy)) (iM _ _ kB)).trans kB;have aq:=(bz.cell (p:=⟨gd,i*2+1,none⟩) (iM _ _ X)).trans X;clear bz X kB X2 K2 a2 ap;have S:=X3.ng;have S:wz.ownsRow base 63 2 m.dv D.length (rows mT D):=S;rw[ah.out,N.out] at S;obtain⟨aR,ad,-⟩:=js S;have aX:(aR.toArray)[i*2+1]?=some (.slice xa H.length xc):=by rw[<-gw ad];exact aq
        have f3:∀j,wz.frozen? ⟨gd,j,none⟩=false:=fun j=>gA ad;have DN:=gx (show∀(V:World) (vb:Nat),Below wz wz V->V.heap[vb]?=some (.cells #[k,()] 66)->wz.heap.size<=vb->Calls prog 80 #[(xa,H,xc),a,(some (vb,gy),ia,ia)] V (fun e w'=>∃a' c',e=.returned (.slice a' (H.length+1) c')/\OT V w' (Value.slice xa H.length xc).ownBlock base 66 2 (.slice a' (H.length+1) c') (H.length+1) (rows jE (H.take a++⟨k,none,0,[]⟩::H.drop a))/\w'.cell? ⟨gd,i*2+1,none⟩=some (.slice xa H.length xc)/\(∀j,w'.frozen? ⟨gd,j,none⟩=false)/\Below wz wz V) from fun V vb hV hv bT=>
         (sV (xa,H,xc) H.length H a ⟨k,none,0,[]⟩ vb base V (gL P hV) (by have:=hV.size;omega) (by omega) ha (fun e=>by have:=(P.lt vb e).2;omega) hv).mono fun e w'⟨v',h1,h2⟩=>by obtain⟨a',c',rfl,-⟩:=gK h2.own;have aY:=ie (gL P hV) h2.grown (gB ad hV) (by decide);exact⟨a',c',h1,h2,(gw aY).trans aX,fun j=>gA aY,hV⟩)
        have bn:=(ik (o:=.cells #[k,()] 66) (iM _ _ aq)).trans aq;clear S ad aX;go_wp2_with fail;go_region_law (first
         |(go_simp;go_at_call 80;refine(DN _ _ ?b1 ?b2 ?b3).mono ?_;(case b1=>(repeat (first|assumption|exact iU _ _|refine below_drewN ?_ _|refine iV ?_|refine m6 ?_ gM _)));(case b2=>exact gO _ _);(case b3=>exact jb _);rintro e w5⟨a5,c5,rfl,O5,s1,s2,ar⟩))
        all_goals
         obtain⟨bL,bM,bm,X4,K4⟩:=X3.ins i a _ k aG ar O5 ha gd dc (ah.trans (by show _=Value.slice _ D.length _;rw[N.out]));cases bm;have B4:Below base wz (w5.setCell ⟨gd,i*2+1,none⟩ (a5,(H.length+1),c5)):=((ar.mono (by omega)).trans (O5.im (by have:=ar.size;omega) (fun q hq=>(P.lt q hq).1))).setCell bE _;generalize w5.setCell ⟨gd,i*2+1,none⟩ (a5,(H.length+1),c5)=Z at *;have X5:=gx X4;have K5:=gx (K3.trans K4);have bh:=gx (aO.trans B4);have bH:=K4.size;obtain⟨E,af⟩:∃E,E=H.take a++(⟨k,none,0,[]⟩:Hm)::H.drop a:=⟨_,rfl⟩;have bS:E.length=H.length+1:=by rw[af,iH,l8,jh,kG];omega
         have aV:a<E.length:=by omega
         have bV:(a:Int)<(H.length:Int)+1:=by omega
         have aJ:E[a].s=k:=by subst af;rw[LO H a _ ha]
         have aI:=gx (fun(y:Hm) (hy:y.s=E[a].s)=>show gE.oh (H.map Hm.hd) k y.b=(E.set a y).map Hm.hd from by rw[CS HF.out,Ji H k y (hy.trans aJ) a ha HJ.out (fun h=>Int.not_lt.2 (bj.out h)),af,Jj H a _ y ha])
         have ai:=gx (show(D.set i ⟨false,a5,c5,E⟩)[i]?=some (⟨false,a5,c5,E⟩:Dm) from sZ aB);rw[<-af] at X5;replace af:=gx af;replace aJ:=gx aJ;clear X4 K4 B4 O5 s1 s2 ar DN X3 K3 aO P aq bn f3;have I:=X5.held _ (jX ai);obtain⟨hb,ca,e',q1,q2,q3,q4⟩:=jR I (by show 0<E.length;omega);simp only[Dm.v,kx,kI] at e';obtain⟨rfl,rfl⟩:=e';have ak:=K5.own a4 (by decide);obtain⟨lg,cl,e',-,-,-,-⟩:=jR ak (by omega);simp only[kx,kI] at e';obtain⟨rfl,rfl⟩:=e';obtain⟨a',C,e',aF⟩:=gK ak;cases e';have ae:i<R.length:=by rw[bk.out];exact a0
         have l0:Z.cell? (lg,i)=some (.slice R[i].a R[i].n R[i].cap):=by have:=aF.cell (by omega) (qO R i ae);rwa[jk] at this
         have al:=K5.own (a6 _ (iE ae)) (by decide);have aE:=bi _ (iE ae);have G:=gx (ki ae);have f:=fun(U:Option Addr) (W:Nat)=>(fun L=>(zZ (x:=⟨false,none,0,H⟩) (y:=⟨false,some (hb,gy),c5,E.set a ⟨E[a].s,U,W,L⟩⟩) (k:=k) (b:=L) rfl rfl (aI ⟨E[a].s,U,W,L⟩ rfl)).symm.trans (show gE.uZ (⟨false,none,0,H⟩:Dm).dk k L=gE.uZ (m.D.map Dm.dk)[i] k L from congrArg (fun z=>gE.uZ z k L) (show(⟨false,none,0,H⟩:Dm).dk=_ from ay))) ((gz R).getD i []);rw[G.out] at f;obtain⟨r,hr⟩:∃r,r=R[i]:=⟨_,rfl⟩;rw[<-hr] at l0 al aE f;have au:=gx (G.trans (congrArg Rw.l hr.symm));clear G hr;obtain⟨ra,rn,rc,O⟩:=r;obtain⟨a',C,e',ab⟩:=gK al;simp only[Rw.v,kx,kI] at e';obtain⟨rfl,rfl⟩:=e';change Sl Z 1 ra rn rc (cb O) at ab;obtain rfl:O.length=rn:=Bt.n ab;simp only at l0 aE f au;obtain⟨a',C,e',F⟩:=gK I;simp only[Dm.v,kx,kI] at e';obtain⟨rfl,rfl⟩:=e';change Sl Z 2 (some (hb,gy)) E.length c5 (rows jE E) at F;obtain⟨y0,y1⟩:=qA F a aV;simp only[jk] at y0 y1;obtain⟨a',C,e',Y⟩:=gK X5.ng;have e':m.dv=.slice a' (D.set i ⟨false,some (hb,gy),c5,E⟩).length C:=e';have aS:(D.set i ⟨false,some (hb,gy),c5,E⟩).length=n:=by first|exact N|(rw[kH];exact N)
         rw[ah.out,aS] at e';cases e';change Sl Z 2 (some (gd,gy)) (D.set i ⟨false,some (hb,gy),c5,E⟩).length dc (rows mT (D.set i ⟨false,some (hb,gy),c5,E⟩)) at Y;have ag:i<(D.set i ⟨false,some (hb,gy),c5,E⟩).length:=by omega
         obtain⟨e0,X⟩:=pd Y i ag;have aj:(D.set i ⟨false,some (hb,gy),c5,E⟩)[i]=⟨false,some (hb,gy),c5,E⟩:=by have:=ai.out;rw[jz ag] at this;exact kO this
         rw[aj] at e0 X;simp only[jk] at e0 X;obtain⟨bf,ao,-⟩:=js I;have ff:∀j,Z.frozen? ⟨hb,j,none⟩=false:=fun j=>gA ao;have aA:hb<Z.heap.size:=iq ao;have az:gd<Z.heap.size:=iM _ _ X;have aC:lg<Z.heap.size:=iM _ _ l0;have DC:=gx (show∀V,Below Z Z V->Calls prog 81 #[(ra,O,rc)] V (fun e w'=>∃U W,e=.returned (.slice U O.length W)/\Below Z Z w'/\w'.ownsRow Z.heap.size 5 1 (.slice U O.length W) O.length (cb O)/\w'.cell? ⟨gd,i*2+1,none⟩=some (.slice (some (hb,gy)) E.length c5)/\w'.cell? ⟨hb,a*2+1,none⟩=some (.slice E[a].a E[a].b.length E[a].cap)/\(∀j,w'.frozen? ⟨hb,j,none⟩=false)/\w'.cell? (lg,i)=some (.slice ra O.length rc)) from fun V hV=>
          (ma ra O.length rc O V (ab.below hV) (by omega)).mono fun e w'⟨v,h1,h2,h3⟩=>by obtain⟨U,W,rfl,-⟩:=gK h3;have Q:=gH hV h2;exact⟨U,W,h1,Q,hJ h3 hV.size,(Q.cell (p:=⟨gd,_,none⟩) az).trans X,(Q.cell (p:=⟨hb,_,none⟩) aA).trans y1,fun j=>(Q.frozen (p:=(hb,j)) aA).trans (ff j),(Q.cell (p:=⟨lg,_,none⟩) aC).trans l0⟩)
         have bu:(0:Int)<=(a:Int):=by omega
         have aL:(a:Int)<(E.length:Int):=by omega
         have aT:(E.length:Int)<2000:=by omega
         have K:base<=Z.heap.size:=by omega
         replace f:=gx f;clear I ak aF al ab F Y ao aj y0 e0;go_wp2_with fail;go_region_law (first
          |(go_simp;go_at_call 81;refine(DC _ ?_).mono ?_;(repeat (first|assumption|exact iU _ _|refine below_drewN ?_ _|refine iV ?_));rintro e w6⟨U,W,rfl,b6,o6,z1,z2,z3,z4⟩))
         all_goals
          have aD:=X5.AW i a _ ai aV b6 U W O o6 K hb rfl;have ax:Below base Z (w6.setCell ⟨hb,a*2+1,none⟩ (U,O,W)):=(b6.mono K).setCell q1 _;have aw:=gx aD;have aP:=gx ax;clear aD ax DC z1 z2 z3 z4 b6 o6 X y1 l0;go_wp2_with fail;go_roundg (n-(i+1));case measure=>omega
          case rel=>
           refine⟨i+1,_,rfl,by omega,by go_num,gx aw.1,gx (K5.trans aw.2),gx (bh.trans aP),gx (by simp only[kH];exact N),gx ?_⟩;try simp only[List.set_set]
           try rw[tY,aN.out,<-rN _ _ _ _ aZ,au.out,f.out U W]
  .obtain rfl:i=n:=by omega
   go_wp2_with fail;go_end0;exact⟨rfl,D,HX,by rw[aN.out];have:=By (m.D.map Dm.dk) k (gz R);rw[iz,HN.out] at this;exact this,(Kd.below HW).trans HK,(HW.mono aW).trans a3⟩
end Go.Proofs.YthhcdfjijagalaaGreat

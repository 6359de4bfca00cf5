import Derived.Test.YthhcdfjijagalaaGreatM54
set_option linter.all false
set_option maxHeartbeats 8000000
set_option maxRecDepth 100000
namespace Go.Proofs.YthhcdfjijagalaaGreat
open Qz Go.Proofs.Tryz Go.RowKit Go.Maps
theorem IA(m m':ig)(w:World)(h:nv w m)(h':nv w m')(bm:m.st=m'.st)(hD:m.D.length<=100)(hH:∀x∈m.D,x.H.length<=1000)(hT:m.T.length<=1000)(hS:m.seen.length<=1000):
  Calls prog 8 #[jd m,jd m'] w (m7 (.bool true) w):=by
 obtain⟨d,s,b,dv,D,g,tv,T,sv,seen,u,av,A⟩:=m;obtain⟨d',s',b',bR,D',g',b8,T',b7,bP,u',bQ,A'⟩:=m';simp only[ig.st,gE.St.mk.injEq,Vw.Vi.mk.injEq,Int.natCast_inj] at bm;obtain⟨rfl,rfl,rfl,ax,rfl,aA,rfl,rfl,rfl⟩:=bm;obtain⟨da,dc,bf,aI⟩:=h.ng;obtain⟨ta,tc,bo,aL⟩:=h.tail;obtain⟨sa,sc,bn,aK⟩:=h.seen;obtain⟨aa,ac,a7,has⟩:=h.ib;obtain⟨S,E,al,I⟩:=h'.ng;obtain⟨P,Q,ar,L⟩:=h'.tail;obtain⟨Z,ab,aq,Y⟩:=h'.seen;obtain⟨N,O,ai,U⟩:=h'.ib;simp only at bf bo bn a7 al ar aq ai aI aL aK has I L Y U hD hH hT hS;subst bf bo bn a7 al ar aq ai;have ae:D'.length=D.length:=by have:=congrArg List.length ax;simpa using this.symm
 have aB:T'.length=T.length:=by have:=congrArg List.length aA;simpa using this.symm
 rw[ae] at I;rw[aB] at L;have aY:Bs w ta T.length tc T:=aL;have ah:Bs w P T.length Q T':=L;have aX:As w aa A.length ac A:=has;have ag:As w N A.length O A:=U;have bB:=gx (show∀x∈D,EM w 2 x.v x.H.length (rows jE x.H) from fun x hx=>⟨x.a,x.cap,rfl,h.held x hx⟩);have bz:=gx (show∀x∈D,∀y∈x.H,EM w 1 y.v y.b.length (cb y.b) from fun x hx y hy=>⟨y.a,y.cap,rfl,h.bytes x hx y hy⟩);have aR:=gx (show∀x∈D',EM w 2 x.v x.H.length (rows jE x.H) from fun x hx=>⟨x.a,x.cap,rfl,h'.held x hx⟩);have aQ:=gx (show∀x∈D',∀y∈x.H,EM w 1 y.v y.b.length (cb y.b) from fun x hx y hy=>⟨y.a,y.cap,rfl,h'.bytes x hx y hy⟩);have bG:=gx aK;have aU:=gx Y;have bE:=gx aI;have aS:=gx I;have bA:=gx ax;have bH:=gx aA;have HB:=gx aY;have bw:=gx ah;have bu:=gx aX;have aP:=gx ag;have HH:=gx hH;have bC:=gx ae;unfold jd;simp only;rw[ae,aB];clear h h' aY ah aX ag aK Y aI I aL L has U ax aA hH aB ae;have B0:=gF (o':=(.cells #[d,s,b,(S,D,E),g,(P,T,Q),(Z,seen,ab),u,(N,A,O)] 32)) (gO w (.cells #[d,s,b,(da,D,dc),g,(ta,T,tc),(sa,seen,sc),u,(aa,A,ac)] 32));have B1:=gO (w.alloc (.cells #[d,s,b,(da,D,dc),g,(ta,T,tc),(sa,seen,sc),u,(aa,A,ac)] 32)) (.cells #[d,s,b,(S,D,E),g,(P,T,Q),(Z,seen,ab),u,(N,A,O)] 32);rw[jH] at B1;have bV:=gx (((iU w.heap.size w).alloc gM (.cells #[d,s,b,(da,D,dc),g,(ta,T,tc),(sa,seen,sc),u,(aa,A,ac)] 32)).alloc (by simp) (.cells #[d,s,b,(S,D,E),g,(P,T,Q),(Z,seen,ab),u,(N,A,O)] 32));obtain⟨V,hV⟩:∃V,V=(w.alloc (.cells #[d,s,b,(da,D,dc),g,(ta,T,tc),(sa,seen,sc),u,(aa,A,ac)] 32)).alloc (.cells #[d,s,b,(S,D,E),g,(P,T,Q),(Z,seen,ab),u,(N,A,O)] 32):=⟨_,rfl⟩;rw[<-hV] at B0 B1 bV;have bI:=gx hV;have bS:V.heap.size=w.heap.size+2:=by rw[hV];simp
 clear hV;obtain⟨c0,c1,c2,c3,c4,c5,c6,c7,c8⟩:=kC B0;obtain⟨k0,k1,k2,k3,k4,k5,k6,k7,k8⟩:=kC B1;have DB:=gx (xr ta P T.length tc T.length Q T T' V (HB.below bV) (bw.below bV) bH);go_enter func8,ntmps8;go_upto_region 1 with(fail);rw[<-bI.out];go_wp2_with fail;go_at_call 15;refine DB.mono ?_;rintro e w2⟨rfl,q,rfl⟩;have DV:=gx (tV u aa N A.length ac A.length O A (V.drewN q) ((bu.below bV).below (below_drewN gZ q)) ((aP.below bV).below (below_drewN gZ q)));unfold iJ at DV;go_wp2_with fail;go_at_call 16;refine DV.mono ?_;rintro e w3⟨rfl,b3⟩;have bW:Below V V w3:=(below_drewN gZ q).trans b3;have C0:=gx (gB B0 bW);have C1:=gx (gB B1 bW);have bX:=gx (gH bV bW);clear c0 c1 c2 c3 c4 c5 c6 c7 c8 k0 k1 k2 k3 k4 k5 k6 k7 k8 B0 B1 b3 bW DB DV bV;have c6:w3.cell? (w,mu)=some (.slice sa seen.length sc):=gw C0;have k6:w3.cell? (w.heap.size+1,mu)=some (.slice Z seen.length ab):=gw C1;have c3:w3.cell? (w,jF)=some (.slice da D.length dc):=gw C0;have k3:w3.cell? (w.heap.size+1,jF)=some (.slice S D.length E):=gw C1;go_wp2_with fail;go_loopg[59] seen.length (fun gg bN wr=>∃k j:Nat,gg=seen.length-k/\k<=seen.length/\bN=.int .i64 (k:Int)/\wr=w3.drewN j);case atStart=>exact⟨0,0,rfl,by omega,rfl,rfl⟩
 case round=>
  obtain⟨k,j,rfl,hk,rfl,rfl⟩:=hrel;by_cases F:k<seen.length
  .obtain⟨sb,br,rfl,bh⟩:=bG.addr (by omega);obtain⟨bq,aM,rfl,ao⟩:=aU.addr (by omega);have g0:w3.cell? (sb,br+k)=some (.int .i64 seen[k]):=by have h1:=bh k (.int .i64 seen[k]) (by simp[F]);exact(bX.cell (p:=⟨sb,_,none⟩) (iM _ _ h1)).trans h1
   have g1:w3.cell? (bq,aM+k)=some (.int .i64 seen[k]):=by have h1:=ao k (.int .i64 seen[k]) (by simp[F]);exact(bX.cell (p:=⟨bq,_,none⟩) (iM _ _ h1)).trans h1
   have i0:(0:Int)<=(k:Int):=by omega
   have i1:(k:Int)<(seen.length:Int):=by omega
   generalize seen[k]=sv at *;clear bh ao;go_wp2_with fail;go_quiet (fail);go_wp2_with fail;go_roundg (seen.length-(k+1));case measure=>omega
   case rel=>exact⟨k+1,_,rfl,by omega,by go_num,rfl⟩
  .obtain rfl:k=seen.length:=by omega
   go_wp2_with fail;obtain⟨W,hW⟩:∃W,W=w3.drewN j:=⟨_,rfl⟩;have bY:=gx (show Below w w W by rw[hW];exact below_drewN bX j);have aZ:W.heap=w3.heap:=by rw[hW];rfl
   have D0:=C0.out;have D1:=C1.out;rw[<-aZ] at D0 D1;replace D0:=gx D0;replace D1:=gx D1;clear aZ;rw[<-hW];clear hW c3 k3 c6 k6;go_loopg[77] D.length (fun gg bO wr=>∃k:Nat,gg=D.length-k/\k<=D.length/\bO=.int .i64 (k:Int)/\Below W W wr);case atStart=>exact⟨0,rfl,by omega,rfl,iU _ _⟩
   case round=>
    obtain⟨k,rfl,hk,rfl,hb⟩:=hrel;obtain⟨wo,rfl⟩:∃wo:World,wo=wr:=⟨_,rfl⟩;have bZ:=gH bY hb;by_cases F:k<D.length
    .have X:k<D'.length:=by rw[bC.out];exact F
     obtain⟨b1,r,rfl,aE⟩:=xz lJ (bE.below bZ) (by omega);obtain⟨b2,B,rfl,aF⟩:=xz lJ (aS.below bZ) (by omega);have g0:=aE k F 0 (by omega);have g1:=aE k F 1 (by omega);have e0:=aF k X 0 (by omega);have e1:=aF k X 1 (by omega);have bd:D[k].dk=D'[k].dk:=by have:=congrArg (fun l=>l[k]?) bA;simp only[nJ,jz F,jz X,re] at this;exact kO this
     have hh:=gx (bB D[k] (iE _));have bM:=gx (aR D'[k] (iE _));have bL:=gx (bz D[k] (iE _));have a9:=gx (aQ D'[k] (iE _));have hH:=HH D[k] (iE _);generalize D[k]=x at *;generalize D'[k]=x' at *;obtain⟨xg,xa,xc,C⟩:=x;obtain⟨b9,aN,aO,ad⟩:=x';simp only[Dm.dk,gE.Dk.mk.injEq] at bd;obtain⟨rfl,ay⟩:=bd;have az:ad.length=C.length:=by have:=congrArg List.length ay;simpa using this.symm
     simp only[mT,Dm.v] at g0 g1 e0 e1;rw[az] at e1;replace g0:wo.cell? (b1,r+k*2)=some (.bool xg):=g0;replace g1:wo.cell? ⟨b1,r+k*2+1,none⟩=some (.slice xa C.length xc):=g1;replace e0:wo.cell? (b2,B+k*2)=some (.bool xg):=e0;replace e1:wo.cell? ⟨b2,B+k*2+1,none⟩=some (.slice aN C.length aO):=e1;have bF:=gx ay;have aT:=gx az;have i0:(0:Int)<=(k:Int):=by omega
     have i1:(k:Int)<(D.length:Int):=by omega
     have c3:wo.cell? (w,jF)=some (.slice (some (b1,r)) D.length dc):=gw (gB D0 hb);have k3:wo.cell? (w.heap.size+1,jF)=some (.slice (some (b2,B)) D.length E):=gw (gB D1 hb);clear aE aF ay az;simp only at hH;go_upto_region 12 with(fail);have bi:b1<wo.heap.size:=iM _ _ g0;have ap:b2<wo.heap.size:=iM _ _ e0;have bj:w.heap.size<wo.heap.size:=iM _ _ c3;have bk:w.heap.size+1<wo.heap.size:=iM _ _ k3;have a1:∀o:Obj,(wo.alloc o).cell? (b1,r+k*2)=some (.bool xg):=fun o=>(ik bi).trans g0;have a2:∀o:Obj,(wo.alloc o).cell? ⟨b1,r+k*2+1,none⟩=some (.slice xa C.length xc):=fun o=>(ik bi).trans g1;have a3:∀o:Obj,(wo.alloc o).cell? (b2,B+k*2)=some (.bool xg):=fun o=>(ik ap).trans e0;have a4:∀o:Obj,(wo.alloc o).cell? ⟨b2,B+k*2+1,none⟩=some (.slice aN C.length aO):=fun o=>(ik ap).trans e1;have a5:∀o:Obj,(wo.alloc o).cell? (w,jF)=some (.slice (some (b1,r)) D.length dc):=fun o=>(ik bj).trans c3;have a6:∀o:Obj,(wo.alloc o).cell? (w.heap.size+1,jF)=some (.slice (some (b2,B)) D.length E):=fun o=>(ik bk).trans k3;go_cut[7,8] from 80 to 89 (fun s7 s8 wx=>∃p q,s7=.pointer (some ⟨p,0,none⟩)/\s8=.pointer (some ⟨q,0,none⟩)/\wx.heap[p]?=some (.cells #[.bool xg,(xa,C,xc)] 63)/\wx.heap[q]?=some (.cells #[.bool xg,(aN,C,aO)] 63)/\Below wo wo wx);case first=>
      go_region;all_goals (go_wp2_with fail;go_meet)
      all_goals first
       |exact⟨wo.heap.size,wo.heap.size+1,rfl,rfl,(xP wo _ _).1,(xP wo _ _).2.1,(xP wo _ _).2.2⟩
       |exact⟨wo.heap.size+1,wo.heap.size,rfl,rfl,(xP wo _ _).2.1,(xP wo _ _).1,(xP wo _ _).2.2⟩
     case rest=>
      obtain⟨wD,rfl⟩:∃wD:World,wD=wc:=⟨_,rfl⟩;obtain⟨p,q,rfl,rfl,hp,hq,a8⟩:=hcut;have bD:=gH bZ a8;clear a1 a2 a3 a4 a5 a6 g0 g1 e0 e1 c3 k3;obtain⟨g0,g1⟩:=lv hp;obtain⟨e0,e1⟩:=lv hq;go_wp2_with fail;go_loopg[107] C.length (fun gg bp wr=>∃k j:Nat,gg=C.length-k/\k<=C.length/\bp=.int .i64 (k:Int)/\wr=wD.drewN j);case atStart=>exact⟨0,0,rfl,by omega,rfl,rfl⟩
      case round=>
       obtain⟨f,j,rfl,bU,rfl,rfl⟩:=hrel;by_cases K:f<C.length
       .have G:f<ad.length:=by rw[aT.out];exact K
        obtain⟨a1,c1,aV,aJ⟩:=hh.out;obtain⟨a2,c2,aW,af⟩:=bM.out;simp only[Dm.v,kx,kI] at aV aW;obtain⟨rfl,rfl⟩:=aV;obtain⟨rfl,rfl⟩:=aW;try simp only at aJ
        try simp only at af
        rw[aT.out] at af;obtain⟨b3,au,rfl,aG⟩:=xz mq (aJ.below bD) (by omega);obtain⟨b4,aw,rfl,aH⟩:=xz mq (af.below bD) (by omega);have y0:=aG f K 0 (by omega);have y1:=aG f K 1 (by omega);have z0:=aH f G 0 (by omega);have z1:=aH f G 1 (by omega);have bg:C[f].hd=ad[f].hd:=by have:=congrArg (fun l=>l[f]?) bF;simp only[nJ,jz K,jz G,re] at this;exact kO this
        have aC:=bL C[f] (iE _);have aD:=a9 ad[f] (iE _);generalize C[f]=h1 at *;generalize ad[f]=h2 at *;obtain⟨hs,ha,hc,hb⟩:=h1;obtain⟨b6,a0,bc,bT⟩:=h2;simp only[Hm.hd,gE.Hd.mk.injEq] at bg;obtain⟨rfl,rfl⟩:=bg;replace aC:EM w 1 (ha,hb,hc) hb.length (cb hb):=aC;replace aD:EM w 1 (a0,hb,bc) hb.length (cb hb):=aD;replace y0:wD.cell? (b3,au+f*2)=some (.int .i64 hs):=y0;replace y1:wD.cell? ⟨b3,au+f*2+1,none⟩=some (.slice ha hb.length hc):=y1;replace z0:wD.cell? (b4,aw+f*2)=some (.int .i64 hs):=z0;replace z1:wD.cell? ⟨b4,aw+f*2+1,none⟩=some (.slice a0 hb.length bc):=z1;obtain⟨_,_,bJ,aj⟩:=aC;cases bJ;obtain⟨_,_,bK,ak⟩:=aD;cases bK;have b0:=(fun n=>Bt.str ((Sl.below aj bD).drewN n));have b5:=(fun n=>Bt.str ((Sl.below ak bD).drewN n));clear aj ak;have i2:(0:Int)<=(f:Int):=by omega
        have i3:(f:Int)<(C.length:Int):=by omega
        have i4:((⟨hb.toArray⟩:ByteArray).toList==(⟨hb.toArray⟩:ByteArray).toList)=true:=by simp
        clear aG aH aJ af;go_upto_region 18 with(fail);go_quiet (fail);go_wp2_with fail;go_roundg (C.length-(f+1));case measure=>omega
        case rel=>exact⟨f+1,_,rfl,by omega,by go_num,rfl⟩
       .obtain rfl:f=C.length:=by omega
        go_wp2_with fail;go_roundg (D.length-(k+1));case measure=>omega
        case rel=>exact⟨k+1,rfl,by omega,by go_num,hb.trans ((below_drewN a8 j).mono hb.size)⟩
    .obtain rfl:k=D.length:=by omega
     go_wp2_with fail;go_ret;exact⟨rfl,bZ⟩
structure No (w:World) (a:Option Addr) (n cap:Nat) (L:List Am):Prop where
 sl:Sl w 5 a n cap (rows Pk L)
 jO:L.length=n
 il:∀x∈L,Es w x.ea x.il.length x.ec x.il
 ib:∀x∈L,As w x.aa x.ib.length x.ac x.ib
theorem No.below{w w':World}{a:Option Addr}{n cap:Nat}{L:List Am}(h:No w a n cap L)(hb:Below w w w'):No w' a n cap L:=
 ⟨h.sl.below hb,h.jO,fun x e=>(h.il x e).below hb,fun x e=>(h.ib x e).below hb⟩
theorem No.at{w:World}{a:Option Addr}{n cap:Nat}{L:List Am}(h:No w a n cap L)(i:Nat)(hi:i<L.length):
  ∃b off,a=some ⟨b,off,none⟩/\w.cell? ⟨b,off+i*5,none⟩=some (.int .i64 L[i].err)/\w.cell? ⟨b,off+i*5+1,none⟩=some (.int .i64 L[i].n)/\w.cell? ⟨b,off+i*5+2,none⟩=some (.slice L[i].ea L[i].il.length L[i].ec)/\w.cell? ⟨b,off+i*5+3,none⟩=some (.int .i64 L[i].u)/\w.cell? ⟨b,off+i*5+4,none⟩=some (.slice L[i].aa L[i].ib.length L[i].ac):=by
 have f:=h.jO;obtain⟨b,off,e,hc⟩:=xz Nu h.sl (by omega);exact⟨b,off,e,hc i hi 0 (by omega),hc i hi 1 (by omega),hc i hi 2 (by omega),hc i hi 3 (by omega),hc i hi 4 (by omega)⟩
theorem No.free{w:World}{a:Option Addr}{n cap:Nat}{L:List Am}(h:No w a n cap L)(f:0<n):∃b off,a=some ⟨b,off,none⟩:=by
 obtain⟨b,off,e,_⟩:=h.sl.addr f;exact⟨b,off,e⟩
theorem Mh{s:gE.St}{K:Nat}(h:gE.Ok s K):s.gI.length<=12/\(∀x∈s.gI,x.bl.length<=40)/\s.tail.length<=10/\s.seen.length<=K:=by
 refine⟨by have:=h.nd;have:=h.d;have:=h.sp;omega,fun x m=>?_,by have:=h.t;have:=h.b;omega,h.seen⟩;obtain⟨e,f⟩:=h.bl x m;have:=gE.rJ (x.bl.map gE.Hd.jy) 0 (s.iF:Int) e (fun g j=>by obtain⟨y,o,rfl⟩:=iu.1 j;exact f y o)
 rw[iz] at this;have:=h.g;omega
theorem It{d p b:Int}{l:List gE.Do}{st:gE.St}{an:List gE.An}{m:Int}(e:gE.tg d p b l=(st,an,m)):st.gI.length<=12/\(∀x∈st.gI,x.bl.length<=40)/\st.tail.length<=10/\st.seen.length<=80:=by
 have j:gE.nil.gI.length<=12/\(∀x∈gE.nil.gI,x.bl.length<=40)/\gE.nil.tail.length<=10/\gE.nil.seen.length<=80:=⟨by decide,(fun x r=>by cases r),by decide,by decide⟩;unfold gE.tg at e;split at e
 .obtain⟨rfl,-,-⟩:=Prod.mk.injEq ..▸e |> fun h=>(by simpa using h:gE.nil=st/\_/\_)
  exact j
 .split at e
  .obtain⟨rfl,-,-⟩:=(by simpa using e:gE.nil=st/\_/\_);exact j
  .rename_i q w;have o:(gE.run (gE.start d p b) l).1=st:=congrArg Prod.fst e;have f:=Mh ((gE.Ok.start (qJ.1 q)).run l);rw[o] at f;exact⟨f.1,f.2.1,f.2.2.1,by have:=f.2.2.2;omega⟩
theorem zD(Y Z X:Int)(a:Option Addr)(n cap:Nat)(l:List gE.Do)(w:World)(hD:K9 w a n cap l):Calls prog 3 #[.agg #[Y,Z,X],(a,n,cap)] w (m7 (.bool true) w):=by
 have HD:=gx hD;clear hD;have B0:=gx (gO w (.cells #[Y,Z,X] 23));have bS:=gx ((iU w.heap.size w).alloc gM (.cells #[Y,Z,X] 23));go_enter func3,ntmps3;go_wp2_with fail;go_at_call 4;refine(GO Y Z X a n cap l _ (HD.below bS)).mono ?_;rintro e w2⟨m,av,ac,L,er,rfl,hM,hA,hP,b2⟩;have HV:=gx hM.sv;have HP:=gx hP;have HA:=gx (show No w2 av L.length ac L by obtain⟨a1,c1,e1,hs⟩:=gK hA.own;cases e1;exact⟨hs,rfl,fun x hx=>(hA.il x hx).es,fun x hx=>(hA.ib x hx).as⟩)
 have B2:=gx (gB B0 b2);have W2:=gx (gH bS b2);clear hM hA hP b2 B0 bS;obtain⟨da,dc,aG,-⟩:=HV.ng;obtain⟨ta,tc,aJ,-⟩:=HV.tail;obtain⟨sa,sc,aI,-⟩:=HV.seen;obtain⟨aa,F,aF,-⟩:=HV.ib;unfold jd;rw[aG,aJ,aI,aF];go_upto_region 2 with(fail);obtain⟨w3,ai⟩:∃w3,w3=w2.alloc (.cells #[m.d,m.s,m.b,(da,m.D,dc),m.g,(ta,m.T,tc),(sa,m.seen,sc),m.u,(aa,m.A,F)] 32):=⟨_,rfl⟩;have q5:w3.heap[w2.heap.size]?=some (.cells #[m.d,m.s,m.b,(da,m.D,dc),m.g,(ta,m.T,tc),(sa,m.seen,sc),m.u,(aa,m.A,F)] 32):=by rw[ai];exact gO _ _
 have b3:Below w2 w2 w3:=by rw[ai];exact gZ.alloc gM _
 rw[<-ai];clear ai;generalize w2.heap.size=q at q5⊢;have Q5:=gx q5;have B3:=gx (gB B2 b3);have W3:=gx (gH W2 b3);have aS:=gx (HV.below b3);have aP:=gx (HA.below b3);clear q5 b3 HV HA B2 W2;have DQ:=gx (Iz Y Z X a n cap l w3 (HD.below W3));obtain⟨r0,r1,r2⟩:=PP B3;go_wp2_with fail;go_at_call 5;refine DQ.mono ?_;rintro e w4⟨m',bq,bp,L',br,rfl,bf,a8,ad,bg,b4⟩;have hp:=bg;rw[HP.out] at hp;obtain⟨bm,aH,rfl⟩:=(by simpa only[Prod.mk.injEq] using hp:m.st=m'.st/\L.map Am.an=L'.map Am.an/\er=br);have af:=gx (It HP);clear hp bg;have o:=gx bm;have bo:=gx aH;have bd:L'.length=L.length:=by have:=congrArg List.length aH;simpa using this.symm
 have ab:=gx bf;have aD:=gx (show No w4 bq L'.length bp L' by obtain⟨a1,c1,e1,hs⟩:=gK a8;cases e1;exact⟨hs,rfl,fun x hx=>(ad x hx).1,fun x hx=>(ad x hx).2.1⟩)
 rw[bd] at aD;have aT:=gx (aP.below b4);have aV:=gx (aS.below b4);have B4:=gx (gB B3 b4);have Q4:=gx (gB Q5 b4);have W4:=gx (gH W3 b4);clear bf a8 ad b4 bm aH aP aS B3 Q5 W3 DQ r0 r1 r2;obtain⟨G,I,ay,-⟩:=ab.ng;obtain⟨P,Q,aB,-⟩:=ab.tail;obtain⟨N,O,aA,-⟩:=ab.seen;obtain⟨C,j,ax,-⟩:=ab.ib;have bc:m'.D.length=m.D.length:=by have:=congrArg (fun s:gE.St=>s.gI.length) o;simpa[ig.st] using this.symm
 have bi:m'.T.length=m.T.length:=by have:=congrArg (fun s:gE.St=>s.tail.length) o;simpa[ig.st] using this.symm
 have bh:m'.seen.length=m.seen.length:=by have:=congrArg (fun s:gE.St=>s.seen.length) o;simpa[ig.st] using this.symm
 have a9:m'.A.length=m.A.length:=by have:=congrArg (fun s:gE.St=>s.ls.ib.length) o;simpa[ig.st] using this.symm
 have e1:m'.d=m.d:=(congrArg gE.St.data o).symm;have e2:m'.s=m.s:=(congrArg gE.St.spare o).symm;have e3:m'.b=m.b:=(congrArg gE.St.iC o).symm;have e4:m'.g=m.g:=(congrArg gE.St.iF o).symm;have e5:m'.u=m.u:=(congrArg (fun s:gE.St=>s.ls.upto) o).symm;have K:jd m'=.agg #[m.d,m.s,m.b,(G,m.D,I),m.g,(P,m.T,Q),(N,m.seen,O),m.u,(C,m.A,j)]:=by unfold jd;rw[ay,aB,aA,ax,bc,bi,bh,a9,e1,e2,e3,e4,e5]
 have aC:jd m=.agg #[m.d,m.s,m.b,(da,m.D,dc),m.g,(ta,m.T,tc),(sa,m.seen,sc),m.u,(aa,m.A,F)]:=by unfold jd;rw[aG,aJ,aI,aF]
 rw[K,bd];clear bc bi bh a9 e1 e2 e3 e4 e5;have aO:=gx (show∀W,Below w4 w4 W->Calls prog 8 #[.agg #[m.d,m.s,m.b,(da,m.D,dc),m.g,(ta,m.T,tc),(sa,m.seen,sc),m.u,(aa,m.A,F)],.agg #[m.d,m.s,m.b,(G,m.D,I),m.g,(P,m.T,Q),(N,m.seen,O),m.u,(C,m.A,j)]] W (fun e w'=>e=.returned (.bool true)/\Below W W w') from fun W f=>by
  have h:=IA m m' W (aV.below f) (ab.below f) o (by have:=af.1;simp only[ig.st,iz] at this;omega) (fun x hx=>by have:=af.2.1 x.dk (iu.2 ⟨x,hx,rfl⟩);simp only[Dm.dk,iz] at this;omega) (by have:=af.2.2.1;simp only[ig.st,iz] at this;omega) (by have:=af.2.2.2;simp only[ig.st] at this;omega)
  rw[aC,K] at h;exact h)
 clear aC K aG aJ aI aF ay aB aA ax aV ab;go_upto_region 3 with(fail);obtain⟨w5,aj⟩:∃w5,w5=w4.alloc (.cells #[m.d,m.s,m.b,(G,m.D,I),m.g,(P,m.T,Q),(N,m.seen,O),m.u,(C,m.A,j)] 32):=⟨_,rfl⟩;have q8:w5.heap[w4.heap.size]?=some (.cells #[m.d,m.s,m.b,(G,m.D,I),m.g,(P,m.T,Q),(N,m.seen,O),m.u,(C,m.A,j)] 32):=by rw[aj];exact gO _ _
 have B:Below w4 w4 w5:=by rw[aj];exact gZ.alloc gM _
 rw[<-aj];clear aj;generalize w4.heap.size=r at q8⊢;have aU:=gx (aT.below B);have aQ:=gx (aD.below B);have W5:=gx (gH W4 B);have KC:=gx (show∀W,Below w5 w5 W->W.cell? (w,gy)=some (.int .i64 Y)/\W.cell? (w,ia)=some (.int .i64 Z)/\W.cell? (w,j6)=some (.int .i64 X)/\W.cell? (q,gy)=some (.int .i64 m.d)/\W.cell? (q,ia)=some (.int .i64 m.s)/\W.cell? (q,j6)=some (.int .i64 m.b)/\W.cell? (q,jF)=some (.slice da m.D.length dc)/\W.cell? (q,pR)=some (.int .i64 (m.g:Int))/\W.cell? (q,nk)=some (.slice ta m.T.length tc)/\W.cell? (q,mu)=some (.slice sa m.seen.length sc)/\W.cell? (q,ps)=some (.int .i64 m.u)/\W.cell? (q,pt)=some (.slice aa m.A.length F)/\W.cell? (r,gy)=some (.int .i64 m.d)/\W.cell? (r,ia)=some (.int .i64 m.s)/\W.cell? (r,j6)=some (.int .i64 m.b)/\W.cell? (r,jF)=some (.slice G m.D.length I)/\W.cell? (r,pR)=some (.int .i64 (m.g:Int))/\W.cell? (r,nk)=some (.slice P m.T.length Q)/\W.cell? (r,mu)=some (.slice N m.seen.length O)/\W.cell? (r,ps)=some (.int .i64 m.u)/\W.cell? (r,pt)=some (.slice C m.A.length j) from fun W f=>⟨gw (gB B4 (gH B f)),gw (gB B4 (gH B f)),gw (gB B4 (gH B f)),gw (gB Q4 (gH B f)),gw (gB Q4 (gH B f)),gw (gB Q4 (gH B f)),gw (gB Q4 (gH B f)),gw (gB Q4 (gH B f)),gw (gB Q4 (gH B f)),gw (gB Q4 (gH B f)),gw (gB Q4 (gH B f)),gw (gB Q4 (gH B f)),gw (gB q8 f),gw (gB q8 f),gw (gB q8 f),gw (gB q8 f),gw (gB q8 f),gw (gB q8 f),gw (gB q8 f),gw (gB q8 f),gw (gB q8 f)⟩);have DS:=gx (show∀W,Below w5 w5 W->Calls prog 8 #[.agg #[m.d,m.s,m.b,(da,m.D,dc),m.g,(ta,m.T,tc),(sa,m.seen,sc),m.u,(aa,m.A,F)],.agg #[m.d,m.s,m.b,(G,m.D,I),m.g,(P,m.T,Q),(N,m.seen,O),m.u,(C,m.A,j)]] W (fun e w'=>e=.returned (.bool true)/\Below w5 w5 w') from fun W f=>by have h:=aO W (gH B f);exact h.mono fun e w'⟨h1,h2⟩=>⟨h1,gH f h2⟩)
 have DW:=gx (show∀W,Below w5 w5 W->Calls prog 6 #[.agg #[Y,Z,X]] W (fun e w'=>e=.returned (gE.kA Y Z X)/\Below w5 w5 w') from fun W f=>(pM Y Z X W).mono fun e w'⟨h1,h2⟩=>⟨h1,gH f h2⟩);have DR:=gx (show∀W,Below w5 w5 W->Calls prog 7 #[.agg #[Y,Z,X]] W (fun e w'=>e=.returned (gE.kA Y Z X)/\Below w5 w5 w') from fun W f=>(mP Y Z X W).mono fun e w'⟨h1,h2⟩=>⟨h1,gH f h2⟩);generalize gE.kA Y Z X=E at *;clear aO q8 B aT aD B4 Q4 W4;obtain⟨g0,g1,g2,g3,g4,g5,g6,g7,g8,g9,aW,aX,aY,aZ,a0,a2,a3,a4,a5,a6,a7⟩:=KC w5 gZ;go_cut[48] (fun bu wc=>bu=.bool false/\Below w5 w5 wc);case first=>
  go_region_held3 (fun W=>W.cell? (w,gy)=some (.int .i64 Y)/\W.cell? (w,ia)=some (.int .i64 Z)/\W.cell? (w,j6)=some (.int .i64 X)/\W.cell? (q,gy)=some (.int .i64 m.d)/\W.cell? (q,ia)=some (.int .i64 m.s)/\W.cell? (q,j6)=some (.int .i64 m.b)/\W.cell? (q,jF)=some (.slice da m.D.length dc)/\W.cell? (q,pR)=some (.int .i64 (m.g:Int))/\W.cell? (q,nk)=some (.slice ta m.T.length tc)/\W.cell? (q,mu)=some (.slice sa m.seen.length sc)/\W.cell? (q,ps)=some (.int .i64 m.u)/\W.cell? (q,pt)=some (.slice aa m.A.length F)/\W.cell? (r,gy)=some (.int .i64 m.d)/\W.cell? (r,ia)=some (.int .i64 m.s)/\W.cell? (r,j6)=some (.int .i64 m.b)/\W.cell? (r,jF)=some (.slice G m.D.length I)/\W.cell? (r,pR)=some (.int .i64 (m.g:Int))/\W.cell? (r,nk)=some (.slice P m.T.length Q)/\W.cell? (r,mu)=some (.slice N m.seen.length O)/\W.cell? (r,ps)=some (.int .i64 m.u)/\W.cell? (r,pt)=some (.slice C m.A.length j)) (first|with_reducible exact⟨g0,g1,g2,g3,g4,g5,g6,g7,g8,g9,aW,aX,aY,aZ,a0,a2,a3,a4,a5,a6,a7⟩|with_reducible exact KC.out _ b8|with_reducible exact KC.out _ b7|with_reducible exact KC.out _ b6|exact KC.out _ (iV gZ))
   (first
    |(go_at_call 6;refine(DW.out _ ?_).mono ?_;(repeat (first|with_reducible assumption|with_reducible exact iU _ _|with_reducible refine below_drewN ?_ _|with_reducible refine iV ?_));rintro e w6⟨rfl,b6⟩)
    |(go_at_call 7;refine(DR.out _ ?_).mono ?_;(repeat (first|with_reducible assumption|with_reducible exact iU _ _|with_reducible refine below_drewN ?_ _|with_reducible refine iV ?_));rintro e w7⟨rfl,b7⟩)
    |(go_at_call 8;refine(DS.out _ ?_).mono ?_;(repeat (first|with_reducible assumption|with_reducible exact iU _ _|with_reducible refine below_drewN ?_ _|with_reducible refine iV ?_));rintro e w8⟨rfl,b8⟩))
  all_goals (go_wp2_with fail;go_meet)
  all_goals exact⟨rfl,b8⟩
 case rest=>
  obtain⟨w6,rfl⟩:∃w6:World,w6=wc:=⟨_,rfl⟩;obtain⟨rfl,b6⟩:=hcut;have W6:=gx (gH W5 b6);have ag:=gx (aU.below b6);have aR:=gx (aQ.below b6);clear KC DS DW DR b6 aU aQ W5 g0 g1 g2 g3 g4 g5 g6 g7 g8 g9 aW aX aY aZ a0 a2 a3 a4 a5 a6 a7;go_wp2_with fail;go_loopg[51] L.length (fun g bw wr=>∃k:Nat,g=L.length-k/\k<=L.length/\bw=.int .i64 (k:Int)/\Hid (Below w6 w6 wr));case atStart=>exact⟨0,rfl,by omega,rfl,gx gZ⟩
  case round=>
   obtain⟨k,rfl,hk,rfl,HB⟩:=hrel;obtain⟨wo,rfl⟩:∃wo:World,wo=wr:=⟨_,rfl⟩;have bB:=ag.sl.le;have jE:=ag.sl.max;unfold maxLen at jE;by_cases bk:k<L.length
   .have az:k<L'.length:=by omega
    have i0:(0:Int)<=(k:Int):=by omega
    have i1:(k:Int)<(L.length:Int):=by omega
    have ah:=gx (ag.below HB);have ae:=gx (aR.below HB);obtain⟨S,xo,rfl⟩:=ag.free (by omega);obtain⟨V,yo,rfl⟩:=aR.free (by omega);obtain⟨bE,bG,ee,z0,z1,z2,z3,z4⟩:=ah.at k bk;cases ee;obtain⟨bI,bJ,ee,y0,y1,y2,y3,y4⟩:=ae.at k az;cases ee;have aK:=gx (ah.il L[k] (iE _));have aL:=gx (ah.ib L[k] (iE _));have aM:=gx (ae.il L'[k] (iE _));have aN:=gx (ae.ib L'[k] (iE _));have bj:L[k].an=L'[k].an:=by have:=congrArg (fun l=>l[k]?) bo;simp only[nJ,jz bk,jz az,re] at this;exact kO this
    generalize L[k]=x at *;generalize L'[k]=y at *;obtain⟨x0,xn,ao,ap,U,xu,ak,al,xA⟩:=x;obtain⟨bC,bF,au,aw,bA,bH,aq,ar,bD⟩:=y;simp only[Am.an,gE.An.mk.injEq,Vw.Vi.mk.injEq] at bj;obtain⟨rfl,rfl,rfl,rfl,rfl⟩:=bj;simp only at z0 z1 z2 z3 z4 y0 y1 y2 y3 y4 aK aL aM aN;have aE:=gx (show∀W,Below wo wo W->W.cell? (S,xo+k*5)=some (.int .i64 x0)/\W.cell? ⟨S,xo+k*5+1,none⟩=some (.int .i64 xn)/\W.cell? ⟨S,xo+k*5+2,none⟩=some (.slice ao U.length ap)/\W.cell? ⟨S,xo+k*5+3,none⟩=some (.int .i64 xu)/\W.cell? ⟨S,xo+k*5+4,none⟩=some (.slice ak xA.length al)/\W.cell? (V,yo+k*5)=some (.int .i64 x0)/\W.cell? ⟨V,yo+k*5+1,none⟩=some (.int .i64 xn)/\W.cell? ⟨V,yo+k*5+2,none⟩=some (.slice au U.length aw)/\W.cell? ⟨V,yo+k*5+3,none⟩=some (.int .i64 xu)/\W.cell? ⟨V,yo+k*5+4,none⟩=some (.slice aq xA.length ar) from fun W f=>⟨(f.cell (p:=⟨S,_,none⟩) (iM _ _ z0)).trans z0,(f.cell (p:=⟨S,_,none⟩) (iM _ _ z1)).trans z1,(f.cell (p:=⟨S,_,none⟩) (iM _ _ z2)).trans z2,(f.cell (p:=⟨S,_,none⟩) (iM _ _ z3)).trans z3,(f.cell (p:=⟨S,_,none⟩) (iM _ _ z4)).trans z4,(f.cell (p:=⟨V,_,none⟩) (iM _ _ y0)).trans y0,(f.cell (p:=⟨V,_,none⟩) (iM _ _ y1)).trans y1,(f.cell (p:=⟨V,_,none⟩) (iM _ _ y2)).trans y2,(f.cell (p:=⟨V,_,none⟩) (iM _ _ y3)).trans y3,(f.cell (p:=⟨V,_,none⟩) (iM _ _ y4)).trans y4⟩);have DA:=gx (show∀W,Below wo wo W->Calls prog 9 #[.agg #[x0,xn,(ao,U,ap),xu,(ak,xA,al)],.agg #[x0,xn,(au,U,aw),xu,(aq,xA,ar)]] W (fun e w'=>e=.returned (.bool true)/\Below wo wo w') from fun W f=>(yM ⟨x0,xn,U,⟨xu,xA⟩⟩ ao au ak aq ap aw al ar W (aK.below f) (aM.below f) (aL.below f) (aN.below f)).mono fun e w'⟨h1,h2⟩=>⟨h1,gH f h2⟩);clear aK aL aM aN ah ae;go_upto_region 8 with(fail);go_cut[63] (fun bz wc=>bz=.bool false/\Below wo wo wc);case first=>
     go_region_held3 (fun W=>W.cell? (S,xo+k*5)=some (.int .i64 x0)/\W.cell? ⟨S,xo+k*5+1,none⟩=some (.int .i64 xn)/\W.cell? ⟨S,xo+k*5+2,none⟩=some (.slice ao U.length ap)/\W.cell? ⟨S,xo+k*5+3,none⟩=some (.int .i64 xu)/\W.cell? ⟨S,xo+k*5+4,none⟩=some (.slice ak xA.length al)/\W.cell? (V,yo+k*5)=some (.int .i64 x0)/\W.cell? ⟨V,yo+k*5+1,none⟩=some (.int .i64 xn)/\W.cell? ⟨V,yo+k*5+2,none⟩=some (.slice au U.length aw)/\W.cell? ⟨V,yo+k*5+3,none⟩=some (.int .i64 xu)/\W.cell? ⟨V,yo+k*5+4,none⟩=some (.slice aq xA.length ar)) (first|with_reducible exact⟨z0,z1,z2,z3,z4,y0,y1,y2,y3,y4⟩|with_reducible exact aE.out _ b9|exact aE.out _ (iV gZ))
      (first|(go_at_call 9;refine(DA.out _ ?_).mono ?_;(repeat (first|with_reducible assumption|with_reducible exact iU _ _|with_reducible refine below_drewN ?_ _|with_reducible refine iV ?_));rintro e w9⟨rfl,b9⟩))
     all_goals (go_wp2_with fail;go_meet)
     all_goals exact⟨rfl,b9⟩
    case rest=>
     obtain⟨w9,rfl⟩:∃w9:World,w9=wc:=⟨_,rfl⟩;obtain⟨rfl,b9⟩:=hcut;have bn:=gx (gH HB b9);clear b9 aE DA z0 z1 z2 z3 z4 y0 y1 y2 y3 y4;go_wp2_with fail;go_roundg (L.length-(k+1));case measure=>omega
     case rel=>exact⟨k+1,rfl,by omega,by go_num,bn⟩
   .obtain rfl:k=L.length:=by omega
    go_wp2_with fail;go_ret;exact⟨rfl,gH W6 HB⟩
end Go.Proofs.YthhcdfjijagalaaGreat
namespace Go.Proofs.YthhcdfjijagalaaGreat
open Qz Go.Proofs.Tryz Go.ChangeShapes Go.WideShapes Go.ChangeAt Go.RowKit Go.Joins Go.Deep
structure Fits (d:gE.Do):Prop where
 c:-9223372036854775808<=d.b.c/\d.b.c<=9223372036854775807
 n:-9223372036854775808<=d.n/\d.n<=9223372036854775807
 jy:-9223372036854775808<=d.jy/\d.jy<=9223372036854775807
section
variable {H : Type} {enc : TypeId × Value → H} {w : World} {base : Nat} {spare : Nat → Bool} {held : Bool}
theorem Io{o:Nat}{v:Value}{d:DataW H}{p:List MemPlace}(C:Value.okWide prog w .any o 23 v)
  (h:DataW.Trod enc prog w base spare held 23 v d p):∃x y z:Int,v=.agg #[x,y,z]:=by
 obtain⟨E,v1,v2,F,G,I,n,rfl,rfl,rfl,q,r,B⟩:=open_agg3 underlying23 (by kernel_rfl) (by kernel_rfl) C h;obtain⟨s,e,_,_⟩:=pA underlying3 q;obtain⟨k,f,_,_⟩:=pA underlying3 r;obtain⟨m,j,_,_⟩:=pA underlying3 B;simp at e f j;subst e f j;exact⟨s,k,m,rfl⟩
theorem nine{α:Type}{l:List α}(h:l.length=9):∃a b c d e f g i j,l=[a,b,c,d,e,f,g,i,j]:=by
 rcases l with _|⟨a,_|⟨b,_|⟨c,_|⟨d,_|⟨e,_|⟨f,_|⟨g,_|⟨i,_|⟨j,_|⟨k,l⟩⟩⟩⟩⟩⟩⟩⟩⟩⟩<;>simp at h
 exact⟨a,b,c,d,e,f,g,i,j,rfl⟩
theorem Qn{a:Int}(h:(Lit.int .u8 a).wf=true):∃y:UInt8,a=(y.toNat:Int):=by
 obtain⟨e,f⟩:=KR h;refine⟨UInt8.ofNat a.toNat,?_⟩;rw[uU];omega
theorem Js{k:Nat}{cs:List Value}{x:DataW H×List MemPlace}(q:cs.length=9)(h:DataW.trod enc prog w base spare held k 52 cs=some x):
  ∃(d:gE.Do) (a:Option Addr) (n cap:Nat),cs=[.int .i64 d.kind,.int .i64 d.n,.int .i64 d.jy,.int .i64 d.t,.int .u8 (d.y.toNat:Int),.int .i64 d.b.c,.slice a n cap,.string d.stream,.int .i64 d.ll]/\Es w a n cap d.b.il/\d.stream.size<=maxLen/\Fits d:=by
 obtain⟨c0,c1,c2,c3,c4,X,Y,c7,c8,rfl⟩:=nine q;obtain⟨V,f,_,_,_,r,e⟩:=DataW.trod_struct underlying52 h;have r:V.length=8:=r;have hI:Tryz.prog.cellsOf 3=1:=by kernel_rfl
 have hU:Tryz.prog.cellsOf 5=1:=by kernel_rfl
 have hS:Tryz.prog.cellsOf 9=1:=by kernel_rfl
 have hB:Tryz.prog.cellsOf 50=2:=by kernel_rfl
 have hE:Tryz.prog.cellsOf 40=1:=by kernel_rfl
 have m:∀j (U:j<8),V[j]?=some (V[j]'(by omega)):=fun j U=>jz (by omega);have G:=(e 0 _ rfl).trans (m 0 (by omega));have I:=(e 1 _ rfl).trans (m 1 (by omega));have K:=(e 2 _ rfl).trans (m 2 (by omega));have L:=(e 3 _ rfl).trans (m 3 (by omega));have N:=(e 4 _ rfl).trans (m 4 (by omega));have O:=(e 5 _ rfl).trans (m 5 (by omega));have P:=(e 6 _ rfl).trans (m 6 (by omega));have Q:=(e 7 _ rfl).trans (m 7 (by omega));change DataW.trod enc prog w base spare held f 3 (List.take (Tryz.prog.cellsOf 3) _)=_ at G I K L Q;change DataW.trod enc prog w base spare held f 5 (List.take (Tryz.prog.cellsOf 5) _)=_ at N;change DataW.trod enc prog w base spare held f 50 (List.take (Tryz.prog.cellsOf 50) _)=_ at O;change DataW.trod enc prog w base spare held f 9 (List.take (Tryz.prog.cellsOf 9) _)=_ at P;rw[hI] at G I K L Q;rw[hU] at N;rw[hB] at O;rw[hS] at P;change DataW.trod enc prog w base spare held f 3 [c0]=_ at G;change DataW.trod enc prog w base spare held f 3 [c1]=_ at I;change DataW.trod enc prog w base spare held f 3 [c2]=_ at K;change DataW.trod enc prog w base spare held f 3 [c3]=_ at L;change DataW.trod enc prog w base spare held f 5 [c4]=_ at N;change DataW.trod enc prog w base spare held f 50 [X,Y]=_ at O;change DataW.trod enc prog w base spare held f 9 [c7]=_ at P;change DataW.trod enc prog w base spare held f 3 [c8]=_ at Q;obtain⟨W,C,_,_,_,B,o⟩:=DataW.trod_struct underlying50 O;have B:W.length=2:=B;have hz:∀j (U:j<2),W[j]?=some (W[j]'(by omega)):=fun j U=>jz (by omega);have E:=(o 0 _ rfl).trans (hz 0 (by omega));have F:=(o 1 _ rfl).trans (hz 1 (by omega));change DataW.trod enc prog w base spare held C 3 (List.take (Tryz.prog.cellsOf 3) _)=_ at E;change DataW.trod enc prog w base spare held C 40 (List.take (Tryz.prog.cellsOf 40) _)=_ at F;rw[hI] at E;rw[hE] at F;change DataW.trod enc prog w base spare held C 3 [X]=_ at E;change DataW.trod enc prog w base spare held C 40 [Y]=_ at F;obtain⟨g0,Z,_,_⟩:=pA underlying3 G;obtain⟨g1,e1,_,w1⟩:=pA underlying3 I;obtain⟨g2,e2,_,w2⟩:=pA underlying3 K;obtain⟨g3,e3,_,_⟩:=pA underlying3 L;obtain⟨g4,e4,_,w4⟩:=pA underlying5 N;obtain⟨g5,e5,_,w5⟩:=pA underlying3 E;obtain⟨a,n,cap,l,e6,S⟩:=Gj F;obtain⟨g7,e7,_,hs⟩:=DataW.trod_string underlying9 P;obtain⟨g8,e8,_,_⟩:=pA underlying3 Q;obtain⟨y,rfl⟩:=Qn w4;simp at Z e1 e2 e3 e4 e5 e7 e8;subst Z e1 e2 e3 e4 e5 e6 e7 e8;exact⟨⟨g0,g1,g2,g3,y,⟨g5,l⟩,g7,g8⟩,a,n,cap,rfl,S,hs,⟨ts w5,ts w1,ts w2⟩⟩
theorem Mk{q:Nat}{v:Value}{x:DataW H×List MemPlace}(h:DataW.trod enc prog w base spare held q 24 [v]=some x):∃a n cap l,v=.slice a n cap/\K9 w a n cap l/\∀d∈l,Fits d:=by
 rcases open_slice underlying24 h with⟨h0,_⟩|⟨a,n,cap,m,k,D,Pl,K,_,W,X,C,_,hi⟩
 .obtain rfl:v=.slice none 0 0:=by simpa using h0
  exact⟨none,0,0,[],rfl,⟨jb _,Nat.zero_le _,rfl,fun h=>absurd h (by omega)⟩,fun d hd=>by cases hd⟩
 .obtain rfl:v=.slice (some a) n cap:=by simpa using K
  have Q:Tryz.prog.cellsOf 52=9:=by kernel_rfl
  rcases pD n with h0|h0
  .subst h0;exact⟨some a,0,cap,[],rfl,⟨W,X,rfl,fun h=>absurd h (by omega)⟩,fun d hd=>by cases hd⟩
  .have O:∃b off,a=⟨b,off,none⟩:=by
    obtain⟨F,r,I⟩:=hi 0 (by rw[C];split<;>omega);rw[Q] at r;obtain⟨_,e,zH⟩:=World.cells?_some r;obtain⟨d,ea,G,ec,rfl,S,Y,f⟩:=Js e I;have P:=zH 0 (by omega);rw[Nat.zero_mul] at P;obtain⟨b,off,E⟩:=a;have o:E=none:=by have:=World.cell?_spot P;unfold Addr.add at this;simpa using this
    exact⟨b,off,by rw[o]⟩
   obtain⟨b,off,rfl⟩:=O;have hp:∀i,i<n->∃d:gE.Do,IY w b (off+i*9) d/\Fits d:=by
    intro i B;have N:i<m:=by rw[C];split<;>omega
    obtain⟨F,r,I⟩:=hi i N;rw[Q] at r;obtain⟨_,e,zH⟩:=World.cells?_some r;obtain⟨d,ea,G,ec,rfl,S,Y,f⟩:=Js e I;have zH:∀j,j<9->w.cell? ⟨b,off+i*9+j,none⟩=[Value.int .i64 d.kind,.int .i64 d.n,.int .i64 d.jy,.int .i64 d.t,.int .u8 (d.y.toNat:Int),.int .i64 d.b.c,.slice ea G ec,.string d.stream,.int .i64 d.ll][j]?:=fun j Z=>by have:=zH j Z;rwa[je,je] at this
    exact⟨d,⟨zH 0 (by omega),zH 1 (by omega),zH 2 (by omega),zH 3 (by omega),zH 4 (by omega),zH 5 (by omega),⟨ea,G,ec,zH 6 (by omega),S⟩,zH 7 (by omega),zH 8 (by omega),Y⟩,f⟩
   have:Inhabited gE.Do:=⟨⟨0,0,0,0,0,⟨0,[]⟩,⟨#[]⟩,0⟩⟩;obtain⟨V,U⟩:=choose_lt (α:=gE.Do) hp;refine⟨_,n,cap,(List.range n).map V,rfl,⟨W,X,by simp,fun _=>⟨b,off,rfl,fun i L=>?_⟩⟩,fun d hd=>?_⟩
   .have B:i<n:=by simpa using L
    simpa using(U i B).1
   .obtain⟨i,hi,rfl⟩:=iu.1 hd;exact(U i (mc.1 hi)).2
end
end Go.Proofs.YthhcdfjijagalaaGreat

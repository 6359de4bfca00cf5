import Derived.Test.YthhcdfjijagalaaGreatM30
set_option linter.all false
set_option maxHeartbeats 8000000
set_option maxRecDepth 100000
namespace Go.Proofs.YthhcdfjijagalaaGreat
open Qz Go.Proofs.Tryz Go.RowKit
def Qh(t:TypeId):Bool:=t !=46&&t !=63&&t !=66&&t !=5&&t !=50&&t !=78&&t !=3&&t !=55
theorem nN.off{w w':World}{base p b:Nat}{m:ig}{cs:Array Value}{t:TypeId}(h:nN w base p m)(q:gU w w' [b])(hb:w.heap[b]?=some (.cells cs t))(E:Qh t=true):nN w' base p m:=by
 simp only[Qh,yF,ij,ne_eq] at E;obtain⟨⟨⟨⟨⟨⟨⟨K,L⟩,N⟩,O⟩,P⟩,Q⟩,S⟩,U⟩:=E;have k:∀{f:Nat} {e:TypeId} {sz n:Nat} {v:Value} {xs:List Value},w.ownsRow f e sz v n xs->¬t=e->w'.ownsRow f e sz v n xs:=fun B o=>q.own B (fun x j F=>by
  obtain rfl:x=b:=by simpa using j
  exact gP B hb (fun e=>o e.symm) F)
 refine⟨q.jJ h.box (fun G=>?_),h.le,k h.ng L,fun x j=>k (h.held x j) N,fun x j y I=>k (h.bytes x j y I) O,h.sep,k h.tail P,fun r C=>⟨k (h.il r C).1 Q,(h.il r C).2⟩,k h.seen S,k h.ib U,h.EN⟩;obtain rfl:p=b:=by simpa using G
 exact km h.box hb (fun e=>K e.symm) rfl
theorem Kt.off{w V W:World}{b:Nat}(h:Kt w V)(e:gU V W [b])(hb:w.heap.size<=b):Kt w W:=
 ⟨e.os.trans h.os,e.tape.trans h.tape,e.output.trans h.output,jY h.size e.size,fun k cs t f j=>e.jJ (h.block k cs t f j) (by have:=iq f;simp;omega)⟩
def j7(base p:Nat)(f:gE.St)(a:gE.An)(w:World)(e:Ending)(w':World):Prop:=∃v m',e=.returned v/\uj w' base v a/\nN w' base p m'/\m'.st=f/\Kt w w'/\Below base w w'
theorem uj.Ik(w:World)(base:Nat):uj w base (gX 0 0 () 0 ()) gE.Hg:=⟨none,0,none,0,rfl,EO.nil _ _,AO.nil _ _⟩
theorem Pu{s:gE.St}{d:gE.Do}(h:d.n<0∨(s.gI.length:Int)<=d.n):gE.kF s d=(s,gE.nf 6):=by unfold gE.kF;rw[gG h]
theorem Pv{s:gE.St}{d:gE.Do}(h:¬(d.n<0∨(s.gI.length:Int)<=d.n))(e:d.kind=6):gE.kF s d=({s with gI:=s.gI.set d.n.toNat ⟨false,[]⟩},gE.Hg):=by unfold gE.kF;rw[gC h,gG e]
theorem Pw{s:gE.St}{d:gE.Do}(h:¬(d.n<0∨(s.gI.length:Int)<=d.n))(e:¬d.kind=6)(f:d.kind=5):gE.kF s d=if (s.gI.getD d.n.toNat ⟨false,[]⟩).gone=true then(s,gE.nf 8) else({s with gI:=s.gI.set d.n.toNat ⟨true,[]⟩},gE.Hg):=by unfold gE.kF;rw[gC h,gC e,gG f]
theorem Px{s:gE.St}{d:gE.Do}(h:¬(d.n<0∨(s.gI.length:Int)<=d.n))(e:¬d.kind=6)(f:¬d.kind=5)(j:gE.find (s.gI.getD d.n.toNat ⟨false,[]⟩).bl d.jy=none):gE.kF s d=(s,gE.nf 6):=by unfold gE.kF;rw[gC h,gC e,gC f,j]
theorem Pz{s:gE.St}{d:gE.Do}{b:List UInt8}(h:¬(d.n<0∨(s.gI.length:Int)<=d.n))(e:¬d.kind=6)(f:¬d.kind=5)(j:gE.find (s.gI.getD d.n.toNat ⟨false,[]⟩).bl d.jy=some b):gE.kF s d=if d.t<0∨(b.length:Int)<=d.t then(s,gE.nf 3)
   else({s with gI:=s.gI.set d.n.toNat ⟨(s.gI.getD d.n.toNat ⟨false,[]⟩).gone,gE.mK (s.gI.getD d.n.toNat ⟨false,[]⟩).bl d.jy (b.set d.t.toNat (b.getD d.t.toNat 0^^^d.y))⟩},gE.Hg):=by unfold gE.kF;rw[gC h,gC e,gC f,j]
theorem ud(base p:Nat)(m:ig)(K:Nat)(db off:Nat)(d:gE.Do)(w:World)(h:nN w base p m)(hk:gE.Ok m.st K)(hd:IY w db off d):
  Calls prog 21 #[(p,gy),(db,off)] w (j7 base p (gE.kF m.st d).1 (gE.kF m.st d).2 w):=by
 have HS:=gx ((h.alloc (.cells #[(db,off)] 48)).alloc (.cells #[gy,gy,(),gy,()] 42));have HP:=gx (gF (o':=.cells #[gy,gy,(),gy,()] 42) (gO w (.cells #[(db,off)] 48)));have HV:=gx (gO (w.alloc (.cells #[(db,off)] 48)) (.cells #[gy,gy,(),gy,()] 42));have HW:=gx (((iU w.heap.size w).alloc gM (.cells #[(db,off)] 48)).alloc (by simp) (.cells #[gy,gy,(),gy,()] 42));have az:base<=w.heap.size:=jY h.le (pp h.lt);have H1:=gx (@Pu m.st d);have H2:=gx (@Pv m.st d);have H3:=gx (@Pw m.st d);have H4:=gx (@Px m.st d);have H5:=gx (fun(b:List UInt8)=>@Pz m.st d b);have aM:=gx (show m.st.gI.length=m.D.length by simp[ig.st]);rw[aM.out] at H1 H2 H3 H4 H5;have aU:m.D.length<=12:=by have:=hk.Eh;simpa[ig.st] using this
 have ax:1<=m.D.length:=by have h1:=hk.nd;have h2:=hk.d;have h3:=hk.sp;rw[aM.out] at h1;omega
 obtain⟨da,dc,aS,-⟩:=gK h.ng;obtain⟨gd,cp,e',ap,a6,a7,a8⟩:=jR h.ng ax;have aj:=gx e';clear aS;have aY:=hd.lt;have HD:=gx (hd.below HW);clear h hd hk;obtain⟨N,hN⟩:∃N,N=m.D.length:=⟨_,rfl⟩;rw[<-hN] at H1 H2 H3 H4 H5 aU ax aj;replace hN:=gx hN;go_enter func21,ntmps21;go_wp2_with fail;obtain⟨wb,aH⟩:∃wb,wb=(w.alloc (.cells #[(db,off)] 48)).alloc (.cells #[gy,gy,(),gy,()] 42):=⟨_,rfl⟩;rw[<-aH] at HS HP HV HW HD⊢;have aV:w.heap.size+1<wb.heap.size:=by rw[aH];simp
 simp only[jH] at HV;obtain⟨B,hB⟩:∃B,B=w.heap.size+1:=⟨_,rfl⟩;rw[<-hB] at HV aV⊢;obtain⟨P,hP⟩:∃P,P=w.heap.size:=⟨_,rfl⟩;rw[<-hP] at HP⊢;clear aH;have L:w.heap.size<=B:=by omega
 have O:base<=B:=by omega
 have a4:P≠B:=by omega
 have a3:B≠P:=by omega
 have a9:gd≠B:=by omega
 have ak:B≠gd:=by omega
 have bd:gd≠P:=by omega
 have a5:P≠gd:=by omega
 replace hB:=gx hB;replace hP:=gx hP;have aA:=HW.mono az;have KB:=gx (Kt.below HW);have p0:wb.cell? (P,gy)=some (.pointer (some (db,off))):=gw HP;have k1:wb.cell? (db,off+1)=some (.int .i64 d.n):=HD.n;have c3:wb.cell? (p,jF)=some (.slice (some (gd,gy)) N cp):=by have:=gw (i:=3) HS.box;change _=some m.dv at this;rw[this,aj.out]
 have a1:=gx c3;by_cases r:d.n<0∨(N:Int)<=d.n
 .have I:=gx (H1 r);clear H1 H2 H3 H4 H5;rcases oj (d.n<0) with BL|BL
  .have t0:decide (d.n<0)=true:=kr BL;clear r;replace BL:=gx BL;go_wp2_with fail;go_quiet (fail);generalize X:wb.drewN nq=wx;have bx:Below wb wb wx:=X▸below_drewN gZ _;have vx:=gB HV bx;have Xx:=gx (HS.below bx);have Kx:=gx (KB.trans (Kt.below bx));have ay:=aA.trans (bx.mono (by omega));clear X bx p0 k1 c3;obtain⟨r0,r1,r2,r3,r4⟩:=jV vx;have f0:∀j,wx.frozen? ⟨B,j,none⟩=false:=fun j=>gA vx;go_wp2_with fail;obtain⟨W,Q,q,o,f,E⟩:=gN ay O vx mu gy () gy ();rw[Q];obtain⟨Y,Z,q2,q3,q4⟩:=jV q;refine gS (v:=gX (6) (0) () (0) ()) (by unfold gX;simp[results,results21,go_sem,Y,Z,q2,q3,q4]) rfl ⟨_,m,rfl,?_,(Xx).off f vx (by decide),?_,(Kx).off f L,o⟩;·rw[I.out];exact uj.err _ _ _
   .rw[I.out]
  .have t0:decide (d.n<0)=false:=ju BL;have t1:decide ((N:Int)<=d.n)=true:=kr (by rcases r with h|h;exact absurd h BL;exact h);clear r;replace BL:=gx BL;go_wp2_with fail;go_quiet (fail);generalize X:wb.drewN nq=wx;have bx:Below wb wb wx:=X▸below_drewN gZ _;have vx:=gB HV bx;have Xx:=gx (HS.below bx);have Kx:=gx (KB.trans (Kt.below bx));have ay:=aA.trans (bx.mono (by omega));clear X bx p0 k1 c3;obtain⟨r0,r1,r2,r3,r4⟩:=jV vx;have f0:∀j,wx.frozen? ⟨B,j,none⟩=false:=fun j=>gA vx;go_wp2_with fail;obtain⟨W,Q,q,o,f,E⟩:=gN ay O vx mu gy () gy ();rw[Q];obtain⟨Y,Z,q2,q3,q4⟩:=jV q;refine gS (v:=gX (6) (0) () (0) ()) (by unfold gX;simp[results,results21,go_sem,Y,Z,q2,q3,q4]) rfl ⟨_,m,rfl,?_,(Xx).off f vx (by decide),?_,(Kx).off f L,o⟩;·rw[I.out];exact uj.err _ _ _
   .rw[I.out]
 .have H2:=gx (H2 r);have H3:=gx (H3 r);have H4:=gx (H4 r);have H5:=gx (fun(b:List UInt8)=>H5 b r);have BL:¬d.n<0:=fun h=>r (.inl h);have ad:¬(N:Int)<=d.n:=fun h=>r (.inr h);obtain⟨k,aC⟩:=jD (a:=d.n) (by omega);rw[aC] at k1 BL ad H2 H3 H4 H5;simp only[lS] at H2 H3 H4 H5;have aT:k<N:=by omega
  have t0:decide ((k:Int)<0)=false:=ju BL;have t1:decide ((N:Int)<=(k:Int))=false:=ju ad;replace aC:=gx aC;clear r H1 BL ad;go_wp2_with fail;go_quiet (fail);generalize X:wb.drewN nq=wx;have bx:Below wb wb wx:=X▸below_drewN gZ _;have p1:=(bx.cell (p:=(P,gy)) (iq HP)).trans p0;have k2:=(bx.cell (p:=(db,off+1)) HD.lt).trans k1;have c4:=(bx.cell (p:=(p,jF)) HS.lt).trans c3;have i0:(0:Int)<=(k:Int):=by omega
  have i1:(k:Int)<(N:Int):=by omega
  clear X p0 k1 c3 t0 t1;go_wp2_with fail;go_quiet (fail);generalize aQ:wx.drewN nq=wy;have bw:=gH bx (show Below wx wx wy from aQ▸below_drewN gZ _);clear aQ p1 k2 c4 bx;have vy:=gB HV bw;have Xy:=gx (HS.below bw);have Ky:=gx (KB.trans (Kt.below bw));have af:=aA.trans (bw.mono (by omega));have Dy:=gx (HD.below bw);have Py:=gB HP bw;have a0:=bw.size;have p2:wy.cell? (P,gy)=some (.pointer (some (db,off))):=gw Py;have k0:wy.cell? (db,off)=some (.int .i64 d.kind):=Dy.kind;have k3:wy.cell? (db,off+3)=some (.int .i64 d.t):=Dy.t;have aB:k<m.D.length:=by rw[<-hN.out];exact aT
  have ao:=Xy.ng;rw[aj.out,<-hN.out] at ao;obtain⟨a',ar,G,aE⟩:=gK ao;cases G;obtain⟨aX,aO,-⟩:=js ao;have fg:∀j,wy.frozen? ⟨gd,j,none⟩=false:=fun j=>gA aO;rw[hN.out] at aE;obtain⟨e0,e1⟩:=pd aE k aB;simp only[jk] at e0 e1;have hx:m.D[k]?=some m.D[k]:=jz aB;obtain⟨x,aI⟩:∃x,x=m.D[k]:=⟨_,rfl⟩;rw[<-aI] at e0 e1 hx;have ah:m.st.gI.getD k ⟨false,[]⟩=x.dk:=by rw[aI];simp[ig.st,List.getD,aB]
  rw[ah] at H3 H4 H5;have HX:=gx hx;have aw:=gx (aj.trans (show Value.slice (some (gd,gy)) N cp=Value.slice (some (gd,gy)) m.D.length cp by rw[hN.out]));have aK:=gx (Xy.held x (jX hx));clear aE aO ao ah aI hx bw;obtain⟨g,xa,xc,H⟩:=x;simp only at e0 e1;obtain⟨r0,r1,r2,r3,r4⟩:=jV vy;have f0:∀j,wy.frozen? ⟨B,j,none⟩=false:=fun j=>gA vy;by_cases h6:d.kind=6
  .have I:=gx (H2 h6);have t6:(d.kind==6)=true:=by simpa using h6
   replace h6:=gx h6;clear H2 H3 H4 H5;obtain⟨XV,KV⟩:=Xy.empty k _ false HX gd cp aw;have vV:=pV (i:=k*2+1) (pV (i:=k*2) vy ak (.bool false)) ak ();have bV:=(af.setCell (p:=(gd,k*2)) ap (.bool false)).setCell (p:=⟨gd,k*2+1,none⟩) ap ();replace XV:=gx XV;replace KV:=gx (Ky.trans KV);replace vV:=gx vV;replace bV:=gx bV;go_wp2_with fail;obtain⟨W,Q,q,o,f,E⟩:=gN bV O vV gy gy () gy ();rw[Q];obtain⟨Y,Z,q2,q3,q4⟩:=jV q;refine gS (v:=gX (0) (0) () (0) ()) (by unfold gX;simp[results,results21,go_sem,Y,Z,q2,q3,q4]) rfl ⟨_,{m with D:=m.D.set k ⟨false,none,0,[]⟩},rfl,?_,(XV).off f vV (by decide),?_,(KV).off f L,o⟩;·rw[I.out];exact uj.Ik _ _
   .rw[I.out];simp[ig.st,nz,Dm.dk]
  .have t6:(d.kind==6)=false:=by simpa using h6
   by_cases h5:d.kind=5
   .have I:=gx (H3 h6 h5);have t5:(d.kind==5)=true:=by simpa using h5
    replace h6:=gx h6;replace h5:=gx h5;clear H2 H3 H4 H5;cases g with
    |true=>
     replace I:=gx (I.trans (gG rfl));go_wp2_with fail;obtain⟨W,Q,q,o,f,E⟩:=gN af O vy pt gy () gy ();rw[Q];obtain⟨Y,Z,q2,q3,q4⟩:=jV q;refine gS (v:=gX (8) (0) () (0) ()) (by unfold gX;simp[results,results21,go_sem,Y,Z,q2,q3,q4]) rfl ⟨_,m,rfl,?_,(Xy).off f vy (by decide),?_,(Ky).off f L,o⟩;·rw[I.out];exact uj.err _ _ _
     .rw[I.out]
    |false=>
     replace I:=gx (I.trans (gC (show¬(false=true) from Bool.false_ne_true)));obtain⟨XV,KV⟩:=Xy.empty k _ true HX gd cp aw;have vV:=pV (i:=k*2+1) (pV (i:=k*2) vy ak (.bool true)) ak ();have bV:=(af.setCell (p:=(gd,k*2)) ap (.bool true)).setCell (p:=⟨gd,k*2+1,none⟩) ap ();replace XV:=gx XV;replace KV:=gx (Ky.trans KV);replace vV:=gx vV;replace bV:=gx bV;go_wp2_with fail;obtain⟨W,Q,q,o,f,E⟩:=gN bV O vV gy gy () gy ();rw[Q];obtain⟨Y,Z,q2,q3,q4⟩:=jV q;refine gS (v:=gX (0) (0) () (0) ()) (by unfold gX;simp[results,results21,go_sem,Y,Z,q2,q3,q4]) rfl ⟨_,{m with D:=m.D.set k ⟨true,none,0,[]⟩},rfl,?_,(XV).off f vV (by decide),?_,(KV).off f L,o⟩;·rw[I.out];exact uj.Ik _ _
     .rw[I.out];simp[ig.st,nz,Dm.dk]
   .have t5:(d.kind==5)=false:=by simpa using h5
    replace H4:=gx (H4 h6 h5);replace H5:=gx (fun b=>H5 b h6 h5);replace h6:=gx h6;replace h5:=gx h5;clear H2 H3;obtain⟨a',ar,G,S⟩:=gK aK;simp only[Dm.v,kx,kI] at G;obtain⟨rfl,rfl⟩:=G;change Sl wy 2 xa H.length xc (rows jE H) at S;have DI:=gx (FR xa H.length xc H P db off d.jy wy S (gw Py) Dy.jy);clear S Py;go_wp2_with fail;go_at_call 48;refine(DI).mono ?_;rintro e w1⟨b1,hf⟩;have v1:=gB vy b1;have X1:=gx (Xy.below b1);have K1:=gx (Ky.trans (Kt.below b1));have ae:=af.trans (b1.mono (by omega));have D1:=gx (Dy.below b1);have p3:=(b1.cell (p:=(P,gy)) (iM _ _ p2)).trans p2;have k4:w1.cell? (db,off+3)=some (.int .i64 d.t):=D1.t;have k5:w1.cell? (db,off+4)=some (.int .u8 (d.y.toNat:Int)):=D1.y;have e2:=(b1.cell (p:=⟨gd,k*2+1,none⟩) (iM _ _ e1)).trans e1;have aZ:=b1.size;clear r0 r1 r2 r3 r4 f0 fg p2 k0 k3 e0 e1 DI vy af;obtain⟨r0,r1,r2,r3,r4⟩:=jV v1;have f0:∀j,w1.frozen? ⟨B,j,none⟩=false:=fun j=>gA v1;rcases hf with⟨a,ha,rfl,ag,al⟩|⟨rfl,aD⟩
    .have HF:=gx (ur ha ag al);have C:=gx (H5 _ HF);have ai:=gx (fun(y:Hm) (hy:y.s=H[a].s)=>Ey H d.jy y a ha ag (hy.trans ag) al);replace ag:=gx ag;replace al:=gx al;have aL:=gx (gL aK b1);obtain⟨a',ar,G,S⟩:=gK aL;simp only[Dm.v,kx,kI] at G;obtain⟨rfl,rfl⟩:=G;change Sl w1 2 xa H.length xc (rows jE H) at S;obtain⟨hb,ho,rfl,-⟩:=S.addr (by omega);obtain⟨y0,y1⟩:=qA S a ha;have j0:(0:Int)<=(a:Int):=by omega
     have j1:(a:Int)<(H.length:Int):=by omega
     have ab:=gx (X1.bytes _ (jX HX) H[a] (iE ha));obtain⟨z,hz⟩:∃z,z=H[a]:=⟨_,rfl⟩;rw[<-hz] at y0 y1 ab C ai;have HZ:=gx hz;obtain⟨zs,za,zc,F⟩:=z;simp only at y0 y1 C ai;clear S y0 b1 hz;by_cases U:d.t<0∨(F.length:Int)<=d.t
     .replace C:=gx (C.trans (gG U));rcases oj (d.t<0) with BL|BL
      .clear U;go_wp2_with fail;obtain⟨W,Q,q,o,f,E⟩:=gN ae O v1 jF gy () gy ();rw[Q];obtain⟨Y,Z,q2,q3,q4⟩:=jV q;refine gS (v:=gX (3) (0) () (0) ()) (by unfold gX;simp[results,results21,go_sem,Y,Z,q2,q3,q4]) rfl ⟨_,m,rfl,?_,(X1).off f v1 (by decide),?_,(K1).off f L,o⟩;·rw[C.out];exact uj.err _ _ _
       .rw[C.out]
      .have ad:(F.length:Int)<=d.t:=by rcases U with h|h;exact absurd h BL;exact h
       clear U;go_wp2_with fail;obtain⟨W,Q,q,o,f,E⟩:=gN ae O v1 jF gy () gy ();rw[Q];obtain⟨Y,Z,q2,q3,q4⟩:=jV q;refine gS (v:=gX (3) (0) () (0) ()) (by unfold gX;simp[results,results21,go_sem,Y,Z,q2,q3,q4]) rfl ⟨_,m,rfl,?_,(X1).off f v1 (by decide),?_,(K1).off f L,o⟩;·rw[C.out];exact uj.err _ _ _
       .rw[C.out]
     .replace C:=gx (C.trans (gC U));have BL:¬d.t<0:=fun h=>U (.inl h);have ad:¬(F.length:Int)<=d.t:=fun h=>U (.inr h);obtain⟨t,aF⟩:=jD (a:=d.t) (by omega);rw[aF] at k4 BL ad C;simp only[lS] at C;have aP:t<F.length:=by omega
      obtain⟨bb,bc,G,-,-,-,-⟩:=jR ab (by show 0<F.length;omega);simp only[Hm.v,kx,kI] at G;obtain⟨rfl,rfl⟩:=G;have au:w1.ownsRow base 5 1 (some (bb,gy),F,zc) F.length (cb F):=ab.out;have y2:=nS au t aP;have h8:=iP F t;have aR:d.y.toNat<256:=pz d.y;have aW:=sG (iB F t) d.y.toNat h8 aR;have aq:(F.getD t 0^^^d.y).toNat=iB F t^^^d.y.toNat:=UInt8.toNat_xor _ _;clear au;generalize iB F t=va at *;obtain⟨vy,aG⟩:∃vy,vy=d.y.toNat:=⟨_,rfl⟩;rw[<-aG] at k5 aR aW aq;generalize va^^^vy=vx at *;replace aq:=gx aq;replace aG:=gx aG;have s0:(0:Int)<=(t:Int):=by omega
      have s1:(t:Int)<(F.length:Int):=by omega
      have ff:w1.frozen? (bb,t)=false:=by obtain⟨a2,hc,-⟩:=js ab;exact gA hc
      replace aF:=gx aF;clear U;go_wp2_with fail;refine vH 13 (by kernel_rfl) (by kernel_rfl) ?_;change wpStill _ _ (World.drew _) _ _ _;simp only[su,oO,sw,tK];repeat still_step
      refine wpStill_nil ?_;change wpList _ _ _ _ _ (World.drewN w1 1);go_upto_region 20 with(fail);have bz:=below_drewN (iU w1.heap.size w1) 1;obtain⟨XV,KV⟩:=(X1.below bz).GN k a t _ HX ha bb (by show(H[a]'ha).a=_;rw[<-HZ.out]) (by show t<(H[a]'ha).b.length;rw[<-HZ.out];exact aP) (F.getD t 0^^^d.y);rw[aq.out] at XV KV;have aN:base<=bb:=by have h1:=ab.lt bb rfl;exact h1.1
      have aJ:B≠bb:=by intro e;subst e;obtain⟨cs,h1⟩:=mF ab rfl;exact km h1 v1 (by decide) rfl
      have vV:=pV (i:=t) (gB v1 bz) aJ (.int .u8 (vx:Int));have bV:=(ae.trans (bz.mono (by omega))).setCell (p:=(bb,t)) aN (.int .u8 (vx:Int));replace XV:=gx XV;replace KV:=gx ((K1.trans (Kt.below bz)).trans KV);generalize (w1.drewN 1).setCell (bb,t) (.int .u8 (vx:Int))=V at *;clear r0 r1 r2 r3 r4 f0 ae v1 p3 k4 k5 e2 y1 y2 ff bz;obtain⟨r0,r1,r2,r3,r4⟩:=jV vV;have f0:∀j,V.frozen? ⟨B,j,none⟩=false:=fun j=>gA vV;go_wp2_with fail;obtain⟨W,Q,q,o,f,E⟩:=gN bV O vV gy gy () gy ();rw[Q];obtain⟨Y,Z,q2,q3,q4⟩:=jV q;refine gS (v:=gX (0) (0) () (0) ()) (by unfold gX;simp[results,results21,go_sem,Y,Z,q2,q3,q4]) rfl ⟨_,_,rfl,?_,(XV).off f vV (by decide),?_,(KV).off f L,o⟩;·rw[C.out];exact uj.Ik _ _
      .rw[C.out];have hq:gE.mK (H.map Hm.hd) d.jy (F.set t (F.getD t 0^^^d.y))=(H.set a ⟨zs,some (bb,gy),zc,F.set t (F.getD t 0^^^d.y)⟩).map Hm.hd:=ai ⟨zs,some (bb,gy),zc,F.set t (F.getD t 0^^^d.y)⟩ rfl;show ig.st _=({m.st with gI:=m.st.gI.set k ⟨g,gE.mK (H.map Hm.hd) d.jy (F.set t (F.getD t 0^^^d.y))⟩}:gE.St);rw[hq];simp only[ig.st,tY,<-HZ.out];rfl
    .have I:=gx (H4 (uq aD));replace aD:=gx aD;clear H4 H5;go_wp2_with fail;obtain⟨W,Q,q,o,f,E⟩:=gN ae O v1 mu gy () gy ();rw[Q];obtain⟨Y,Z,q2,q3,q4⟩:=jV q;refine gS (v:=gX (6) (0) () (0) ()) (by unfold gX;simp[results,results21,go_sem,Y,Z,q2,q3,q4]) rfl ⟨_,m,rfl,?_,(X1).off f v1 (by decide),?_,(K1).off f L,o⟩;·rw[I.out];exact uj.err _ _ _
     .rw[I.out]
end Go.Proofs.YthhcdfjijagalaaGreat

import Derived.Test.YthhcdfjijagalaaGreatM36
set_option linter.all false
set_option maxHeartbeats 4000000
set_option maxRecDepth 100000
namespace Go.Proofs.YthhcdfjijagalaaGreat
open Qz Go.Proofs.Tryz Go.RowKit
structure Nj (w:World) (base:Nat) (m:ig):Prop where
 ng:w.ownsRow base 63 2 m.dv m.D.length (rows mT m.D)
 held:∀x∈m.D,w.ownsRow base 66 2 x.v x.H.length (rows jE x.H)
 bytes:∀x∈m.D,∀h∈x.H,w.ownsRow base 5 1 h.v h.b.length (cb h.b)
 tail:w.ownsRow base 50 2 m.tv m.T.length (iD m.T)
 il:∀r∈m.T,w.ownsRow base 78 3 (r.a,r.n,r.cap) r.n (hQ r.il)/\∀e∈r.il,e.s.size<=maxLen
 seen:w.ownsRow base 3 1 m.sv m.seen.length (m.seen.map (Value.int .i64))
 ib:w.ownsRow base 55 4 m.av m.A.length (gR m.A)
 EN:∀e∈m.A,e.s.size<=maxLen
theorem nN.mem{w:World}{base p:Nat}{m:ig}(h:nN w base p m):Nj w base m:=⟨h.ng,h.held,h.bytes,h.tail,h.il,h.seen,h.ib,h.EN⟩
theorem Nj.below{w w':World}{base:Nat}{m:ig}(h:Nj w base m)(hb:Below w w w'):Nj w' base m:=
 ⟨gL h.ng hb,fun x e=>gL (h.held x e) hb,fun x e y j=>gL (h.bytes x e y j) hb,gL h.tail hb,fun r f=>⟨gL (h.il r f).1 hb,(h.il r f).2⟩,gL h.seen hb,gL h.ib hb,h.EN⟩
def wZ:ig:=⟨0,0,0,.slice none 0 0,[],0,.slice none 0 0,[],.slice none 0 0,[],0,.slice none 0 0,[]⟩
theorem Nj.zero(w:World)(base:Nat):Nj w base wZ:=
 ⟨iY _ _ _ _,(fun x e=>by cases e),(fun x e=>by cases e),iY _ _ _ _,(fun x e=>by cases e),iY _ _ _ _,iY _ _ _ _,(fun x e=>by cases e)⟩
def rT(P:gE.St×List gE.An×Int)(w:World)(e:Ending)(w':World):Prop:=
 ∃m av ac L f,e=.returned (.tuple #[jd m,.slice av L.length ac,.int .i64 f])/\Nj w' w.heap.size m/\Nn w' w.heap.size (.slice av L.length ac) L/\P=(m.st,L.map Am.an,f)/\Below w w w'
theorem rT.bad{P:gE.St×List gE.An×Int}{w w':World}{e:Int}(f:P=(gE.nil,[],e))(hb:Below w w w'):rT P w (.returned (.tuple #[jd wZ,(),e])) w':=
 ⟨wZ,none,0,[],e,rfl,Nj.zero _ _,Nn.nil _ _,f,hb⟩
theorem gE.FI(v:Vw.Vi)(l:List gD.Ev):(Vw.fold v l).v.ib.length<=150:=by
 by_cases h:(Vw.fold v l).err=0
 .obtain⟨j,f⟩:=Vw.DZ h;rw[f] at h⊢;have e:=(Vw.DY l v 0 j h).1;have:=e.len;have:=e.hi;omega
 .rw[Vw.LF h];decide
theorem gE.step_view_len(s:gE.St)(d:gE.Do):(gE.step s d).2.view.ib.length<=150:=by
 have e:Vw.iL.ib.length<=150:=by decide
 by_cases f:d.kind=1
 .rw[gE.step_put f];unfold gE.put;split;·exact e
  .split;·exact e
   .split;·exact e
    .split;·exact e
     .split;·split<;>exact e
      .exact e
 .by_cases m:d.kind=5∨d.kind=6∨d.kind=7
  .rw[gE.step_harm m];unfold gE.kF;split;·exact e
   .split;·exact e
    .split;·split<;>exact e
     .split;·exact e
      .split<;>exact e
  .by_cases o:d.kind=8;·rw[gE.step_scrub o];exact e
   .by_cases h:d.kind=2∨d.kind=3
    .have:(gE.step s d).2=gE.read s d:=by unfold gE.step;rw[gC f,gG h]
     rw[this];unfold gE.read;split;·exact e
     .split;·split<;>exact e
      .split<;>exact e
    .by_cases j:d.kind=4
     .have:(gE.step s d).2=gE.look s:=by unfold gE.step;rw[gC f,gC h,gG j]
      rw[this];unfold gE.look;split;·exact e
      .exact gE.FI _ _
     .unfold gE.step;rw[gC f,gC h,gC j,gC m,gC o];split<;>exact e
theorem zl:(Tryz.prog.info? 42).map (fun i=>(i.zero,i.size,i.bytes))=some (some (.agg #[gy,gy,(),gy,()]),5,72):=by kernel_rfl
theorem AF:(Tryz.prog.info? 63).map (fun i=>(i.zero,i.size,i.bytes))=some (some (.agg #[.bool false,()]),2,32):=by kernel_rfl
def uN:Array Value:=#[.int .i64 0,.int .i64 0,.int .i64 0,.slice none 0 0,.int .i64 0,.slice none 0 0,.slice none 0 0,.int .i64 0,.slice none 0 0]
theorem gV{w j:World}{b:Nat}{x0 x1 x2 x3 O N L I F:Value}{t:TypeId}{B:Nat}(hb:Below B w j)(e:B<=b)(h:j.heap[b]?=some (.cells #[x0,x1,x2,x3,O,N,L,I,F] t))(f v1 v2 m o q C G K:Value):
  ∃W,(((((((((j.setCell (b,gy) f).setCell (b,ia) v1).setCell (b,j6) v2).setCell (b,jF) m).setCell (b,pR) o).setCell (b,nk) q).setCell (b,mu) C).setCell (b,ps) G).setCell (b,pt) K)=W/\W.heap[b]?=some (.cells #[f,v1,v2,m,o,q,C,G,K] t)/\Below B w W/\gU j W [b]:=by
 obtain⟨w2,P⟩:∃W,W=j.setCell (b,gy) f:=⟨_,rfl⟩;have h0:w2.heap[b]?=some (.cells #[f,x1,x2,x3,O,N,L,I,F] t):=by rw[P];exact mB (i:=0) h f
 have b0:Below B w w2:=by rw[P];exact hb.setCell (p:=(b,gy)) e f
 have o0:gU j w2 [b]:=by rw[P];exact(gU.refl j [b]).setCell (a:=(b,gy)) (.inl (by simp)) f
 obtain⟨w3,Q⟩:∃W,W=w2.setCell (b,ia) v1:=⟨_,rfl⟩;have h1:w3.heap[b]?=some (.cells #[f,v1,x2,x3,O,N,L,I,F] t):=by rw[Q];exact mB (i:=1) h0 v1
 have b1:Below B w w3:=by rw[Q];exact b0.setCell (p:=(b,ia)) e v1
 have o1:gU j w3 [b]:=by rw[Q];exact(o0).setCell (a:=(b,ia)) (.inl (by simp)) v1
 obtain⟨w4,S⟩:∃W,W=w3.setCell (b,j6) v2:=⟨_,rfl⟩;have h2:w4.heap[b]?=some (.cells #[f,v1,v2,x3,O,N,L,I,F] t):=by rw[S];exact mB (i:=2) h1 v2
 have b2:Below B w w4:=by rw[S];exact b1.setCell (p:=(b,j6)) e v2
 have o2:gU j w4 [b]:=by rw[S];exact(o1).setCell (a:=(b,j6)) (.inl (by simp)) v2
 obtain⟨w5,U⟩:∃W,W=w4.setCell (b,jF) m:=⟨_,rfl⟩;have h3:w5.heap[b]?=some (.cells #[f,v1,v2,m,O,N,L,I,F] t):=by rw[U];exact mB (i:=3) h2 m
 have b3:Below B w w5:=by rw[U];exact b2.setCell (p:=(b,jF)) e m
 have o3:gU j w5 [b]:=by rw[U];exact(o2).setCell (a:=(b,jF)) (.inl (by simp)) m
 obtain⟨w6,V⟩:∃W,W=w5.setCell (b,pR) o:=⟨_,rfl⟩;have h4:w6.heap[b]?=some (.cells #[f,v1,v2,m,o,N,L,I,F] t):=by rw[V];exact mB (i:=4) h3 o
 have b4:Below B w w6:=by rw[V];exact b3.setCell (p:=(b,pR)) e o
 have o4:gU j w6 [b]:=by rw[V];exact(o3).setCell (a:=(b,pR)) (.inl (by simp)) o
 obtain⟨w7,X⟩:∃W,W=w6.setCell (b,nk) q:=⟨_,rfl⟩;have h5:w7.heap[b]?=some (.cells #[f,v1,v2,m,o,q,L,I,F] t):=by rw[X];exact mB (i:=5) h4 q
 have b5:Below B w w7:=by rw[X];exact b4.setCell (p:=(b,nk)) e q
 have o5:gU j w7 [b]:=by rw[X];exact(o4).setCell (a:=(b,nk)) (.inl (by simp)) q
 obtain⟨w8,Y⟩:∃W,W=w7.setCell (b,mu) C:=⟨_,rfl⟩;have h6:w8.heap[b]?=some (.cells #[f,v1,v2,m,o,q,C,I,F] t):=by rw[Y];exact mB (i:=6) h5 C
 have b6:Below B w w8:=by rw[Y];exact b5.setCell (p:=(b,mu)) e C
 have o6:gU j w8 [b]:=by rw[Y];exact(o5).setCell (a:=(b,mu)) (.inl (by simp)) C
 obtain⟨w9,Z⟩:∃W,W=w8.setCell (b,ps) G:=⟨_,rfl⟩;have h7:w9.heap[b]?=some (.cells #[f,v1,v2,m,o,q,C,G,F] t):=by rw[Z];exact mB (i:=7) h6 G
 have b7:Below B w w9:=by rw[Z];exact b6.setCell (p:=(b,ps)) e G
 have o7:gU j w9 [b]:=by rw[Z];exact(o6).setCell (a:=(b,ps)) (.inl (by simp)) G
 obtain⟨E,r⟩:∃W,W=w9.setCell (b,pt) K:=⟨_,rfl⟩;have h8:E.heap[b]?=some (.cells #[f,v1,v2,m,o,q,C,G,K] t):=by rw[r];exact mB (i:=8) h7 K
 have b8:Below B w E:=by rw[r];exact b7.setCell (p:=(b,pt)) e K
 have o8:gU j E [b]:=by rw[r];exact(o7).setCell (a:=(b,pt)) (.inl (by simp)) K
 exact⟨E,by rw[r,Z,Y,X,V,U,S,Q,P],h8,b8,o8⟩
def JN:Dm:=⟨false,none,0,[]⟩
theorem vB(n:Nat):(madeCells (Value.cells (.agg #[.bool false,()])) (n*2)).toList=rows mT (List.replicate n JN):=by
 simp only[madeCells,Value.cells];apply mW;·rw[lz lJ];simp
 .intro i h j;have hi:i<n*2:=by simpa using h
  have f:=qp lJ (List.replicate n JN) (i/2) (i%2) (by rw[vF];omega) (by omega);rw[show i/2*2+i%2=i by omega,List.getElem_replicate] at f;rw[jz j] at f;rcases Nat.mod_two_eq_zero_or_one i with e|e
  .rw[e] at f;have f:=kO f;simp[e];exact f.symm
  .rw[e] at f;have f:=kO f;simp[e];exact f.symm
theorem C3(d s:Nat)(h:d+s<=12)(W:World):(Instr.makeSlice 25 (.int .i64 ((d:Int)+(s:Int))) (.int .i64 ((d:Int)+(s:Int)))).run prog W=.ok (some (W,gy),(d+s),(d+s)) (W.alloc (.cells (madeCells (Value.cells (.agg #[.bool false,()])) ((d+s)*2)) 63)):=by
 obtain⟨i,hi,m,f,j⟩:=jW AF;have:=run_makeSlice (P:=prog) W 25 63 i _ underlying25 hi m .i64 .i64 ((d:Int)+(s:Int)) ((d:Int)+(s:Int)) (by omega) (by omega) (by rw[f];omega) (by rw[j];omega) (by omega);rw[this,f];have e:((d:Int)+(s:Int)).toNat=d+s:=by omega
 rw[e]
theorem Iu{w f:World}{p d s:Nat}{b:Int}(E:d+s<=12)(C:f.heap[p]?=some (.cells #[gy,gy,gy,(),gy,(),(),gy,()] 46))(v2:f.heap[w.heap.size+1]?=some (.cells uN 32))(b2:Below w w f)(j:w.heap.size<=p)(B:f.heap.size=p+1):
  ∃D,(((((f.setCell (p,gy) d).setCell (p,ia) s).setCell (p,j6) b).setCell (p,jF) (some (p+1,gy),(d+s),(d+s))).alloc (.cells (madeCells #[.bool false,.slice none 0 0] ((d+s)*2)) 63)).drew.heap[p]?=some (.cells #[d,s,b,.slice (some ⟨D,0,none⟩) (d+s) (d+s),gy,(),(),gy,()] 46)/\
   (((((f.setCell (p,gy) d).setCell (p,ia) s).setCell (p,j6) b).setCell (p,jF) (some (p+1,gy),(d+s),(d+s))).alloc (.cells (madeCells #[.bool false,.slice none 0 0] ((d+s)*2)) 63)).drew.ownsRow w.heap.size 63 2 (some (D,gy),(d+s),(d+s)) (d+s) (rows mT (List.replicate (d+s) JN))/\
   Below w w (((((f.setCell (p,gy) d).setCell (p,ia) s).setCell (p,j6) b).setCell (p,jF) (some (p+1,gy),(d+s),(d+s))).alloc (.cells (madeCells #[.bool false,.slice none 0 0] ((d+s)*2)) 63)).drew/\
   (((((f.setCell (p,gy) d).setCell (p,ia) s).setCell (p,j6) b).setCell (p,jF) (some (p+1,gy),(d+s),(d+s))).alloc (.cells (madeCells #[.bool false,.slice none 0 0] ((d+s)*2)) 63)).drew.heap[w.heap.size+1]?=some (.cells uN 32):=by
 obtain⟨W,m⟩:∃W,W=(((f.setCell (p,gy) d).setCell (p,ia) s).setCell (p,j6) b).setCell (p,jF) (some (p+1,gy),(d+s),(d+s)):=⟨_,rfl⟩;have F:gU f W [p]:=by rw[m];exact((((gU.refl f [p]).setCell (a:=(p,gy)) (.inl (by simp)) _).setCell (a:=(p,ia)) (.inl (by simp)) _).setCell (a:=(p,j6)) (.inl (by simp)) _).setCell (a:=(p,jF)) (.inl (by simp)) _
 have q:Below w w W:=by rw[m];exact(((b2.setCell (p:=(p,gy)) j _).setCell (p:=(p,ia)) j _).setCell (p:=(p,j6)) j _).setCell (p:=(p,jF)) j _
 have G:W.heap[p]?=some (.cells #[d,s,b,(some (p+1,gy),(d+s),(d+s)),gy,(),(),gy,()] 46):=by have L:=mB (i:=0) C d;have N:=mB (i:=1) L s;have O:=mB (i:=2) N b;have P:=mB (i:=3) O (some (p+1,gy),(d+s),(d+s));rw[m];exact P
 have I:W.heap.size=p+1:=by rw[m,pn,pn,pn,pn,B]
 rw[<-m];have r:p≠w.heap.size+1:=km C v2 (by decide);have K:W.heap[w.heap.size+1]?=some (.cells uN 32):=F.jJ v2 (by intro h;exact r (by have:=iA.1 h;exact this.symm));refine⟨p+1,gF G,?_,?_,gF K⟩
 .have o:d+s<=maxLen:=by unfold maxLen;omega
  have:=sA (e:=63) (base:=w) (size:=2) W (madeCells #[.bool false,.slice none 0 0] ((d+s)*2)) (d+s) q.size o (size_madeCells _ _);rw[I] at this;rw[<-vB];exact this
 .exact iV (q.alloc q.size _)
theorem Lh{f r:World}{j sz n:Nat}{v:Value}{xs:List Value}(K:f.ownsRow j 42 sz v n xs)(w:gU f r v.ownBlock.toList):
  (∀{base:Nat} {e:TypeId} {sz n:Nat} {v:Value} {xs:List Value},f.ownsRow base e sz v n xs->e≠42->r.ownsRow base e sz v n xs)/\(∀(base p:Nat) (m:ig),nN f base p m->nN r base p m)/\
  ∀(k:Nat) (cs:Array Value) (t:TypeId),f.heap[k]?=some (.cells cs t)->t≠42->r.heap[k]?=some (.cells cs t):=by
 cases hb:v.ownBlock with
 |none=>
  rw[hb] at w;have B:Below f f r:=w.nZ gM (fun x E=>by simp at E);exact⟨fun h _=>gL h B,fun _ _ _ h=>h.below B,fun _ _ _ h _=>gB h B⟩
 |some g=>
  rw[hb] at w;obtain⟨cs,C⟩:=mF K hb;have o:gU f r [g]:=w;exact⟨fun h q=>o.own h (fun x E G=>by
   obtain rfl:x=g:=by simpa using E
   exact gP h C (fun e=>q e) G),fun _ _ _ h=>h.off o C (by decide),fun k F t h q=>o.jJ h (fun I=>by
   obtain rfl:k=g:=by simpa using I
   exact km h C q rfl)⟩
theorem Bk(d s b:Int)(a:Option Addr)(n cap:Nat)(l:List gE.Do)(w:World)(Z:K9 w a n cap l)(K:gE.kA d s b≠0∨80<n):
  Calls prog 4 #[.agg #[d,s,b],(a,n,cap)] w (rT (gE.tg d s b l) w):=by
 have HN:=gx Z.jO;have r:=gx (gO (w.alloc (.cells #[d,s,b] 23)) (.cells uN 32));have C:=gx (((iU w.heap.size w).alloc gM (.cells #[d,s,b] 23)).alloc (by simp) (.cells uN 32));rw[jH] at r;unfold uN at r C;clear Z;by_cases f:gE.kA d s b=0
 .have hn:80<n:=K.resolve_left (fun e=>e f);have B:=gx (show gE.tg d s b l=(gE.nil,[],5) from by unfold gE.tg;rw[gC (fun e=>e f),gG (by rw[HN.out];exact hn)]);have m:=gx (fun W=>pM d s b W);rw[f] at m;have t1:(80:Int)<(n:Int):=by omega
  replace f:=gx f;clear K;go_enter func4,ntmps4;go_wp2_with fail;go_at_call 6;refine(m _).mono ?_;rintro e Y⟨rfl,b1⟩;have v1:=gB r b1;have F:=gH C b1;clear b1;obtain⟨r0,r1,r2,r3,r4,r5,r6,r7,r8⟩:=kC v1;have f0:∀j,Y.frozen? ⟨w.heap.size+1,j,none⟩=false:=fun j=>gA v1;go_wp2_with fail;obtain⟨W,I,q,h,G⟩:=gV (b:=w.heap.size+1) F (sF _) v1 gy gy gy () gy () () gy ();rw[I];obtain⟨L,N,O,P,Q,S,U,V,X⟩:=kC q;refine gS (v:=.tuple #[jd wZ,(),nk]) (by unfold jd wZ;simp[results,results4,go_sem,L,N,O,P,Q,S,U,V,X]) rfl (rT.bad B h)
 .have B:=gx (show gE.tg d s b l=(gE.nil,[],gE.kA d s b) from by unfold gE.tg;rw[gG f]);have m:=gx (fun W=>pM d s b W);obtain⟨E,o⟩:∃E,E=gE.kA d s b:=⟨_,rfl⟩;rw[<-o] at m B f;have t1:(E !=0)=true:=ij.2 f;replace f:=gx f;clear K o;go_enter func4,ntmps4;go_wp2_with fail;go_at_call 6;refine(m _).mono ?_;rintro e Y⟨rfl,b1⟩;have v1:=gB r b1;have F:=gH C b1;clear b1;obtain⟨r0,r1,r2,r3,r4,r5,r6,r7,r8⟩:=kC v1;have f0:∀j,Y.frozen? ⟨w.heap.size+1,j,none⟩=false:=fun j=>gA v1;go_wp2_with fail;obtain⟨W,I,q,h,G⟩:=gV (b:=w.heap.size+1) F (sF _) v1 gy gy gy () gy () () gy ();rw[I];obtain⟨L,N,O,P,Q,S,U,V,X⟩:=kC q;refine gS (v:=.tuple #[jd wZ,(),E]) (by unfold jd wZ;simp[results,results4,go_sem,L,N,O,P,Q,S,U,V,X]) rfl (rT.bad B h)
theorem KN(d s:Nat)(b:Int)(a:Option Addr)(n cap:Nat)(l:List gE.Do)(w:World)(hD:K9 w a n cap l)(hw:gE.kA d s b=0)(hn:n<=80):
  Calls prog 4 #[.agg #[d,s,b],(a,n,cap)] w (rT (gE.tg d s b l) w):=by
 have HN:=gx hD.jO;have HV:=gx (gO (w.alloc (.cells #[d,s,b] 23)) (.cells uN 32));have HW:=gx (((iU w.heap.size w).alloc gM (.cells #[d,s,b] 23)).alloc (by simp) (.cells uN 32));have HU:=gx (gF (o':=.cells uN 32) (gO w (.cells #[d,s,b] 23)));rw[jH] at HV;unfold uN at HV HW HU;have oz:=gE.Ok.start hw;have h1:=oz.d;have h2:=oz.sp;have h1:1<=(d:Int)/\(d:Int)<=8:=h1;have h2:0<=(s:Int)/\(s:Int)<=4:=h2;have aP:=gx oz;have aC:d+s<=12:=by omega
 have hP:=gx (gE.Jt hw (l:=l) (by rw[HN.out];exact hn));have DW:=gx (fun W=>pM d s b W);rw[hw] at DW;have t1:¬(80:Int)<(n:Int):=by omega
 replace hw:=gx hw;have HD:=gx hD;clear hD oz;go_enter func4,ntmps4;go_wp2_with fail;go_at_call 6;refine(DW _).mono ?_;rintro e B⟨rfl,b1⟩;have v1:=gB HV b1;have u1:=gB HU b1;have bA:=gH HW b1;clear b1 DW;go_upto_region 7 with(fail);have v2:=gF (o':=.cells uN 46) v1;have u2:=gF (o':=.cells uN 46) u1;have p2:=gO B (.cells uN 46);have b2:=bA.alloc bA.size (.cells uN 46);unfold uN at v2 u2 p2 b2;obtain⟨F,ai⟩:∃F,F=B.alloc (.cells #[gy,gy,gy,(),gy,(),(),gy,()] 46):=⟨_,rfl⟩;rw[<-ai] at v2 u2 p2 b2⊢;have ag:F.heap.size=B.heap.size+1:=by rw[ai];simp
 have ah:=bA.size;obtain⟨p,hp⟩:∃p,p=B.heap.size:=⟨_,rfl⟩;rw[<-hp] at p2 ag ah⊢;clear ai hp;obtain⟨s0,s1,s2⟩:=PP u2;have RD:=C3 d s aC;have a6:IntKind.i64.wrap ((d:Int)+(s:Int))=(d:Int)+(s:Int):=iO _ (by omega);have aD:p≠w.heap.size:=km p2 u2 (by decide);have a1:w.heap.size≠p:=fun e=>aD e.symm;have sf:∀j,F.frozen? ⟨p,j,none⟩=false:=fun j=>gA p2;obtain⟨x0,x1,x2,x3⟩:=Lm p2;have K:p<F.heap.size:=by omega
 have aj:w.heap.size<F.heap.size:=by omega
 have k0:∀o:Obj,(F.alloc o).cell? (w,gy)=some (.int .i64 (d:Int)):=fun o=>(ik aj).trans s0;have k1:∀o:Obj,(F.alloc o).cell? (w,ia)=some (.int .i64 (s:Int)):=fun o=>(ik aj).trans s1;have k2:∀o:Obj,(F.alloc o).cell? (w,j6)=some (.int .i64 b):=fun o=>(ik aj).trans s2;have y0:∀o:Obj,(F.alloc o).cell? (p,gy)=some (.int .i64 0):=fun o=>(ik K).trans x0;have y1:∀o:Obj,(F.alloc o).cell? (p,ia)=some (.int .i64 0):=fun o=>(ik K).trans x1;have y2:∀o:Obj,(F.alloc o).cell? (p,j6)=some (.int .i64 0):=fun o=>(ik K).trans x2;have y3:∀o:Obj,(F.alloc o).cell? (p,jF)=some (.slice none 0 0):=fun o=>(ik K).trans x3;have yf:∀(o:Obj) (j:Nat),(F.alloc o).frozen? (p,j)=false:=fun o j=>(mC K).trans (sf j);go_cut[] from 24 to 38 (fun wx=>∃D,wx.heap[p]?=some (.cells #[d,s,b,.slice (some ⟨D,0,none⟩) (d+s) (d+s),gy,(),(),gy,()] 46)/\wx.ownsRow w.heap.size 63 2 (.slice (some ⟨D,0,none⟩) (d+s) (d+s)) (d+s) (rows mT (List.replicate (d+s) JN))/\Below w w wx/\wx.heap[w.heap.size+1]?=some (.cells uN 32));case first=>
  go_region_law (fail);all_goals (go_wp2_with fail;go_meet)
  all_goals exact Iu aC p2 v2 b2 ah ag
 case rest=>
  obtain⟨wD,rfl⟩:∃wD:World,wD=wc:=⟨_,rfl⟩;obtain⟨D,c1,c2,c3,c4⟩:=hcut;have aU:w.heap.size<=p:=ah;clear k0 k1 k2 y0 y1 y2 y3 yf x0 x1 x2 x3 s0 s1 s2 sf u1 u2 v1 v2 p2 b2 bA RD;obtain⟨m0,ae⟩:∃m0:ig,m0=⟨d,s,b,.slice (some (D,gy)) (d+s) (d+s),List.replicate (d+s) JN,0,.slice none 0 0,[],.slice none 0 0,[],0,.slice none 0 0,[]⟩:=⟨_,rfl⟩;have aA:nN wD w.heap.size p m0:=by
   rw[ae];refine⟨c1,aU,?_,fun x hx=>?_,fun x hx=>?_,⟨fun x hx=>?_,fun i j x y k aQ hi hj hk=>?_,fun i j x y k aQ hi hj hk=>?_⟩,iY _ _ _ _,(fun r hr=>by cases hr),iY _ _ _ _,iY _ _ _ _,(fun r hr=>by cases hr)⟩
   .show wD.ownsRow w.heap.size 63 2 _ (List.replicate (d+s) JN).length _;rw[vF];exact c2
   .obtain⟨_,rfl⟩:=oE.1 hx;exact iY _ _ _ _
   .obtain⟨_,rfl⟩:=oE.1 hx;intro h hh;cases hh
   .obtain⟨_,rfl⟩:=oE.1 hx;exact vM
   .obtain⟨_,rfl⟩:=oE.1 (jX hi);cases hk
   .obtain⟨_,rfl⟩:=oE.1 (jX hi);cases hk
  have Z:m0.st=gE.start d s b:=by rw[ae];unfold ig.st gE.start Vw.iL;rw[List.map_replicate,show((d:Int)+(s:Int)).toNat=d+s by omega];rfl
  have aM:=gx aA;have ao:=gx Z;have aI:=gx c3;have aJ:=gx c4;clear aA Z c1 c2 c3 c4 ae;go_wp2_with fail;go_loopg[9,41] n (fun g s9 aZ wr=>∃(k:Nat) (m:ig) (L:List Am) (av:Option Addr) (ac:Nat),g=n-k/\k<=n/\aZ=.int .i64 (k:Int)/\s9=.slice av L.length ac/\L.length=k/\nN wr w.heap.size p m/\m.st=gE.C8 (gE.start d s b) l k/\L.map Am.an=(gE.run (gE.start d s b) (l.take k)).2/\Nn wr w.heap.size (av,L,ac) L/\Below w w wr/\wr.heap[w.heap.size+1]?=some (.cells uN 32));case atStart=>exact⟨0,m0,[],none,0,rfl,by omega,rfl,rfl,rfl,aM,ao,rfl,Nn.nil _ _,aI,aJ⟩
  case round=>
   obtain⟨k,m,L,av,ac,rfl,hk,rfl,rfl,ay,hS,aF,ax,hA,hB,hV⟩:=hrel;have C:=gx hS;have S:=gx aF;have ak:=gx ax;have G:=gx hA;have HB:=gx hB;have f:=gx hV;have aK:=gx ay;have a0:L.length<=80:=by omega
   clear ay hS aF ax hA hB hV;have ag:=HB.size;by_cases aS:k<n
   .have ad:k<l.length:=by rw[HN.out];exact aS
    obtain⟨db,off,rfl,aB⟩:=HD.addr (by omega);have ab:=gx (fun(W:World) (hW:Below w w W)=>(aB k ad).below hW);have az:gE.Ok m.st k:=by rw[S.out];have:=aP.run (l.take k);rw[jh,jk,pE (by omega)] at this;exact this
    have DO:=gx (KO w.heap.size p m k db (off+k*9) l[k] wr C az (by omega) (ab wr HB) (fun W hW=>ab W (HB.trans hW)));have aW:=gE.step_view_len m.st l[k];have i0:(0:Int)<=(k:Int):=by omega
    have i1:(k:Int)<(n:Int):=by omega
    have aT:=gx (gE.ue (gE.start d s b) l k ad);have aR:=gx (gE.uD (gE.start d s b) (l.take k) l[k]);have aV:=gx (gE.oU l k ad);obtain⟨an,I⟩:∃an,an=(gE.step m.st l[k]).2:=⟨_,rfl⟩;rw[<-I] at aW;replace I:=gx I;clear aB ab az;go_wp2_with fail;go_at_call 10;refine DO.mono ?_;rintro e B⟨v,m',rfl,hv,X1,af,K1,B1⟩;rw[<-I.out] at hv;obtain⟨ea,ec,aa,E,rfl,hE,aw⟩:=hv;have XX:=gx X1;have KK:=gx K1;have BB:=gx (HB.trans B1);have EE:=gx hE;have AA:=gx aw;replace af:=gx af;have ar:=BB.size;clear X1 K1 B1 hE aw DO;unfold gX;have V1:=gx (KK.block _ _ 32 f (by decide));have DC:=gx (qT aa an.view.ib.length E an.view.ib (B.alloc (.cells #[an.err,an.n,(ea,an.il,ec),an.view.upto,(aa,an.view.ib,E)] 42)) (AA.as.below (gZ.alloc gM _)) (by omega));have c4:(B.alloc (.cells #[an.err,an.n,(ea,an.il,ec),an.view.upto,(aa,an.view.ib,E)] 42)).cell? (B,pR)=some (.slice aa an.view.ib.length E):=gw (i:=4) (gO B _);go_wp2_with fail;go_at_call 11;refine DC.mono ?_;rintro e w2⟨v2,rfl,b2,o2⟩;obtain⟨N,c2,rfl,-⟩:=gK o2;have B0:=gB (gO B (.cells #[an.err,an.n,(ea,an.il,ec),an.view.upto,(aa,an.view.ib,E)] 42)) b2;have au:=b2.size;rw[jH] at au;have aL:=gx (((gU.refl B (Value.slice av L.length ac).ownBlock.toList).alloc (.cells #[an.err,an.n,(ea,an.il,ec),an.view.upto,(aa,an.view.ib,E)] 42)).below b2);have OU:=gx (KK.own G.own (by decide));have aN:=gx (ji (gL (OU.alloc (.cells #[an.err,an.n,(ea,an.il,ec),an.view.upto,(aa,an.view.ib,E)] 42)) b2) (fun e=>oP B.heap.size (OU.lt _ e).2) (N,an.view.ib,c2) (a:=(B,pR)));obtain⟨r0,r1,r2,r3,r4⟩:=jV B0;have f0:∀j,w2.frozen? ⟨B.heap.size,j,none⟩=false:=fun j=>gA B0;have a4:=gx b2;have Y:=gx o2;have aH:=gx B0;clear B0 b2 o2 c4 DC;have SS:=Src.mr (P:=prog) (tx:=33) (w2.setCell (B,pR) (N,an.view.ib,c2)) #[.int .i64 an.err,.int .i64 an.n,.slice ea an.il.length ec,.int .i64 an.view.upto,.slice N an.view.ib.length c2] 42 1 5 underlying33 rfl (by simp[Value.oneCell']);rw[pn] at SS;replace SS:=gx SS;have ap:=gx (OT.start (aN.alloc (.cells #[an.err,an.n,(ea,an.il,ec),an.view.upto,(N,an.view.ib,c2)] 42)));go_wp2_with (at_builtin;refine wpList_append_t rfl (.tmp 55) (.tmp 57) 33 33 rfl w.heap.size 42 5 72 (.agg #[gy,gy,(),gy,()]) underlying33 zl rfl (by decide) (av,L,ac) L.length (rows Pk L) rfl ap _ 1 _ rfl SS (by unfold maxLen;omega) (by omega) (by simp;omega) ?_;intro v5 w5 o5 g5);have al:=gx (((aL.setCell (a:=(B,pR)) (.inr gM) (N,an.view.ib,c2)).alloc (.cells #[an.err,an.n,(ea,an.il,ec),an.view.upto,(N,an.view.ib,c2)] 42)).more g5 (fun x hx=>.inl (by rw[hx];simp)));have GG:=gx (Lh OU al);have aX:=ji (a:=(B,pR)) Y (gP Y aH (by decide)) (N,an.view.ib,c2);have aG:=aX.alloc (.cells #[an.err,an.n,(ea,an.il,ec),an.view.upto,(N,an.view.ib,c2)] 42);have aY:=gx (yp aG g5 (fun q hq e=>jL ap.own aG (by decide) hq e));obtain⟨a5,c5,rfl,-⟩:=gK o5.own;go_roundg (n-(k+1));case measure=>omega
    case rel=>
     refine⟨k+1,m',L++[⟨an.err,an.n,ea,ec,an.il,an.view.upto,N,c2,an.view.ib⟩],a5,c5,rfl,by omega,by go_num,?_,?_,GG.2.1 _ _ _ XX,?_,?_,⟨?_,?_,?_⟩,?_,GG.2.2 _ _ _ V1 (by decide)⟩;·rw[iH];rfl
     .rw[iH,aK.out];rfl
     .rw[af.out,S.out,aT.out]
     .rw[li,ak.out,aV.out,aR.out];show _++[Am.an _]=_;have:Am.an ⟨an.err,an.n,ea,ec,an.il,an.view.upto,N,c2,an.view.ib⟩=an:=rfl;rw[this,I.out,S.out];rfl
     .rw[iH,kh];exact o5.own
     .intro x hx;rcases kd.1 hx with hx|hx
      .have h:=(G.kt KK).il x hx;exact⟨GG.1 h.1 (by decide),h.2⟩
      .obtain rfl:=iA.1 hx;exact⟨GG.1 EE.1 (by decide),EE.2⟩
     .intro x hx;rcases kd.1 hx with hx|hx
      .have h:=(G.kt KK).ib x hx;exact⟨GG.1 h.1 (by decide),h.2⟩
      .obtain rfl:=iA.1 hx;exact⟨hJ aY (by simp;omega),AA.2⟩
     .exact BB.trans (al.nZ ar (fun x hx=>by have:=OU.lt x (by simpa using hx);exact this.1))
   .obtain rfl:k=n:=by omega
    have e1:l.take k=l:=ld (by rw[HN.out];exact jb _);obtain⟨r0,r1,r2,r3,r4,r5,r6,r7,r8⟩:=kC f;have f0:∀j,wr.frozen? ⟨w.heap.size+1,j,none⟩=false:=fun j=>gA f;obtain⟨da,dc,Q,-⟩:=gK C.ng;replace Q:=gx Q;obtain⟨ta,tc,V,-⟩:=gK C.tail;replace V:=gx V;obtain⟨sa,sc,U,-⟩:=gK C.seen;replace U:=gx U;obtain⟨aa,aq,O,-⟩:=gK C.ib;replace O:=gx O;have x0:wr.cell? (p,gy)=some (.int .i64 m.d):=gw (i:=0) C.box;have x1:wr.cell? (p,ia)=some (.int .i64 m.s):=gw (i:=1) C.box;have x2:wr.cell? (p,j6)=some (.int .i64 m.b):=gw (i:=2) C.box;have x3:wr.cell? (p,jF)=some (.slice da m.D.length dc):=by rw[<-Q.out];exact gw (i:=3) C.box
    have x4:wr.cell? (p,pR)=some (.int .i64 (m.g:Int)):=gw (i:=4) C.box;have x5:wr.cell? (p,nk)=some (.slice ta m.T.length tc):=by rw[<-V.out];exact gw (i:=5) C.box
    have x6:wr.cell? (p,mu)=some (.slice sa m.seen.length sc):=by rw[<-U.out];exact gw (i:=6) C.box
    have x7:wr.cell? (p,ps)=some (.int .i64 m.u):=gw (i:=7) C.box;have x8:wr.cell? (p,pt)=some (.slice aa m.A.length aq):=by rw[<-O.out];exact gw (i:=8) C.box
    have aE:p≠w.heap.size+1:=km C.box f (by decide);have a3:w.heap.size+1≠p:=fun e=>aE e.symm;go_wp2_with fail;obtain⟨W,hW,q,aO,X⟩:=gV (b:=w.heap.size+1) HB (sF _) f m.d m.s m.b (da,m.D,dc) m.g (ta,m.T,tc) (sa,m.seen,sc) m.u (aa,m.A,aq);rw[hW];obtain⟨q0,q1,q2,q3,q4,q5,q6,q7,q8⟩:=kC q;refine gS (v:=.tuple #[jd m,(av,L,ac),gy]) (by unfold jd;rw[Q.out,V.out,U.out,O.out];simp[results,results4,go_sem,q0,q1,q2,q3,q4,q5,q6,q7,q8]) rfl ⟨m,av,ac,L,0,rfl,(C.off X f (by decide)).mem,⟨?_,?_,?_⟩,?_,aO⟩
    .exact X.own G.own (fun x hx=>by
      obtain rfl:x=w.heap.size+1:=by simpa using hx
      exact gP G.own f (by decide))
    .exact fun x hx=>⟨X.own (G.il x hx).1 (fun y hy=>by
      obtain rfl:y=w.heap.size+1:=by simpa using hy
      exact gP (G.il x hx).1 f (by decide)),(G.il x hx).2⟩
    .exact fun x hx=>⟨X.own (G.ib x hx).1 (fun y hy=>by
      obtain rfl:y=w.heap.size+1:=by simpa using hy
      exact gP (G.ib x hx).1 f (by decide)),(G.ib x hx).2⟩
    .rw[hP.out,S.out,ak.out];unfold gE.C8;rw[e1]
theorem GO(d s b:Int)(a:Option Addr)(n cap:Nat)(l:List gE.Do)(w:World)(e:K9 w a n cap l):
  Calls prog 4 #[.agg #[d,s,b],(a,n,cap)] w (rT (gE.tg d s b l) w):=by
 by_cases f:gE.kA d s b=0
 .by_cases m:n<=80
  .have oz:=gE.Ok.start f;have h:=oz.d;have j:=oz.sp;have h:1<=d/\d<=8:=h;have j:0<=s/\s<=4:=j;obtain⟨d',rfl⟩:=jD (a:=d) (by omega);obtain⟨o,rfl⟩:=jD (a:=s) (by omega);exact KN d' o b a n cap l w e f m
  .exact Bk d s b a n cap l w e (.inr (by omega))
 .exact Bk d s b a n cap l w e (.inl f)
end Go.Proofs.YthhcdfjijagalaaGreat

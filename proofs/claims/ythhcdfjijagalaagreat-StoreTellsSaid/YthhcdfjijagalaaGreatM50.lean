import Derived.Test.YthhcdfjijagalaaGreatM49
set_option linter.all false
set_option maxHeartbeats 40000000
set_option maxRecDepth 100000
namespace Go.Proofs.YthhcdfjijagalaaGreat
open Qz Go.Proofs.Tryz Go.RowKit Go.Maps
theorem NZ(m:ig)(K:Nat)(d:gE.Do)(ea:Option Addr)(L ec:Nat)(w:World)(h:nv w m)(B:gE.Ok m.st K)(hK:K<=100)(hE:Es w ea L ec d.b.il)(hs:d.stream.size<=maxLen)(hY:∀x∈m.D,∀h∈x.H,h.b.length<=1000)(C:d.kind=1):
  Calls prog 12 #[jd m,.agg (pv d ea L ec)] w (rk (gE.step m.st d) m.T ⟨d.b.c,ea,L,ec,d.b.il⟩ w):=by
 have aK:=gx h;have aI:=gx B;have aD:m.D.length<=12:=by have:=B.Eh;simpa[ig.st] using this
 have aN:0<m.D.length:=by have U:=B.nd;have h2:=B.d;have h3:=B.sp;simp only[ig.st,iz] at U h2 h3;omega
 have aO:=gx (show∀x∈m.D,x.H.length<=1000 from fun x hx=>by have:=B.len (x:=x.dk) (iu.2 ⟨x,hx,rfl⟩);simp only[Dm.dk,iz] at this;omega)
 have aP:=gx (show∀x∈m.D,((x.H.map Hm.hd).map gE.Hd.jy).Pairwise (·<·) from fun x hx=>(B.bl x.dk (iu.2 ⟨x,hx,rfl⟩)).1);have aB:=gx (show(1<=m.d/\m.d<=8)/\(0<=m.s/\m.s<=4)/\(m.D.length:Int)=m.d+m.s/\m.g<=40 from⟨B.d,B.sp,by simpa[ig.st] using B.nd,B.g⟩);have HP:=gx (gE.step_put (s:=m.st) C);obtain⟨P,Y,O,dv,D,g,tv,T,sv,seen,u,av,A⟩:=m;obtain⟨Q,S,aC,al⟩:=h.ng;obtain⟨ta,tc,aG,aT⟩:=h.tail;obtain⟨Z,sc,aE,aS⟩:=h.seen;obtain⟨aa,ac,aA,has⟩:=h.ib;simp only at aC aG aE aA al aD hY aN aO aP aB;subst aC aG aE aA;have bk:=gx al;have HE:=gx hE;have HY:=gx hY;have aF:=gx hs;clear h B al aT aS has hE hY hs;unfold jd pv;simp only;rw[C];replace C:=gx C;go_enter func12,ntmps12;go_upto_region 2 with(fail);obtain⟨F0,F1,F2,F3,bV,f⟩:=pU w (.cells #[P,Y,O,(Q,D,S),g,(ta,T,tc),(Z,seen,sc),u,(aa,A,ac)] 32) (.cells #[ia,d.n,d.jy,d.t,.int .u8 (d.y.toNat:Int),d.b.c,(ea,L,ec),d.stream,d.ll] 52) (.cells #[gy,gy,gy,(),gy,(),(),gy,()] 32) (.cells #[gy,gy,(),gy,()] 42);generalize (((w.alloc (.cells #[P,Y,O,(Q,D,S),g,(ta,T,tc),(Z,seen,sc),u,(aa,A,ac)] 32)).alloc (.cells #[ia,d.n,d.jy,d.t,.int .u8 (d.y.toNat:Int),d.b.c,(ea,L,ec),d.stream,d.ll] 52)).alloc (.cells #[gy,gy,gy,(),gy,(),(),gy,()] 32)).alloc (.cells #[gy,gy,(),gy,()] 42)=V at F0 F1 F2 F3 bV f⊢;obtain⟨I,ak⟩:∃x,x=w.heap.size:=⟨_,rfl⟩;rw[<-ak] at F0 F1 F2 F3 f⊢;obtain⟨F,ai⟩:∃x,x=I+1:=⟨_,rfl⟩;rw[<-ai] at F1 F2 F3 f⊢;obtain⟨o,aj⟩:∃x,x=F+1:=⟨_,rfl⟩;rw[<-aj] at F2 F3 f⊢;obtain⟨r,ah⟩:∃x,x=o+1:=⟨_,rfl⟩;rw[<-ah] at F3 f⊢;have aV:w.heap.size<=o:=by omega
 have aU:w.heap.size<=r:=by omega
 have bm:r<V.heap.size:=by omega
 have bo:o<V.heap.size:=by omega
 have bn:F<V.heap.size:=by omega
 have bp:I<V.heap.size:=by omega
 have bD:¬I=F:=by omega
 have bz:¬F=I:=by omega
 have bE:¬I=o:=by omega
 have bB:¬o=I:=by omega
 have bC:¬I=r:=by omega
 have br:¬r=I:=by omega
 have bw:¬F=o:=by omega
 have bA:¬o=F:=by omega
 have bu:¬F=r:=by omega
 have bq:¬r=F:=by omega
 have aX:¬o=r:=by omega
 have aW:¬r=o:=by omega
 replace ak:=gx ak;replace ai:=gx ai;replace aj:=gx aj;replace ah:=gx ah;replace f:=gx f;have ab:=gx bV;have HF:=gx (show∀W,Below V V W->W.heap[I]?=some (.cells #[P,Y,O,(Q,D,S),g,(ta,T,tc),(Z,seen,sc),u,(aa,A,ac)] 32)/\W.heap[F]?=some (.cells #[ia,d.n,d.jy,d.t,.int .u8 (d.y.toNat:Int),d.b.c,(ea,L,ec),d.stream,d.ll] 52)/\W.heap[o]?=some (.cells #[gy,gy,gy,(),gy,(),(),gy,()] 32)/\W.heap[r]?=some (.cells #[gy,gy,(),gy,()] 42) from fun W hW=>⟨gB F0 hW,gB F1 hW,gB F2 hW,gB F3 hW⟩);have c0:V.cell? (F,gy)=some (.int .i64 1):=gw F1;clear F0 F1 F2 F3 bV;have aw:=gx (HF V gZ);obtain⟨a8,a9,bc,bd,bf,bg,bh,bi,bj⟩:=kC aw.1;obtain⟨aZ,a0,a1,a2,a3,a4,a5,a6,a7⟩:=kC aw.2.1;have DP:=gx (show Calls prog 25 #[.agg #[P,Y,O,(Q,D,S),g,(ta,T,tc),(Z,seen,sc),u,(aa,A,ac)],.agg #[ia,d.n,d.jy,d.t,.int .u8 (d.y.toNat:Int),d.b.c,(ea,L,ec),d.stream,d.ll]] V (rk (gE.put (⟨P,Y,O,.slice Q D.length S,D,g,.slice ta T.length tc,T,.slice Z seen.length sc,seen,u,.slice aa A.length ac,A⟩:ig).st d) T ⟨d.b.c,ea,L,ec,d.b.il⟩ V) from by have U:=Kq (⟨P,Y,O,.slice Q D.length S,D,g,.slice ta T.length tc,T,.slice Z seen.length sc,seen,u,.slice aa A.length ac,A⟩:ig) K d ea L ec V (aK.below ab) aI hK (HE.below ab) aF HY;unfold pv at U;rw[C.out] at U;exact U)
 go_wp2_with fail;go_at_call 25;refine DP.mono ?_;rintro e w3⟨m',v,rfl,q,ay,X,az,b3⟩;clear DP c0 a8 aZ a9 a0 bc a1 bd a2 bf a3 bg a4 bh a5 bi a6 bj a7;obtain⟨af,ag,e1,-⟩:=q.ng;obtain⟨aq,ar,e2,-⟩:=q.tail;obtain⟨ao,ap,e3,-⟩:=q.seen;obtain⟨ad,ae,e4,-⟩:=q.ib;have E:jd m'=.agg #[m'.d,m'.s,m'.b,(af,m'.D,ag),m'.g,(aq,m'.T,ar),(ao,m'.seen,ap),m'.u,(ad,m'.A,ae)]:=by unfold jd;rw[e1,e2,e3,e4]
 have au:=gx ay;obtain⟨xa,xc,ya,yc,rfl,-,-,-,-⟩:=ay;rw[E];unfold gX;obtain⟨an,N⟩:∃an,an=(gE.put (⟨P,Y,O,.slice Q D.length S,D,g,.slice ta T.length tc,T,.slice Z seen.length sc,seen,u,.slice aa A.length ac,A⟩:ig).st d).2:=⟨_,rfl⟩;rw[<-N] at au⊢;replace N:=gx N;have ax:=gx E;have aM:=gx q;have aJ:=gx X;have aL:=gx az;have G:=gx (HF w3 b3);have aH:=gx (gH ab b3);clear E q X az b3 e1 e2 e3 e4;obtain⟨bL,bM,bN,bO,bP,bQ,bR,bS,bT⟩:=kC G.2.2.1;have rf:∀j,w3.frozen? ⟨o,j,none⟩=false:=fun j=>gA G.2.2.1;obtain⟨bF,bG,bH,bI,bJ⟩:=jV G.2.2.2;have bK:∀j,w3.frozen? ⟨r,j,none⟩=false:=fun j=>gA G.2.2.2;go_wp2_with fail;obtain⟨W9,aR,q9,b9,o9⟩:=gV (b:=o) aH aV G.2.2.1 m'.d m'.s m'.b (af,m'.D,ag) m'.g (aq,m'.T,ar) (ao,m'.seen,ap) m'.u (ad,m'.A,ae);rw[aR];obtain⟨W5,aQ,q5,b5,o5,-⟩:=gN (b:=r) b9 aU (o9.jJ G.2.2.2 (fun hm=>aW (iA.1 hm))) an.err an.n (xa,an.il,xc) an.view.upto (ya,an.view.ib,yc);rw[aQ];have aY:=o5.jJ q9 (fun hm=>aX (iA.1 hm));have hO:gU w3 W5 [o,r]:=(o9.mono (by simp)).trans' (o5.mono (by simp));obtain⟨z0,z1,z2,z3,z4,z5,z6,z7,z8⟩:=kC aY;obtain⟨y0,y1,y2,y3,y4⟩:=jV q5;refine gS (v:=.tuple #[.agg #[m'.d,m'.s,m'.b,(af,m'.D,ag),m'.g,(aq,m'.T,ar),(ao,m'.seen,ap),m'.u,(ad,m'.A,ae)],.agg #[an.err,an.n,(xa,an.il,xc),an.view.upto,(ya,an.view.ib,yc)]]) (by simp[results,results12,go_sem,z0,z1,z2,z3,z4,z5,z6,z7,z8,y0,y1,y2,y3,y4]) rfl ⟨m',_,by rw[ax.out],aM.only hO (nr _ _ _ _ _ _ _ _ _ _ _ _ _ _ _ _ _ _ _ _ _ _ _ _ _ _ G.2.2.1 G.2.2.2),?_,by rw[aJ.out,<-HP.out],aL,b5⟩;rw[show(gE.step (⟨P,Y,O,.slice Q D.length S,D,g,.slice ta T.length tc,T,.slice Z seen.length sc,seen,u,.slice aa A.length ac,A⟩:ig).st d).2=an by rw[HP.out,<-N.out]];have U:=au.off hO (nr _ _ _ _ _ _ _ _ _ _ _ _ _ _ _ _ _ _ _ _ _ _ _ _ _ _ G.2.2.1 G.2.2.2);unfold gX at U;exact U
theorem NY(m:ig)(K:Nat)(d:gE.Do)(ea:Option Addr)(en ec:Nat)(w:World)(h:nv w m)(q:gE.Ok m.st K)(hK:K<=100)(hE:Es w ea en ec d.b.il)(hs:d.stream.size<=maxLen)(hY:∀x∈m.D,∀h∈x.H,h.b.length<=1000)(e:∀i:Int,1<=i->i<=9->d.kind≠i):
  Calls prog 12 #[jd m,.agg (pv d ea en ec)] w (rk (gE.step m.st d) m.T ⟨d.b.c,ea,en,ec,d.b.il⟩ w):=by
 have ak:=gx h;have aF:=gx q;have af:m.D.length<=12:=by have:=q.Eh;simpa[ig.st] using this
 have al:0<m.D.length:=by have h1:=q.nd;have h2:=q.d;have h3:=q.sp;simp only[ig.st,iz] at h1 h2 h3;omega
 have ao:=gx (show∀x∈m.D,x.H.length<=1000 from fun x hx=>by have:=q.len (x:=x.dk) (iu.2 ⟨x,hx,rfl⟩);simp only[Dm.dk,iz] at this;omega)
 have ap:=gx (show∀x∈m.D,((x.H.map Hm.hd).map gE.Hd.jy).Pairwise (·<·) from fun x hx=>(q.bl x.dk (iu.2 ⟨x,hx,rfl⟩)).1);have ad:=gx (show(1<=m.d/\m.d<=8)/\(0<=m.s/\m.s<=4)/\(m.D.length:Int)=m.d+m.s/\m.g<=40 from⟨q.d,q.sp,by simpa[ig.st] using q.nd,q.g⟩);have HP:=gx (show gE.step m.st d=(m.st,gE.nf 1) by unfold gE.step;rw[gC (e 1 (by omega) (by omega)),gC (fun h=>h.elim (e 2 (by omega) (by omega)) (e 3 (by omega) (by omega))),gC (e 4 (by omega) (by omega)),gC (fun h=>h.elim (e 5 (by omega) (by omega)) (fun h=>h.elim (e 6 (by omega) (by omega)) (e 7 (by omega) (by omega)))),gC (e 8 (by omega) (by omega)),gC (e 9 (by omega) (by omega))])
 obtain⟨I,X,G,dv,D,g,tv,T,sv,seen,u,av,A⟩:=m;obtain⟨L,N,ae,U⟩:=h.ng;obtain⟨ta,tc,ah,aw⟩:=h.tail;obtain⟨Y,Z,ag,au⟩:=h.seen;obtain⟨aa,ac,ab,has⟩:=h.ib;simp only at ae ah ag ab U af hY al ao ap ad;subst ae ah ag ab;have aD:=gx U;have HE:=gx hE;have HY:=gx hY;have aC:=gx hs;clear h q U aw au has hE hY hs;unfold jd pv;simp only;go_enter func12,ntmps12;go_upto_region 2 with(fail);obtain⟨F0,F1,F2,F,bV,f⟩:=pU w (.cells #[I,X,G,(L,D,N),g,(ta,T,tc),(Y,seen,Z),u,(aa,A,ac)] 32) (.cells #[d.kind,d.n,d.jy,d.t,.int .u8 (d.y.toNat:Int),d.b.c,(ea,en,ec),d.stream,d.ll] 52) (.cells #[gy,gy,gy,(),gy,(),(),gy,()] 32) (.cells #[gy,gy,(),gy,()] 42);generalize (((w.alloc (.cells #[I,X,G,(L,D,N),g,(ta,T,tc),(Y,seen,Z),u,(aa,A,ac)] 32)).alloc (.cells #[d.kind,d.n,d.jy,d.t,.int .u8 (d.y.toNat:Int),d.b.c,(ea,en,ec),d.stream,d.ll] 52)).alloc (.cells #[gy,gy,gy,(),gy,(),(),gy,()] 32)).alloc (.cells #[gy,gy,(),gy,()] 42)=V at F0 F1 F2 F bV f⊢;obtain⟨E,S⟩:∃x,x=w.heap.size:=⟨_,rfl⟩;rw[<-S] at F0 F1 F2 F f⊢;obtain⟨C,P⟩:∃x,x=E+1:=⟨_,rfl⟩;rw[<-P] at F1 F2 F f⊢;obtain⟨o,Q⟩:∃x,x=C+1:=⟨_,rfl⟩;rw[<-Q] at F2 F f⊢;obtain⟨B,O⟩:∃x,x=o+1:=⟨_,rfl⟩;rw[<-O] at F f⊢;have ay:w.heap.size<=o:=by omega
 have ax:w.heap.size<=B:=by omega
 have aG:B<V.heap.size:=by omega
 have aI:o<V.heap.size:=by omega
 have aH:C<V.heap.size:=by omega
 have aJ:E<V.heap.size:=by omega
 have aS:¬E=C:=by omega
 have aO:¬C=E:=by omega
 have aT:¬E=o:=by omega
 have aQ:¬o=E:=by omega
 have aR:¬E=B:=by omega
 have aL:¬B=E:=by omega
 have aN:¬C=o:=by omega
 have aP:¬o=C:=by omega
 have aM:¬C=B:=by omega
 have aK:¬B=C:=by omega
 have aA:¬o=B:=by omega
 have az:¬B=o:=by omega
 replace S:=gx S;replace P:=gx P;replace Q:=gx Q;replace O:=gx O;replace f:=gx f;have ai:=gx bV;have HF:=gx (show∀W,Below V V W->W.heap[E]?=some (.cells #[I,X,G,(L,D,N),g,(ta,T,tc),(Y,seen,Z),u,(aa,A,ac)] 32)/\W.heap[C]?=some (.cells #[d.kind,d.n,d.jy,d.t,.int .u8 (d.y.toNat:Int),d.b.c,(ea,en,ec),d.stream,d.ll] 52)/\W.heap[o]?=some (.cells #[gy,gy,gy,(),gy,(),(),gy,()] 32)/\W.heap[B]?=some (.cells #[gy,gy,(),gy,()] 42) from fun W hW=>⟨gB F0 hW,gB F1 hW,gB F2 hW,gB F hW⟩);have c0:V.cell? (C,gy)=some (.int .i64 d.kind):=gw F1;clear F0 F1 F2 F bV;have aE:=gx (HF V gZ);have t1:(d.kind==1)=false:=jB.2 (e 1 (by omega) (by omega));have t2:(d.kind==2)=false:=jB.2 (e 2 (by omega) (by omega));have t3:(d.kind==3)=false:=jB.2 (e 3 (by omega) (by omega));have t4:(d.kind==4)=false:=jB.2 (e 4 (by omega) (by omega));have t5:(d.kind==5)=false:=jB.2 (e 5 (by omega) (by omega));have t6:(d.kind==6)=false:=jB.2 (e 6 (by omega) (by omega));have t7:(d.kind==7)=false:=jB.2 (e 7 (by omega) (by omega));have t8:(d.kind==8)=false:=jB.2 (e 8 (by omega) (by omega));have t9:(d.kind==9)=false:=jB.2 (e 9 (by omega) (by omega));replace e:=gx e;have HX:=gx (iU V.heap.size V);have DN:=gx (jw I X G (g:Int) u L ta Y aa D.length N T.length tc seen.length Z A.length ac E 1 V (HF _ HX).1);go_wp2_with fail;go_at_call 24;refine DN.mono ?_;rintro e9 w9⟨rfl,b9⟩;have bY:=gH HX b9;have HG:=gx (HF w9 bY);have aj:=gx (gH ai bY);clear DN b9 bY;obtain⟨a0,a1,a2,a3,a4,a5,a6,a7,a8⟩:=kC HG.2.2.1;have rf:∀j,w9.frozen? ⟨o,j,none⟩=false:=fun j=>gA HG.2.2.1;obtain⟨aU,aV,aW,aX,aY⟩:=jV HG.2.2.2;have aZ:∀j,w9.frozen? ⟨B,j,none⟩=false:=fun j=>gA HG.2.2.2;go_wp2_with fail;obtain⟨W9,ar,q9,b9,o9⟩:=gV (b:=o) aj ay HG.2.2.1 I X G (L,D,N) g (ta,T,tc) (Y,seen,Z) u (aa,A,ac);rw[ar];obtain⟨W5,aq,q5,b5,o5,-⟩:=gN (b:=B) b9 ax (o9.jJ HG.2.2.2 (fun hm=>az (iA.1 hm))) ia gy () gy ();rw[aq];have aB:=o5.jJ q9 (fun hm=>aA (iA.1 hm));obtain⟨z0,z1,z2,z3,z4,z5,z6,z7,z8⟩:=kC aB;obtain⟨y0,y1,y2,y3,y4⟩:=jV q5;refine gS (v:=.tuple #[.agg #[I,X,G,(L,D,N),g,(ta,T,tc),(Y,seen,Z),u,(aa,A,ac)],.agg #[ia,gy,(),gy,()]]) (by simp[results,results12,go_sem,z0,z1,z2,z3,z4,z5,z6,z7,z8,y0,y1,y2,y3,y4]) rfl ⟨(⟨I,X,G,.slice L D.length N,D,g,.slice ta T.length tc,T,.slice Y seen.length Z,seen,u,.slice aa A.length ac,A⟩:ig),_,rfl,ak.below b5,by rw[HP.out];exact pN.err _ _,by rw[HP.out],fun r hr=>.inl hr,b5⟩
theorem N9(m:ig)(K:Nat)(d:gE.Do)(ea:Option Addr)(en ec:Nat)(w:World)(h:nv w m)(o:gE.Ok m.st K)(hK:K<=100)(hE:Es w ea en ec d.b.il)(hs:d.stream.size<=maxLen)(hY:∀x∈m.D,∀h∈x.H,h.b.length<=1000)(I:d.kind=9):
  Calls prog 12 #[jd m,.agg (pv d ea en ec)] w (rk (gE.step m.st d) m.T ⟨d.b.c,ea,en,ec,d.b.il⟩ w):=by
 have ai:=gx h;have aZ:=gx o;have aq:m.D.length<=12:=by have:=o.Eh;simpa[ig.st] using this
 have aI:0<m.D.length:=by have h1:=o.nd;have h2:=o.d;have h3:=o.sp;simp only[ig.st,iz] at h1 h2 h3;omega
 have aj:=gx (show∀x∈m.D,x.H.length<=1000 from fun x hx=>by have:=o.len (x:=x.dk) (iu.2 ⟨x,hx,rfl⟩);simp only[Dm.dk,iz] at this;omega)
 have ak:=gx (show∀x∈m.D,((x.H.map Hm.hd).map gE.Hd.jy).Pairwise (·<·) from fun x hx=>(o.bl x.dk (iu.2 ⟨x,hx,rfl⟩)).1);have Q:=gx (show(1<=m.d/\m.d<=8)/\(0<=m.s/\m.s<=4)/\(m.D.length:Int)=m.d+m.s/\m.g<=40 from⟨o.d,o.sp,by simpa[ig.st] using o.nd,o.g⟩);have HP:=gx (show gE.step m.st d=(m.st,gE.Ak (gE.kU m.st.gI m.st.iF)) by simp[gE.step,I]);obtain⟨N,S,L,dv,D,g,tv,T,sv,seen,u,av,A⟩:=m;obtain⟨O,P,ap,ag⟩:=h.ng;obtain⟨Z,tc,au,aN⟩:=h.tail;obtain⟨X,Y,ar,aM⟩:=h.seen;obtain⟨aa,ac,al,has⟩:=h.ib;simp only at ap au ar al ag aq hY aI aj ak Q;subst ap au ar al;have aX:=gx ag;have HE:=gx hE;have HY:=gx hY;have aW:=gx hs;clear h o ag aN aM has hE hY hs;unfold jd pv;simp only;rw[I];replace I:=gx I;go_enter func12,ntmps12;go_upto_region 2 with(fail);obtain⟨F0,F1,F2,F3,bV,f⟩:=pU w (.cells #[N,S,L,(O,D,P),g,(Z,T,tc),(X,seen,Y),u,(aa,A,ac)] 32) (.cells #[Qj,d.n,d.jy,d.t,.int .u8 (d.y.toNat:Int),d.b.c,(ea,en,ec),d.stream,d.ll] 52) (.cells #[gy,gy,gy,(),gy,(),(),gy,()] 32) (.cells #[gy,gy,(),gy,()] 42);generalize (((w.alloc (.cells #[N,S,L,(O,D,P),g,(Z,T,tc),(X,seen,Y),u,(aa,A,ac)] 32)).alloc (.cells #[Qj,d.n,d.jy,d.t,.int .u8 (d.y.toNat:Int),d.b.c,(ea,en,ec),d.stream,d.ll] 52)).alloc (.cells #[gy,gy,gy,(),gy,(),(),gy,()] 32)).alloc (.cells #[gy,gy,(),gy,()] 42)=V at F0 F1 F2 F3 bV f⊢;obtain⟨E,af⟩:∃x,x=w.heap.size:=⟨_,rfl⟩;rw[<-af] at F0 F1 F2 F3 f⊢;obtain⟨C,ad⟩:∃x,x=E+1:=⟨_,rfl⟩;rw[<-ad] at F1 F2 F3 f⊢;obtain⟨q,ae⟩:∃x,x=C+1:=⟨_,rfl⟩;rw[<-ae] at F2 F3 f⊢;obtain⟨B,ab⟩:∃x,x=q+1:=⟨_,rfl⟩;rw[<-ab] at F3 f⊢;have aP:w.heap.size<=q:=by omega
 have aO:w.heap.size<=B:=by omega
 have a3:B<V.heap.size:=by omega
 have a5:q<V.heap.size:=by omega
 have a4:C<V.heap.size:=by omega
 have a6:E<V.heap.size:=by omega
 have bi:¬E=C:=by omega
 have bd:¬C=E:=by omega
 have bj:¬E=q:=by omega
 have bg:¬q=E:=by omega
 have bh:¬E=B:=by omega
 have a8:¬B=E:=by omega
 have bc:¬C=q:=by omega
 have bf:¬q=C:=by omega
 have a9:¬C=B:=by omega
 have a7:¬B=C:=by omega
 have aR:¬q=B:=by omega
 have aQ:¬B=q:=by omega
 replace af:=gx af;replace ad:=gx ad;replace ae:=gx ae;replace ab:=gx ab;replace f:=gx f;have aH:=gx bV;have HF:=gx (show∀W,Below V V W->W.heap[E]?=some (.cells #[N,S,L,(O,D,P),g,(Z,T,tc),(X,seen,Y),u,(aa,A,ac)] 32)/\W.heap[C]?=some (.cells #[Qj,d.n,d.jy,d.t,.int .u8 (d.y.toNat:Int),d.b.c,(ea,en,ec),d.stream,d.ll] 52)/\W.heap[q]?=some (.cells #[gy,gy,gy,(),gy,(),(),gy,()] 32)/\W.heap[B]?=some (.cells #[gy,gy,(),gy,()] 42) from fun W hW=>⟨gB F0 hW,gB F1 hW,gB F2 hW,gB F3 hW⟩);have c0:V.cell? (C,gy)=some (.int .i64 9):=gw F1;clear F0 F1 F2 F3 bV;have aY:=gx (HF V gZ);have aV:g<=40:=Q.2.2.2;have aL:=gx (fun k:Nat=>(gW.rW (gE.blocks (D.map Dm.dk) (k:Int)) (k:Int) D.length));go_wp2_with fail;go_loopg[25,26] g (fun gg aT aU wr=>∃k n:Nat,gg=g-k/\k<=g/\aU=.int .i64 (k:Int)/\aT=.int .i64 (n:Int)/\Hid (n=gE.kU (D.map Dm.dk) k)/\n<=12*k/\Below V V wr);case atStart=>exact⟨0,0,rfl,by omega,rfl,rfl,gx rfl,by omega,iU _ _⟩
 case round=>
  obtain⟨k,n,rfl,o,rfl,rfl,HN,hn,G⟩:=hrel;obtain⟨wo,rfl⟩:∃wo:World,wo=wr:=⟨_,rfl⟩;have aG:=gx G;have ah:=gx (gH aH G);have F:=gx (HF wo G);clear G;have c4:wo.cell? (E,pR)=some (.int .i64 (g:Int)):=gw F.1;by_cases a0:k<g
  .have HH:=gx (show gE.kU (D.map Dm.dk) (k+1)=gE.kU (D.map Dm.dk) k+(gW.j9 (gE.blocks (D.map Dm.dk) (k:Int)) (k:Int) (D.map Dm.dk).length).length from rfl);rw[iz] at HH;have ao:=aL k;have DB:=gx (show Calls prog 31 #[.agg #[N,S,L,(O,D,P),g,(Z,T,tc),(X,seen,Y),u,(aa,A,ac)],k] wo (fun e w'=>∃a cap R,e=.returned (.slice a D.length cap)/\Ms w' a D.length cap R/\gz R=gE.blocks (D.map Dm.dk) (k:Int)/\Below wo wo w') from sH (⟨N,S,L,.slice O D.length P,D,g,.slice Z T.length tc,T,.slice X seen.length Y,seen,u,.slice aa A.length ac,A⟩:ig) (k:Int) wo (ai.below ah) (by show D.length<=100;omega) aj ak);obtain⟨aw,ax,ay,az,aA,aB,aC,aD,aE⟩:=kC F.1;go_wp2_with fail;go_at_call 31;refine DB.mono ?_;rintro e w1⟨a1,c1,R1,rfl,M1,e1,b1⟩;have DD:=Kl a1 _ c1 R1 (k:Int) w1 M1 (by omega);rw[e1] at DD;obtain⟨U,hU⟩:∃U,U=gW.j9 (gE.blocks (D.map Dm.dk) (k:Int)) (k:Int) D.length:=⟨_,rfl⟩;rw[<-hU] at DD HH ao;replace hU:=gx hU;replace DD:=gx DD;clear DB e1 aw ax ay az aA aB aC aD aE;go_wp2_with fail;go_at_call 30;refine DD.mono ?_;rintro e w2⟨a2,c2,rfl,-,b2⟩;have aF:=gx (gH aG (gH b1 b2));clear DD b1 b2;go_wp2_with fail;go_roundg (g-(k+1));case measure=>omega
   case rel=>exact⟨k+1,n+U.length,rfl,by omega,by go_num,by go_num,gx (by rw[HH.out,<-HN.out]),by omega,aF⟩
  .obtain rfl:g=k:=by omega
   obtain⟨aw,ax,ay,az,aA,aB,aC,aD,aE⟩:=kC F.1;obtain⟨br,bu,bw,bz,bA,bB,bC,bD,bE⟩:=kC F.2.2.1;have rf:∀j,wo.frozen? ⟨q,j,none⟩=false:=fun j=>gA F.2.2.1;obtain⟨bk,bm,bn,bo,bp⟩:=jV F.2.2.2;have bq:∀j,wo.frozen? ⟨B,j,none⟩=false:=fun j=>gA F.2.2.2;go_wp2_with fail;obtain⟨W9,aK,q9,b9,o9⟩:=gV (b:=q) ah aP F.2.2.1 N S L (O,D,P) g (Z,T,tc) (X,seen,Y) u (aa,A,ac);rw[aK];obtain⟨W5,aJ,q5,b5,o5,-⟩:=gN (b:=B) b9 aO (o9.jJ F.2.2.2 (fun hm=>aQ (iA.1 hm))) gy n () gy ();rw[aJ];have aS:=o5.jJ q9 (fun hm=>aR (iA.1 hm));obtain⟨z0,z1,z2,z3,z4,z5,z6,z7,z8⟩:=kC aS;obtain⟨y0,y1,y2,y3,y4⟩:=jV q5;refine gS (v:=.tuple #[.agg #[N,S,L,(O,D,P),g,(Z,T,tc),(X,seen,Y),u,(aa,A,ac)],.agg #[gy,n,(),gy,()]]) (by simp[results,results12,go_sem,z0,z1,z2,z3,z4,z5,z6,z7,z8,y0,y1,y2,y3,y4]) rfl ⟨(⟨N,S,L,.slice O D.length P,D,g,.slice Z T.length tc,T,.slice X seen.length Y,seen,u,.slice aa A.length ac,A⟩:ig),_,rfl,ai.below b5,?_,by rw[HP.out],fun r hr=>.inl hr,b5⟩;rw[HP.out,HN.out];exact pN.num _ _
end Go.Proofs.YthhcdfjijagalaaGreat

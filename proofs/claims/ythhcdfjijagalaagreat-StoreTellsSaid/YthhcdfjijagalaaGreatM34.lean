import Derived.Test.YthhcdfjijagalaaGreatM33
set_option linter.all false
set_option maxHeartbeats 4000000
set_option maxRecDepth 100000
namespace Go.Proofs.YthhcdfjijagalaaGreat
open Qz Go.Proofs.Tryz Go.RowKit
theorem xd{base p:Nat}{m:ig}{a:gE.An}{w w':World}{e:Ending}(h:nN w base p m)(q:∃v,e=.returned v/\uj w' base v a/\Below w w w'):j7 base p m.st a w e w':=by
 obtain⟨v,j,o,f⟩:=q;exact⟨v,m,j,o,h.below f,rfl,Kt.below f,f.mono (jY h.le (pp h.lt))⟩
theorem KO(base p:Nat)(m:ig)(K:Nat)(db off:Nat)(d:gE.Do)(w:World)(h:nN w base p m)(hk:gE.Ok m.st K)(hK:K<=100)(hd:IY w db off d)(X:∀W,Below base w W->IY W db off d):
  Calls prog 10 #[(p,gy),(db,off)] w (j7 base p (gE.step m.st d).1 (gE.step m.st d).2 w):=by
 have G:base<=w.heap.size:=jY h.le (pp h.lt);have HS:=gx (h.alloc (.cells #[gy,gy,(),gy,()] 42));have HV:=gx (gO w (.cells #[gy,gy,(),gy,()] 42));have Y:=gx ((iU w.heap.size w).alloc gM (.cells #[gy,gy,(),gy,()] 42));have HD:=gx hd;have H0:=gx h;have X:∀W,Below base (w.alloc (.cells #[gy,gy,(),gy,()] 42)) W->IY W db off d:=fun W hW=>X W ((Y.mono G).trans hW);obtain⟨N,f⟩:∃N,N=w.alloc (.cells #[gy,gy,(),gy,()] 42):=⟨_,rfl⟩;rw[<-f] at HS HV Y X;have k0:(w.alloc (.cells #[gy,gy,(),gy,()] 42)).cell? (db,off)=some (.int .i64 d.kind):=by rw[<-f];exact(HD.below Y).kind
 have ab:=gx f;rcases oj (d.kind=1) with E|h1
 .have n2:(d.kind==2)=false:=by simp;omega
  have n3:(d.kind==3)=false:=by simp;omega
  have n4:(d.kind==4)=false:=by simp;omega
  have n5:(d.kind==5)=false:=by simp;omega
  have n6:(d.kind==6)=false:=by simp;omega
  have n7:(d.kind==7)=false:=by simp;omega
  have n8:(d.kind==8)=false:=by simp;omega
  have n9:(d.kind==9)=false:=by simp;omega
  have y1:(d.kind==1)=true:=by simp;omega
  have L:=gx (show gE.step m.st d=gE.put m.st d from by unfold gE.step;rw[gG (by omega)]);have DD:=gx (show Calls prog 18 #[(p,gy),(db,off)] N (j7 base p ((gE.put m.st d).1) ((gE.put m.st d).2) N) from IP base p m K db off d N HS hk hK (HD.below Y) X);clear hk X hd h;replace E:=gx E;go_enter func10,ntmps10;clear f;go_wp2_with fail;have f:=ab.out;rw[<-f];have ad:w.heap.size<N.heap.size:=by rw[f];simp
  obtain⟨B,I⟩:∃B,B=w.heap.size:=⟨_,rfl⟩;rw[<-I] at HV⊢;have S:=nc I.symm;have V:base<=B:=by omega
  replace I:=gx I;clear f k0;go_at_call 18;refine(DD).mono ?_;rintro e w1⟨v,m',rfl,hv,X1,C,Q,Z⟩;obtain⟨ea,ec,aa,ac,rfl,hE,hA⟩:=hv;have v1:=Q.block B _ 42 HV (by decide);have b1:=(Y.mono G).trans Z;have XX:=gx X1;have KK:=gx ((Kt.below Y).trans Q);have P:=gx hE;have O:=gx hA;replace C:=gx C;clear X1 Q Z hE hA DD;unfold gX;obtain⟨an,o⟩:∃an,an=(gE.put m.st d).2:=⟨_,rfl⟩;rw[<-o] at P O⊢;replace o:=gx o;obtain⟨r0,r1,r2,r3,r4⟩:=jV v1;have f0:∀j,w1.frozen? ⟨B,j,none⟩=false:=fun j=>gA v1;go_wp2_with fail;obtain⟨W,hW,q,U,F,r⟩:=gN b1 V v1 an.err an.n (ea,an.il,ec) an.view.upto (aa,an.view.ib,ac);rw[hW];obtain⟨q0,q1,q2,q3,q4⟩:=jV q;exact gS (v:=gX an.err an.n (ea,an.il,ec) an.view.upto (aa,an.view.ib,ac)) (by unfold gX;simp[results,results10,go_sem,q0,q1,q2,q3,q4]) rfl (by show j7 base p (gE.step m.st d).1 (gE.step m.st d).2 w _ _;rw[L.out];show j7 base p ((gE.put m.st d).1) ((gE.put m.st d).2) w _ _;rw[<-o.out];exact⟨_,m',rfl,⟨ea,ec,aa,ac,rfl,⟨r P.1 (by decide),P.2⟩,⟨r O.1 (by decide),O.2⟩⟩,XX.off F v1 (by decide),C,KK.off F S,U⟩)
 rcases oj (d.kind=2) with E|h2
 .have n1:(d.kind==1)=false:=by simp;omega
  have n3:(d.kind==3)=false:=by simp;omega
  have n4:(d.kind==4)=false:=by simp;omega
  have n5:(d.kind==5)=false:=by simp;omega
  have n6:(d.kind==6)=false:=by simp;omega
  have n7:(d.kind==7)=false:=by simp;omega
  have n8:(d.kind==8)=false:=by simp;omega
  have n9:(d.kind==9)=false:=by simp;omega
  have y2:(d.kind==2)=true:=by simp;omega
  have L:=gx (show gE.step m.st d=(m.st,gE.read m.st d) from by unfold gE.step;rw[gC (by omega),gG (by omega)]);have DD:=gx (show Calls prog 19 #[(p,gy),(db,off)] N (j7 base p (m.st) (gE.read m.st d) N) from(zz base p m K db off d N HS hk (HD.below Y)).mono fun e w' hr=>xd HS hr);clear hk X hd h;replace E:=gx E;go_enter func10,ntmps10;clear f;go_wp2_with fail;have f:=ab.out;rw[<-f];have ad:w.heap.size<N.heap.size:=by rw[f];simp
  obtain⟨B,I⟩:∃B,B=w.heap.size:=⟨_,rfl⟩;rw[<-I] at HV⊢;have S:=nc I.symm;have V:base<=B:=by omega
  replace I:=gx I;clear f k0;go_at_call 19;refine(DD).mono ?_;rintro e w1⟨v,m',rfl,hv,X1,C,Q,Z⟩;obtain⟨ea,ec,aa,ac,rfl,hE,hA⟩:=hv;have v1:=Q.block B _ 42 HV (by decide);have b1:=(Y.mono G).trans Z;have XX:=gx X1;have KK:=gx ((Kt.below Y).trans Q);have P:=gx hE;have O:=gx hA;replace C:=gx C;clear X1 Q Z hE hA DD;unfold gX;obtain⟨an,o⟩:∃an,an=gE.read m.st d:=⟨_,rfl⟩;rw[<-o] at P O⊢;replace o:=gx o;obtain⟨r0,r1,r2,r3,r4⟩:=jV v1;have f0:∀j,w1.frozen? ⟨B,j,none⟩=false:=fun j=>gA v1;go_wp2_with fail;obtain⟨W,hW,q,U,F,r⟩:=gN b1 V v1 an.err an.n (ea,an.il,ec) an.view.upto (aa,an.view.ib,ac);rw[hW];obtain⟨q0,q1,q2,q3,q4⟩:=jV q;exact gS (v:=gX an.err an.n (ea,an.il,ec) an.view.upto (aa,an.view.ib,ac)) (by unfold gX;simp[results,results10,go_sem,q0,q1,q2,q3,q4]) rfl (by show j7 base p (gE.step m.st d).1 (gE.step m.st d).2 w _ _;rw[L.out];show j7 base p (m.st) (gE.read m.st d) w _ _;rw[<-o.out];exact⟨_,m',rfl,⟨ea,ec,aa,ac,rfl,⟨r P.1 (by decide),P.2⟩,⟨r O.1 (by decide),O.2⟩⟩,XX.off F v1 (by decide),C,KK.off F S,U⟩)
 rcases oj (d.kind=3) with E|h3
 .have n1:(d.kind==1)=false:=by simp;omega
  have n2:(d.kind==2)=false:=by simp;omega
  have n4:(d.kind==4)=false:=by simp;omega
  have n5:(d.kind==5)=false:=by simp;omega
  have n6:(d.kind==6)=false:=by simp;omega
  have n7:(d.kind==7)=false:=by simp;omega
  have n8:(d.kind==8)=false:=by simp;omega
  have n9:(d.kind==9)=false:=by simp;omega
  have y3:(d.kind==3)=true:=by simp;omega
  have L:=gx (show gE.step m.st d=(m.st,gE.read m.st d) from by unfold gE.step;rw[gC (by omega),gG (by omega)]);have DD:=gx (show Calls prog 19 #[(p,gy),(db,off)] N (j7 base p (m.st) (gE.read m.st d) N) from(zz base p m K db off d N HS hk (HD.below Y)).mono fun e w' hr=>xd HS hr);clear hk X hd h;replace E:=gx E;go_enter func10,ntmps10;clear f;go_wp2_with fail;have f:=ab.out;rw[<-f];have ad:w.heap.size<N.heap.size:=by rw[f];simp
  obtain⟨B,I⟩:∃B,B=w.heap.size:=⟨_,rfl⟩;rw[<-I] at HV⊢;have S:=nc I.symm;have V:base<=B:=by omega
  replace I:=gx I;clear f k0;go_at_call 19;refine(DD).mono ?_;rintro e w1⟨v,m',rfl,hv,X1,C,Q,Z⟩;obtain⟨ea,ec,aa,ac,rfl,hE,hA⟩:=hv;have v1:=Q.block B _ 42 HV (by decide);have b1:=(Y.mono G).trans Z;have XX:=gx X1;have KK:=gx ((Kt.below Y).trans Q);have P:=gx hE;have O:=gx hA;replace C:=gx C;clear X1 Q Z hE hA DD;unfold gX;obtain⟨an,o⟩:∃an,an=gE.read m.st d:=⟨_,rfl⟩;rw[<-o] at P O⊢;replace o:=gx o;obtain⟨r0,r1,r2,r3,r4⟩:=jV v1;have f0:∀j,w1.frozen? ⟨B,j,none⟩=false:=fun j=>gA v1;go_wp2_with fail;obtain⟨W,hW,q,U,F,r⟩:=gN b1 V v1 an.err an.n (ea,an.il,ec) an.view.upto (aa,an.view.ib,ac);rw[hW];obtain⟨q0,q1,q2,q3,q4⟩:=jV q;exact gS (v:=gX an.err an.n (ea,an.il,ec) an.view.upto (aa,an.view.ib,ac)) (by unfold gX;simp[results,results10,go_sem,q0,q1,q2,q3,q4]) rfl (by show j7 base p (gE.step m.st d).1 (gE.step m.st d).2 w _ _;rw[L.out];show j7 base p (m.st) (gE.read m.st d) w _ _;rw[<-o.out];exact⟨_,m',rfl,⟨ea,ec,aa,ac,rfl,⟨r P.1 (by decide),P.2⟩,⟨r O.1 (by decide),O.2⟩⟩,XX.off F v1 (by decide),C,KK.off F S,U⟩)
 rcases oj (d.kind=4) with E|h4
 .have n1:(d.kind==1)=false:=by simp;omega
  have n2:(d.kind==2)=false:=by simp;omega
  have n3:(d.kind==3)=false:=by simp;omega
  have n5:(d.kind==5)=false:=by simp;omega
  have n6:(d.kind==6)=false:=by simp;omega
  have n7:(d.kind==7)=false:=by simp;omega
  have n8:(d.kind==8)=false:=by simp;omega
  have n9:(d.kind==9)=false:=by simp;omega
  have y4:(d.kind==4)=true:=by simp;omega
  have L:=gx (show gE.step m.st d=(m.st,gE.look m.st) from by unfold gE.step;rw[gC (by omega),gC (by omega),gG (by omega)]);have DD:=gx (show Calls prog 20 #[(p,gy)] N (j7 base p (m.st) (gE.look m.st) N) from(GQ base p m K N HS hk).mono fun e w' hr=>xd HS hr);clear hk X hd h;replace E:=gx E;go_enter func10,ntmps10;clear f;go_wp2_with fail;have f:=ab.out;rw[<-f];have ad:w.heap.size<N.heap.size:=by rw[f];simp
  obtain⟨B,I⟩:∃B,B=w.heap.size:=⟨_,rfl⟩;rw[<-I] at HV⊢;have S:=nc I.symm;have V:base<=B:=by omega
  replace I:=gx I;clear f k0;go_at_call 20;refine(DD).mono ?_;rintro e w1⟨v,m',rfl,hv,X1,C,Q,Z⟩;obtain⟨ea,ec,aa,ac,rfl,hE,hA⟩:=hv;have v1:=Q.block B _ 42 HV (by decide);have b1:=(Y.mono G).trans Z;have XX:=gx X1;have KK:=gx ((Kt.below Y).trans Q);have P:=gx hE;have O:=gx hA;replace C:=gx C;clear X1 Q Z hE hA DD;unfold gX;obtain⟨an,o⟩:∃an,an=gE.look m.st:=⟨_,rfl⟩;rw[<-o] at P O⊢;replace o:=gx o;obtain⟨r0,r1,r2,r3,r4⟩:=jV v1;have f0:∀j,w1.frozen? ⟨B,j,none⟩=false:=fun j=>gA v1;go_wp2_with fail;obtain⟨W,hW,q,U,F,r⟩:=gN b1 V v1 an.err an.n (ea,an.il,ec) an.view.upto (aa,an.view.ib,ac);rw[hW];obtain⟨q0,q1,q2,q3,q4⟩:=jV q;exact gS (v:=gX an.err an.n (ea,an.il,ec) an.view.upto (aa,an.view.ib,ac)) (by unfold gX;simp[results,results10,go_sem,q0,q1,q2,q3,q4]) rfl (by show j7 base p (gE.step m.st d).1 (gE.step m.st d).2 w _ _;rw[L.out];show j7 base p (m.st) (gE.look m.st) w _ _;rw[<-o.out];exact⟨_,m',rfl,⟨ea,ec,aa,ac,rfl,⟨r P.1 (by decide),P.2⟩,⟨r O.1 (by decide),O.2⟩⟩,XX.off F v1 (by decide),C,KK.off F S,U⟩)
 rcases oj (d.kind=5) with E|h5
 .have n1:(d.kind==1)=false:=by simp;omega
  have n2:(d.kind==2)=false:=by simp;omega
  have n3:(d.kind==3)=false:=by simp;omega
  have n4:(d.kind==4)=false:=by simp;omega
  have n6:(d.kind==6)=false:=by simp;omega
  have n7:(d.kind==7)=false:=by simp;omega
  have n8:(d.kind==8)=false:=by simp;omega
  have n9:(d.kind==9)=false:=by simp;omega
  have y5:(d.kind==5)=true:=by simp;omega
  have L:=gx (show gE.step m.st d=gE.kF m.st d from by unfold gE.step;rw[gC (by omega),gC (by omega),gC (by omega),gG (by omega)]);have DD:=gx (show Calls prog 21 #[(p,gy),(db,off)] N (j7 base p ((gE.kF m.st d).1) ((gE.kF m.st d).2) N) from ud base p m K db off d N HS hk (HD.below Y));clear hk X hd h;replace E:=gx E;go_enter func10,ntmps10;clear f;go_wp2_with fail;have f:=ab.out;rw[<-f];have ad:w.heap.size<N.heap.size:=by rw[f];simp
  obtain⟨B,I⟩:∃B,B=w.heap.size:=⟨_,rfl⟩;rw[<-I] at HV⊢;have S:=nc I.symm;have V:base<=B:=by omega
  replace I:=gx I;clear f k0;go_at_call 21;refine(DD).mono ?_;rintro e w1⟨v,m',rfl,hv,X1,C,Q,Z⟩;obtain⟨ea,ec,aa,ac,rfl,hE,hA⟩:=hv;have v1:=Q.block B _ 42 HV (by decide);have b1:=(Y.mono G).trans Z;have XX:=gx X1;have KK:=gx ((Kt.below Y).trans Q);have P:=gx hE;have O:=gx hA;replace C:=gx C;clear X1 Q Z hE hA DD;unfold gX;obtain⟨an,o⟩:∃an,an=(gE.kF m.st d).2:=⟨_,rfl⟩;rw[<-o] at P O⊢;replace o:=gx o;obtain⟨r0,r1,r2,r3,r4⟩:=jV v1;have f0:∀j,w1.frozen? ⟨B,j,none⟩=false:=fun j=>gA v1;go_wp2_with fail;obtain⟨W,hW,q,U,F,r⟩:=gN b1 V v1 an.err an.n (ea,an.il,ec) an.view.upto (aa,an.view.ib,ac);rw[hW];obtain⟨q0,q1,q2,q3,q4⟩:=jV q;exact gS (v:=gX an.err an.n (ea,an.il,ec) an.view.upto (aa,an.view.ib,ac)) (by unfold gX;simp[results,results10,go_sem,q0,q1,q2,q3,q4]) rfl (by show j7 base p (gE.step m.st d).1 (gE.step m.st d).2 w _ _;rw[L.out];show j7 base p ((gE.kF m.st d).1) ((gE.kF m.st d).2) w _ _;rw[<-o.out];exact⟨_,m',rfl,⟨ea,ec,aa,ac,rfl,⟨r P.1 (by decide),P.2⟩,⟨r O.1 (by decide),O.2⟩⟩,XX.off F v1 (by decide),C,KK.off F S,U⟩)
 rcases oj (d.kind=6) with E|h6
 .have n1:(d.kind==1)=false:=by simp;omega
  have n2:(d.kind==2)=false:=by simp;omega
  have n3:(d.kind==3)=false:=by simp;omega
  have n4:(d.kind==4)=false:=by simp;omega
  have n5:(d.kind==5)=false:=by simp;omega
  have n7:(d.kind==7)=false:=by simp;omega
  have n8:(d.kind==8)=false:=by simp;omega
  have n9:(d.kind==9)=false:=by simp;omega
  have y6:(d.kind==6)=true:=by simp;omega
  have L:=gx (show gE.step m.st d=gE.kF m.st d from by unfold gE.step;rw[gC (by omega),gC (by omega),gC (by omega),gG (by omega)]);have DD:=gx (show Calls prog 21 #[(p,gy),(db,off)] N (j7 base p ((gE.kF m.st d).1) ((gE.kF m.st d).2) N) from ud base p m K db off d N HS hk (HD.below Y));clear hk X hd h;replace E:=gx E;go_enter func10,ntmps10;clear f;go_wp2_with fail;have f:=ab.out;rw[<-f];have ad:w.heap.size<N.heap.size:=by rw[f];simp
  obtain⟨B,I⟩:∃B,B=w.heap.size:=⟨_,rfl⟩;rw[<-I] at HV⊢;have S:=nc I.symm;have V:base<=B:=by omega
  replace I:=gx I;clear f k0;go_at_call 21;refine(DD).mono ?_;rintro e w1⟨v,m',rfl,hv,X1,C,Q,Z⟩;obtain⟨ea,ec,aa,ac,rfl,hE,hA⟩:=hv;have v1:=Q.block B _ 42 HV (by decide);have b1:=(Y.mono G).trans Z;have XX:=gx X1;have KK:=gx ((Kt.below Y).trans Q);have P:=gx hE;have O:=gx hA;replace C:=gx C;clear X1 Q Z hE hA DD;unfold gX;obtain⟨an,o⟩:∃an,an=(gE.kF m.st d).2:=⟨_,rfl⟩;rw[<-o] at P O⊢;replace o:=gx o;obtain⟨r0,r1,r2,r3,r4⟩:=jV v1;have f0:∀j,w1.frozen? ⟨B,j,none⟩=false:=fun j=>gA v1;go_wp2_with fail;obtain⟨W,hW,q,U,F,r⟩:=gN b1 V v1 an.err an.n (ea,an.il,ec) an.view.upto (aa,an.view.ib,ac);rw[hW];obtain⟨q0,q1,q2,q3,q4⟩:=jV q;exact gS (v:=gX an.err an.n (ea,an.il,ec) an.view.upto (aa,an.view.ib,ac)) (by unfold gX;simp[results,results10,go_sem,q0,q1,q2,q3,q4]) rfl (by show j7 base p (gE.step m.st d).1 (gE.step m.st d).2 w _ _;rw[L.out];show j7 base p ((gE.kF m.st d).1) ((gE.kF m.st d).2) w _ _;rw[<-o.out];exact⟨_,m',rfl,⟨ea,ec,aa,ac,rfl,⟨r P.1 (by decide),P.2⟩,⟨r O.1 (by decide),O.2⟩⟩,XX.off F v1 (by decide),C,KK.off F S,U⟩)
 rcases oj (d.kind=7) with E|h7
 .have n1:(d.kind==1)=false:=by simp;omega
  have n2:(d.kind==2)=false:=by simp;omega
  have n3:(d.kind==3)=false:=by simp;omega
  have n4:(d.kind==4)=false:=by simp;omega
  have n5:(d.kind==5)=false:=by simp;omega
  have n6:(d.kind==6)=false:=by simp;omega
  have n8:(d.kind==8)=false:=by simp;omega
  have n9:(d.kind==9)=false:=by simp;omega
  have y7:(d.kind==7)=true:=by simp;omega
  have L:=gx (show gE.step m.st d=gE.kF m.st d from by unfold gE.step;rw[gC (by omega),gC (by omega),gC (by omega),gG (by omega)]);have DD:=gx (show Calls prog 21 #[(p,gy),(db,off)] N (j7 base p ((gE.kF m.st d).1) ((gE.kF m.st d).2) N) from ud base p m K db off d N HS hk (HD.below Y));clear hk X hd h;replace E:=gx E;go_enter func10,ntmps10;clear f;go_wp2_with fail;have f:=ab.out;rw[<-f];have ad:w.heap.size<N.heap.size:=by rw[f];simp
  obtain⟨B,I⟩:∃B,B=w.heap.size:=⟨_,rfl⟩;rw[<-I] at HV⊢;have S:=nc I.symm;have V:base<=B:=by omega
  replace I:=gx I;clear f k0;go_at_call 21;refine(DD).mono ?_;rintro e w1⟨v,m',rfl,hv,X1,C,Q,Z⟩;obtain⟨ea,ec,aa,ac,rfl,hE,hA⟩:=hv;have v1:=Q.block B _ 42 HV (by decide);have b1:=(Y.mono G).trans Z;have XX:=gx X1;have KK:=gx ((Kt.below Y).trans Q);have P:=gx hE;have O:=gx hA;replace C:=gx C;clear X1 Q Z hE hA DD;unfold gX;obtain⟨an,o⟩:∃an,an=(gE.kF m.st d).2:=⟨_,rfl⟩;rw[<-o] at P O⊢;replace o:=gx o;obtain⟨r0,r1,r2,r3,r4⟩:=jV v1;have f0:∀j,w1.frozen? ⟨B,j,none⟩=false:=fun j=>gA v1;go_wp2_with fail;obtain⟨W,hW,q,U,F,r⟩:=gN b1 V v1 an.err an.n (ea,an.il,ec) an.view.upto (aa,an.view.ib,ac);rw[hW];obtain⟨q0,q1,q2,q3,q4⟩:=jV q;exact gS (v:=gX an.err an.n (ea,an.il,ec) an.view.upto (aa,an.view.ib,ac)) (by unfold gX;simp[results,results10,go_sem,q0,q1,q2,q3,q4]) rfl (by show j7 base p (gE.step m.st d).1 (gE.step m.st d).2 w _ _;rw[L.out];show j7 base p ((gE.kF m.st d).1) ((gE.kF m.st d).2) w _ _;rw[<-o.out];exact⟨_,m',rfl,⟨ea,ec,aa,ac,rfl,⟨r P.1 (by decide),P.2⟩,⟨r O.1 (by decide),O.2⟩⟩,XX.off F v1 (by decide),C,KK.off F S,U⟩)
 rcases oj (d.kind=8) with E|h8
 .have n1:(d.kind==1)=false:=by simp;omega
  have n2:(d.kind==2)=false:=by simp;omega
  have n3:(d.kind==3)=false:=by simp;omega
  have n4:(d.kind==4)=false:=by simp;omega
  have n5:(d.kind==5)=false:=by simp;omega
  have n6:(d.kind==6)=false:=by simp;omega
  have n7:(d.kind==7)=false:=by simp;omega
  have n9:(d.kind==9)=false:=by simp;omega
  have y8:(d.kind==8)=true:=by simp;omega
  have L:=gx (show gE.step m.st d=gE.jU m.st from by unfold gE.step;rw[gC (by omega),gC (by omega),gC (by omega),gC (by omega),gG (by omega)]);have DD:=gx (show Calls prog 22 #[(p,gy)] N (j7 base p ((gE.jU m.st).1) ((gE.jU m.st).2) N) from ED base p m K N HS hk);clear hk X hd h;replace E:=gx E;go_enter func10,ntmps10;clear f;go_wp2_with fail;have f:=ab.out;rw[<-f];have ad:w.heap.size<N.heap.size:=by rw[f];simp
  obtain⟨B,I⟩:∃B,B=w.heap.size:=⟨_,rfl⟩;rw[<-I] at HV⊢;have S:=nc I.symm;have V:base<=B:=by omega
  replace I:=gx I;clear f k0;go_at_call 22;refine(DD).mono ?_;rintro e w1⟨v,m',rfl,hv,X1,C,Q,Z⟩;obtain⟨ea,ec,aa,ac,rfl,hE,hA⟩:=hv;have v1:=Q.block B _ 42 HV (by decide);have b1:=(Y.mono G).trans Z;have XX:=gx X1;have KK:=gx ((Kt.below Y).trans Q);have P:=gx hE;have O:=gx hA;replace C:=gx C;clear X1 Q Z hE hA DD;unfold gX;obtain⟨an,o⟩:∃an,an=(gE.jU m.st).2:=⟨_,rfl⟩;rw[<-o] at P O⊢;replace o:=gx o;obtain⟨r0,r1,r2,r3,r4⟩:=jV v1;have f0:∀j,w1.frozen? ⟨B,j,none⟩=false:=fun j=>gA v1;go_wp2_with fail;obtain⟨W,hW,q,U,F,r⟩:=gN b1 V v1 an.err an.n (ea,an.il,ec) an.view.upto (aa,an.view.ib,ac);rw[hW];obtain⟨q0,q1,q2,q3,q4⟩:=jV q;exact gS (v:=gX an.err an.n (ea,an.il,ec) an.view.upto (aa,an.view.ib,ac)) (by unfold gX;simp[results,results10,go_sem,q0,q1,q2,q3,q4]) rfl (by show j7 base p (gE.step m.st d).1 (gE.step m.st d).2 w _ _;rw[L.out];show j7 base p ((gE.jU m.st).1) ((gE.jU m.st).2) w _ _;rw[<-o.out];exact⟨_,m',rfl,⟨ea,ec,aa,ac,rfl,⟨r P.1 (by decide),P.2⟩,⟨r O.1 (by decide),O.2⟩⟩,XX.off F v1 (by decide),C,KK.off F S,U⟩)
 rcases oj (d.kind=9) with E|h9
 .have n1:(d.kind==1)=false:=by simp;omega
  have n2:(d.kind==2)=false:=by simp;omega
  have n3:(d.kind==3)=false:=by simp;omega
  have n4:(d.kind==4)=false:=by simp;omega
  have n5:(d.kind==5)=false:=by simp;omega
  have n6:(d.kind==6)=false:=by simp;omega
  have n7:(d.kind==7)=false:=by simp;omega
  have n8:(d.kind==8)=false:=by simp;omega
  have y9:(d.kind==9)=true:=by simp;omega
  have L:=gx (show gE.step m.st d=(m.st,gE.Ak (gE.kU m.st.gI m.g)) from by unfold gE.step;rw[gC (by omega),gC (by omega),gC (by omega),gC (by omega),gC (by omega),gG (by omega)];rfl);have DD:=gx (show Calls prog 23 #[(p,gy)] N (j7 base p (m.st) (gE.Ak (gE.kU m.st.gI m.g)) N) from(Ce base p m K N HS hk).mono fun e w' hr=>xd HS hr);clear hk X hd h;replace E:=gx E;go_enter func10,ntmps10;clear f;go_wp2_with fail;have f:=ab.out;rw[<-f];have ad:w.heap.size<N.heap.size:=by rw[f];simp
  obtain⟨B,I⟩:∃B,B=w.heap.size:=⟨_,rfl⟩;rw[<-I] at HV⊢;have S:=nc I.symm;have V:base<=B:=by omega
  replace I:=gx I;clear f k0;go_at_call 23;refine(DD).mono ?_;rintro e w1⟨v,m',rfl,hv,X1,C,Q,Z⟩;obtain⟨ea,ec,aa,ac,rfl,hE,hA⟩:=hv;have v1:=Q.block B _ 42 HV (by decide);have b1:=(Y.mono G).trans Z;have XX:=gx X1;have KK:=gx ((Kt.below Y).trans Q);have P:=gx hE;have O:=gx hA;replace C:=gx C;clear X1 Q Z hE hA DD;unfold gX;obtain⟨an,o⟩:∃an,an=gE.Ak (gE.kU m.st.gI m.g):=⟨_,rfl⟩;rw[<-o] at P O⊢;replace o:=gx o;obtain⟨r0,r1,r2,r3,r4⟩:=jV v1;have f0:∀j,w1.frozen? ⟨B,j,none⟩=false:=fun j=>gA v1;go_wp2_with fail;obtain⟨W,hW,q,U,F,r⟩:=gN b1 V v1 an.err an.n (ea,an.il,ec) an.view.upto (aa,an.view.ib,ac);rw[hW];obtain⟨q0,q1,q2,q3,q4⟩:=jV q;exact gS (v:=gX an.err an.n (ea,an.il,ec) an.view.upto (aa,an.view.ib,ac)) (by unfold gX;simp[results,results10,go_sem,q0,q1,q2,q3,q4]) rfl (by show j7 base p (gE.step m.st d).1 (gE.step m.st d).2 w _ _;rw[L.out];show j7 base p (m.st) (gE.Ak (gE.kU m.st.gI m.g)) w _ _;rw[<-o.out];exact⟨_,m',rfl,⟨ea,ec,aa,ac,rfl,⟨r P.1 (by decide),P.2⟩,⟨r O.1 (by decide),O.2⟩⟩,XX.off F v1 (by decide),C,KK.off F S,U⟩)
 have E:d.kind≠1:=h1;have n1:(d.kind==1)=false:=by simp;omega
 have n2:(d.kind==2)=false:=by simp;omega
 have n3:(d.kind==3)=false:=by simp;omega
 have n4:(d.kind==4)=false:=by simp;omega
 have n5:(d.kind==5)=false:=by simp;omega
 have n6:(d.kind==6)=false:=by simp;omega
 have n7:(d.kind==7)=false:=by simp;omega
 have n8:(d.kind==8)=false:=by simp;omega
 have n9:(d.kind==9)=false:=by simp;omega
 have L:=gx (show gE.step m.st d=(m.st,gE.nf 1) from by unfold gE.step;rw[gC (by omega),gC (by omega),gC (by omega),gC (by omega),gC (by omega),gC (by omega)]);clear hk X hd h;replace E:=gx E;clear f;go_enter func10,ntmps10;go_wp2_with fail;have q:=gO w (.cells #[ia,gy,(),gy,()] 42);obtain⟨q0,q1,q2,q3,q4⟩:=jV q;have b1:=(iU w.heap.size w).alloc gM (.cells #[ia,gy,(),gy,()] 42);refine gS (v:=gX 1 0 () 0 ()) (by unfold gX;simp[results,results10,go_sem,q0,q1,q2,q3,q4]) rfl ⟨_,m,rfl,?_,H0.alloc _,?_,Kt.below b1,b1.mono G⟩;·rw[L.out];exact uj.err _ _ _
 .rw[L.out]
theorem pM(d s b:Int)(w:World):Calls prog 6 #[.agg #[d,s,b]] w (m7 (gE.kA d s b) w):=by
 have j:=gx (fun W=>lZ d s W);have f:=gx (show gE.kA d s b=if gJ.gT d s≠0 then gJ.gT d s else if b<1∨10<b then 3 else 0 from rfl);generalize gJ.gT d s=E at *;by_cases h:E=0
 .subst h;replace f:=gx (f.trans (gC (fun e=>e rfl)));by_cases o:b<1
  .replace f:=gx (f.trans (gG (.inl o)));rw[f.out];go_enter func6,ntmps6;go_wp2_with fail;go_at_call 13;refine(j _).mono ?_;rintro e m⟨rfl,rfl⟩;go_wp2_with fail;go_ret;exact⟨rfl,gZ.alloc gM _⟩
  .by_cases q:10<b
   .replace f:=gx (f.trans (gG (.inr q)));rw[f.out];go_enter func6,ntmps6;go_wp2_with fail;go_at_call 13;refine(j _).mono ?_;rintro e m⟨rfl,rfl⟩;go_wp2_with fail;go_ret;exact⟨rfl,gZ.alloc gM _⟩
   .replace f:=gx (f.trans (gC (by omega)));rw[f.out];go_enter func6,ntmps6;go_wp2_with fail;go_at_call 13;refine(j _).mono ?_;rintro e m⟨rfl,rfl⟩;go_wp2_with fail;go_ret;exact⟨rfl,gZ.alloc gM _⟩
 .replace f:=gx (f.trans (gG h));rw[f.out];have r:(E !=0)=true:=ij.2 h;replace h:=gx h;go_enter func6,ntmps6;go_wp2_with fail;go_at_call 13;refine(j _).mono ?_;rintro e m⟨rfl,rfl⟩;go_wp2_with fail;go_ret;exact⟨rfl,gZ.alloc gM _⟩
end Go.Proofs.YthhcdfjijagalaaGreat
namespace Go.Proofs.YthhcdfjijagalaaGreat.gE
open Qz Go.Proofs.Tryz
theorem Ok.mono{s:St}{K e:Nat}(h:Ok s K)(f:K<=e):Ok s e:={h with seen:=jY h.seen f}
theorem wO(c:Int):∀(l:List Int) (x:Int),x∈kK l c↔x=c∨x∈l
 |[],x=>by simp[kK]
 |a::t,x=>by
  unfold kK;split
  .rw[jC,wO c t x,jC];constructor<;>(rintro(h|h|h)<;>simp[h])
  .simp
theorem tt(c:Int):∀l:List Int,(kK l c).length=l.length+1
 |[]=>rfl
 |a::t=>by
  unfold kK;split;·rw[l8,tt c t,l8]
  .simp
theorem yd(c:Int):∀l:List Int,l.Pairwise (·<·)->¬c∈l->(kK l c).Pairwise (·<·)
 |[],_,_=>by simp[kK]
 |a::t,hp,hn=>by
  have e:=tG.1 hp;have f:c≠a/\¬c∈t:=by simpa using hn
  unfold kK;split
  .rename_i h;refine tG.2 ⟨fun x hx=>?_,yd c t e.2 f.2⟩;rcases(wO c t x).1 hx with rfl|hx
   .exact h
   .exact e.1 x hx
  .rename_i m;refine tG.2 ⟨fun x hx=>?_,hp⟩;have j:c<a:=by have:=f.1;omega
   rcases jC.1 hx with rfl|hx
   .exact j
   .have:=e.1 x hx;show c<x;omega
theorem On{s:St}{K:Nat}{t:List gD.Ba}(h:Ok s K)(j:(jZ {s with tail:=t}).2=0):Ok (jZ {s with tail:=t}).1 K/\(jZ {s with tail:=t}).1.seen=s.seen/\(jZ {s with tail:=t}).1.ls=s.ls:=by
 by_cases e:(gD.iy t).err≠0
 .have:jZ {s with tail:=t}=({s with tail:=t},(gD.iy t).err):=by unfold jZ;rw[gG e]
  rw[this] at j;exact absurd j e
 .by_cases f:(gW.ni (gD.iy t).l (s.iF:Int) s.data s.spare).2≠0
  .have:jZ {s with tail:=t}=({s with tail:=t},(gW.ni (gD.iy t).l (s.iF:Int) s.data s.spare).2):=by unfold jZ;rw[gC e,gG f]
   rw[this] at j;exact absurd j f
  .have:jZ {s with tail:=t}=({s with gI:=write s.gI s.iF (gW.ni (gD.iy t).l (s.iF:Int) s.data s.spare).1,iF:=s.iF+1,tail:=[]},0):=by unfold jZ;rw[gC e,gC f]
   rw[this];have o:=gW.pQ (gD.iy t).l (s.iF:Int) s.data s.spare;rw[qJ.1 f] at o;have q:=o.fit;have hb:=h.b;refine⟨⟨h.d,h.sp,h.b,by show((write _ _ _).length:Int)=_;rw[lB];exact h.nd,by show s.iF+1<=40;have:=q.2.1;omega,by show((0:Nat):Int)<s.iC;omega,(fun b hb=>by cases hb),h.seen,h.sup,fun x m=>?_⟩,rfl,rfl⟩;exact uh (g:=((s.iF+1:Nat):Int)) (fun x m=>pF.mono (g:=(s.iF:Int)) (h.bl x m) (by omega)) (by omega) x m
theorem Ok.put{s:St}{K:Nat}(h:Ok s K)(d:Do):Ok (put s d).1 (K+1):=by
 unfold gE.put;split;·exact h.mono (by omega)
 .rename_i j;have j:(gD.iI d.b).1=0:=qJ.1 j;split;·exact h.mono (by omega)
  .rename_i m;split;·exact h.mono (by omega)
   .split;·exact h.mono (by omega)
    .split
     .split;·exact h.mono (by omega)
      .rename_i o;obtain⟨e,q,r⟩:=On h (t:=s.tail++[d.b]) (qJ.1 o);exact⟨e.d,e.sp,e.b,e.nd,e.g,e.t,e.te,by show(kK s.seen d.b.c).length<=K+1;rw[tt];have:=h.seen;omega,yd _ _ h.sup m,e.bl⟩
     .rename_i f;refine⟨h.d,h.sp,h.b,h.nd,h.g,?_,fun b hb=>?_,by show(kK s.seen d.b.c).length<=K+1;rw[tt];have:=h.seen;omega,yd _ _ h.sup m,h.bl⟩
      .show((s.tail++[d.b]).length:Int)<s.iC;have:=h.t;rw[iH] at f⊢;simp only[l8,qZ] at f⊢;omega
      .rcases kd.1 hb with hb|hb
       .exact h.te b hb
       .obtain rfl:=iA.1 hb;exact j
theorem Ok.gI{s:St}{K:Nat}(h:Ok s K)(e:List Dk)(f:e.length=s.gI.length)(hb:∀x∈e,pF (s.iF:Int) x):Ok {s with gI:=e} K:=
 ⟨h.d,h.sp,h.b,by show(e.length:Int)=_;rw[f];exact h.nd,h.g,h.t,h.te,h.seen,h.sup,hb⟩
theorem Ok.kF{s:St}{K:Nat}(h:Ok s K)(d:Do):Ok (kF s d).1 K:=by
 have q:∀g,pF (s.iF:Int) ⟨g,[]⟩:=fun g=>⟨List.Pairwise.nil,fun y m=>by cases m⟩;have f:∀(i:Nat) (y:Dk),pF (s.iF:Int) y->Ok {s with gI:=s.gI.set i y} K:=fun i y m=>h.gI _ (by simp) (fun x j=>by
  rcases lH j with j|rfl
  .exact h.bl x j
  .exact m)
 unfold gE.kF;split;·exact h
 .rename_i w;split;·exact f _ _ (q _)
  .split
   .split;·exact h
    .exact f _ _ (q _)
   .split;·exact h
    .split;·exact h
     .refine f _ _ ?_;have hi:d.n.toNat<s.gI.length:=by omega
      have j:pF (s.iF:Int) (s.gI.getD d.n.toNat ⟨false,[]⟩):=by
       have:s.gI.getD d.n.toNat ⟨false,[]⟩=s.gI[d.n.toNat]:=by simp[List.getD,hi]
       rw[this];exact h.bl _ (iE hi)
      refine⟨by show((mK _ _ _).map Hd.jy).Pairwise _;rw[uE];exact j.1,fun y m=>?_⟩;have o:y.jy∈(mK (s.gI.getD d.n.toNat ⟨false,[]⟩).bl d.jy _).map Hd.jy:=iu.2 ⟨y,m,rfl⟩;rw[uE] at o;obtain⟨z,r,e⟩:=iu.1 o;rw[<-e];exact j.2 z r
theorem Bf{e:List Dk}{d g:Int}(hb:∀x∈e,pF g x):∀k:Nat,(k:Int)<=g->(iK e d k).1.length=e.length/\∀x∈(iK e d k).1,pF g x
 |0,_=>⟨rfl,hb⟩
 |k+1,hk=>by
  obtain⟨f,h⟩:=Bf hb k (by omega);unfold iK;simp only;split;·exact⟨f,h⟩
  .split;·exact⟨f,h⟩
   .exact⟨by rw[lB];exact f,uh h (by omega)⟩
theorem Ok.jU{s:St}{K:Nat}(h:Ok s K):Ok (jU s).1 K:=by
 obtain⟨e,f⟩:=Bf (d:=s.data) (g:=(s.iF:Int)) h.bl s.iF (by omega);exact h.gI _ e f
theorem Ok.step{s:St}{K:Nat}(h:Ok s K)(d:Do):Ok (step s d).1 (K+1):=by
 unfold gE.step;split;·exact h.put d
 .split;·exact h.mono (by omega)
  .split;·exact h.mono (by omega)
   .split;·exact(h.kF d).mono (by omega)
    .split;·exact h.jU.mono (by omega)
     .split;·exact h.mono (by omega)
      .exact h.mono (by omega)
theorem Ok.start{d s b:Int}(h:kA d s b=0):Ok (start d s b) 0:=by
 unfold kA at h;split at h;·rename_i f;exact absurd h f
 .rename_i f;have hc:=gJ.kv (qJ.1 f);split at h;·exact absurd h (by decide)
  .rename_i m;refine⟨by show 1<=d/\d<=8;omega,by show 0<=s/\s<=4;omega,by show 1<=b/\b<=10;omega,?_,by show 0<=40;omega,by show((0:Nat):Int)<b;omega,(fun x e=>by cases e),jb _,List.Pairwise.nil,fun x e=>?_⟩
   .show((List.replicate (d+s).toNat (⟨false,[]⟩:Dk)).length:Int)=d+s;rw[vF];omega
   .have e:x∈List.replicate (d+s).toNat (⟨false,[]⟩:Dk):=e;obtain⟨_,rfl⟩:=oE.1 e;exact⟨List.Pairwise.nil,fun y j=>by cases j⟩
end Go.Proofs.YthhcdfjijagalaaGreat.gE
namespace Go.Proofs.YthhcdfjijagalaaGreat
open Qz Go.Proofs.Tryz Go.RowKit
structure Am where
 err:Int
 n:Int
 ea:Option Addr
 ec:Nat
 il:List gD.Ev
 u:Int
 aa:Option Addr
 ac:Nat
 ib:List Vw.Acc
def Pk(a:Am):List Value:=[.int .i64 a.err,.int .i64 a.n,.slice a.ea a.il.length a.ec,.int .i64 a.u,.slice a.aa a.ib.length a.ac]
def Am.an(a:Am):gE.An:=⟨a.err,a.n,a.il,⟨a.u,a.ib⟩⟩
theorem Nu(a:Am):(Pk a).length=5:=rfl
structure Nn (w:World) (base:Nat) (v:Value) (L:List Am):Prop where
 own:w.ownsRow base 42 5 v L.length (rows Pk L)
 il:∀a∈L,EO w base a.ea a.ec a.il
 ib:∀a∈L,AO w base a.aa a.ac a.ib
theorem Nn.kt{w w':World}{base:Nat}{v:Value}{L:List Am}(h:Nn w base v L)(k:Kt w w'):Nn w' base v L:=
 ⟨k.own h.own (by decide),fun a e=>⟨k.own (h.il a e).1 (by decide),(h.il a e).2⟩,fun a e=>⟨k.own (h.ib a e).1 (by decide),(h.ib a e).2⟩⟩
theorem Nn.nil(w:World)(base:Nat):Nn w base () []:=⟨iY _ _ _ _,(fun a e=>by cases e),(fun a e=>by cases e)⟩
structure K9 (w:World) (a:Option Addr) (n cap:Nat) (l:List gE.Do):Prop where
 le:n<=cap
 max:cap<=maxLen
 jO:l.length=n
 addr:0<n->∃b off,a=some ⟨b,off,none⟩/\∀(i:Nat) (h:i<l.length),IY w b (off+i*9) l[i]
theorem K9.below{w w':World}{a:Option Addr}{n cap:Nat}{l:List gE.Do}(h:K9 w a n cap l)(hb:Below w w w'):K9 w' a n cap l:=
 ⟨h.le,h.max,h.jO,fun f=>by obtain⟨b,off,e,hd⟩:=h.addr f;exact⟨b,off,e,fun i hi=>(hd i hi).below hb⟩⟩
def jd(m:ig):Value:=.agg #[m.d,m.s,m.b,m.dv,m.g,m.tv,m.sv,m.u,m.av]
end Go.Proofs.YthhcdfjijagalaaGreat
namespace Go.Proofs.YthhcdfjijagalaaGreat.gE
open Qz Go.Proofs.Tryz
noncomputable def qv(s:St)(d:Do):List gD.Ba:=if d.kind=1/\(step s d).2.err=0/\¬d.b.c∈s.seen then[d.b] else[]
noncomputable def qQ(s:St):List Do->List gD.Ba
 |[]=>[]
 |d::l=>qv s d++qQ (step s d).1 l
structure Inv (s:St) (X:List gD.Ba):Prop where
 err:(Vw.fold Vw.iL (events X)).err=0
 ls:(Vw.fold Vw.iL (events X)).v=s.ls
 seen:∀c,c∈s.seen↔∃b∈X,b.c=c
theorem pX(X Y:List gD.Ba):events (X++Y)=events X++events Y:=by simp[events]
theorem Inv.start(d s b:Int):Inv (start d s b) []:=⟨by rw[show events []=[] from rfl];decide,by rw[show events []=[] from rfl];show(Vw.fold Vw.iL []).v=Vw.iL;rfl,fun c=>by simp[gE.start]⟩
theorem LG{v:Vw.Vi}{X Y:List gD.Ev}(h:(Vw.fold v X).err=0):(Vw.fold v (X++Y)).err=(Vw.fold (Vw.fold v X).v Y).err/\(Vw.fold v (X++Y)).v=(Vw.fold (Vw.fold v X).v Y).v:=by
 obtain⟨m,j⟩:=Vw.DZ h;rw[j] at h;have f:=(Vw.DY X v 0 m h).1;rw[j,Vw.Jb m,Vw.Pr,gC (by rw[h];exact fun e=>e rfl),Vw.Jb f];have:=Vw.LD Y (Vw.fo v X 0).v (0+X.length) 0;exact⟨this.2,this.1⟩
theorem Gr(s:St)(d:Do):((put s d).1=s/\((put s d).2.err≠0∨d.b.c∈s.seen))∨((put s d).2.err=0/\¬d.b.c∈s.seen/\(Vw.fold s.ls d.b.il).err=0/\(put s d).1.ls=(Vw.fold s.ls d.b.il).v/\(put s d).1.seen=kK s.seen d.b.c):=by
 unfold put;split;·rename_i h;exact .inl ⟨rfl,.inl h⟩
 .split;·rename_i h;exact .inl ⟨rfl,.inr h⟩
  .rename_i f;split;·exact .inl ⟨rfl,.inl (show(11:Int)≠0 by decide)⟩
   .split;·rename_i h;exact .inl ⟨rfl,.inl h⟩
    .rename_i e;have e:=qJ.1 e;split
     .split;·rename_i h;exact .inl ⟨rfl,.inl h⟩
      .exact .inr ⟨rfl,f,e,rfl,rfl⟩
     .exact .inr ⟨rfl,f,e,rfl,rfl⟩
theorem Ic(s:St)(d:Do):(kF s d).1.seen=s.seen/\(kF s d).1.ls=s.ls:=by
 unfold kF;split;·exact⟨rfl,rfl⟩
 .split;·exact⟨rfl,rfl⟩
  .split;·split<;>exact⟨rfl,rfl⟩
   .split;·exact⟨rfl,rfl⟩
    .split<;>exact⟨rfl,rfl⟩
theorem step_put{s:St}{d:Do}(h:d.kind=1):step s d=put s d:=by unfold step;rw[gG h]
theorem step_keeps{s:St}{d:Do}(h:d.kind≠1):(step s d).1.seen=s.seen/\(step s d).1.ls=s.ls:=by
 unfold step;rw[gC h];split;·exact⟨rfl,rfl⟩
 .split;·exact⟨rfl,rfl⟩
  .split;·exact Ic s d
   .split;·exact⟨rfl,rfl⟩
    .split<;>exact⟨rfl,rfl⟩
theorem Inv.step{s:St}{X:List gD.Ba}(h:Inv s X)(d:Do):Inv (step s d).1 (X++qv s d):=by
 by_cases m:d.kind=1
 .rw[step_put m];unfold qv;rw[step_put m];rcases Gr s d with⟨j,f⟩|⟨j,f,o,q,w⟩
  .rw[gC (by rintro⟨_,o,q⟩;rcases f with f|f;exact f o;exact q f),mY,j];exact h
  .rw[gG ⟨m,j,f⟩];have r:=LG (Y:=d.b.il) h.err;rw[h.ls] at r;have e:events (X++[d.b])=events X++d.b.il:=by rw[pX];simp[events]
   refine⟨by rw[e,r.1];exact o,by rw[e,r.2,q],fun c=>?_⟩;rw[w,wO,h.seen];constructor
   .rintro(rfl|⟨b,hb,rfl⟩);·exact⟨d.b,by simp,rfl⟩
    .exact⟨b,by simp[hb],rfl⟩
   .rintro⟨b,hb,rfl⟩;rcases kd.1 hb with hb|hb
    .exact .inr ⟨b,hb,rfl⟩
    .exact .inl (by rw[iA.1 hb])
 .have B:qv s d=[]:=by unfold qv;rw[gC (fun h=>m h.1)]
  rw[B,mY];obtain⟨j,f⟩:=step_keeps (s:=s) m;exact⟨h.err,h.ls.trans f.symm,fun c=>by rw[j];exact h.seen c⟩
theorem Inv.run{s:St}{X:List gD.Ba}(h:Inv s X)(l:List Do):Inv (gE.run s l).1 (X++qQ s l):=by
 induction l generalizing s X with
 |nil=>unfold qQ gE.run;rw[mY];exact h
 |cons d l e=>
  unfold qQ gE.run;rw[<-ky];exact e (h.step d)
end Go.Proofs.YthhcdfjijagalaaGreat.gE

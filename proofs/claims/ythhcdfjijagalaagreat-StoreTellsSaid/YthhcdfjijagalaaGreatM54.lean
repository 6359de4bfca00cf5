import Derived.Test.YthhcdfjijagalaaGreatM53
set_option linter.all false
set_option maxHeartbeats 8000000
set_option maxRecDepth 100000
namespace Go.Proofs.YthhcdfjijagalaaGreat
open Qz Go.Proofs.Tryz Go.RowKit
theorem Es.drewN{w:World}{a:Option Addr}{n cap:Nat}{l:List gD.Ev}(h:Es w a n cap l)(k:Nat):Es (w.drewN k) a n cap l:=⟨h.sl.drewN k,h.ok⟩
theorem Bs.drewN{w:World}{a:Option Addr}{n cap:Nat}{l:List Rb}(h:Bs w a n cap l)(k:Nat):Bs (w.drewN k) a n cap l:=⟨h.sl.drewN k,fun r e=>(h.ev r e).drewN k⟩
theorem rD(a a':Option Addr)(n cap f m:Nat)(l:List gD.Ev)(w:World)(h:Es w a n cap l)(r:Es w a' f m l):Calls prog 17 #[(a,n,cap),(a',f,m)] w (JG (.bool true) w):=by
 obtain rfl:f=n:=r.n.symm.trans h.n;have q:=h.sl.max;have F:=h.sl.le;unfold maxLen at q;have E:=gx h.n;go_enter func17,ntmps17;go_wp2;go_loopg[5,13,16,17,18,19,20,21,22,23,24] f (fun g s5 i G I K L N O P Q S wr=>∃k j:Nat,g=f-k/\k<=f/\i=.int .i64 k/\wr=w.drewN j);case atStart=>exact⟨0,0,rfl,by omega,rfl,rfl⟩
 case round=>
  obtain⟨k,j,rfl,U,rfl,rfl⟩:=hrel;by_cases B:k<f
  .have o:k<l.length:=by rw[E.out];exact B
   obtain⟨b,off,rfl,_⟩:=h.sl.addr (by omega);obtain⟨b',C,rfl,_⟩:=r.sl.addr (by omega);obtain⟨Y,Z,q2⟩:=h.at k o;obtain⟨V,W,X⟩:=r.at k o;generalize l[k]=e at *;go_wp2_with fail;go_quiet (fail);go_wp2_with fail;go_roundg (f-(k+1));case measure=>omega
   case rel=>exact⟨k+1,_,rfl,by omega,by go_num,rfl⟩
  .obtain rfl:k=f:=by omega
   go_wp2;go_ret;exact⟨rfl,j,rfl⟩
theorem xr(a a':Option Addr)(n cap e f:Nat)(l q:List Rb)(w:World)(h:Bs w a n cap l)(o:Bs w a' e f q)(N:l.map Rb.ba=q.map Rb.ba):Calls prog 15 #[(a,n,cap),(a',e,f)] w (JG (.bool true) w):=by
 have E:l.length=q.length:=by have:=congrArg List.length N;simpa using this
 obtain rfl:e=n:=o.n.symm.trans (E.symm.trans h.n);have G:=h.sl.max;have ag:=h.sl.le;unfold maxLen at G;have V:=gx h.n;have K:=gx o.n;have U:=gx N;clear N E;go_enter func15,ntmps15;go_wp2;go_loopg[5,13,16,17,18,19,20,21,22,23,24,25,26,27,28,29,30,31,32,33,34,35,36,37,38,39,40] e (fun g s5 i ah ai aj ak al ao ap aq ar au aw ax ay az aA aB aC aD aE aF aG aH aI aJ aK wr=>∃k j:Nat,g=e-k/\k<=e/\i=.int .i64 k/\wr=w.drewN j);case atStart=>exact⟨0,0,rfl,by omega,rfl,rfl⟩
 case round=>
  obtain⟨k,j,rfl,hk,rfl,I⟩:=hrel;have O:=gx I;have h:=I▸h.drewN j;have o:=I▸o.drewN j;clear I;by_cases F:k<e
  .have C:k<l.length:=by rw[V.out];exact F
   have m:k<q.length:=by rw[K.out];exact F
   obtain⟨b,off,rfl,_⟩:=h.sl.addr (by omega);obtain⟨b',P,rfl,_⟩:=o.sl.addr (by omega);obtain⟨q0,q1,S⟩:=h.at k C;obtain⟨p0,p1,Q⟩:=o.at k m;have L:(l[k]).ba=(q[k]).ba:=by have:=congrArg (fun x=>x[k]?) U;simpa[C,m] using this
   generalize l[k]=r at *;generalize q[k]=r' at *;obtain⟨c,ea,en,ec,il⟩:=r;obtain⟨W,Z,ad,ab,B⟩:=r';have X:c=W:=congrArg gD.Ba.c L;have Y:il=B:=congrArg gD.Ba.il L;subst X;subst Y;clear L;simp only at q0 q1 S p0 p1 Q;have ae:(0:Int)<=(k:Int):=yB _;have af:(k:Int)<(e:Int):=by omega
   go_wp2_with fail;go_quiet ((go_at_call 17;exact Calls.quiet_of (rD _ _ _ _ _ _ il _ (S.drewN _) (Q.drewN _))));go_wp2_with fail;go_roundg (e-(k+1));case measure=>omega
   case rel=>exact⟨k+1,_,rfl,by omega,by go_num,by rw[O.out,World.drewN_drewN]⟩
  .obtain rfl:k=e:=by omega
   go_wp2;go_ret;exact⟨rfl,j,O⟩
end Go.Proofs.YthhcdfjijagalaaGreat
namespace Go.Proofs.YthhcdfjijagalaaGreat
open Qz Go.Proofs.Tryz Go.RowKit Go.Maps
theorem mP(d s b:Int)(w:World):Calls prog 7 #[.agg #[d,s,b]] w (m7 (gE.kA d s b) w):=by
 have m:=gx (fun W=>kz d s W);have f:=gx (show gE.kA d s b=if gJ.gT d s≠0 then gJ.gT d s else if b<1∨10<b then 3 else 0 from rfl);generalize gJ.gT d s=E at *;by_cases j:E=0
 .subst j;replace f:=gx (f.trans (gC (fun e=>e rfl)));by_cases q:b<1
  .replace f:=gx (f.trans (gG (.inl q)));rw[f.out];go_enter func7,ntmps7;go_wp2_with fail;go_at_call 14;refine(m _).mono ?_;rintro e o⟨rfl,rfl⟩;go_wp2_with fail;go_ret;exact⟨rfl,gZ.alloc gM _⟩
  .by_cases r:10<b
   .replace f:=gx (f.trans (gG (.inr r)));rw[f.out];go_enter func7,ntmps7;go_wp2_with fail;go_at_call 14;refine(m _).mono ?_;rintro e o⟨rfl,rfl⟩;go_wp2_with fail;go_ret;exact⟨rfl,gZ.alloc gM _⟩
   .replace f:=gx (f.trans (gC (by rintro(h|h)<;>contradiction)));rw[f.out];go_enter func7,ntmps7;go_wp2_with fail;go_at_call 14;refine(m _).mono ?_;rintro e o⟨rfl,rfl⟩;go_wp2_with fail;go_ret;exact⟨rfl,gZ.alloc gM _⟩
 .replace f:=gx (f.trans (gG j));rw[f.out];have B:(E !=0)=true:=ij.2 j;replace j:=gx j;go_enter func7,ntmps7;go_wp2_with fail;go_at_call 14;refine(m _).mono ?_;rintro e o⟨rfl,rfl⟩;go_wp2_with fail;go_ret;exact⟨rfl,gZ.alloc gM _⟩
theorem yM(x:gE.An)(ea j aa f:Option Addr)(ec m ac h:Nat)(w:World)(L:Es w ea x.il.length ec x.il)(B:Es w j x.il.length m x.il)(N:As w aa x.view.ib.length ac x.view.ib)(C:As w f x.view.ib.length h x.view.ib):
  Calls prog 9 #[gX x.err x.n (ea,x.il,ec) x.view.upto (aa,x.view.ib,ac),gX x.err x.n (j,x.il,m) x.view.upto (f,x.view.ib,h)] w (m7 (.bool true) w):=by
 obtain⟨o,r,il,⟨u,A⟩⟩:=x;simp only at L B N C⊢;unfold gX;have U:=gx L;have G:=gx B;have W:=gx N;have I:=gx C;clear L B N C;have P:=gF (o':=(.cells #[o,r,(j,il,m),u,(f,A,h)] 42)) (gO w (.cells #[o,r,(ea,il,ec),u,(aa,A,ac)] 42));have F:=gO (w.alloc (.cells #[o,r,(ea,il,ec),u,(aa,A,ac)] 42)) (.cells #[o,r,(j,il,m),u,(f,A,h)] 42);rw[jH] at F;have E:=gx (((iU w.heap.size w).alloc gM (.cells #[o,r,(ea,il,ec),u,(aa,A,ac)] 42)).alloc (by simp) (.cells #[o,r,(j,il,m),u,(f,A,h)] 42));obtain⟨V,O⟩:∃V,V=(w.alloc (.cells #[o,r,(ea,il,ec),u,(aa,A,ac)] 42)).alloc (.cells #[o,r,(j,il,m),u,(f,A,h)] 42):=⟨_,rfl⟩;rw[<-O] at P F E;have K:=gx O;clear O;obtain⟨Z,c1,c2,c3,c4⟩:=jV P;obtain⟨k0,k1,k2,k3,k4⟩:=jV F;have S:=gx (rD ea j il.length ec il.length m il V (U.below E) (G.below E));go_enter func9,ntmps9;go_upto_region 1 with(fail);rw[<-K.out];go_wp2_with fail;go_at_call 17;refine S.mono ?_;rintro e w2⟨rfl,q,rfl⟩;have Q:=gx (tV u aa f A.length ac A.length h A (V.drewN q) ((W.below E).below (below_drewN gZ q)) ((I.below E).below (below_drewN gZ q)));unfold iJ at Q;go_wp2_with fail;go_at_call 16;refine Q.mono ?_;rintro e Y⟨rfl,b3⟩;have X:Below w w Y:=gH E ((below_drewN gZ q).trans b3);go_wp2_with fail;go_ret;exact⟨rfl,X⟩
def Nm(w:World)(x:Am):Prop:=Es w x.ea x.il.length x.ec x.il/\As w x.aa x.ib.length x.ac x.ib/\Ty w x.ea x.il.length 78/\Ty w x.aa x.ib.length 55
theorem Nm.below{w w':World}{x:Am}(h:Nm w x)(hb:Below w w w'):Nm w' x:=⟨h.1.below hb,h.2.1.below hb,h.2.2.1.below hb,h.2.2.2.below hb⟩
theorem Nm.only{w W:World}{x:Am}{S:List Nat}(h:Nm w x)(e:gU w W S)(f:∀t,t=78∨t=55->∀B∈S,∃(cs:Array Value) (j:TypeId),w.heap[B]?=some (.cells cs j)/\j≠t):Nm W x:=
 ⟨⟨h.1.sl.lG h.2.2.1 e (f _ (.inl rfl)),h.1.ok⟩,⟨h.2.1.sl.lG h.2.2.2 e (f _ (.inr rfl)),h.2.1.ok⟩,h.2.2.1.only e (f _ (.inl rfl)),h.2.2.2.only e (f _ (.inr rfl))⟩
def Ad(P:gE.St×List gE.An×Int)(w:World)(e:Ending)(w':World):Prop:=
 ∃m av ac L f,e=.returned (.tuple #[jd m,.slice av L.length ac,.int .i64 f])/\nv w' m/\w'.ownsRow w.heap.size 42 5 (.slice av L.length ac) L.length (rows Pk L)/\(∀x∈L,Nm w' x)/\P=(m.st,L.map Am.an,f)/\Below w w w'
theorem Ad.bad{P:gE.St×List gE.An×Int}{w w':World}{e:Int}(f:P=(gE.nil,[],e))(hb:Below w w w'):Ad P w (.returned (.tuple #[jd wZ,(),e])) w':=
 ⟨wZ,none,0,[],e,rfl,nv.zero _,iY _ _ _ _,(fun x h=>by cases h),f,hb⟩
theorem nv.types{E:TypeId}{w W:World}{m:ig}{S:List Nat}(h:nv w m)(j:gU w W S)(o:∀t,t≠E->∀B∈S,∃(cs:Array Value) (G:TypeId),w.heap[B]?=some (.cells cs G)/\G≠t)(I:∀r∈m.T,Es W r.a r.n r.cap r.il)(f:63≠E/\66≠E/\5≠E/\50≠E/\3≠E/\55≠E):nv W m:=by
 refine⟨?_,fun x q=>(h.held x q).lG (h.O9 x q) j (o _ f.2.1),fun x q y F=>Sl.lG (h.bytes x q y F) (h.Ow x q y F) j (o _ f.2.2.1),?_,?_,?_,
  fun a n c e=>(h.O7 a n c e).only j (o _ f.1),fun x q=>(h.O9 x q).only j (o _ f.2.1),fun x q y F=>(h.Ow x q y F).only j (o _ f.2.2.1),fun a n c e=>(h.M4 a n c e).only j (o _ f.2.2.2.1),fun a n c e=>(h.M0 a n c e).only j (o _ f.2.2.2.2.1),fun a n c e=>(h.KY a n c e).only j (o _ f.2.2.2.2.2)⟩
 .obtain⟨a,c,e,C⟩:=h.ng;exact⟨a,c,e,C.lG (h.O7 _ _ _ e) j (o _ f.1)⟩
 .obtain⟨a,c,e,C⟩:=h.tail;exact⟨a,c,e,C.sl.lG (h.M4 _ _ _ e) j (o _ f.2.2.2.1),I⟩
 .obtain⟨a,c,e,C⟩:=h.seen;exact⟨a,c,e,C.lG (h.M0 _ _ _ e) j (o _ f.2.2.2.2.1)⟩
 .obtain⟨a,c,e,C⟩:=h.ib;exact⟨a,c,e,C.sl.lG (h.KY _ _ _ e) j (o _ f.2.2.2.2.2),C.ok⟩
theorem Gm{w:World}{base sz n:Nat}{e:TypeId}{v:Value}{xs:List Value}(h:w.ownsRow base e sz v n xs):∀t,t≠e->∀B∈v.ownBlock.toList,∃(cs:Array Value) (f:TypeId),w.heap[B]?=some (.cells cs f)/\f≠t:=by
 intro t o B j;have hb:v.ownBlock=some B:=by simpa using j
 obtain⟨cs,m⟩:=mF h hb;exact⟨cs,e,m,fun e'=>o e'.symm⟩
theorem MW{w:World}{base D d s:Nat}{b:Int}(h:w.ownsRow base 63 2 (some (D,gy),(d+s),(d+s)) (d+s) (rows mT (List.replicate (d+s) JN))):nv w ⟨d,s,b,.slice (some (D,gy)) (d+s) (d+s),List.replicate (d+s) JN,0,.slice none 0 0,[],.slice none 0 0,[],0,.slice none 0 0,[]⟩:=by
 have f:=nv.zero w;refine⟨?_,fun x e=>?_,fun x e=>?_,f.tail,f.seen,f.ib,nt h,fun x e=>?_,fun x e=>?_,f.M4,f.M0,f.KY⟩
 .show EM w 2 _ (List.replicate (d+s) JN).length _;rw[vF];exact gK h
 .obtain⟨_,rfl⟩:=oE.1 e;exact Sl.none w 2
 .obtain⟨_,rfl⟩:=oE.1 e;intro y j;cases j
 .obtain⟨_,rfl⟩:=oE.1 e;exact Ty.zero _ _ _
 .obtain⟨_,rfl⟩:=oE.1 e;intro y j;cases j
theorem Og{w f:World}{d s:Nat}{b:Int}(q:d+s<=12)(v1:f.heap[w.heap.size+1]?=some (.cells #[gy,gy,gy,(),gy,(),(),gy,()] 32))(m:Below w w f):
  ∃p D,Value.pointer (some (f.heap.size+1,gy))=.pointer (some ⟨p,0,none⟩)/\w.heap.size<=p/\((f.alloc (.cells (madeCells #[.bool false,.slice none 0 0] ((d+s)*2)) 63)).alloc (.cells #[d,s,b,(some (f,gy),(d+s),(d+s)),gy,(),(),gy,()] 32)).drew.heap[p]?=some (.cells #[d,s,b,.slice (some ⟨D,0,none⟩) (d+s) (d+s),gy,(),(),gy,()] 32)/\((f.alloc (.cells (madeCells #[.bool false,.slice none 0 0] ((d+s)*2)) 63)).alloc (.cells #[d,s,b,(some (f,gy),(d+s),(d+s)),gy,(),(),gy,()] 32)).drew.ownsRow w.heap.size 63 2 (.slice (some ⟨D,0,none⟩) (d+s) (d+s)) (d+s) (rows mT (List.replicate (d+s) JN))/\Below w w ((f.alloc (.cells (madeCells #[.bool false,.slice none 0 0] ((d+s)*2)) 63)).alloc (.cells #[d,s,b,(some (f,gy),(d+s),(d+s)),gy,(),(),gy,()] 32)).drew/\((f.alloc (.cells (madeCells #[.bool false,.slice none 0 0] ((d+s)*2)) 63)).alloc (.cells #[d,s,b,(some (f,gy),(d+s),(d+s)),gy,(),(),gy,()] 32)).drew.heap[w.heap.size+1]?=some (.cells uN 32)/\p≠w.heap.size+1:=by
 have o:=m.size;have r:=iq v1;have j:d+s<=maxLen:=by unfold maxLen;omega
 refine⟨f.heap.size+1,f.heap.size,rfl,by omega,?_,?_,iV ((m.alloc o _).alloc (by simp;omega) _),gF (gF v1),by omega⟩
 .have h:=gO (f.alloc (.cells (madeCells #[.bool false,.slice none 0 0] ((d+s)*2)) 63)) (.cells #[d,s,b,(some (f,gy),(d+s),(d+s)),gy,(),(),gy,()] 32);rw[jH] at h;exact h
 .have h:=(sA (e:=63) (base:=w) (size:=2) f (madeCells #[.bool false,.slice none 0 0] ((d+s)*2)) (d+s) o j (size_madeCells _ _)).alloc (.cells #[d,s,b,(some (f,gy),(d+s),(d+s)),gy,(),(),gy,()] 32);rw[<-vB];exact h
theorem Oh{w f:World}{d s:Nat}{b:Int}(o:d+s<=12)(v1:f.heap[w.heap.size+1]?=some (.cells #[gy,gy,gy,(),gy,(),(),gy,()] 32))(m:Below w w f):
  ∃p D,Value.pointer (some (f,gy))=.pointer (some ⟨p,0,none⟩)/\w.heap.size<=p/\((f.alloc (.cells #[d,s,b,(some (f.heap.size+1,gy),(d+s),(d+s)),gy,(),(),gy,()] 32)).alloc (.cells (madeCells #[.bool false,.slice none 0 0] ((d+s)*2)) 63)).drew.heap[p]?=some (.cells #[d,s,b,.slice (some ⟨D,0,none⟩) (d+s) (d+s),gy,(),(),gy,()] 32)/\((f.alloc (.cells #[d,s,b,(some (f.heap.size+1,gy),(d+s),(d+s)),gy,(),(),gy,()] 32)).alloc (.cells (madeCells #[.bool false,.slice none 0 0] ((d+s)*2)) 63)).drew.ownsRow w.heap.size 63 2 (.slice (some ⟨D,0,none⟩) (d+s) (d+s)) (d+s) (rows mT (List.replicate (d+s) JN))/\Below w w ((f.alloc (.cells #[d,s,b,(some (f.heap.size+1,gy),(d+s),(d+s)),gy,(),(),gy,()] 32)).alloc (.cells (madeCells #[.bool false,.slice none 0 0] ((d+s)*2)) 63)).drew/\((f.alloc (.cells #[d,s,b,(some (f.heap.size+1,gy),(d+s),(d+s)),gy,(),(),gy,()] 32)).alloc (.cells (madeCells #[.bool false,.slice none 0 0] ((d+s)*2)) 63)).drew.heap[w.heap.size+1]?=some (.cells uN 32)/\p≠w.heap.size+1:=by
 have q:=m.size;have r:=iq v1;have j:d+s<=maxLen:=by unfold maxLen;omega
 refine⟨f.heap.size,f.heap.size+1,rfl,by omega,gF (gO f _),?_,iV ((m.alloc q _).alloc (by simp;omega) _),gF (gF v1),by omega⟩;have h:=sA (e:=63) (base:=w) (size:=2) (f.alloc (.cells #[d,s,b,(some (f.heap.size+1,gy),(d+s),(d+s)),gy,(),(),gy,()] 32)) (madeCells #[.bool false,.slice none 0 0] ((d+s)*2)) (d+s) (by simp;omega) j (size_madeCells _ _);rw[jH] at h;rw[<-vB];exact h
theorem CX(d s b:Int)(a:Option Addr)(n cap:Nat)(l:List gE.Do)(w:World)(Z:K9 w a n cap l)(K:gE.kA d s b≠0∨80<n):
  Calls prog 5 #[.agg #[d,s,b],(a,n,cap)] w (Ad (gE.tg d s b l) w):=by
 have HN:=gx Z.jO;have r:=gx (gO (w.alloc (.cells #[d,s,b] 23)) (.cells uN 32));have C:=gx (((iU w.heap.size w).alloc gM (.cells #[d,s,b] 23)).alloc (by simp) (.cells uN 32));rw[jH] at r;unfold uN at r C;clear Z;by_cases f:gE.kA d s b=0
 .have hn:80<n:=K.resolve_left (fun e=>e f);have B:=gx (show gE.tg d s b l=(gE.nil,[],5) from by unfold gE.tg;rw[gC (fun e=>e f),gG (by rw[HN.out];exact hn)]);have m:=gx (fun W=>mP d s b W);rw[f] at m;have t1:(80:Int)<(n:Int):=by omega
  replace f:=gx f;clear K;go_enter func5,ntmps5;go_wp2_with fail;go_at_call 7;refine(m _).mono ?_;rintro e Y⟨rfl,b1⟩;have v1:=gB r b1;have F:=gH C b1;clear b1;obtain⟨r0,r1,r2,r3,r4,r5,r6,r7,r8⟩:=kC v1;have f0:∀j,Y.frozen? ⟨w.heap.size+1,j,none⟩=false:=fun j=>gA v1;go_wp2_with fail;obtain⟨W,I,q,h,G⟩:=gV (b:=w.heap.size+1) F (sF _) v1 gy gy gy () gy () () gy ();rw[I];obtain⟨L,N,O,P,Q,S,U,V,X⟩:=kC q;refine gS (v:=.tuple #[jd wZ,(),nk]) (by unfold jd wZ;simp[results,results5,go_sem,L,N,O,P,Q,S,U,V,X]) rfl (Ad.bad B h)
 .have B:=gx (show gE.tg d s b l=(gE.nil,[],gE.kA d s b) from by unfold gE.tg;rw[gG f]);have m:=gx (fun W=>mP d s b W);obtain⟨E,o⟩:∃E,E=gE.kA d s b:=⟨_,rfl⟩;rw[<-o] at m B f;have t1:(E !=0)=true:=ij.2 f;replace f:=gx f;clear K o;go_enter func5,ntmps5;go_wp2_with fail;go_at_call 7;refine(m _).mono ?_;rintro e Y⟨rfl,b1⟩;have v1:=gB r b1;have F:=gH C b1;clear b1;obtain⟨r0,r1,r2,r3,r4,r5,r6,r7,r8⟩:=kC v1;have f0:∀j,Y.frozen? ⟨w.heap.size+1,j,none⟩=false:=fun j=>gA v1;go_wp2_with fail;obtain⟨W,I,q,h,G⟩:=gV (b:=w.heap.size+1) F (sF _) v1 gy gy gy () gy () () gy ();rw[I];obtain⟨L,N,O,P,Q,S,U,V,X⟩:=kC q;refine gS (v:=.tuple #[jd wZ,(),E]) (by unfold jd wZ;simp[results,results5,go_sem,L,N,O,P,Q,S,U,V,X]) rfl (Ad.bad B h)
theorem ME(d s:Nat)(b:Int)(a:Option Addr)(n cap:Nat)(l:List gE.Do)(w:World)(hD:K9 w a n cap l)(hw:gE.kA d s b=0)(hn:n<=80):
  Calls prog 5 #[.agg #[d,s,b],(a,n,cap)] w (Ad (gE.tg d s b l) w):=by
 have HN:=gx hD.jO;have HV:=gx (gO (w.alloc (.cells #[d,s,b] 23)) (.cells uN 32));have HW:=gx (((iU w.heap.size w).alloc gM (.cells #[d,s,b] 23)).alloc (by simp) (.cells uN 32));have HU:=gx (gF (o':=.cells uN 32) (gO w (.cells #[d,s,b] 23)));rw[jH] at HV;unfold uN at HV HW HU;have oz:=gE.Ok.start hw;have h1:=oz.d;have h2:=oz.sp;have h1:1<=(d:Int)/\(d:Int)<=8:=h1;have h2:0<=(s:Int)/\(s:Int)<=4:=h2;have b6:=gx oz;have aT:d+s<=12:=by omega
 have hP:=gx (gE.Jt hw (l:=l) (by rw[HN.out];exact hn));have DW:=gx (fun W=>mP d s b W);rw[hw] at DW;have t1:¬(80:Int)<(n:Int):=by omega
 replace hw:=gx hw;have HD:=gx hD;clear hD oz;go_enter func5,ntmps5;go_wp2_with fail;go_at_call 7;refine(DW _).mono ?_;rintro e w1⟨rfl,b1⟩;have v1:=gB HV b1;have u1:=gB HU b1;have bA:=gH HW b1;clear b1 DW;go_upto_region 6 with(fail);obtain⟨s0,s1,s2⟩:=PP u1;have RD:=C3 d s aT;have cG:IntKind.i64.wrap ((d:Int)+(s:Int))=(d:Int)+(s:Int):=iO _ (by omega);have aY:w.heap.size<w1.heap.size:=by have:=bA.size;have:=iq u1;omega
 have k0:∀o:Obj,(w1.alloc o).cell? (w,gy)=some (.int .i64 (d:Int)):=fun o=>(ik aY).trans s0;have cj:∀o o':Obj,((w1.alloc o).alloc o').cell? (w,gy)=some (.int .i64 (d:Int)):=fun o o'=>(ik (by simp;omega)).trans (k0 o);have k1:∀o:Obj,(w1.alloc o).cell? (w,ia)=some (.int .i64 (s:Int)):=fun o=>(ik aY).trans s1;have ck:∀o o':Obj,((w1.alloc o).alloc o').cell? (w,ia)=some (.int .i64 (s:Int)):=fun o o'=>(ik (by simp;omega)).trans (k1 o);have k2:∀o:Obj,(w1.alloc o).cell? (w,j6)=some (.int .i64 b):=fun o=>(ik aY).trans s2;have cl:∀o o':Obj,((w1.alloc o).alloc o').cell? (w,j6)=some (.int .i64 b):=fun o o'=>(ik (by simp;omega)).trans (k2 o);go_cut[8] (fun s8 wx=>∃p D,s8=.pointer (some ⟨p,0,none⟩)/\w.heap.size<=p/\wx.heap[p]?=some (.cells #[d,s,b,.slice (some ⟨D,0,none⟩) (d+s) (d+s),gy,(),(),gy,()] 32)/\wx.ownsRow w.heap.size 63 2 (.slice (some ⟨D,0,none⟩) (d+s) (d+s)) (d+s) (rows mT (List.replicate (d+s) JN))/\Below w w wx/\wx.heap[w.heap.size+1]?=some (.cells uN 32)/\p≠w.heap.size+1);case first=>
  go_region_law (fail);all_goals (go_wp2_with fail;go_meet)
  all_goals first|exact Og aT v1 bA|exact Oh aT v1 bA
 case rest=>
  obtain⟨wD,rfl⟩:∃wD:World,wD=wc:=⟨_,rfl⟩;obtain⟨p,D,rfl,cf,c1,c2,c3,c4,cg⟩:=hcut;clear k0 k1 k2 cj ck cl s0 s1 s2 u1 v1 bA RD;obtain⟨Q,ar⟩:∃Q:ig,Q=⟨d,s,b,.slice (some (D,gy)) (d+s) (d+s),List.replicate (d+s) JN,0,.slice none 0 0,[],.slice none 0 0,[],0,.slice none 0 0,[]⟩:=⟨_,rfl⟩;have bd:=gx (show nv wD Q by rw[ar];exact MW c2)
  have a3:=gx (show wD.heap[p]?=some (.cells #[Q.d,Q.s,Q.b,Q.dv,Q.g,Q.tv,Q.sv,Q.u,Q.av] 32) by rw[ar];exact c1)
  have aL:=gx (show Q.st=gE.start d s b by rw[ar];unfold ig.st gE.start Vw.iL;rw[List.map_replicate,show((d:Int)+(s:Int)).toNat=d+s by omega];rfl)
  have bf:=gx (show Q.T=[] by rw[ar]);have a6:=gx c3;have a7:=gx c4;have br:w.heap.size+1≠p:=fun e=>cg e.symm;clear c1 c2 c3 c4 ar;go_wp2_with fail;go_loopg[9,34] n (fun g s9 cn wr=>∃(k:Nat) (m:ig) (L:List Am) (av:Option Addr) (ac:Nat),g=n-k/\k<=n/\cn=.int .i64 (k:Int)/\s9=.slice av L.length ac/\Hid (L.length=k)/\Hid (nv wr m)/\Hid (wr.heap[p]?=some (.cells #[m.d,m.s,m.b,m.dv,m.g,m.tv,m.sv,m.u,m.av] 32))/\Hid (m.st=gE.C8 (gE.start d s b) l k)/\Hid (L.map Am.an=(gE.run (gE.start d s b) (l.take k)).2)/\Hid (wr.ownsRow w.heap.size 42 5 (av,L,ac) L.length (rows Pk L))/\Hid (∀x∈L,Nm wr x)/\Hid (∀r∈m.T,∀W,Below w w W->Es W r.a r.n r.cap r.il)/\Hid (Below w w wr)/\Hid (wr.heap[w.heap.size+1]?=some (.cells uN 32)));case atStart=>exact⟨0,Q,[],none,0,rfl,by omega,rfl,rfl,gx rfl,bd,a3,aL,gx rfl,gx (iY _ _ _ _),gx (fun x hx=>by cases hx),gx (fun r hr=>by rw[bf.out] at hr;cases hr),a6,a7⟩
  case round=>
   clear bd a3 aL bf a6 a7 Q;obtain⟨k,m,L,av,ac,rfl,hk,rfl,rfl,a9,HS,X,ao,a8,HA,a0,bg,HB,S⟩:=hrel;obtain⟨wo,rfl⟩:∃wo:World,wo=wr:=⟨_,rfl⟩;obtain⟨da,dc,aU,-⟩:=HS.ng;obtain⟨ta,tc,aX,-⟩:=HS.tail;obtain⟨sa,sc,aW,-⟩:=HS.seen;obtain⟨aa,bS,aS,-⟩:=HS.ib;rw[aU,aX,aW,aS] at X;have cz:L.length<=80:=by have:=a9.out;omega
   have cF:=HB.size;by_cases ca:k<n
   .have aV:k<l.length:=by rw[HN.out];exact ca
    obtain⟨db,off,rfl,bp⟩:=HD.addr (by omega);have aq:=gx (bp k aV);have b7:=gx (show gE.Ok m.st k by rw[ao.out];have:=b6.run (l.take k);rw[jh,jk,pE (by omega)] at this;exact this)
    have bm:=gx (show gE.uK m.st.gI by rw[ao.out];exact gE.Kv (gE.GP _ _ _) (l.take k))
    have b8:=gx (show∀x∈m.D,∀h∈x.H,h.b.length<=1000 from fun x hx y hy=>bm x.dk (iu.2 ⟨x,hx,rfl⟩) y.hd (iu.2 ⟨y,hy,rfl⟩));have i0:(0:Int)<=(k:Int):=by omega
    have i1:(k:Int)<(n:Int):=by omega
    have cd:=gx (gE.ue (gE.start d s b) l k aV);have b9:=gx (gE.uD (gE.start d s b) (l.take k) l[k]);have ch:=gx (gE.oU l k aV);obtain⟨ea,en,ec,g6,bk⟩:=aq.il;have HE:=gx bk;have E:=aq.below HB;have e0:wo.cell? (db,off+k*9)=some (.int .i64 l[k].kind):=E.kind;have e1:wo.cell? ⟨db,off+k*9+1,none⟩=some (.int .i64 l[k].n):=E.n;have e2:wo.cell? ⟨db,off+k*9+2,none⟩=some (.int .i64 l[k].jy):=E.jy;have e3:wo.cell? ⟨db,off+k*9+3,none⟩=some (.int .i64 l[k].t):=E.t;have e4:wo.cell? ⟨db,off+k*9+4,none⟩=some (.int .u8 (l[k].y.toNat:Int)):=E.y;have e5:wo.cell? ⟨db,off+k*9+5,none⟩=some (.int .i64 l[k].b.c):=E.c;have e6:wo.cell? ⟨db,off+k*9+6,none⟩=some (.slice ea en ec):=(HB.cell (p:=⟨db,_,none⟩) aq.lt).trans g6;have e7:wo.cell? ⟨db,off+k*9+7,none⟩=some (.string l[k].stream):=E.stream;have e8:wo.cell? ⟨db,off+k*9+8,none⟩=some (.int .i64 l[k].ll):=E.ll;have bc:=gx aq.ok;clear bp aq bm E g6 bk;generalize bo:l[k]=N at *;replace bo:=gx bo;obtain⟨ab,ad,ae,af,ag,ah,ai,aj,ak⟩:=kC X;go_upto_region 11 with(fail);obtain⟨wE,aD⟩:∃wE,wE=wo.alloc (.cells #[N.kind,N.n,N.jy,N.t,.int .u8 (N.y.toNat:Int),N.b.c,(ea,en,ec),N.stream,N.ll] 52):=⟨_,rfl⟩;have qE:wE.heap[wo.heap.size]?=some (.cells #[N.kind,N.n,N.jy,N.t,.int .u8 (N.y.toNat:Int),N.b.c,(ea,en,ec),N.stream,N.ll] 52):=by rw[aD];exact gO _ _
    have bE:Below wo wo wE:=by rw[aD];exact gZ.alloc gM _
    rw[<-aD];clear aD e0 e1 e2 e3 e4 e5 e6 e7 e8 ab ad ae af ag ah ai aj ak;have bC:=gx (gH HB bE);have bI:=gx (HS.below bE);have a4:=gx (gB X bE);obtain⟨ab,ad,ae,af,ag,ah,ai,aj,ak⟩:=kC a4;obtain⟨bT,bU,bV,bW,bX,bY,bZ,b0,b3⟩:=kC qE;have DS:=gx (IC m k N ea en ec wE bI b7 (by omega) (HE.below bC) bc b8);unfold jd pv at DS;rw[aU,aX,aW,aS] at DS;have bQ:=gx bE;clear bE qE;go_wp2_with fail;go_at_call 12;refine DS.mono ?_;rintro e w2⟨m',v',rfl,bu,bn,jE,bz,b2⟩;obtain⟨f,aE⟩:∃f,f=(gE.step m.st N).2:=⟨_,rfl⟩;rw[<-aE] at bn;replace aE:=gx aE;obtain⟨I,K,F,G,rfl,x1,x2,x3,x4⟩:=bn;have al:=gx bu;have bM:=gx (show Nm w2 ⟨f.err,f.n,I,K,f.il,f.view.upto,F,G,f.view.ib⟩ from⟨x1,x2,x3,x4⟩);have bD:=gx jE;have bJ:=gx bz;have ay:=gx (gH bQ b2);have cC:=gx (gH HB ay);clear DS bu x1 x2 x3 x4 jE bz b2 ab ad ae af ag ah ai aj ak bT bU bV bW bX bY bZ b0 b3;unfold gX jd;obtain⟨aA,aB,aN,-⟩:=al.ng;obtain⟨aH,aI,aP,-⟩:=al.tail;obtain⟨aF,aG,aO,-⟩:=al.seen;obtain⟨az,U,aM,-⟩:=al.ib;rw[aN,aP,aO,aM];go_upto_region 12 with(fail);obtain⟨w4,aw⟩:∃w4,w4=(w2.alloc (.cells #[m'.d,m'.s,m'.b,(aA,m'.D,aB),m'.g,(aH,m'.T,aI),(aF,m'.seen,aG),m'.u,(az,m'.A,U)] 32)).alloc (.cells #[f.err,f.n,(I,f.il,K),f.view.upto,(F,f.view.ib,G)] 42):=⟨_,rfl⟩;have aZ:w4.heap[w2.heap.size]?=some (.cells #[m'.d,m'.s,m'.b,(aA,m'.D,aB),m'.g,(aH,m'.T,aI),(aF,m'.seen,aG),m'.u,(az,m'.A,U)] 32):=by rw[aw];exact gF (gO w2 _)
    have q4:w4.heap[w2.heap.size+1]?=some (.cells #[f.err,f.n,(I,f.il,K),f.view.upto,(F,f.view.ib,G)] 42):=by have h:=gO (w2.alloc (.cells #[m'.d,m'.s,m'.b,(aA,m'.D,aB),m'.g,(aH,m'.T,aI),(aF,m'.seen,aG),m'.u,(az,m'.A,U)] 32)) (.cells #[f.err,f.n,(I,f.il,K),f.view.upto,(F,f.view.ib,G)] 42);rw[jH] at h;rw[aw];exact h
    have b4:Below w2 w2 w4:=by rw[aw];exact(gZ.alloc gM _).alloc (by simp) _
    rw[<-aw];clear aw;have V:=gx (gH ay b4);have bL:=gx (gH HB V);have bF:=gx (al.below b4);have bN:=gx (bM.below b4);have O:=gx (gB X V);have bw:w2.heap.size+1<w4.heap.size:=iq q4;obtain⟨P3,aC⟩:∃x,x=w2.heap.size:=⟨_,rfl⟩;rw[<-aC] at aZ q4 bw⊢;have cE:p<P3:=by rw[aC];exact iq (gB X ay)
    have cB:wo.heap.size<=P3:=by rw[aC];exact ay.size
    clear b4 aC;obtain⟨cp,cq,cr,ct,cu,cv,cw,cx,cy⟩:=kC aZ;obtain⟨ab,ad,ae,af,ag,ah,ai,aj,ak⟩:=kC O;have pf:∀j,w4.frozen? ⟨p,j,none⟩=false:=fun j=>gA O;go_upto_region 13 with(fail);obtain⟨w5,bB,q5,b5,o5⟩:=gV (b:=p) (B:=w) bL cf O m'.d m'.s m'.b (aA,m'.D,aB) m'.g (aH,m'.T,aI) (aF,m'.seen,aG) m'.u (az,m'.A,U);rw[bB];clear bB ab ad ae af ag ah ai aj ak cp cq cr ct cu cv cw cx cy pf;have cm:=o5.jJ q4 (fun hm=>absurd (iA.1 hm) (by omega));have aQ:=gx b5;have aJ:=gx q5;have C:=gx (show∀t,t≠32->∀B∈[p],∃(cs:Array Value) (t':TypeId),w4.heap[B]?=some (.cells cs t')/\t'≠t from fun t Z B hB=>by obtain rfl:=iA.1 hB;exact⟨_,_,O,fun e=>Z e.symm⟩)
    have ap:=gx (show∀r∈m'.T,∀W,Below w w W->Es W r.a r.n r.cap r.il from fun r hr W hW=>by
     rcases bJ r hr with h|rfl
     .exact bg r h W hW
     .exact HE.below hW)
    have bG:=gx (bF.types o5 C (fun r hr=>ap r hr _ b5) (by decide));have bO:=gx (bN.only o5 (fun t Z=>C t (by rcases Z with rfl|rfl<;>decide)));have a1:=gx (fun x (hx:x∈L)=>((a0 x hx).below V).only o5 (fun t Z=>C t (by rcases Z with rfl|rfl<;>decide)));have ax:=gx (o5.own (gL HA V) (fun x hx=>by
     obtain rfl:x=p:=by simpa using hx
     exact gP (gL HA V) O (by decide)))
    have bh:=gx (o5.jJ (gB S V) (fun hm=>br (iA.1 hm)));clear q4 q5 b5 o5 aZ;obtain⟨cQ,cR,cS,cT,cU⟩:=jV cm;have cA:=aQ.size;have SS:=gx (Src.mr (P:=prog) (tx:=33) w5 #[.int .i64 f.err,.int .i64 f.n,.slice I f.il.length K,.int .i64 f.view.upto,.slice F f.view.ib.length G] 42 1 5 underlying33 rfl (by simp[Value.oneCell']));have bR:=gx (OT.start (ax.alloc (.cells #[f.err,f.n,(I,f.il,K),f.view.upto,(F,f.view.ib,G)] 42)));go_wp2_with (at_builtin;refine wpList_append_t rfl (.tmp 45) (.tmp 47) 33 33 rfl w.heap.size 42 5 72 (.agg #[gy,gy,(),gy,()]) underlying33 zl rfl (by decide) (av,L,ac) L.length (rows Pk L) rfl bR _ 1 _ rfl SS (by unfold maxLen;omega) (by omega) (by simp;omega) ?_;intro v5 w6 o6 g6);have Y:=gx (((gU.refl w5 (Value.slice av L.length ac).ownBlock.toList).alloc (.cells #[f.err,f.n,(I,f.il,K),f.view.upto,(F,f.view.ib,G)] 42)).more g6 (fun x hx=>.inl (by rw[hx];simp)));have au:=gx (Gm ax);have au:=gx (Gm ax);have bi:=gx (aQ.trans (Y.nZ aQ.size (fun x hx=>(ax.lt x (by simpa using hx)).1)));have bH:=gx (bG.types Y au (fun r hr=>ap r hr _ bi) (by decide));have bP:=gx (bO.only Y (fun t Z=>au t (by rcases Z with rfl|rfl<;>decide)));have a2:=gx (fun x (hx:x∈L)=>(a1 x hx).only Y (fun t Z=>au t (by rcases Z with rfl|rfl<;>decide)));have bq:∀{q cs t},w5.heap[q]?=some (.cells cs t)->t≠42->q∉(Value.slice av L.length ac).ownBlock.toList:=fun h cc hm=>by obtain⟨cD,t',h1,h2⟩:=au _ cc _ hm;rw[h] at h1;cases h1;exact h2 rfl
    have aK:=gx (Y.jJ aJ (bq aJ (by decide)));have bK:=gx (Y.jJ bh (bq bh (by decide)));obtain⟨a5,c5,rfl,-⟩:=gK o6.own;go_roundg (n-(k+1));case measure=>omega
    case rel=>
     rw[<-aN,<-aP,<-aO,<-aM] at aK;refine⟨k+1,m',L++[⟨f.err,f.n,I,K,f.il,f.view.upto,F,G,f.view.ib⟩],a5,c5,rfl,by omega,by go_num,?_,gx ?_,bH,aK,gx ?_,gx ?_,gx ?_,gx ?_,ap,bi,bK⟩;·rw[iH];rfl
     .rw[iH,a9.out];rfl
     .rw[bD.out,ao.out,cd.out]
     .rw[li,a8.out,ch.out,b9.out];show _++[Am.an _]=_;have:Am.an ⟨f.err,f.n,I,K,f.il,f.view.upto,F,G,f.view.ib⟩=f:=rfl;rw[this,aE.out,ao.out];rfl
     .rw[iH,kh];exact o6.own
     .intro x hx;rcases kd.1 hx with hx|hx
      .exact a2 x hx
      .obtain rfl:=iA.1 hx;exact bP
   .obtain rfl:k=n:=by omega
    have e1:l.take k=l:=ld (by rw[HN.out];exact jb _);unfold uN at S;obtain⟨cH,cI,cJ,cK,cL,cM,cN,cO,cP⟩:=kC S;have rf:∀j,wo.frozen? ⟨w.heap.size+1,j,none⟩=false:=fun j=>gA S;obtain⟨ab,ad,ae,af,ag,ah,ai,aj,ak⟩:=kC X;go_wp2_with fail;obtain⟨W,hW,q,bj,aR⟩:=gV (b:=w.heap.size+1) HB (sF _) S m.d m.s m.b (da,m.D,dc) m.g (ta,m.T,tc) (sa,m.seen,sc) m.u (aa,m.A,bS);rw[hW];obtain⟨q0,q1,q2,q3,q4,q5,q6,q7,q8⟩:=kC q;have C:=gx (show∀t,t≠32->∀B∈[w.heap.size+1],∃(cs:Array Value) (t':TypeId),wo.heap[B]?=some (.cells cs t')/\t'≠t from fun t Z B hB=>by obtain rfl:=iA.1 hB;exact⟨_,_,S,fun e=>Z e.symm⟩)
    refine gS (v:=.tuple #[jd m,(av,L,ac),gy]) (by unfold jd;rw[aU,aX,aW,aS];simp[results,results5,go_sem,q0,q1,q2,q3,q4,q5,q6,q7,q8]) rfl ⟨m,av,ac,L,0,rfl,HS.types aR C (fun r hr=>bg r hr _ bj) (by decide),?_,fun x hx=>(a0 x hx).only aR (fun t Z=>C t (by rcases Z with rfl|rfl<;>decide)),?_,bj⟩
    .exact aR.own HA (fun x hx=>by
      obtain rfl:x=w.heap.size+1:=by simpa using hx
      exact gP HA S (by decide))
    .rw[hP.out,ao.out,a8.out];unfold gE.C8;rw[e1]
theorem Iz(d s b:Int)(a:Option Addr)(n cap:Nat)(l:List gE.Do)(w:World)(e:K9 w a n cap l):
  Calls prog 5 #[.agg #[d,s,b],(a,n,cap)] w (Ad (gE.tg d s b l) w):=by
 by_cases f:gE.kA d s b=0
 .by_cases h:n<=80
  .have oz:=gE.Ok.start f;have m:1<=d/\d<=8:=oz.d;have o:0<=s/\s<=4:=oz.sp;obtain⟨d',rfl⟩:=jD (a:=d) (by omega);obtain⟨j,rfl⟩:=jD (a:=s) (by omega);exact ME d' j b a n cap l w e f h
  .exact CX d s b a n cap l w e (.inr (by omega))
 .exact CX d s b a n cap l w e (.inl f)
theorem xz{α:Type}{f:α->List Value}{k:Nat}(q:∀x,(f x).length=k){w:World}{a:Option Addr}{n cap:Nat}{l:List α}(h:Sl w k a n cap (rows f l))(B:0<n):
  ∃b off,a=some ⟨b,off,none⟩/\∀(i:Nat) (hi:i<l.length) (j:Nat),j<k->w.cell? ⟨b,off+(i*k+j),none⟩=(f l[i])[j]?:=by
 obtain⟨b,off,e,hc⟩:=h.addr B;refine⟨b,off,e,fun i hi j r=>?_⟩;have o:=qp q l i j hi r;have m:j<(f l[i]).length:=by rw[q];exact r
 rw[jz m] at o⊢;exact hc _ _ o
theorem xP(w:World)(e f:Obj):((w.alloc e).alloc f).drew.heap[w.heap.size]?=some e/\((w.alloc e).alloc f).drew.heap[w.heap.size+1]?=some f/\Below w w ((w.alloc e).alloc f).drew:=by
 refine⟨gF (o':=f) (gO w e),?_,iV ((gZ.alloc gM e).alloc (by simp) f)⟩;have:=gO (w.alloc e) f;rwa[jH] at this
end Go.Proofs.YthhcdfjijagalaaGreat

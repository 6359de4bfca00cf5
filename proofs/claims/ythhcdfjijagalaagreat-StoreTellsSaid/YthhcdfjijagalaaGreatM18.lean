import Derived.Test.YthhcdfjijagalaaGreatM17
set_option linter.all false
set_option maxHeartbeats 4000000
set_option maxRecDepth 100000
namespace Go.Proofs.YthhcdfjijagalaaGreat
open Qz Go.Proofs.Tryz Go.RowKit
def Ff(g s z:Int)(x:Value)(i:Nat):Value:=if i=0 then .int .i64 g else if i=1 then .int .i64 s else if i=2 then .int .i64 z else x
structure Made (w wc:World) (c:Nat) (g s z:Int) (xa:Option Addr) (xn xc:Nat) (data:List UInt8):Prop where
 below:Below w w wc
 A9:wc.rowIs w.heap.size 125 4 (Ff 0 0 0 ())
 out:wc.rowIs c 125 4 (Ff g s z (xa,xn,xc))
 own:wc.ownsRow w.heap.size 5 1 (xa,xn,xc) xn (cb data)
 lt:w.heap.size<c
 ne:(Value.slice xa xn xc).ownBlock≠some w.heap.size
theorem zM(w:World)(t:TypeId)(a b c d:Value)(f:Nat->Value)(e:f 0=a)(h:f 1=b)(j:f 2=c)(m:f 3=d):(w.alloc (.cells #[a,b,c,d] t)).rowIs w.heap.size t 4 f:=by
 refine World.rowIs_alloc w #[a,b,c,d] t f ?_;intro i hi
 match i,hi with
 |0,_=>rw[e];rfl
 |1,_=>rw[h];rfl
 |2,_=>rw[j];rfl
 |3,_=>rw[m];rfl
theorem tX{w e o:World}{c:Nat}{t:TypeId}{n:Nat}{f:Nat->Value}(h:w.rowIs c t n f)(m:e.heap=w.heap)(j:Below e e o):o.rowIs c t n f:=by
 refine World.rowIs.of_block h ?_;rw[j.block c (by rw[m];exact h.lt),m]
theorem Mm{w:World}{B C:Nat}{t:TypeId}{k:Nat}{j:Option Addr}{q o m:Nat}{f:List Value}(E:w.ownsRow B t k (j,q,o) m f)(h:C<B):(Value.slice j q o).ownBlock≠some C:=by
 rcases E.2 with⟨e,_⟩|⟨F,cap,r,e,G,_⟩
 .rw[e];simp[Value.ownBlock]
 .rw[e];simp[Value.ownBlock];omega
theorem L6{w f e:World}{g s z:Int}{m:Option Addr}{j o:Nat}{data:List UInt8}(q:f.heap=(w.alloc (.cells #[gy,gy,gy,()] 125)).heap)(h:Below f f e)(B:Below w w e)
  (r:e.ownsRow f.heap.size 5 1 (m,j,o) j (cb data)):Made w (e.alloc (.cells #[g,s,z,(m,j,o)] 125)) e.heap.size g s z m j o data:=by
 have E:f.heap.size=w.heap.size+1:=by rw[q];simp
 have F:=h.size;exact⟨B.alloc B.size _,World.rowIs.alloc (tX (zM w 125 _ _ _ _ _ rfl rfl rfl rfl) q h) _,zM e 125 _ _ _ _ _ rfl rfl rfl rfl,hJ (r.alloc _) (by omega),by omega,Mm (C:=w) r (by omega)⟩
theorem L7{w m j:World}{g s z:Int}{B:Option Addr}{q E:Nat}{data:List UInt8}(F:m.heap=((w.alloc (.cells #[gy,gy,gy,()] 125)).alloc (.cells #[gy,gy,gy,()] 125)).heap)(h:Below m m j)(K:Below w w j)
  (G:j.ownsRow m.heap.size 5 1 (B,q,E) q (cb data)):
  Made w ((((j.setCell (w.heap.size+1,gy) g).setCell (w.heap.size+1,ia) s).setCell (w.heap.size+1,j6) z).setCell (w.heap.size+1,jF) (B,q,E)) (w.heap.size+1) g s z B q E data:=by
 have Q:m.heap.size=w.heap.size+1+1:=by rw[F];simp
 have S:=h.size;have L:j.rowIs w.heap.size 125 4 (Ff 0 0 0 ()):=tX (World.rowIs.alloc (zM w 125 _ _ _ _ _ rfl rfl rfl rfl) _) F h;have N:j.rowIs (w.heap.size+1) 125 4 (Ff 0 0 0 ()):=by have:=zM (w.alloc (.cells #[gy,gy,gy,()] 125)) 125 gy gy gy () (Ff 0 0 0 ()) rfl rfl rfl rfl;rw[jH] at this;exact tX this F h
 have f:∀o:Nat,w.heap.size≠((w.heap.size+1,o):Addr).block:=fun o=>by simp
 refine⟨(((K.setCell (by simp) _).setCell (by simp) _).setCell (by simp) _).setCell (by simp) _,World.rowIs.setOther (World.rowIs.setOther (World.rowIs.setOther (World.rowIs.setOther L (f _) _) (f _) _) (f _) _) (f _) _,?_,?_,by omega,Mm (C:=w) G (by omega)⟩
 .refine(tJ (tJ (tJ (tJ N 0 _) 1 _) 2 _) 3 _).congr ?_;intro i hi;unfold Ff
  match i,hi with
  |0,_=>rfl
  |1,_=>rfl
  |2,_=>rfl
  |3,_=>rfl
 .have r:∀o:Nat,(Value.slice B q E).ownBlock≠some ((w.heap.size+1,o):Addr).block:=by
   intro o;rcases G.2 with⟨e,_⟩|⟨O,cap,I,e,P,_⟩
   .rw[e];simp[Value.ownBlock]
   .rw[e];simp[Value.ownBlock];omega
  refine hJ (ji (ji (ji (ji G (r _) _) (r _) _) (r _) _) (r _) _) (by omega)
theorem rK{w w':World}{c:Nat}{t:TypeId}{n:Nat}{f:Nat->Value}(h:w.rowIs c t n f)(hb:Below w w w'):w'.rowIs c t n f:=World.rowIs.of_block h (hb.block c h.lt)
def four(a b c d:Value)(i:Nat):Value:=if i=0 then a else if i=1 then b else if i=2 then c else d
theorem GC{w:World}{B:Nat}{t:TypeId}{f:Nat->Value}(h:w.rowIs B t 4 f)(a b c d:Value):((((w.setCell (B,gy) a).setCell (B,ia) b).setCell (B,j6) c).setCell (B,jF) d).rowIs B t 4 (four a b c d):=by
 refine(tJ (tJ (tJ (tJ h 0 _) 1 _) 2 _) 3 _).congr ?_;intro i hi;unfold four
 match i,hi with
 |0,_=>rfl
 |1,_=>rfl
 |2,_=>rfl
 |3,_=>rfl
theorem OR{w:World}{B:Nat}{a b c d:Value}(h:w.rowIs B 125 4 (four a b c d)):(loadVar 125 (B,gy)).run prog w=.ok (.agg #[a,b,c,d]) w:=by
 have e:w.cell? (B,gy)=some a:=h.cell (by decide);have c1:w.cell? (B,ia)=some b:=h.cell (by decide);have c2:w.cell? (B,j6)=some c:=h.cell (by decide);have f:w.cell? (B,jF)=some d:=h.cell (by decide);go_simp
def pT(R:jT.PR)(w:World)(e:Ending)(w':World):Prop:=
 ∃a cap,e=.returned (.tuple #[.agg #[R.g,R.s,R.z,.slice a R.data.length cap],R.err])/\Below w w w'/\w'.ownsRow w.heap.size 5 1 (.slice a R.data.length cap) R.data.length (cb R.data)
theorem oM{R:jT.PR}{w h:World}{e:Act}{x:Value}{E:Int}{g s z:Int}(m:e.tmps.getD 2 undef=.pointer (some (w,gy)))(j:e.tmps.getD 3 undef=.int .i64 E)(hd:e.defers=[])
  {f:Nat->Value} (r:h.rowIs w.heap.size 125 4 f) (o:pT R w (.returned (.tuple #[.agg #[g,s,z,x],E])) ((((h.setCell (w,gy) g).setCell (w,ia) s).setCell (w,j6) z).setCell (w,jF) x)):
  bodyPost prog Tryz.f104 (pT R w) .ret e ((((h.setCell (w,gy) g).setCell (w,ia) s).setCell (w,j6) z).setCell (w,jF) x):=by
 have q:=OR (GC r g s z x);generalize ((((h.setCell (w,gy) g).setCell (w,ia) s).setCell (w,j6) z).setCell (w,jF) x)=B at *;refine gS ?_ hd o;unfold results;rw[results104];rw[Array.getD_eq_getD_getElem?] at m j;simp[m,j,q,asAddr]
theorem Mp{w e:World}{E:Int}(hb:Below w w e):pT ⟨E,0,0,0,[]⟩ w (.returned (.tuple #[.agg #[gy,gy,gy,()],E])) ((((e.setCell (w,gy) gy).setCell (w,ia) gy).setCell (w,j6) gy).setCell (w,jF) ()):=
 ⟨none,0,rfl,(((hb.setCell gM _).setCell gM _).setCell gM _).setCell gM _,iY _ _ _ _⟩
theorem QU{w j:World}{g s z m:Nat}{e:Option Addr}{f:Nat}{data:List UInt8}(r:data.length=m)(hb:Below w w j)(q:(Value.slice e m f).ownBlock≠some w.heap.size)(B:j.ownsRow w.heap.size 5 1 (e,m,f) m (cb data)):pT ⟨0,g,s,z,data⟩ w (.returned (.tuple #[.agg #[g,s,z,(e,m,f)],gy])) ((((j.setCell (w,gy) g).setCell (w,ia) s).setCell (w,j6) z).setCell (w,jF) (e,m,f)):=by
 subst r;have h:∀o:Nat,(Value.slice e data.length f).ownBlock≠some ((w,o):Addr).block:=fun o=>q;exact⟨e,f,rfl,(((hb.setCell gM _).setCell gM _).setCell gM _).setCell gM _,ji (ji (ji (ji B (h _) _) (h _) _) (h _) _) (h _) _⟩
theorem Di(a:Option Addr)(n cap:Nat)(l:List UInt8)(w:World)(h:Bt w a n cap l)(f:n<12):
  Calls prog 104 #[(a,n,cap)] w (pT (jT.parse l) w):=by
 have o:=h.le;have e:=h.max;unfold maxLen at e;have j:=gx (Bt.n h);have d1:decide ((n:Int)-4<8)=true:=by simp;omega
 go_enter func104,ntmps104;go_wp2;go_quiet (fail);go_wp2;have m:=jT.ny l (.inl (by rw[j.out];exact f));rw[m];exact oM rfl rfl rfl (zM w 125 _ _ _ _ (four _ _ _ _) rfl rfl rfl rfl) (Mp (below_drewN (gZ.alloc gM _) _))
theorem Dh(a:Option Addr)(n cap:Nat)(l:List UInt8)(w:World)(h:Bt w a n cap l)(o:¬n<12)(j:iB l 0≠83):
  Calls prog 104 #[(a,n,cap)] w (pT (jT.parse l) w):=by
 have r:=h.le;have e:=h.max;unfold maxLen at e;have E:=gx (Bt.n h);obtain⟨K,rfl⟩:∃K,n=K+4:=⟨n-4,by omega⟩;obtain⟨b,off,rfl,_⟩:=h.addr (by omega);have d1:decide ((K:Int)<8)=false:=by simp;omega
 have q:=Sl.lt h (by omega) (by decide);have F:w.cell? (b,off)=some (.int .u8 (iB l 0)):=Bt.at h 0 (by omega);have G:=Bt.at h 5 (by omega);have I:=Bt.at h 6 (by omega);have B:=iP l 5;have C:=iP l 6;have N:(0:Int)<((K+4:Nat):Int):=by omega
 have i5:(5:Int)<((K+4:Nat):Int):=by omega
 have i6:(6:Int)<((K+4:Nat):Int):=by omega
 have L:=wN _ _ B C;have d2:(((iB l 0:Nat):Int) !=83)=true:=by rw[ij];omega
 have f:=gx j;clear j;go_enter func104,ntmps104;go_wp2;go_quiet (fail);go_wp2;have m:=jT.ny l (.inr (.inl f.out));rw[m];exact oM rfl rfl rfl (zM _ 125 _ _ _ _ (four _ _ _ _) rfl rfl rfl rfl) (Mp (below_drewN (gZ.alloc gM _) _))
theorem Hk(a:Option Addr)(n cap:Nat)(l:List UInt8)(w:World)(h:Bt w a n cap l)(E:¬n<12)(j:iB l 0=83)(m:256*iB l 5+iB l 6+11≠n):
  Calls prog 104 #[(a,n,cap)] w (pT (jT.parse l) w):=by
 have I:=h.le;have e:=h.max;unfold maxLen at e;have r:=gx (Bt.n h);obtain⟨K,rfl⟩:∃K,n=K+4:=⟨n-4,by omega⟩;obtain⟨b,off,rfl,_⟩:=h.addr (by omega);have d1:decide ((K:Int)<8)=false:=by simp;omega
 have G:=Sl.lt h (by omega) (by decide);have P:w.cell? (b,off)=some (.int .u8 (iB l 0)):=Bt.at h 0 (by omega);have Q:=Bt.at h 5 (by omega);have S:=Bt.at h 6 (by omega);have N:=iP l 5;have O:=iP l 6;have U:(0:Int)<((K+4:Nat):Int):=by omega
 have i5:(5:Int)<((K+4:Nat):Int):=by omega
 have i6:(6:Int)<((K+4:Nat):Int):=by omega
 have L:=wN _ _ N O;have d2:(((iB l 0:Nat):Int) !=83)=false:=by rw[j];rfl
 have B:=gx j;clear j;obtain⟨M,f⟩:∃M,256*iB l 5+iB l 6=M:=⟨_,rfl⟩;have F:M<=65535:=by rw[<-f];omega
 rw[f] at L;have o:=gx f;clear f;have m:¬M+7=K:=by have:=o.out;omega
 have d3:((M:Int) !=(K:Int)-7)=true:=by rw[ij];omega
 have q:=gx m;clear m;go_enter func104,ntmps104;go_wp2;go_quiet (fail);go_wp2;have C:=jT.ny l (.inr (.inr (by rw[o.out,r.out];have:=q.out;omega)));rw[C];exact oM rfl rfl rfl (zM _ 125 _ _ _ _ (four _ _ _ _) rfl rfl rfl rfl) (Mp (below_drewN (gZ.alloc gM _) _))
theorem E8(a:Option Addr)(n cap:Nat)(l:List UInt8)(w:World)(h:Bt w a n cap l)(O:¬n<12)(q:iB l 0=83)(r:256*iB l 5+iB l 6+11=n)(m:jT.BM l (n-4)≠nO.sum (l.take (n-4))):
  Calls prog 104 #[(a,n,cap)] w (pT (jT.parse l) w):=by
 have U:=h.le;have f:=h.max;unfold maxLen at f;have G:=gx (Bt.n h);obtain⟨K,rfl⟩:∃K,n=K+4:=⟨n-4,by omega⟩;obtain⟨b,off,rfl,_⟩:=h.addr (by omega);have d1:decide ((K:Int)<8)=false:=by simp;omega
 have S:=Sl.lt h (by omega) (by decide);have Z:w.cell? (b,off)=some (.int .u8 (iB l 0)):=Bt.at h 0 (by omega);have e5:=Bt.at h 5 (by omega);have e6:=Bt.at h 6 (by omega);have W:=iP l 5;have X:=iP l 6;have i0:(0:Int)<((K+4:Nat):Int):=by omega
 have i5:(5:Int)<((K+4:Nat):Int):=by omega
 have i6:(6:Int)<((K+4:Nat):Int):=by omega
 have V:=wN _ _ W X;have d2:(((iB l 0:Nat):Int) !=83)=false:=by rw[q];rfl
 have o:=gx q;clear q;obtain⟨M,j⟩:∃M,256*iB l 5+iB l 6=M:=⟨_,rfl⟩;have Q:M<=65535:=by rw[<-j];omega
 rw[j] at V;have B:=gx j;clear j;have r:M+7=K:=by have:=B.out;omega
 have d3:((M:Int) !=(K:Int)-7)=false:=by simp;omega
 have P:K<=65542:=by omega
 have F:=gx r;clear r;have q0:=Bt.at h K (by omega);have q1:=Bt.at h (K+1) (by omega);have q2:=Bt.at h (K+2) (by omega);have q3:=Bt.at h (K+3) (by omega);have f1:IntKind.i64.wrap ((K:Int)+1)=(K:Int)+1:=iO _ (by omega);have f2:IntKind.i64.wrap ((K:Int)+2)=(K:Int)+2:=iO _ (by omega);have f3:IntKind.i64.wrap ((K:Int)+3)=(K:Int)+3:=iO _ (by omega);have t1:((K:Int)+1).toNat=K+1:=by omega
 have t2:((K:Int)+2).toNat=K+2:=by omega
 have t3:((K:Int)+3).toNat=K+3:=by omega
 have z1:(0:Int)<=(K:Int)+1:=by omega
 have z2:(0:Int)<=(K:Int)+2:=by omega
 have z3:(0:Int)<=(K:Int)+3:=by omega
 have L:=iP l K;have L1:=iP l (K+1);have L2:=iP l (K+2);have N:=iP l (K+3);obtain⟨y1,y2,R,r1,r2,r3,E⟩:=G1 _ _ _ _ L L1 L2 N;have C:=gx E;clear E;have m:¬R=nO.sum (l.take K):=by have:=C.out;rw[this];exact m
 have Y:((R:Int) !=((nO.sum (l.take K):Nat):Int))=true:=by rw[ij];omega
 have I:=gx m;clear m;go_enter func104,ntmps104;go_wp2;go_quiet (fail);go_wp2;go_quiet (fail);go_wp2_with (go_at_call 120;refine(Af _ _ _ (l.take K) _ ((Bt.take h (by omega)).below ?_)).mono ?_;exact(gZ.alloc gM _).trans ⟨rfl,rfl,rfl,jb _,fun _ _=>rfl⟩;rintro e w3⟨rfl,rfl⟩);rw[jT.yq l K (by rw[G.out]) (by omega) o.out (by rw[B.out];exact F.out) (by have:=C.out;unfold jT.BM;rw[<-this];exact I.out)];exact oM rfl rfl rfl (zM _ 125 _ _ _ _ (four _ _ _ _) rfl rfl rfl rfl) (Mp (below_drewN (gZ.alloc gM _) _))
theorem E6(a:Option Addr)(n cap:Nat)(l:List UInt8)(w:World)(h:Bt w a n cap l)(ae:¬n<12)(h0:iB l 0=83)(hk:256*iB l 5+iB l 6+11=n)(Q:jT.BM l (n-4)=nO.sum (l.take (n-4))):
  Calls prog 104 #[(a,n,cap)] w (pT (jT.parse l) w):=by
 have ai:=h.le;have S:=h.max;unfold maxLen at S;have HL:=gx (Bt.n h);obtain⟨K,rfl⟩:∃K,n=K+4:=⟨n-4,by omega⟩;obtain⟨b,off,rfl,_⟩:=h.addr (by omega);have d1:decide ((K:Int)<8)=false:=by simp;omega
 have L:=Sl.lt h (by omega) (by decide);have e0:w.cell? (b,off)=some (.int .u8 (iB l 0)):=Bt.at h 0 (by omega);have e5:=Bt.at h 5 (by omega);have e6:=Bt.at h 6 (by omega);have l5:=iP l 5;have l6:=iP l 6;have i0:(0:Int)<((K+4:Nat):Int):=by omega
 have i5:(5:Int)<((K+4:Nat):Int):=by omega
 have i6:(6:Int)<((K+4:Nat):Int):=by omega
 have ho:=wN _ _ l5 l6;have d2:(((iB l 0:Nat):Int) !=83)=false:=by rw[h0];rfl
 have P:=gx h0;clear h0;obtain⟨M,X⟩:∃M,256*iB l 5+iB l 6=M:=⟨_,rfl⟩;have ag:M<=65535:=by rw[<-X];omega
 rw[X] at ho;have HM:=gx X;clear X;have hk:M+7=K:=by have:=HM.out;omega
 have d3:((M:Int) !=(K:Int)-7)=false:=by simp;omega
 have af:K<=65542:=by omega
 have HK:=gx hk;clear hk;have q0:=Bt.at h K (by omega);have q1:=Bt.at h (K+1) (by omega);have q2:=Bt.at h (K+2) (by omega);have q3:=Bt.at h (K+3) (by omega);have f1:IntKind.i64.wrap ((K:Int)+1)=(K:Int)+1:=iO _ (by omega);have f2:IntKind.i64.wrap ((K:Int)+2)=(K:Int)+2:=iO _ (by omega);have f3:IntKind.i64.wrap ((K:Int)+3)=(K:Int)+3:=iO _ (by omega);have t1:((K:Int)+1).toNat=K+1:=by omega
 have t2:((K:Int)+2).toNat=K+2:=by omega
 have t3:((K:Int)+3).toNat=K+3:=by omega
 have z1:(0:Int)<=(K:Int)+1:=by omega
 have z2:(0:Int)<=(K:Int)+2:=by omega
 have z3:(0:Int)<=(K:Int)+3:=by omega
 have L0:=iP l K;have L1:=iP l (K+1);have L2:=iP l (K+2);have L3:=iP l (K+3);obtain⟨y1,y2,R,r1,r2,r3,hR⟩:=G1 _ _ _ _ L0 L1 L2 L3;have HR:=gx hR;clear hR;have Q:R=nO.sum (l.take K):=by have:=HR.out;rw[this];exact Q
 have d4:((R:Int) !=((nO.sum (l.take K):Nat):Int))=false:=by rw[Q];simp
 have HS:=gx Q;clear Q;have v1:=Bt.at h 1 (by omega);have v2:=Bt.at h 2 (by omega);have v3:=Bt.at h 3 (by omega);have v4:=Bt.at h 4 (by omega);have j1:=iP l 1;have j2:=iP l 2;have j3:=iP l 3;have j4:=iP l 4;have o2:=wN _ _ j3 j4;obtain⟨Z,hZ⟩:∃Z,256*iB l 3+iB l 4=Z:=⟨_,rfl⟩;rw[hZ] at o2;have V:=gx hZ;clear hZ;have i1:(1:Int)<((K+4:Nat):Int):=by omega
 have i2:(2:Int)<((K+4:Nat):Int):=by omega
 have i3:(3:Int)<((K+4:Nat):Int):=by omega
 have i4:(4:Int)<((K+4:Nat):Int):=by omega
 have i7:(7:Int)<=(K:Int):=by omega
 have m1:(1:Int)<(K:Int)+4:=by omega
 have m2:(2:Int)<(K:Int)+4:=by omega
 have m3:(3:Int)<(K:Int)+4:=by omega
 have m4:(4:Int)<(K:Int)+4:=by omega
 have n1:1<K+4:=by omega
 have y1:IntKind.i64.wrap ((iB l 1:Nat):Int)=((iB l 1:Nat):Int):=iO _ (by omega);have y2:IntKind.i64.wrap ((iB l 2:Nat):Int)=((iB l 2:Nat):Int):=iO _ (by omega);have y3:IntKind.i64.wrap ((iB l 3:Nat):Int)=((iB l 3:Nat):Int):=iO _ (by omega);have y4:IntKind.i64.wrap ((iB l 4:Nat):Int)=((iB l 4:Nat):Int):=iO _ (by omega);have y5:IntKind.i64.wrap (((iB l 3:Nat):Int)*256)=((iB l 3:Nat):Int)*256:=iO _ (by omega);have ah:b≠w.heap.size+1:=by omega
 have ab:∀(W:World) (o p:Nat) (v:Value),(W.setCell (w.heap.size+1,p) v).cell? (b,o)=W.cell? (b,o):=fun W o p v=>rm _ (by simp;omega);have n2:2<K+4:=by omega
 have n3:3<K+4:=by omega
 have n4:4<K+4:=by omega
 have n5:K<=cap:=by omega
 have n6:(K:Int)<=(cap:Int):=by omega
 have n7:(0:Int)<=(K:Int):=by omega
 have n8:7<=K:=by omega
 have n9:¬cap=7:=by omega
 have ad:Bt w (some (b,off+7)) (K-7) (cap-7) ((l.drop 7).take (K-7)):=by have:=Bt.slice h (lo:=7) (hi:=K) (by omega) (by omega);rw[gC n9] at this;simpa[je] using this
 have HC:=gx (show∀I,Below w w I->Calls prog 81 #[(some (b,off+7),(K-7),(cap-7))] I (fun e C=>∃F G,e=.returned (.slice F (K-7) G)/\Below w w C/\Below I I C/\C.ownsRow I.heap.size 5 1 (.slice F (K-7) G) (K-7) (cb ((l.drop 7).take (K-7)))/\
   C.cell? (b,off+1)=some (.int .u8 (iB l 1))/\C.cell? (b,off+2)=some (.int .u8 (iB l 2))/\C.cell? (b,off+3)=some (.int .u8 (iB l 3))/\C.cell? (b,off+4)=some (.int .u8 (iB l 4))/\(w.heap.size+1<I.heap.size->∀o,C.cell? ⟨w.heap.size+1,o,none⟩=I.cell? ⟨w.heap.size+1,o,none⟩/\C.frozen? ⟨w.heap.size+1,o,none⟩=I.frozen? ⟨w.heap.size+1,o,none⟩)) from fun I hb=>
  (ma _ _ _ _ I (ad.below hb) (by omega)).mono fun e C⟨x4,he,j,B⟩=>
   have N:=gH hb j;let ⟨F,G,hx,_⟩:=gK B
   ⟨F,G,hx▸he,N,j,hx▸B,(N.cell (p:=(b,off+1)) L).trans v1,(N.cell (p:=(b,off+2)) L).trans v2,(N.cell (p:=(b,off+3)) L).trans v3,(N.cell (p:=(b,off+4)) L).trans v4,fun O o=>⟨j.cell (p:=(w.heap.size+1,o)) O,j.frozen (p:=(w.heap.size+1,o)) O⟩⟩)
 go_enter func104,ntmps104;go_wp2;go_quiet (fail);go_wp2;go_quiet (fail);go_upto_region 7 with(go_at_call 120;refine(Af _ _ _ (l.take K) _ ((Bt.take h (by omega)).below ?_)).mono ?_;exact(gZ.alloc gM _).trans ⟨rfl,rfl,rfl,jb _,fun _ _=>rfl⟩;rintro e w3⟨rfl,rfl⟩);go_cut[6] (fun s6 wc=>∃c F G,s6=.pointer (some ⟨c,0,none⟩)/\Made w wc c (iB l 1) (iB l 2) Z F (K-7) G ((l.drop 7).take (K-7)));case first=>
  go_region_held3 (fun w'=>w'.cell? (b,off+1)=some (.int .u8 (iB l 1))/\w'.cell? (b,off+2)=some (.int .u8 (iB l 2))/\w'.cell? (b,off+3)=some (.int .u8 (iB l 3))/\w'.cell? (b,off+4)=some (.int .u8 (iB l 4))) (first|exact⟨k1,k2,k3,k4⟩|go_keep)
   (first|(go_at_call 81;refine(HC.out _ ?_).mono ?_;(repeat (first|exact iU _ _|refine below_drewN ?_ _|refine iV ?_|refine m6 ?_ (by simp) _));rintro e C⟨F,G,rfl,N,j,B,k1,k2,k3,k4,U⟩;(try simp at U)))
  all_goals (go_wp2_with fail;go_meet)
  .exact⟨_,_,_,rfl,by refine L6 ?_ j N B;rfl⟩
  .exact⟨_,_,_,rfl,by refine L7 ?_ j N B;rfl⟩
 case rest=>
  obtain⟨c,F,G,rfl,q⟩:=hcut;have c0:wc.cell? (c,gy)=some (.int .i64 (iB l 1)):=q.out.cell (by decide);have c1:wc.cell? (c,ia)=some (.int .i64 (iB l 2)):=q.out.cell (by decide);have c2:wc.cell? (c,j6)=some (.int .i64 Z):=q.out.cell (by decide);have c3:wc.cell? (c,jF)=some (.slice F (K-7) G):=q.out.cell (by decide);have f:=gx q;have hW:=yZ (iB l 1) (iB l 2) Z F (K-7) G (by have:=gK q.own;obtain⟨_,_,e,O⟩:=this;cases e;exact O.le) (by have:=gK q.own;obtain⟨_,_,e,O⟩:=this;cases e;exact O.max);obtain⟨E,hE⟩:∃E,jT.jN (iB l 1) (iB l 2) Z (K-7)=E:=⟨_,rfl⟩;rw[hE] at hW;have HW:=gx hW;have HE:=gx hE;clear hW hE;by_cases U:E=0
  .subst U;go_wp2_with (go_at_call 119;refine(HW.out _).mono ?_;rintro e w5⟨rfl,m⟩;have r:=rK f.out.A9 m;have g0:w5.cell? (w,gy)=some (.int .i64 0):=r.cell (by decide);have g1:w5.cell? (w,ia)=some (.int .i64 0):=r.cell (by decide);have g2:w5.cell? (w,j6)=some (.int .i64 0):=r.cell (by decide);have g3:w5.cell? (w,jF)=some (.slice none 0 0):=r.cell (by decide);have gf:∀o,w5.frozen? ⟨w.heap.size,o,none⟩=false:=r.frozen;have Y:=rK f.out.out m;have k0:w5.cell? (c,gy)=some (.int .i64 (iB l 1)):=Y.cell (by decide);have k1:w5.cell? (c,ia)=some (.int .i64 (iB l 2)):=Y.cell (by decide);have k2:w5.cell? (c,j6)=some (.int .i64 Z):=Y.cell (by decide);have k3:w5.cell? (c,jF)=some (.slice F (K-7) G):=Y.cell (by decide));rw[jT.AU l K (by rw[HL.out]) (by omega) P.out (by rw[HM.out];exact HK.out) (by have:=HR.out;unfold jT.BM;rw[<-this];exact HS.out) (by rw[V.out,HE.out]),V.out];exact oM rfl rfl rfl r (QU (by rw[jh,kG];have:=HL.out;omega) (gH f.out.below m) f.out.ne (gL f.out.own m))
  .have aj:(E !=0)=true:=by rw[ij];exact U
   go_wp2_with (go_at_call 119;refine(HW.out _).mono ?_;rintro e w5⟨rfl,m⟩;have r:=rK f.out.A9 m;have g0:w5.cell? (w,gy)=some (.int .i64 0):=r.cell (by decide);have g1:w5.cell? (w,ia)=some (.int .i64 0):=r.cell (by decide);have g2:w5.cell? (w,j6)=some (.int .i64 0):=r.cell (by decide);have g3:w5.cell? (w,jF)=some (.slice none 0 0):=r.cell (by decide);have gf:∀o,w5.frozen? ⟨w.heap.size,o,none⟩=false:=r.frozen);rw[jT.zo l K (by rw[HL.out]) (by omega) P.out (by rw[HM.out];exact HK.out) (by have:=HR.out;unfold jT.BM;rw[<-this];exact HS.out) (by rw[V.out,HE.out];exact U),V.out,HE.out];exact oM rfl rfl rfl r (Mp (gH f.out.below m))
theorem E5(a:Option Addr)(n cap:Nat)(l:List UInt8)(w:World)(h:Bt w a n cap l):
  Calls prog 104 #[(a,n,cap)] w (pT (jT.parse l) w):=by
 by_cases e:n<12;·exact Di a n cap l w h e
 by_cases f:iB l 0=83
 .by_cases j:256*iB l 5+iB l 6+11=n
  .by_cases m:jT.BM l (n-4)=nO.sum (l.take (n-4));·exact E6 a n cap l w h e f j m
   .exact E8 a n cap l w h e f j m
  .exact Hk a n cap l w h e f j
 .exact Dh a n cap l w h e f
end Go.Proofs.YthhcdfjijagalaaGreat

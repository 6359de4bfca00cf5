import Derived.Test.YthhcdfjijagalaaGreatM18
set_option linter.all false
set_option maxHeartbeats 8000000
set_option maxRecDepth 100000
namespace Go.Proofs.YthhcdfjijagalaaGreat
open Qz Go.Proofs.Tryz Go.RowKit
def He(R:jT.PR)(w:World)(e:Ending)(w':World):Prop:=
 ∃a n cap,e=.returned (.tuple #[.agg #[R.g,R.s,R.z,.slice a n cap],R.err])/\Below w w w'/\Bt w' a n cap R.data
theorem nL{Q:Ending->World->Prop}{w h:World}{e:Act}{x:Value}{E:Int}{g s z:Int}(m:e.tmps.getD 2 undef=.pointer (some (w,gy)))(j:e.tmps.getD 3 undef=.int .i64 E)(hd:e.defers=[])
  {f:Nat->Value} (r:h.rowIs w.heap.size 125 4 f) (o:Q (.returned (.tuple #[.agg #[g,s,z,x],E])) ((((h.setCell (w,gy) g).setCell (w,ia) s).setCell (w,j6) z).setCell (w,jF) x)):
  bodyPost prog Tryz.f86 Q .ret e ((((h.setCell (w,gy) g).setCell (w,ia) s).setCell (w,j6) z).setCell (w,jF) x):=by
 have q:=OR (GC r g s z x);generalize ((((h.setCell (w,gy) g).setCell (w,ia) s).setCell (w,j6) z).setCell (w,jF) x)=B at *;refine gS ?_ hd o;unfold results;rw[results86];rw[Array.getD_eq_getD_getElem?] at m j;simp[m,j,q,asAddr]
def QT(R:jT.PR)(h:Option Addr)(j f:Nat)(l:List UInt8)(w:World)(e:Ending)(w':World):Prop:=
 ∃a n cap,e=.returned (.tuple #[.agg #[R.g,R.s,R.z,.slice a n cap],R.err])/\Below w w w'/\∀W,Bt W h j f l->Bt W a n cap R.data
theorem QT.Qm{R:jT.PR}{j:Option Addr}{o f:Nat}{l:List UInt8}{w:World}{e:Ending}{w':World}(h:QT R j o f l w e w')(hb:Bt w j o f l):He R w e w':=by
 obtain⟨a,n,cap,q,m,r⟩:=h;exact⟨a,n,cap,q,m,Sl.below (r w hb) m⟩
theorem Mv{w f:World}{E:Int}{h:Option Addr}{j e:Nat}{l:List UInt8}(hb:Below w w f):QT ⟨E,0,0,0,[]⟩ h j e l w (.returned (.tuple #[.agg #[gy,gy,gy,()],E])) ((((f.setCell (w,gy) gy).setCell (w,ia) gy).setCell (w,j6) gy).setCell (w,jF) ()):=
 ⟨none,0,0,rfl,(((hb.setCell gM _).setCell gM _).setCell gM _).setCell gM _,fun W _=>Sl.none _ _⟩
theorem QV{w o:World}{g s z m:Nat}{f:Option Addr}{h:Nat}{data:List UInt8}{q:Option Addr}{r e:Nat}{l:List UInt8}(hb:Below w w o)(B:∀W,Bt W q r e l->Bt W f m h data):QT ⟨0,g,s,z,data⟩ q r e l w (.returned (.tuple #[.agg #[g,s,z,(f,m,h)],gy])) ((((o.setCell (w,gy) g).setCell (w,ia) s).setCell (w,j6) z).setCell (w,jF) (f,m,h)):=by
 have j:=(((hb.setCell (p:=(w,gy)) gM g).setCell (p:=(w,ia)) gM s).setCell (p:=(w,j6)) gM z).setCell (p:=(w,jF)) gM (f,m,h);exact⟨f,m,h,rfl,j,B⟩
theorem vZ{B:Nat}{a w:World}(h:Below B a.drew w):Below B a w:=Below.trans (show Below B a a.drew from⟨rfl,rfl,rfl,jb _,fun _ _=>rfl⟩) h
def BO(l:List UInt8)(K:Nat):Nat->Nat
 |0=>0
 |k+1=>256*BO l K k+iB l (K+3-k)
theorem Nr(l:List UInt8)(K:Nat)(k:Nat):BO l K k<256 ^ k:=by
 induction k with
 |zero=>exact Nat.one_pos
 |succ k e=>have:=iP l (K+3-k);unfold BO;rw[Nat.pow_succ];omega
theorem Lg(l:List UInt8)(K:Nat)(k:Nat)(h:k<4):BO l K k<16777216:=qK (Nr l K k) (yy (n:=256) (by decide) (show k<=3 by omega))
theorem PZ(l:List UInt8)(K:Nat):BO l K 4=jT.BM l K:=by
 simp only[BO,jT.BM];rw[show K+3-1=K+2 by omega,show K+3-2=K+1 by omega,show K+3-3=K by omega,show K+3-0=K+3 by omega];omega
theorem xq(a:Option Addr)(n cap:Nat)(l:List UInt8)(w:World)(h:Bt w a n cap l)(f:n<12):
  Calls prog 86 #[(a,n,cap)] w (QT (jT.parse l) a n cap l w):=by
 have o:=h.le;have e:=h.max;unfold maxLen at e;have j:=gx (Bt.n h);have d1:decide ((n:Int)<12)=true:=by simp;omega
 go_enter func86,ntmps86;go_wp2;go_quiet (fail);go_wp2;have m:=jT.ny l (.inl (by rw[j.out];exact f));rw[m];exact nL rfl rfl rfl (zM w 125 _ _ _ _ (four _ _ _ _) rfl rfl rfl rfl) (Mv (below_drewN (gZ.alloc gM _) _))
theorem qM(a:Option Addr)(n cap:Nat)(l:List UInt8)(w:World)(h:Bt w a n cap l)(r:¬n<12)(e:iB l 0≠83∨256*iB l 5+iB l 6+11≠n):
  Calls prog 86 #[(a,n,cap)] w (QT (jT.parse l) a n cap l w):=by
 have C:=h.le;have j:=h.max;unfold maxLen at j;have o:=gx (Bt.n h);obtain⟨K,rfl⟩:∃K,n=K+12:=⟨n-12,by omega⟩;obtain⟨b,off,rfl,_⟩:=h.addr (by omega);have d1:decide ((K:Int)+12<12)=false:=by simp;omega
 have B:=Sl.lt h (by omega) (by decide);have E:w.cell? (b,off)=some (.int .u8 (iB l 0)):=Bt.at h 0 (by omega);have F:=Bt.at h 5 (by omega);have G:=Bt.at h 6 (by omega);have L:=iP l 5;have N:=iP l 6;have I:(0:Int)<((K+12:Nat):Int):=by omega
 have i5:(5:Int)<((K+12:Nat):Int):=by omega
 have i6:(6:Int)<((K+12:Nat):Int):=by omega
 have q:=gx (jT.ny l (e.elim (fun h=>.inr (.inl h)) fun h=>.inr (.inr (by have:=o.out;omega))));rw[q.out];by_cases f:iB l 0=83
 .have d2:(((iB l 0:Nat):Int) !=83)=false:=by rw[f];rfl
  have d3:(256*((iB l 5:Nat):Int)+((iB l 6:Nat):Int) !=(K:Int)+12-11)=true:=by rw[ij];omega
  have m:=gx e;clear e;clear f;go_enter func86,ntmps86;go_wp2;go_quiet (fail);go_wp2;exact nL rfl rfl rfl (zM _ 125 _ _ _ _ (four _ _ _ _) rfl rfl rfl rfl) (Mv (below_drewN (gZ.alloc gM _) _))
 .have d2:(((iB l 0:Nat):Int) !=83)=true:=by rw[ij];omega
  have m:=gx e;clear e;go_enter func86,ntmps86;go_wp2;go_quiet (fail);go_wp2;exact nL rfl rfl rfl (zM _ 125 _ _ _ _ (four _ _ _ _) rfl rfl rfl rfl) (Mv (below_drewN (gZ.alloc gM _) _))
theorem yL(a:Option Addr)(n cap:Nat)(l:List UInt8)(w:World)(h:Bt w a n cap l)(ae:¬n<12)(h0:iB l 0=83)(hk:256*iB l 5+iB l 6+11=n):
  Calls prog 86 #[(a,n,cap)] w (QT (jT.parse l) a n cap l w):=by
 have ai:=h.le;have L:=h.max;unfold maxLen at L;have S:=gx (Bt.n h);obtain⟨K,rfl⟩:∃K,n=K+4:=⟨n-4,by omega⟩;obtain⟨b,off,rfl,_⟩:=h.addr (by omega);have d1:decide ((K:Int)+4<12)=false:=by simp;omega
 have ag:=Sl.lt h (by omega) (by decide);have e0:w.cell? (b,off)=some (.int .u8 (iB l 0)):=Bt.at h 0 (by omega);have e5:=Bt.at h 5 (by omega);have e6:=Bt.at h 6 (by omega);have l5:=iP l 5;have l6:=iP l 6;have i0:(0:Int)<((K+4:Nat):Int):=by omega
 have i5:(5:Int)<((K+4:Nat):Int):=by omega
 have i6:(6:Int)<((K+4:Nat):Int):=by omega
 have d2:(((iB l 0:Nat):Int) !=83)=false:=by rw[h0];rfl
 have d3:(256*((iB l 5:Nat):Int)+((iB l 6:Nat):Int) !=(K:Int)+4-11)=false:=by rw[bne_eq_false_iff_eq];omega
 have h8:8<=K:=by omega
 have af:K<=65542:=by omega
 have F:=gx h0;have Q:=gx (show 256*iB l 5+iB l 6+7=K by omega);clear h0 hk;go_enter func86,ntmps86;go_wp2;go_quiet (fail);go_wp2;go_loopg[4,5] 4 (fun gg c i wr=>∃k:Nat,gg+k=4/\i=.int .i64 ((k:Int)+1)/\c=.int .u32 (BO l K k:Nat)/\Below w w wr/\wr.rowIs w.heap.size 125 4 (Ff 0 0 0 ()));case atStart=>exact⟨0,rfl,rfl,rfl,below_drewN (gZ.alloc gM _) _,zM w 125 _ _ _ _ (Ff 0 0 0 ()) rfl rfl rfl rfl⟩
 case round=>
  obtain⟨k,hk,rfl,rfl,f,q⟩:=hrel;by_cases ab:k<4
  .obtain⟨m,rfl⟩:∃m,gk=m+1:=⟨gk-1,by omega⟩;have hc:=Bt.at (h.below f) (K+3-k) (by omega);have hx:=iP l (K+3-k);have hv:=Lg l K k ab;have HV:=gx (show BO l K (k+1)=256*BO l K k+iB l (K+3-k) from rfl);have t1:((K:Int)+4-((k:Int)+1)).toNat=K+3-k:=by omega
   have t2:(0:Int)<=(K:Int)+4-((k:Int)+1):=by omega
   have t3:(K:Int)+4-((k:Int)+1)<(K:Int)+4:=by omega
   generalize BO l K k=d at *;go_wp2;go_roundg m;case measure=>omega
   case rel=>exact⟨k+1,by omega,by go_num,by rw[HV.out];rfl,f,q⟩
  .obtain rfl:k=4:=by omega
   rw[PZ];by_cases O:jT.BM l K=nO.sum (l.take K)
   .have d4:(((jT.BM l K:Nat):Int) !=((nO.sum (l.take K):Nat):Int))=false:=by rw[O];simp
    have v1:=Bt.at (h.below f) 1 (by omega);have v2:=Bt.at (h.below f) 2 (by omega);have v3:=Bt.at (h.below f) 3 (by omega);have v4:=Bt.at (h.below f) 4 (by omega);have j1:=iP l 1;have j2:=iP l 2;have j3:=iP l 3;have j4:=iP l 4;obtain⟨Z,hZ⟩:∃Z,256*iB l 3+iB l 4=Z:=⟨_,rfl⟩;have o2:256*((iB l 3:Nat):Int)+((iB l 4:Nat):Int)=(Z:Int):=by omega
    have N:=gx hZ;clear hZ;have HS:=gx O;clear O;have i1:(1:Int)<((K+4:Nat):Int):=by omega
    have i2:(2:Int)<((K+4:Nat):Int):=by omega
    have i3:(3:Int)<((K+4:Nat):Int):=by omega
    have i4:(4:Int)<((K+4:Nat):Int):=by omega
    have m1:(1:Int)<(K:Int)+4:=by omega
    have m2:(2:Int)<(K:Int)+4:=by omega
    have m3:(3:Int)<(K:Int)+4:=by omega
    have m4:(4:Int)<(K:Int)+4:=by omega
    have y1:IntKind.i64.wrap ((iB l 1:Nat):Int)=((iB l 1:Nat):Int):=iO _ (by omega);have y2:IntKind.i64.wrap ((iB l 2:Nat):Int)=((iB l 2:Nat):Int):=iO _ (by omega);have y3:IntKind.i64.wrap ((iB l 3:Nat):Int)=((iB l 3:Nat):Int):=iO _ (by omega);have y4:IntKind.i64.wrap ((iB l 4:Nat):Int)=((iB l 4:Nat):Int):=iO _ (by omega);have y5:IntKind.i64.wrap (256*((iB l 3:Nat):Int))=256*((iB l 3:Nat):Int):=iO _ (by omega);have n5:K<=cap:=by omega
    have n6:(K:Int)<=(cap:Int):=by omega
    have n7:(0:Int)<=(K:Int):=by omega
    have n8:7<=K:=by omega
    have i7:(7:Int)<=(K:Int):=by omega
    have n9:¬cap=7:=by omega
    have ad:∀W,Bt W (some (b,off)) (K+4) cap l->Bt W (some (b,off+7)) (K-7) (cap-7) ((l.drop 7).take (K-7)):=fun W I=>by have:=Bt.slice I (lo:=7) (hi:=K) (by omega) (by omega);rw[gC n9] at this;simpa[je] using this
    have U:wr.cell? (w,gy)=some (.int .i64 0):=q.cell (by decide);have V:wr.cell? (w,ia)=some (.int .i64 0):=q.cell (by decide);have X:wr.cell? (w,j6)=some (.int .i64 0):=q.cell (by decide);have Y:wr.cell? (w,jF)=some (.slice none 0 0):=q.cell (by decide);have gf:∀o,wr.frozen? ⟨w.heap.size,o,none⟩=false:=q.frozen;have ah:b<wr.heap.size:=by have:=f.size;omega
    go_wp2_with (go_at_call 111;refine(yN _ _ _ (l.take K) _ ((Bt.take h (by omega)).below f)).mono ?_;rintro e w3⟨rfl,rfl⟩);have I:=rE (iB l 1) (iB l 2) Z (some (b,off+7)) (K-7) (cap-7) (by omega) (by have:=h.max;omega);obtain⟨E,hE⟩:∃E,jT.jN (iB l 1) (iB l 2) Z (K-7)=E:=⟨_,rfl⟩;rw[hE] at I;have HW:=gx I;have P:=gx hE;clear I hE;by_cases hz:E=0
    .subst hz;have G:=gx (jT.AU l K S h8 F Q HS (by rw[N.out,P.out]));go_region;go_wp2_with (go_at_call 110;refine(HW _).mono ?_;rintro e w5⟨rfl,B⟩;have j:=vZ B;clear B;have C:=mN j;have r:=rK q C;have U:w5.cell? (w,gy)=some (.int .i64 0):=r.cell (by decide);have V:w5.cell? (w,ia)=some (.int .i64 0):=r.cell (by decide);have X:w5.cell? (w,j6)=some (.int .i64 0):=r.cell (by decide);have Y:w5.cell? (w,jF)=some (.slice none 0 0):=r.cell (by decide);have gf:∀o,w5.frozen? ⟨w.heap.size,o,none⟩=false:=r.frozen;have k0:w5.cell? (wr,gy)=some (.int .i64 (iB l 1)):=kE j 0;have k1:w5.cell? (wr,ia)=some (.int .i64 (iB l 2)):=kE j 1;have k2:w5.cell? (wr,j6)=some (.int .i64 Z):=kE j 2;have k3:w5.cell? (wr,jF)=some (.slice (some (b,off+7)) (K-7) (cap-7)):=kE j 3);rw[G.out,N.out];exact nL rfl rfl rfl r (QV (gH f C) ad)
    .have aj:(E !=0)=true:=by rw[ij];exact hz
     have G:=gx (jT.zo l K S h8 F Q HS (by rw[N.out,P.out];exact hz));go_region;go_wp2_with (go_at_call 110;refine(HW _).mono ?_;rintro e w5⟨rfl,B⟩;have j:=vZ B;clear B;have C:=mN j;have r:=rK q C;have U:w5.cell? (w,gy)=some (.int .i64 0):=r.cell (by decide);have V:w5.cell? (w,ia)=some (.int .i64 0):=r.cell (by decide);have X:w5.cell? (w,j6)=some (.int .i64 0):=r.cell (by decide);have Y:w5.cell? (w,jF)=some (.slice none 0 0):=r.cell (by decide);have gf:∀o,w5.frozen? ⟨w.heap.size,o,none⟩=false:=r.frozen);rw[G.out,N.out,P.out];exact nL rfl rfl rfl r (Mv (gH f C))
   .have d4:(((jT.BM l K:Nat):Int) !=((nO.sum (l.take K):Nat):Int))=true:=by rw[ij];omega
    have G:=gx (jT.yq l K S h8 F Q O);have U:wr.cell? (w,gy)=some (.int .i64 0):=q.cell (by decide);have V:wr.cell? (w,ia)=some (.int .i64 0):=q.cell (by decide);have X:wr.cell? (w,j6)=some (.int .i64 0):=q.cell (by decide);have Y:wr.cell? (w,jF)=some (.slice none 0 0):=q.cell (by decide);have gf:∀o,wr.frozen? ⟨w.heap.size,o,none⟩=false:=q.frozen;go_wp2_with (go_at_call 111;refine(yN _ _ _ (l.take K) _ ((Bt.take h (by omega)).below f)).mono ?_;rintro e w3⟨rfl,rfl⟩);rw[G.out];exact nL rfl rfl rfl q (Mv f)
theorem qL(a:Option Addr)(n cap:Nat)(l:List UInt8)(w:World)(h:Bt w a n cap l):
  Calls prog 86 #[(a,n,cap)] w (QT (jT.parse l) a n cap l w):=by
 by_cases e:n<12;·exact xq a n cap l w h e
 by_cases f:iB l 0=83
 .by_cases j:256*iB l 5+iB l 6+11=n;·exact yL a n cap l w h e f j
  .exact qM a n cap l w h e (.inr j)
 .exact qM a n cap l w h e (.inl f)
theorem yK(a:Option Addr)(n cap:Nat)(l:List UInt8)(w:World)(h:Bt w a n cap l):
  Calls prog 86 #[(a,n,cap)] w (He (jT.parse l) w):=(qL a n cap l w h).mono fun _ _ e=>e.Qm h
theorem jv{P:Program}{f:Array Oper}{Q:Exit->Act->World->Prop}{o:Region.Mode}{S:World->Prop}{i:Nat}{m:Oper}{v:Value}{j:Nat}{e:Array Bool}{a:Act}{w:World}(hi:f[i]?=some m)
  (E:Region.noSelect f=true) (B:Region.free o f e i=true) (C:(Region.ready o f e).contains i=true)
  (q:∀c a w,Q (.panic c) (a.put m.dst v) w->Q (.panic c) a w) (F:Region.wanted m (yielded f a.tmps)=true) (G:∀w,S w->(execOp a.eval m).run P w=.ok (.value v) w) (r:S w)
  (h:wpAnyH P o f Q S j (e.setIfInBounds i true) (a.put m.dst v) w):wpAnyH P o f Q S (j+1) e a w:=
 wpAnyH_take hi E B C q (Or.inl ⟨F,G⟩) r h
theorem sU{P:Program}{f:Array Oper}{Q:Exit->Act->World->Prop}{m:Region.Mode}{S:World->Prop}{i:Nat}{o:Oper}{j:Nat}{e:Array Bool}{a:Act}{w:World}(hi:f[i]?=some o)
  (E:Region.noSelect f=true) (B:Region.free m f e i=true) (C:(Region.ready m f e).contains i=true)
  (q:∀c a w,Q (.panic c) (a.put o.dst undef) w->Q (.panic c) a w) (F:Region.wanted o (yielded f a.tmps)=false) (r:S w)
  (h:wpAnyH P m f Q S j (e.setIfInBounds i true) (a.put o.dst undef) w):wpAnyH P m f Q S (j+1) e a w:=
 wpAnyH_take hi E B C q (Or.inr ⟨F,rfl⟩) r h
theorem mB{w:World}{b i:Nat}{cs:Array Value}{t:TypeId}(h:w.heap[b]?=some (.cells cs t))(v:Value):(w.setCell (b,i) v).heap[b]?=some (.cells (cs.setIfInBounds i v) t):=
 yC w b i cs t v h
theorem pV{w:World}{b g i:Nat}{o:Obj}(h:w.heap[b]?=some o)(e:b≠g)(v:Value):(w.setCell (g,i) v).heap[b]?=some o:=by
 rw[mG _ _ _ _ e];exact h
theorem P8{w:World}{b:Nat}{j m o q:Value}{t:TypeId}(h:w.heap[b]?=some (.cells #[j,m,o,q] t))(e v1 v2 f:Value):
  ((((w.setCell (b,gy) e).setCell (b,ia) v1).setCell (b,j6) v2).setCell (b,jF) f).heap[b]?=some (.cells #[e,v1,v2,f] t):=
 mB (i:=3) (mB (i:=2) (mB (i:=1) (mB (i:=0) h e) v1) v2) f
theorem Pn{w:World}{b g:Nat}{o:Obj}(h:w.heap[b]?=some o)(e:b≠g)(f v1 v2 j:Value):((((w.setCell (g,gy) f).setCell (g,ia) v1).setCell (g,j6) v2).setCell (g,jF) j).heap[b]?=some o:=
 pV (pV (pV (pV h e _) e _) e _) e _
theorem Qy{w j:World}{b f:Nat}(h:Below b w j)(e:b<=f)(m v1 v2 o:Value):Below b w ((((j.setCell (f,gy) m).setCell (f,ia) v1).setCell (f,j6) v2).setCell (f,jF) o):=(((h.setCell e _).setCell e _).setCell e _).setCell e _
theorem QJ{w:World}{base n sz g:Nat}{e:TypeId}{o:Value}{xs:List Value}(h:w.ownsRow base e sz o n xs)(j:o.ownBlock≠some g)(m v1 v2 q:Value):
  ((((w.setCell (g,gy) m).setCell (g,ia) v1).setCell (g,j6) v2).setCell (g,jF) q).ownsRow base e sz o n xs:=
 have f:∀i:Nat,o.ownBlock≠some ((g,i):Addr).block:=fun _=>j
 ji (ji (ji (ji h (f _) _) (f _) _) (f _) _) (f _) _
end Go.Proofs.YthhcdfjijagalaaGreat

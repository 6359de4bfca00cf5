import Derived.Test.YthhcdfjijagalaaGreatM28
set_option linter.all false
namespace Go.Proofs.YthhcdfjijagalaaGreat
open Qz Go.Proofs.Tryz Go.RowKit
theorem Ji(H:List Hm)(k:Int)(y:Hm)(q:y.s=k):∀(a:Nat),a<=H.length->(∀j (h:j<H.length),j<a->H[j].s<k)->(∀h:a<H.length,¬H[a].s<k)->gE.qu (H.map Hm.hd) k y.b=(H.take a++y::H.drop a).map Hm.hd:=by
 induction H with
 |nil=>
  intro a e _ _;have:a=0:=by simpa using e
  subst this;show[(⟨k,y.b⟩:gE.Hd)]=[Hm.hd y];unfold Hm.hd;rw[q]
 |cons x H C=>
  intro a e f o;rw[lI];unfold gE.qu;cases a with
  |zero=>
   rw[gC (by exact o (by simp))];simp[Hm.hd,q]
  |succ a=>
   rw[gG (by exact f 0 (by simp) (by omega))];rw[C a (by simpa using e) (fun j r B=>f (j+1) (by simpa using r) (by omega)) (fun h=>o (by simpa using h))];simp
theorem Ey(H:List Hm)(k:Int)(y:Hm):∀(a:Nat) (f:a<H.length),H[a].s=k->y.s=k->(∀j (h:j<H.length),j<a->H[j].s≠k)->gE.mK (H.map Hm.hd) k y.b=(H.set a y).map Hm.hd:=by
 induction H with
 |nil=>intro a f;exact absurd f (by simp)
 |cons x H C=>
  intro a f e q o;rw[lI];unfold gE.mK;cases a with
  |zero=>
   have e:x.s=k:=e;rw[gG (by exact e)];simp[Hm.hd,e,q]
  |succ a=>
   rw[gC (by exact o 0 (by simp) (by omega))];rw[C a (by simpa using f) e q (fun j r B=>o (j+1) (by simpa using r) (by omega))];simp
theorem kW{x:Dm}{k:Int}{b:List UInt8}(h:x.g=true):gE.uZ x.dk k b=x.dk:=by unfold gE.uZ;rw[gG (by exact h)]
theorem zZ{x y:Dm}{k:Int}{b:List UInt8}(h:x.g=false)(f:y.g=x.g)(e:gE.oh (x.H.map Hm.hd) k b=y.H.map Hm.hd):gE.uZ x.dk k b=y.dk:=by
 unfold gE.uZ;rw[gC (by show¬x.g=true;rw[h];decide)];show(⟨x.g,gE.oh (x.H.map Hm.hd) k b⟩:gE.Dk)=⟨y.g,y.H.map Hm.hd⟩;rw[e,f]
theorem Kj{H:List Hm}{k:Int}{b c:List UInt8}(h:gE.find (H.map Hm.hd) k=some c):gE.oh (H.map Hm.hd) k b=gE.mK (H.map Hm.hd) k b:=by unfold gE.oh;rw[h]
theorem CS{H:List Hm}{k:Int}{b:List UInt8}(h:gE.find (H.map Hm.hd) k=none):gE.oh (H.map Hm.hd) k b=gE.qu (H.map Hm.hd) k b:=by unfold gE.oh;rw[h]
theorem Jj{α:Type}(H:List α)(a:Nat)(x y:α)(e:a<=H.length):(H.take a++x::H.drop a).set a y=H.take a++y::H.drop a:=by
 rw[xp _ _ (by rw[jh];omega),jh,pE e,lU,iN]
theorem LO{α:Type}(H:List α)(a:Nat)(x:α)(e:a<=H.length)(h:a<(H.take a++x::H.drop a).length):(H.take a++x::H.drop a)[a]=x:=by
 rw[nI (by rw[jh];omega)];simp[jh,pE e]
def yh(t:TypeId):Bool:=t !=63&&t !=66
structure Kd (w w':World):Prop where
 os:w'.os=w.os
 tape:w'.tape=w.tape
 output:w'.output=w.output
 size:w.heap.size<=w'.heap.size
 block:∀(k:Nat) (cs:Array Value) (t:TypeId),w.heap[k]?=some (.cells cs t)->yh t=true->w'.heap[k]?=some (.cells cs t)
theorem Kd.refl(w:World):Kd w w:=⟨rfl,rfl,rfl,jb _,fun _ _ _ h _=>h⟩
theorem Kd.trans{a b c:World}(h:Kd a b)(k:Kd b c):Kd a c:=⟨k.os.trans h.os,k.tape.trans h.tape,k.output.trans h.output,jY h.size k.size,fun i cs t hb e=>k.block i cs t (h.block i cs t hb e) e⟩
theorem Kd.below{a b:World}(h:Below a a b):Kd a b:=⟨h.os,h.tape,h.output,h.size,fun k cs t hb _=>gB hb h⟩
theorem Kd.only{a b:World}{S:List Nat}(h:gU a b S)(f:∀k∈S,∀(cs:Array Value) (t:TypeId),a.heap[k]?=some (.cells cs t)->yh t=false):Kd a b:=
 ⟨h.os,h.tape,h.output,h.size,fun k cs t hb e=>h.jJ hb (fun j=>by rw[f k j cs t hb] at e;cases e)⟩
theorem Kd.own{w w':World}(h:Kd w w'){base:Nat}{e:TypeId}{sz:Nat}{v:Value}{n:Nat}{xs:List Value}(j:w.ownsRow base e sz v n xs)(q:yh e=true):w'.ownsRow base e sz v n xs:=by
 refine⟨j.1,?_⟩;rcases j.2 with o|⟨g,cap,f,E,B,C,r⟩
 .exact .inl o
 .exact .inr ⟨g,cap,f,E,B,h.block g f e C q,r⟩
theorem J7{t:TypeId}(h:keeps t=true):yh t=true:=by
 simp only[keeps,yh,yF] at h⊢;exact⟨h.1.1.2,h.1.2⟩
theorem Kd.kt{w w':World}(h:Kd w w'):Kt w w':=⟨h.os,h.tape,h.output,h.size,fun k cs t hb e=>h.block k cs t hb (J7 e)⟩
section
variable {w w5 w' W V : World} {base p : Nat} {m : ig}
theorem jQ{e:TypeId}{g n cap sz:Nat}{xs o:List Value}(h:w.ownsRow base e sz (some (g,gy),n,cap) n xs)(j:Nat)(v:Value)(f:xs.set j v=o)(G:j<n*sz):(w.setCell (g,j) v).ownsRow base e sz (some (g,gy),n,cap) n o:=by
 obtain⟨r,B,hb,E,hc,C,F⟩:=js h;have q:=jq (i:=j) B v;simp only[jM] at q;refine kQ q hb E hc (by simp only[kH];exact C) ?_;rw[tN,F,f]
theorem nN.kinds(h:nN w base p m){i:Nat}{x:Dm}(r:m.D[i]?=some x){k:Nat}(q:m.dv.ownBlock=some k∨x.v.ownBlock=some k)(cs:Array Value)(t:TypeId)(hb:w.heap[k]?=some (.cells cs t)):yh t=false:=by
 have o:=jX r;rcases q with f|f
 .obtain⟨e,hc⟩:=mF h.ng f;rw[hb] at hc;injection hc with hc;injection hc with _ j;subst j;decide
 .obtain⟨e,hc⟩:=mF (h.held x o) f;rw[hb] at hc;injection hc with hc;injection hc with _ j;subst j;decide
theorem nN.ins(h:nN W base p m)(i a:Nat)(x:Dm)(k:Int)(L:m.D[i]?=some x)(G:Below W W V){v':Value}(F:OT V w5 x.v.ownBlock base 66 2 v' (x.H.length+1) (rows jE (x.H.take a++⟨k,none,0,[]⟩::x.H.drop a)))(ha:a<=x.H.length)
  (E Y:Nat) (P:m.dv=.slice (some (E,gy)) m.D.length Y):
  ∃a' C,v'=.slice a' (x.H.length+1) C/\nN (w5.setCell ⟨E,i*2+1,none⟩ v') base p {m with D:=m.D.set i ⟨x.g,a',C,x.H.take a++⟨k,none,0,[]⟩::x.H.drop a⟩}/\Kd W (w5.setCell ⟨E,i*2+1,none⟩ v'):=by
 have S:=(nH.1 L).1;have K:=jX L;obtain⟨a',C,rfl,ab⟩:=gK F.own;refine⟨a',C,rfl,?_⟩;have I:m.dv.ownBlock=some E:=by rw[P];rfl
 have B:gU W w5 x.v.ownBlock.toList:=by refine⟨F.grown.os.trans G.os,F.grown.tape.trans G.tape,F.grown.output.trans G.output,jY G.size F.grown.size,fun k f U=>?_⟩;rw[F.grown.block k (qK f G.size) (fun e=>U (by rw[<-e];simp)),G.block k f]
 have q:∀k,k∈x.v.ownBlock.toList->x.v.ownBlock=some k:=fun k f=>by simpa using f
 have O:gU W (w5.setCell ⟨E,i*2+1,none⟩ (a',(x.H.length+1),C)) (E::x.v.ownBlock.toList):=by have N:gU W w5 (E::x.v.ownBlock.toList):=⟨B.os,B.tape,B.output,B.size,fun k f U=>B.block k f (fun Z=>U (sX _ Z))⟩;exact N.setCell (.inl (by simp)) _
 have r:(x.H.take a++(⟨k,none,0,[]⟩:Hm)::x.H.drop a).length=x.H.length+1:=by rw[iH,l8,jh,kG];omega
 have o:w5.ownsRow base 63 2 m.dv m.D.length (rows mT m.D):=B.own h.ng (fun k f e=>jL h.ng (h.held x K) (by decide) e (q k f));have Q:Kd W (w5.setCell ⟨E,i*2+1,none⟩ (a',(x.H.length+1),C)):=Kd.only O (fun k f cs t hb=>h.kinds L (by
  rcases jC.1 f with rfl|f
  .exact .inl I
  .exact .inr (q k f)) cs t hb)
 have hd:=h.NB (w':=w5.setCell ⟨E,i*2+1,none⟩ (a',(x.H.length+1),C)) i x ⟨x.g,a',C,x.H.take a++⟨k,none,0,[]⟩::x.H.drop a⟩ (E::x.v.ownBlock.toList) L O (fun k f=>by
   rcases jC.1 f with rfl|f
   .exact .inl I
   .exact .inr (.inl (q k f))) ?_ ?_ ?_ ?_ ?_ ?_
 .exact⟨hd.1,Q⟩
 .rw[P] at o⊢;refine jQ o (i*2+1) _ ?_ (by omega);refine mJ lJ m.D _ _ 1 (by decide) i S ?_;have:m.D[i]=x:=by rw[jz S] at L;exact kO L
  rw[this];show[Value.bool x.g,_]=_;unfold Dm.v;rw[r];rfl
 .show World.ownsRow _ base 66 2 (.slice a' (x.H.take a++(⟨k,none,0,[]⟩:Hm)::x.H.drop a).length C) _ _;rw[r];exact ji F.own (fun e=>jL o F.own (by decide) I e) _
 .intro z j;have X:z∈x.H∨z=⟨k,none,0,[]⟩:=by
   rcases kd.1 j with j|j
   .exact .inl (ry j)
   .rcases jC.1 j with j|j
    .exact .inr j
    .exact .inl (tD j)
  rcases X with j|rfl
  .exact Q.own (h.bytes x K z j) (by decide)
  .exact iY _ _ _ _
 .exact JH (h.sep.own x K) (fun k f=>by simp[Hm.v,Value.ownBlock] at f)
 .show(Value.slice a' (x.H.take a++(⟨k,none,0,[]⟩:Hm)::x.H.drop a).length C).ownBlock=_∨_;rw[r];rcases F.F6 with N|N
  .exact .inl N
  .refine .inr (fun k f=>jY G.size (N k ?_));have f:(Value.slice a' (x.H.take a++(⟨_,none,0,[]⟩:Hm)::x.H.drop a).length C).ownBlock=some k:=f;rw[r] at f;exact f
 .intro k f;obtain⟨z,j,f⟩:=pk.1 f;rcases kd.1 j with j|j
  .exact .inl (pk.2 ⟨z,ry j,f⟩)
  .rcases jC.1 j with rfl|j
   .simp[Hm.v,Value.ownBlock] at f
   .exact .inl (pk.2 ⟨z,tD j,f⟩)
theorem nN.AW(h:nN W base p m)(i a:Nat)(x:Dm)(O:m.D[i]?=some x)(Z:a<x.H.length)(Y:Below W W V)(o:Option Addr)(q:Nat)(L:List UInt8)(hy:V.ownsRow W.heap.size 5 1 (o,L,q) L.length (cb L))(E:base<=W.heap.size)
  (hb:Nat) (K:x.a=some (hb,gy)):
  nN (V.setCell ⟨hb,a*2+1,none⟩ (o,L,q)) base p {m with D:=m.D.set i ⟨x.g,x.a,x.cap,x.H.set a ⟨x.H[a].s,o,q,L⟩⟩}/\Kd W (V.setCell ⟨hb,a*2+1,none⟩ (o,L,q)):=by
 have G:=(nH.1 O).1;have r:=jX O;have B:x.v.ownBlock=some hb:=by unfold Dm.v;rw[K];rfl
 have C:gU W (V.setCell ⟨hb,a*2+1,none⟩ (o,L,q)) [hb]:=((gU.refl W [hb]).below Y).setCell (.inl (by simp)) _;have P:Kd W (V.setCell ⟨hb,a*2+1,none⟩ (o,L,q)):=Kd.only C (fun k f cs t U=>h.kinds O (.inr (by
  obtain rfl:k=hb:=by simpa using f
  exact B)) cs t U)
 have F:W.ownsRow base 66 2 (some (hb,gy),x.H,x.cap) x.H.length (rows jE x.H):=by have:=h.held x r;unfold Dm.v at this;rw[K] at this;exact this
 have I:∀k,(Value.slice o L.length q).ownBlock=some k->W.heap.size<=k:=fun k f=>(hy.lt k f).1;have ab:hb<W.heap.size:=by obtain⟨cs,hc⟩:=mF (h.held x r) B;exact iq hc
 have hd:=h.NB (w':=V.setCell ⟨hb,a*2+1,none⟩ (o,L,q)) i x ⟨x.g,x.a,x.cap,x.H.set a ⟨x.H[a].s,o,q,L⟩⟩ [hb] O C (fun k f=>by
   obtain rfl:k=hb:=by simpa using f
   exact .inr (.inl B)) ?_ ?_ ?_ ?_ ?_ ?_
 .exact⟨hd.1,P⟩
 .have e:m.D.set i ⟨x.g,x.a,x.cap,x.H.set a ⟨x.H[a].s,o,q,L⟩⟩=m.D.set i ⟨x.g,x.a,x.cap,x.H.set a ⟨x.H[a].s,o,q,L⟩⟩:=rfl;have hr:rows mT (m.D.set i ⟨x.g,x.a,x.cap,x.H.set a ⟨x.H[a].s,o,q,L⟩⟩)=rows mT m.D:=by
   have Q:m.D[i]=x:=by rw[jz G] at O;exact kO O
   have X:=mJ lJ m.D ⟨x.g,x.a,x.cap,x.H.set a ⟨x.H[a].s,o,q,L⟩⟩ (.bool x.g) 0 (by decide) i G (by rw[Q];show[Value.bool x.g,.slice x.a (x.H.set a _).length x.cap]=[Value.bool x.g,.slice x.a x.H.length x.cap];rw[kH])
   rw[<-X];have S:=qp lJ m.D i 0 G (by decide);rw[Q] at S;refine List.ext_getElem? (fun j=>?_);rw[List.getElem?_set];split
   .next e=>
    subst e;split;·rw[S];rfl
    .next h3=>rw[rz (by omega)]
   .rfl
  rw[hr];exact C.own h.ng (fun k f e=>by
   obtain rfl:k=hb:=by simpa using f
   exact jL h.ng (h.held x r) (by decide) e B)
 .show World.ownsRow _ base 66 2 (.slice x.a (x.H.set a ⟨x.H[a].s,o,q,L⟩).length x.cap) _ _;rw[kH,K];refine jQ (gL F Y) (a*2+1) _ ?_ (by omega);exact mJ mq x.H _ _ 1 (by decide) a Z rfl
 .intro z N;rcases lH N with N|rfl
  .exact P.own (h.bytes x r z N) (by decide)
  .exact hJ (ji hy (fun e=>absurd (I _ e) (by show¬_<=hb;omega)) _) E
 .refine Pm (h.sep.own x r) Z (fun k f=>.inr (fun hm=>?_));have X:=I k f;have S:=(h.QN x r).2 k hm;omega
 .exact .inl (by unfold Dm.v;simp only[kH])
 .intro k f;obtain⟨z,N,f⟩:=pk.1 f;rcases lH N with N|rfl
  .exact .inl (pk.2 ⟨z,N,f⟩)
  .exact .inr (I k f)
end
section
variable {w w' W : World} {base p : Nat} {m : ig}
theorem C2{α:Type}{f:α->List Value}{k:Nat}(j:∀x,(f x).length=k)(l:List α)(i:Nat)(y:α)(hi:i<l.length)(h:f y=f l[i]):rows f (l.set i y)=rows f l:=by
 have e:l=l.take i++l[i]::l.drop (i+1):=by rw[<-rv hi,AY]
 rw[C7 l i y hi];conv=>rhs;rw[e]
 rw[kh,kh,jI,jI,h]
theorem nN.at(h:nN W base p m){i:Nat}{x:Dm}(f:m.D[i]?=some x):∃h:i<m.D.length,m.D[i]=x:=by
 have e:=(nH.1 f).1;exact⟨e,by rw[jz e] at f;exact kO f⟩
theorem nN.empty(h:nN W base p m)(i:Nat)(x:Dm)(g:Bool)(r:m.D[i]?=some x)(e C:Nat)(f:m.dv=.slice (some (e,gy)) m.D.length C):
  nN ((W.setCell (e,i*2) (.bool g)).setCell ⟨e,i*2+1,none⟩ ()) base p {m with D:=m.D.set i ⟨g,none,0,[]⟩}/\Kt W ((W.setCell (e,i*2) (.bool g)).setCell ⟨e,i*2+1,none⟩ ()):=by
 obtain⟨o,B⟩:=h.at r;have G:=jX r;have q:m.dv.ownBlock=some e:=by rw[f];rfl
 have F:gU W ((W.setCell (e,i*2) (.bool g)).setCell ⟨e,i*2+1,none⟩ ()) [e]:=((gU.refl W [e]).setCell (a:=(e,i*2)) (.inl (by simp)) _).setCell (a:=⟨e,i*2+1,none⟩) (.inl (by simp)) _;refine h.NB i x ⟨g,none,0,[]⟩ [e] r F (fun k j=>?_) ?_ (iY _ _ _ _) (fun z I=>by cases I) vM (.inr (fun k j=>by simp[Dm.v,Value.ownBlock] at j)) (fun k j=>by simp[Dm.bb] at j)
 .obtain rfl:k=e:=by simpa using j
  exact .inl q
 .have hd:=h.ng;rw[f] at hd⊢;have E:=jQ hd (i*2) (.bool g) (mJ lJ m.D ⟨g,x.a,x.cap,x.H⟩ (.bool g) 0 (by decide) i o (by rw[B];rfl)) (by omega);exact jQ E (i*2+1) () (by have:=mJ lJ (m.D.set i ⟨g,x.a,x.cap,x.H⟩) ⟨g,none,0,[]⟩ () 1 (by decide) i (by simpa using o) (by rw[List.getElem_set_self];rfl);rwa[List.set_set] at this) (by omega)
theorem P9(l:List UInt8)(i:Nat)(y:UInt8):(cb l).set i (.int .u8 (y.toNat:Int))=cb (l.set i y):=(Dw l i y).symm
theorem nN.GN(h:nN W base p m)(i a t:Nat)(x:Dm)(Q:m.D[i]?=some x)(E:a<x.H.length)(bb:Nat)(G:x.H[a].a=some (bb,gy))(Y:t<x.H[a].b.length)(y:UInt8):
  nN (W.setCell (bb,t) (.int .u8 (y.toNat:Int))) base p {m with D:=m.D.set i ⟨x.g,x.a,x.cap,x.H.set a ⟨x.H[a].s,x.H[a].a,x.H[a].cap,x.H[a].b.set t y⟩⟩}/\Kt W (W.setCell (bb,t) (.int .u8 (y.toNat:Int))):=by
 obtain⟨O,S⟩:=h.at Q;have o:=jX Q;have F:=iE E;have r:x.H[a].v.ownBlock=some bb:=by unfold Hm.v;rw[G];rfl
 have N:gU W (W.setCell (bb,t) (.int .u8 (y.toNat:Int))) [bb]:=(gU.refl W [bb]).setCell (a:=(bb,t)) (.inl (by simp)) _;have K:bb∈x.bb:=pk.2 ⟨_,F,r⟩;have f:=h.bytes x o _ F;have C:∀{k},k∈[bb]->k=bb:=fun C=>by simpa using C
 have P:(x.H.set a ⟨x.H[a].s,x.H[a].a,x.H[a].cap,x.H[a].b.set t y⟩).map (fun z=>z.v.ownBlock)=x.H.map (fun z=>z.v.ownBlock):=by
  rw[nz];have e:((⟨x.H[a].s,x.H[a].a,x.H[a].cap,x.H[a].b.set t y⟩:Hm)).v.ownBlock=(x.H.map (fun z=>z.v.ownBlock))[a]'(by simpa using E):=by simp only[rB,Hm.v,kH]
  rw[e,List.set_getElem_self]
 have B:(x.H.set a ⟨x.H[a].s,x.H[a].a,x.H[a].cap,x.H[a].b.set t y⟩).filterMap (fun z=>z.v.ownBlock)=x.bb:=by
  unfold Dm.bb;have U:∀L:List Hm,L.filterMap (fun z=>z.v.ownBlock)=(L.map (fun z=>z.v.ownBlock)).filterMap id:=fun L=>by rw[List.filterMap_map];rfl
  rw[U,U,P]
 refine h.NB i x ⟨x.g,x.a,x.cap,x.H.set a ⟨x.H[a].s,x.H[a].a,x.H[a].cap,x.H[a].b.set t y⟩⟩ [bb] Q N (fun k q=>.inr (.inr (by rw[C q];exact K))) ?_ ?_ ?_ (by show List.Nodup (List.filterMap _ _);rw[B];exact h.sep.own x o) (.inl (by unfold Dm.v;simp only[kH])) (fun k q=>.inl (by have q:k∈List.filterMap _ _:=q;rw[B] at q;exact q))
 .rw[C2 lJ m.D i _ O (by rw[S];show[Value.bool x.g,Value.slice x.a (List.length _) x.cap]=_;rw[kH];rfl)];exact N.own h.ng (fun k q e=>by rw[C q] at e;exact jL h.ng f (by decide) e r)
 .show World.ownsRow _ base 66 2 (.slice x.a (x.H.set a _).length x.cap) (x.H.set a _).length (rows jE (x.H.set a _));rw[C2 mq x.H a _ E (by show[Value.int .i64 x.H[a].s,Value.slice x.H[a].a (List.length _) x.H[a].cap]=_;rw[kH];rfl),kH];exact N.own (h.held x o) (fun k q e=>by rw[C q] at e;exact jL (h.held x o) f (by decide) e r)
 .intro z X;obtain⟨j,I⟩:=yv X;by_cases e:j=a
  .subst e;rw[sZ E] at I;obtain rfl:=kO I;show World.ownsRow _ base 5 1 (.slice x.H[j].a (x.H[j].b.set t y).length x.H[j].cap) (x.H[j].b.set t y).length (cb (x.H[j].b.set t y));unfold Hm.v at f;rw[kH,G] at *;exact jQ f t _ (P9 _ t y) (by omega)
  .rw[tR (fun e'=>e e'.symm)] at I;exact N.own (h.bytes x o z (jX I)) (fun k q V=>by rw[C q] at V;exact OP (h.sep.own x o) (jz E) I (fun e'=>e e'.symm) r V)
end
end Go.Proofs.YthhcdfjijagalaaGreat

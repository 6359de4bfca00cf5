import Derived.Test.YthhcdfjijagalaaGreatM24
set_option linter.all false
set_option maxHeartbeats 2000000
namespace Go.Proofs.YthhcdfjijagalaaGreat
open Qz Go.Proofs.Tryz Go.RowKit
structure Rr (w0 w:World) (pa pb po:Nat) (l:List UInt8) (at_:Nat) (ok:Bool):Prop where
 zH:w.heap[pa]?=some (.cells #[at_] 3)
 hb:∃a n cap,w.heap[pb]?=some (.cells #[.slice a n cap] 64)/\Bt w0 a n cap l
 oz:w.heap[po]?=some (.cells #[.bool ok] 4)
 old:w0.heap.size<=pa/\w0.heap.size<=pb/\w0.heap.size<=po
 below:Below w0 w0 w
 le:at_<=l.length
 fit:l.length<=9223372036854775807
theorem Az{w:World}{b:Nat}{x v:Value}{t:TypeId}(h:w.heap[b]?=some (.cells #[x] t)):(w.setCell (b,gy) v).heap[b]?=some (.cells #[v] t):=by
 rw[yC w b 0 #[x] t v h];rfl
theorem Rr.setAt{w0 w:World}{j B C:Nat}{l:List UInt8}{at_:Nat}{ok:Bool}(h:Rr w0 w j B C l at_ ok)(n:Nat)(I:n<=l.length):Rr w0 (w.setCell (j,gy) n) j B C l n ok:=by
 obtain⟨f,⟨a,m,cap,o,G⟩,q,r,E,K,F⟩:=h;refine⟨Az f,⟨a,m,cap,?_,G⟩,?_,r,E.setCell r.1 _,I,F⟩;·rw[mG _ _ _ _ (fun e=>km f o (by decide) e.symm)];exact o
 .rw[mG _ _ _ _ (fun e=>km f q (by decide) e.symm)];exact q
theorem Rr.O0{w0 w:World}{B C j:Nat}{l:List UInt8}{at_:Nat}{ok:Bool}(h:Rr w0 w B C j l at_ ok)(b:Bool):Rr w0 (w.setCell (j,gy) (.bool b)) B C j l at_ b:=by
 obtain⟨o,⟨a,m,cap,q,I⟩,f,r,E,F,G⟩:=h;refine⟨?_,⟨a,m,cap,?_,I⟩,Az f,r,E.setCell r.2.2 _,F,G⟩;·rw[mG _ _ _ _ (fun e=>km f o (by decide) e.symm)];exact o
 .rw[mG _ _ _ _ (fun e=>km f q (by decide) e.symm)];exact q
def Qx(w0:World)(h m j:Nat)(l:List UInt8)(at_ k:Nat)(ok:Bool)(w:World)(e:Ending)(w':World):Prop:=
 ∃(x f:Nat),e=.returned x/\x<256 ^ k/\Rr w0 w' h m j l f (ok&&decide (at_+k<=l.length))/\gU w w' [h,j]/\(at_+k<=l.length->x=gD.be ((l.drop at_).take k)/\f=at_+k)/\(l.length<at_+k->x=0)/\f<=at_+k
theorem Ep(w0 w:World)(r L C:Nat)(l:List UInt8)(at_ k:Nat)(ok:Bool)(hk:k<=3)(h:Rr w0 w r L C l at_ ok):
  Calls prog 88 #[k,(r,gy),(L,gy),(C,gy)] w (Qx w0 r L C l at_ k ok w):=by
 have ae:=h.le;have ab:=h.fit;go_enter func88,ntmps88;go_wp2_with fail;go_loopg[6,7] k (fun g x i wr=>∃j:Nat,g=k-j/\j<=k/\i=.int .i64 (j:Int)/\at_+j<=l.length/\x=.int .i64 (gD.be ((l.drop at_).take j):Nat)/\Rr w0 wr r L C l (at_+j) ok/\gU w wr [r,C]);case atStart=>exact⟨0,rfl,by omega,rfl,by omega,rfl,h,gU.refl _ _⟩
 case round=>
  obtain⟨j,rfl,hj,rfl,I,rfl,F,O⟩:=hrel;by_cases af:j<k
  .obtain⟨Q,⟨a,n,cap,h2,P⟩,S,h4,h5,h6,h7⟩:=id F;have c1:wr.cell? (r,gy)=some (.int .i64 ((at_+j:Nat):Int)):=gw Q;have c2:wr.cell? (L,gy)=some (.slice a n cap):=gw h2;have c3:wr.cell? (C,gy)=some (.bool ok):=gw S;have f1:wr.frozen? (r,gy)=false:=gA Q;have f3:wr.frozen? (C,gy)=false:=gA S;have X:=gx (Bt.n P);have U:l.length=n:=X.out;by_cases o:n<=at_+j
   .have t0:decide ((n:Int)<=((at_+j:Nat):Int))=true:=by simp;omega
    have t1:decide (n<=at_+j)=true:=by simpa using o
    have m:=gx (F.O0 false);have f:=gx (O.setCell (a:=(C,gy)) (.inl (by simp)) (.bool false));clear U;go_wp2_with fail;go_ret;have K:¬at_+k<=l.length:=by rw[X.out];omega
    refine⟨0,at_+j,rfl,Nat.pow_pos (by decide),?_,f,fun hh=>absurd hh K,fun _=>rfl,by omega⟩;rw[ju K,Bool.and_false];exact m
   .have E:=gD.Dp (l.drop at_) j (by rw[kG];omega);have N:=gD.Fc (l.drop at_) j (by rw[kG];omega);have ad:gD.be ((l.drop at_).take j)<65536:=qK N (yy (n:=256) (by decide) (show j<=2 by omega));have G:iB (l.drop at_) j=iB l (at_+j):=by unfold iB List.getD;rw[qY]
    rw[G] at E;clear N G;have Z:=gx E;clear E;obtain⟨b,off,rfl,_⟩:=P.addr (by omega);obtain⟨q,V⟩:∃q,at_+j=q:=⟨_,rfl⟩;rw[V] at F c1 o I Z;have Y:=gx V;clear V;have W:q<n:=by omega
    have hc:=Bt.at (Sl.below P h5) q W;have h8:=iP l q;generalize iB l q=c8 at *;generalize gD.be ((l.drop at_).take j)=B at *;have m:=gx (F.setAt (q+1) (by omega));have f:=gx (O.setCell (a:=(r,gy)) (.inl (by simp)) (.int .i64 ((q+1:Nat):Int)));have e:((q+1:Nat):Int)=(q:Int)+1:=by simp
    rw[e] at m f;have t0:decide ((n:Int)<=(q:Int))=false:=by simp;omega
    have t1:decide (n<=q)=false:=by simp;omega
    clear F O e Q h2 S P;go_wp2_with fail;go_roundg (k-(j+1));case measure=>omega
    case rel=>exact⟨j+1,rfl,by omega,by go_num,by have:=Y.out;omega,by rw[Z.out];exact congrArg (Value.int .i64) (by omega),by rw[show at_+(j+1)=q+1 by have:=Y.out;omega];exact m,f⟩
  .obtain rfl:j=k:=by omega
   go_wp2_with fail;go_ret;have N:=gD.Fc (l.drop at_) j (by rw[kG];omega);refine⟨gD.be ((l.drop at_).take j),at_+j,rfl,N,?_,O,fun _=>⟨rfl,rfl⟩,fun hh=>by omega,jb _⟩;rw[kr I,Bool.and_true];exact F
def Rel(l:List UInt8)(ok:Bool)(q:Nat)(t:gD.St):Prop:=(ok=true->t=⟨l.drop q,true⟩)/\(ok=false->t.ok=false)
theorem gD.sN(k:Nat)(t:gD.St)(h:t.ok=false):(gD.take k t).2.ok=false:=by
 unfold gD.take;split;·rfl
 .exact h
theorem gD.nG(k:Nat)(t:gD.St)(h:t.ok=false):(gD.num k t).2.ok=false:=gD.sN k t h
theorem gD.EJ{l:List UInt8}{q k:Nat}(h:q+k<=l.length):gD.take k ⟨l.drop q,true⟩=((l.drop q).take k,⟨l.drop (q+k),true⟩):=by
 unfold gD.take;rw[gC (by simp only[kG];omega)];simp only[List.drop_drop]
theorem gD.C9{l:List UInt8}{q k:Nat}(e:q<=l.length)(h:l.length<q+k):(gD.take k ⟨l.drop q,true⟩).2.ok=false:=by
 unfold gD.take;rw[gG (by simp only[kG];omega)]
def Qw(w0:World)(f j h:Nat)(l:List UInt8)(m k:Nat)(tok:Bool)(r:Nat)(o:gD.St)(w:World)(e:Ending)(w':World):Prop:=
 ∃(x q:Nat) (ok:Bool),e=.returned x/\x<256 ^ k/\Rr w0 w' f j h l q ok/\gU w w' [f,h]/\Rel l ok q o/\(ok=true->x=r)/\(tok=true->ok=false->x=0)/\q<=m+k
theorem Er(w0 w:World)(o r B:Nat)(l:List UInt8)(q k:Nat)(ok:Bool)(t:gD.St)(K:k<=3)(h:Rr w0 w o r B l q ok)(m:Rel l ok q t):
  Calls prog 88 #[k,(o,gy),(r,gy),(B,gy)] w (Qw w0 o r B l q k t.ok (gD.num k t).1 (gD.num k t).2 w):=by
 refine(Ep w0 w o r B l q k ok K h).mono fun e w'⟨x,O,I,N,G,F,E,L,C⟩=>⟨x,O,_,I,N,G,F,?_,?_,?_,C⟩
 .cases ok with
  |false=>exact⟨fun f=>by simp at f,fun _=>gD.nG k t (m.2 rfl)⟩
  |true=>
   have j:=m.1 rfl;subst j;by_cases hc:q+k<=l.length
   .rw[kr hc];refine⟨fun _=>?_,fun f=>by simp at f⟩;show(gD.take k _).2=_;rw[gD.EJ hc,(E hc).2]
   .rw[ju hc];exact⟨fun f=>by simp at f,fun _=>gD.C9 h.le (by omega)⟩
 .intro f;cases ok with
  |false=>simp at f
  |true=>
   have j:=m.1 rfl;subst j;have hc:q+k<=l.length:=by simpa using f
   show x=gD.be (gD.take k _).1;rw[gD.EJ hc,(E hc).1]
 .intro j f;cases ok with
  |false=>have:=m.2 rfl;rw[j] at this;cases this
  |true=>
   have hc:¬q+k<=l.length:=by simpa using f
   exact L (by omega)
structure M1 (w wr:World) (l:List UInt8) (N:Nat) (t0:gD.St) (m:Nat) (o:Value) (q:Nat) (ok:Bool) (t:gD.St) (Rs:List Rb):Prop where
 rel:Rel l ok q t
 eq:ok=true->gD.iC N t0=(Rs.map Rb.ba++(gD.iC m t).1,(gD.iC m t).2)
 bad:ok=false->(gD.iC N t0).2.ok=false
 le:Rs.length+m<=255
 rd:Rr w wr (w.heap.size+1) w.heap.size (w.heap.size+2) l q ok
 out:wr.ownsRow w.heap.size 50 2 o Rs.length (iD Rs)
 il:Ro wr w.heap.size Rs
structure M2 (w wo W:World) (l:List UInt8) (X:Nat) (c cp:Nat) (K:Nat) (t2:gD.St) (m:Nat) (ev:Value) (q:Nat) (ok:Bool) (t:gD.St) (es:List gD.Ev):Prop where
 rel:Rel l ok q t
 eq:ok=true->gD.events K t2=(es++(gD.events m t).1,(gD.events m t).2)
 bad:ok=false->(gD.events K t2).2.ok=false
 le:es.length+m<=255
 rd:Rr w W (w.heap.size+1) w.heap.size (w.heap.size+2) l q ok
 hc:ok=true->c=cp
 box:W.heap[X]?=some (.cells #[c,ev] 50)
 own:W.ownsRow w.heap.size 78 3 ev es.length (hQ es)
 new:∀g,ev.ownBlock=some g->wo.heap.size<=g
 sz:∀e∈es,e.s.size<=maxLen
 only:gU wo W [w.heap.size+1,w.heap.size+2]
theorem Rr.td{w0 w w':World}{e f j:Nat}{l:List UInt8}{q:Nat}{ok:Bool}(h:Rr w0 w e f j l q ok)(hb:∀x o,x=e∨x=f∨x=j->w.heap[x]?=some o->w'.heap[x]?=some o)(I:Below w0 w0 w'):Rr w0 w' e f j l q ok:=by
 obtain⟨r,⟨a,m,cap,B,K⟩,C,E,L,F,G⟩:=h;exact⟨hb _ _ (.inl rfl) r,⟨a,m,cap,hb _ _ (.inr (.inl rfl)) B,K⟩,hb _ _ (.inr (.inr rfl)) C,E,I,F,G⟩
theorem Rr.alloc{w0 w:World}{e f j:Nat}{l:List UInt8}{q:Nat}{ok:Bool}(h:Rr w0 w e f j l q ok)(o:Obj):Rr w0 (w.alloc o) e f j l q ok:=h.td (fun x o _ m=>gF m) (h.below.alloc h.below.size o)
theorem Rr.nn{w0 w w':World}{o r B base sz n:Nat}{l:List UInt8}{q:Nat}{ok:Bool}{t:TypeId}{v:Value}{xs:List Value}(h:Rr w0 w o r B l q ok)(f:w.ownsRow base t sz v n xs)(e:w0.heap.size<=base)(g:w.grownBy w' v.ownBlock)(L:t≠3)(N:t≠64)(O:t≠4):Rr w0 w' o r B l q ok:=by
 obtain⟨C,⟨a,m,cap,E,Q⟩,F,G,j,I,K⟩:=h;exact⟨ie f g C L,⟨a,m,cap,ie f g E N,Q⟩,ie f g F O,G,j.trans (mz g j.size (fun k P=>jY e (f.lt k P).1)),I,K⟩
theorem Rr.tz{w0 w w':World}{j C m base sz n:Nat}{l:List UInt8}{q:Nat}{ok:Bool}{t:TypeId}{v:Value}{xs:List Value}(h:Rr w0 w j C m l q ok)(B:gU w w' [j,m])(e:w.ownsRow base t sz v n xs)(o:t≠3)(r:t≠4):w'.ownsRow base t sz v n xs:=B.own e fun x f=>by
 have f:x=j∨x=m:=by simpa using f
 rcases f with rfl|rfl
 .exact gP e h.zH o
 .exact gP e h.oz r
theorem M1.next{w wo W w5:World}{l:List UInt8}{N K m V:Nat}{X:Nat}{Z E Y:gD.St}{h:List Rb}{c U:Nat}{ea:Option Addr}{f q qo:Nat}{ok S:Bool}{es:List gD.Ev}{o v5:Value}{lit:Obj}
  (F:gD.iC N Z=(h.map Rb.ba++⟨(U:Int),(gD.events K E).1⟩::(gD.iC m (gD.events K E).2).1,(gD.iC m (gD.events K E).2).2)) (ab:h.length+(m+1)<=255)
  (C:Rr w wo (w.heap.size+1) w.heap.size (w.heap.size+2) l qo S) (L:wo.ownsRow w.heap.size 50 2 o h.length (iD h)) (G:Ro wo w.heap.size h)
  (r:M2 w wo W l X c U K E V (ea,es,f) q ok Y es) (P:ok=true->V=0)
  (Q:OT (W.alloc lit) w5 o.ownBlock w.heap.size 50 2 v5 (h.length+1) (iD h++[.int .i64 (c:Int),.slice ea es.length f])):
  M1 w w5 l N Z m v5 q ok (gD.events K E).2 (h++[⟨(c:Int),ea,es.length,f,es⟩]):=by
 have I:W.ownsRow w.heap.size 50 2 o h.length (iD h):=C.tz r.only L (by decide) (by decide);have O:Ro W w.heap.size h:=G.only r.only (fun x B=>by
  have B:x=w.heap.size+1∨x=w.heap.size+2:=by simpa using B
  rcases B with rfl|rfl
  .exact⟨_,_,_,C.zH,by decide⟩
  .exact⟨_,_,_,C.oz,by decide⟩)
 have uM:ok=true->gD.events K E=(es,Y):=fun j=>by have:=r.eq j;rw[gD.pg _ _ (.inl (P j)),mY] at this;exact this
 refine⟨⟨fun j=>?_,fun j=>r.bad j⟩,fun j=>?_,fun j=>?_,by simp only[iH,l8,qZ];omega,?_,?_,?_⟩;·rw[uM j];exact r.rel.1 j
 .rw[F,uM j,li,ky,r.hc j];rfl
 .rw[F,gD.pI _ _ (.inr (r.bad j))];exact r.bad j
 .exact(r.rd.alloc lit).nn (I.alloc lit) gM Q.grown (by decide) (by decide) (by decide)
 .have e:(h++[(⟨(c:Int),ea,es.length,f,es⟩:Rb)]).length=h.length+1:=by simp
  rw[e,lW];exact Q.own
 .have h1:Ro W w.heap.size (h++[⟨(c:Int),ea,es.length,f,es⟩]):=fun x B=>by
   rcases kd.1 B with B|B
   .exact O x B
   .obtain rfl:=iA.1 B;exact⟨r.own,r.sz⟩
  have h2:Ro (W.alloc lit) w.heap.size (h++[⟨(c:Int),ea,es.length,f,es⟩]):=h1.only ((gU.refl W []).alloc lit) (by simp);exact h2.grown (I.alloc lit) Q.grown (by decide)
theorem M2.next{w wo W L w5:World}{l:List UInt8}{X c cp K E q V:Nat}{Y m:gD.St}{ev v':Value}{es:List gD.Ev}{e:gD.Ev}{r:Bool}{lit:Obj}
  (h:M2 w wo W l X c cp K Y (E+1) ev q true m es) (U:wo.heap.size<=X) (hX:w.heap.size+2<X) (ab:w.heap.size<=wo.heap.size)
  (R4:Rr w L (w.heap.size+1) w.heap.size (w.heap.size+2) l V r) (rel:Rel l r V (gD.jK m).2) (he:r=true->e=(gD.jK m).1) (S:L.heap[X]?=some (.cells #[c,ev] 50)) (j:L.ownsRow w.heap.size 78 3 ev es.length (hQ es)) (Z:gU wo L [w.heap.size+1,w.heap.size+2]) (hs:e.s.size<=maxLen)
  (F:OT (L.alloc lit) w5 ev.ownBlock w.heap.size 78 3 v' (es.length+1) (hQ es++Hy e)):
  w5.heap[X]?=some (.cells #[c,ev] 50)/\M2 w wo (w5.setCell (X,ia) v') l X c cp K Y E v' V r (gD.jK m).2 (es++[e]):=by
 have B:=ie (j.alloc lit) F.grown (gF S) (by decide);have P:gU wo w5 [w.heap.size+1,w.heap.size+2]:=(Z.alloc lit).more F.grown (fun x C=>.inr (h.new x C));have Q:=P.setCell (a:=(X,ia)) (.inr U) v';have ht:=h.rel.1 rfl;have uM:gD.events (E+1) m=((gD.jK m).1::(gD.events E (gD.jK m).2).1,(gD.events E (gD.jK m).2).2):=by show(if m.ok=true then _ else _)=_;rw[gG (by rw[ht])]
 have G:=(R4.alloc lit).nn (j.alloc lit) gM F.grown (by decide) (by decide) (by decide);refine⟨B,⟨rel,fun I=>?_,fun I=>?_,?_,?_,fun I=>h.hc rfl,xZ B,?_,?_,?_,Q⟩⟩;·rw[h.eq rfl,uM,he I,ky];rfl
 .have N:gD.events K Y=_:=h.eq rfl;rw[N,uM];show(gD.events E (gD.jK m).2).2.ok=false;rw[gD.pg _ _ (.inr (rel.2 I))];exact rel.2 I
 .have:=h.le;rw[iH];simp only[l8,qZ];omega
 .refine G.td (fun x o C ho=>?_) (G.below.setCell (by show w.heap.size<=X;omega) _);rw[mG _ _ _ _ (fun e=>by have e:x=X:=e;rcases C with C|C|C<;>omega)];exact ho
 .have N:(es++[e]).length=es.length+1:=by simp
  rw[N,nV];have e3:hQ [e]=Hy e:=by unfold hQ;simp
  rw[e3];exact ji F.own (gP F.own B (by decide)) _
 .intro g hg;have h1:=Z.size;rcases F.F6 with O|O
  .exact h.new g (by rw[<-O];exact hg)
  .have:=O g hg;simp at this;omega
 .intro e' f;rcases kd.1 f with f|f
  .exact h.sz e' f
  .rw[iA.1 f];exact hs
theorem M2.P7{w wo W r:World}{l:List UInt8}{X c E K o q F m':Nat}{C f:gD.St}{ev:Value}{es:List gD.Ev}
  (h:M2 w wo W l X c E K C (o+1) ev q true f es) (I:Rr w r (w.heap.size+1) w.heap.size (w.heap.size+2) l F false) (e:(gD.jK f).2.ok=false)
  (B:r.heap[X]?=some (.cells #[c,ev] 50)) (j:r.ownsRow w.heap.size 78 3 ev es.length (hQ es)) (G:gU wo r [w.heap.size+1,w.heap.size+2]):
  M2 w wo r l X c E K C 0 ev F false (gD.jK f).2 es:=by
 have N:=h.rel.1 rfl;have uM:gD.events (o+1) f=((gD.jK f).1::(gD.events o (gD.jK f).2).1,(gD.events o (gD.jK f).2).2):=by show(if f.ok=true then _ else _)=_;rw[gG (by rw[N])]
 refine⟨⟨fun m=>(by cases m),fun _=>e⟩,fun m=>(by cases m),fun _=>?_,(by have:=h.le;omega),I,fun m=>(by cases m),B,j,h.new,h.sz,G⟩;have L:gD.events K C=_:=h.eq rfl;rw[L,uM];show(gD.events o (gD.jK f).2).2.ok=false;rw[gD.pg _ _ (.inr e)];exact e
theorem gD.Hz{l:List UInt8}{e:gD.St}{q:Nat}(f:(gD.num 1 e).2=⟨l.drop q,true⟩)(j:q<=l.length)(h:l.length<q+(gD.num 1 e).1):(gD.jK e).2.ok=false:=by
 unfold gD.jK;simp only;refine gD.nG 3 _ (gD.nG 1 _ ?_);rw[f];exact gD.C9 j h
structure QE (w wo W:World) (l:List UInt8) (X eb c:Nat) (ev:Value) (es:List gD.Ev) (q:Nat) (ok:Bool) (a b d:Value):Prop where
 rd:Rr w W (w.heap.size+1) w.heap.size (w.heap.size+2) l q ok
 uM:W.heap[eb]?=some (.cells #[a,b,d] 78)
 bx:W.heap[X]?=some (.cells #[c,ev] 50)
 own:W.ownsRow w.heap.size 78 3 ev es.length (hQ es)
 ne:ev.ownBlock≠some eb
 only:gU wo W [w.heap.size+1,w.heap.size+2]
 old:w.heap.size+2<eb/\wo.heap.size<=eb/\w.heap.size+2<X
theorem QE.cells{w wo W:World}{l:List UInt8}{X e c:Nat}{ev:Value}{es:List gD.Ev}{q:Nat}{ok:Bool}{a b d:Value}(h:QE w wo W l X e c ev es q ok a b d):
  W.cell? (e,gy)=some a/\W.cell? (e,ia)=some b/\W.cell? (e,j6)=some d/\W.frozen? (e,gy)=false/\W.frozen? (e,ia)=false/\W.frozen? (e,j6)=false:=⟨gw h.uM,gw h.uM,gw h.uM,gA h.uM,gA h.uM,gA h.uM⟩
theorem QE.MP{w wo W:World}{l:List UInt8}{X f c:Nat}{ev:Value}{es:List gD.Ev}{q:Nat}{ok:Bool}{a b d a' b' d':Value}(h:QE w wo W l X f c ev es q ok a b d)(i:Nat)(v:Value)(m:(#[a,b,d]:Array Value).setIfInBounds i v=#[a',b',d']):
  QE w wo (W.setCell (f,i) v) l X f c ev es q ok a' b' d':=by
 have hold:=h.old;refine⟨h.rd.td (fun x o j r=>?_) (h.rd.below.setCell (by show w.heap.size<=f;omega) _),?_,?_,ji h.own h.ne _,h.ne,h.only.setCell (.inr hold.2.1) _,hold⟩;·rw[mG _ _ _ _ (fun e=>by have e:x=f:=e;rcases j with j|j|j<;>omega)];exact r
 .rw[yC _ _ _ _ _ _ h.uM,m]
 .rw[mG _ _ _ _ (km h.bx h.uM (by decide))];exact h.bx
theorem QE.setAt{w wo W:World}{l:List UInt8}{X e c:Nat}{ev:Value}{es:List gD.Ev}{q:Nat}{ok:Bool}{a b d:Value}(h:QE w wo W l X e c ev es q ok a b d)(n:Nat)(f:n<=l.length):
  QE w wo (W.setCell (w.heap.size+1,gy) n) l X e c ev es n ok a b d:=by
 have hold:=h.old;refine⟨h.rd.setAt n f,?_,?_,ji h.own (gP h.own h.rd.zH (by decide)) _,h.ne,h.only.setCell (.inl (by simp)) _,hold⟩;·rw[mG _ _ _ _ (km h.uM h.rd.zH (by decide))];exact h.uM
 .rw[mG _ _ _ _ (km h.bx h.rd.zH (by decide))];exact h.bx
theorem QE.num{w wo W f:World}{l:List UInt8}{X j c:Nat}{ev:Value}{es:List gD.Ev}{q m:Nat}{ok e:Bool}{a b d:Value}(h:QE w wo W l X j c ev es q ok a b d)(R:Rr w f (w.heap.size+1) w.heap.size (w.heap.size+2) l m e)(O:gU W f [w.heap.size+1,w.heap.size+2]):
  QE w wo f l X j c ev es m e a b d:=by
 have hold:=h.old;exact⟨R,O.jJ h.uM (by simp;omega),O.jJ h.bx (by simp;omega),h.rd.tz O h.own (by decide) (by decide),h.ne,h.only.trans' O,hold⟩
end Go.Proofs.YthhcdfjijagalaaGreat

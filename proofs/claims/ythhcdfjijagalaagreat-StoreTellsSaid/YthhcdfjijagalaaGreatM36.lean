import Derived.Test.YthhcdfjijagalaaGreatM35
set_option linter.all false
namespace Go.Proofs.YthhcdfjijagalaaGreat.gE
open Qz Go.Proofs.Tryz
def FW(st:List Int×(Int->Bool))(d:Do)(e:Int):List Int×(Int->Bool):=
 if d.kind=5∨d.kind=6∨d.kind=7 then
  if e=0 then(if d.n∈st.1 then st.1 else st.1++[d.n],fun i=>if i=d.n then decide (d.kind=5)||(decide (d.kind=7)&&st.2 d.n) else st.2 i) else st
 else if d.kind=8 then(st.1.filter st.2,st.2) else st
def oL(l:List Do)(a:List An):Nat->List Int×(Int->Bool)
 |0=>([],fun _=>false)
 |k+1=>match l[k]?,a[k]? with
  |some d,some x=>FW (oL l a k) d x.err
  |_,_=>oL l a k
theorem FX{l:List Do}{a:List An}{k:Nat}{d:Do}{x:An}(e:l[k]?=some d)(f:a[k]?=some x):oL l a (k+1)=FW (oL l a k) d x.err:=by
 show(match l[k]?,a[k]? with
  |some d,some x=>FW (oL l a k) d x.err
  |_,_=>oL l a k)=_
 rw[e,f]
theorem J5{s j:St}{k:Int}{L:List (List UInt8)}(h:j.gI=write s.gI k L)(i:Nat):na j i↔na s i:=by
 unfold na;rw[h];constructor
 .rintro⟨y,m,e⟩;obtain⟨x,f,rfl⟩:=ox m;exact⟨x,f,by rw[kW] at e;exact e⟩
 .rintro⟨x,f,e⟩;exact⟨uZ x k (L.getD i []),by rw[rO,f];rfl,by rw[kW];exact e⟩
theorem FV{s e:St}(h:e.gI=s.gI)(i:Nat):na e i↔na s i:=by unfold na;rw[h]
theorem vt{s:St}{n:Nat}{y:Dk}{i:Nat}(m:n<s.gI.length)(h:na {s with gI:=s.gI.set n y} i):(i=n/\y.gone=true)∨(i≠n/\na s i):=by
 obtain⟨x,f,j⟩:=h;have f:(s.gI.set n y)[i]?=some x:=f;by_cases e:i=n
 .subst e;rw[sZ m] at f;injection f with f;exact .inl ⟨rfl,by rw[f];exact j⟩
 .rw[tR (fun e'=>e e'.symm)] at f;exact .inr ⟨e,x,f,j⟩
theorem J1{s:St}{X:List gD.Ba}{I:List (Int×Int)}{H:Nat->Prop}{K:Nat}(O:J s X I H K)(d:Do){i:Nat}(h:na (step s d).1 i):
  if (d.kind=5∨d.kind=6∨d.kind=7)/\(step s d).2.err=0 then((i:Int)=d.n/\(d.kind=5∨(d.kind=7/\na s i)))∨((i:Int)≠d.n/\na s i) else na s i:=by
 by_cases E:d.kind=5∨d.kind=6∨d.kind=7
 .rw[step_harm E] at h⊢;rcases pZ s d with⟨r,F⟩|⟨r,F,P,m⟩
  .rw[gC (fun q=>F q.2)];rw[r] at h;exact h
  .rw[gG ⟨E,r⟩];have S:((d.n.toNat:Nat):Int)=d.n:=by omega
   have o:d.n.toNat<s.gI.length:=by omega
   have C:=Dz F P;rcases m with⟨_,m⟩|⟨B,_,m⟩|⟨U,B,b,hb,_,_,m⟩
   .rw[m] at h;rcases vt o h with⟨_,f⟩|⟨j,f⟩
    .cases f
    .exact .inr ⟨by omega,f⟩
   .rw[m] at h;rcases vt o h with⟨j,_⟩|⟨j,f⟩
    .exact .inl ⟨by omega,.inl B⟩
    .exact .inr ⟨by omega,f⟩
   .rw[m] at h;rcases vt o h with⟨j,f⟩|⟨j,f⟩
    .subst j;exact .inl ⟨by omega,.inr ⟨by omega,_,C,f⟩⟩
    .exact .inr ⟨by omega,f⟩
 .rw[gC (fun q=>E q.1)];by_cases j:d.kind=1
  .rw[step_put j] at h;rcases uA s d with⟨r,_⟩|⟨_,_,_,_,_,w⟩
   .rw[r] at h;exact h
   .rcases w with⟨w,_⟩|⟨L',_,_,w,_⟩
    .exact(FV w i).1 h
    .exact(J5 w i).1 h
  .by_cases N:d.kind=8
   .rw[step_scrub N] at h;obtain⟨G,L,hc,_⟩:=O.core;have e:=(hc.Qk O.ok s.iF gM).gn i;obtain⟨x,C,Q⟩:=h;have C:(iK s.gI s.data s.iF).1[i]?=some x:=C;rw[C] at e;cases hd:s.gI[i]? with
    |none=>rw[hd] at e;cases e
    |some y=>
     rw[hd] at e;injection e with e;exact⟨y,hd,by rw[<-e];exact Q⟩
   .rw[step_other j E N] at h;exact h
theorem step_spare(s:St)(d:Do):(step s d).1.spare=s.spare:=by
 by_cases h:d.kind=1
 .rw[step_put h];rcases uA s d with⟨f,_⟩|⟨_,_,_,e,_⟩
  .rw[f]
  .exact e
 .by_cases j:d.kind=5∨d.kind=6∨d.kind=7
  .rw[step_harm j];rcases pZ s d with⟨f,_⟩|⟨_,_,_,⟨_,f⟩|⟨_,_,f⟩|⟨_,_,_,_,_,_,f⟩⟩<;>rw[f]
  .by_cases m:d.kind=8;·rw[step_scrub m];rfl
   .rw[step_other h j m]
theorem FD{U:List Int}{n:Int}(h:(U.length:Int)<=n):Pb (fun i=>(i:Int)∈U) n:=fun V j m=>by
 have:=uw (V.map fun v:Nat=>(v:Int)) U (by
  refine List.Pairwise.map _ (fun a b f=>?_) j;intro e;exact f (by omega)) (fun u o=>by
  obtain⟨v,q,rfl⟩:=iu.1 o;exact m v q)
 rw[iz] at this;omega
theorem FZ{d p b:Int}(P:kA d p b=0){l:List Do}(O:Ph l):∀k,k<=l.length->(∀j,j<=k->((oL l (run (start d p b) l).2 j).1.length:Int)<=p)->
  J (C8 (start d p b) l k) (qQ (start d p b) (l.take k)) (wI l k) (fun i=>(i:Int)∈(oL l (run (start d p b) l).2 k).1) k/\(∀i:Nat,na (C8 (start d p b) l k) i->(oL l (run (start d p b) l).2 k).2 i=true)/\(C8 (start d p b) l k).spare=p
 |0,_,_=>by refine⟨J.start P _,fun i h=>?_,rfl⟩;obtain⟨x,N,S⟩:=h;have N:x∈List.replicate (d+p).toNat (⟨false,[]⟩:Dk):=jX N;obtain⟨_,rfl⟩:=oE.1 N;cases S
 |k+1,hk,hf=>by
  obtain⟨I,B,F⟩:=FZ P O k (by omega) (fun j W=>hf j (by omega));have f:k<l.length:=by omega
  have C:Pb (fun i=>(i:Int)∈(oL l (run (start d p b) l).2 k).1) (C8 (start d p b) l k).spare:=by rw[F];exact FD (hf k (by omega))
  rw[ue _ _ _ f,vS _ _ _ f,Ay f,FX (jz f) (IJ _ l k f)];have V:=I.step l[k] (O k f);have E:=fun i=>J1 I l[k] (i:=i);have L:(step (C8 (start d p b) l k) l[k]).1.spare=p:=by rw[step_spare,F]
  refine⟨?_,?_,L⟩
  .refine V.mono (fun i hi=>?_);unfold zj at hi;unfold FW;generalize C8 (start d p b) l k=st at *;generalize l[k]=e at *;by_cases r:e.kind=5∨e.kind=6∨e.kind=7
   .rw[gG r] at hi⊢;by_cases o:(step st e).2.err=0
    .rw[gG o] at hi⊢;show(i:Int)∈(if e.n∈(oL l (run (start d p b) l).2 k).1 then _ else _);split
     .rename_i U;rcases hi with hi|hi
      .exact hi
      .rw[hi];exact U
     .rcases hi with hi|hi
      .exact List.mem_append_left _ hi
      .rw[hi];simp
    .rw[gC o] at hi⊢;exact hi
   .rw[gC r] at hi⊢;by_cases K:e.kind=8
    .rw[gG K] at hi⊢;have o:(step st e).2.err=0:=by rw[step_scrub K];exact I.GJ C
     rw[gG o] at hi;have m:=E i hi;rw[gC (fun q=>r q.1)] at m;exact mX.2 ⟨I.gone m,B i m⟩
    .rw[gC K] at hi⊢;exact hi
  .intro i hi;have m:=E i hi;unfold FW;generalize C8 (start d p b) l k=st at *;generalize l[k]=e at *;by_cases r:e.kind=5∨e.kind=6∨e.kind=7
   .rw[gG r];by_cases o:(step st e).2.err=0
    .rw[gG ⟨r,o⟩] at m;rw[gG o];show(if (i:Int)=e.n then _ else _)=true;rcases m with⟨G,w⟩|⟨G,w⟩
     .rw[gG G];rcases w with w|⟨w,Q⟩
      .simp[w]
      .have:=B i Q;rw[G] at this;simp[w,this]
     .rw[gC G];exact B i w
    .rw[gC (fun q=>o q.2)] at m;rw[gC o];exact B i m
   .rw[gC (fun q=>r q.1)] at m;rw[gC r];split;·exact B i m
    .exact B i m
theorem keeps{d p b:Int}(B:kA d p b=0){l:List Do}(w:Ph l){k:Nat}(r:k<l.length)(o:∀j,j<=k->((oL l (run (start d p b) l).2 j).1.length:Int)<=p){x:An}(f:(run (start d p b) l).2[k]?=some x):
  (l[k].kind=8->x.err=0)/\Dd l[k] x (lY l (run (start d p b) l).2 k).2:=by
 obtain⟨h,_,m⟩:=FZ B w k (by omega) o;have e:Pb (fun i=>(i:Int)∈(oL l (run (start d p b) l).2 k).1) (C8 (start d p b) l k).spare:=by rw[m];exact FD (o k gM)
 rw[IJ _ _ _ r] at f;injection f with f;subst f;rw[(G0 _ rfl l k (by omega)).1];exact⟨fun q=>by rw[step_scrub q];exact h.GJ e,Hh h.inv (h.tk e) _⟩
def kR(ds:List Dk):Prop:=∀x∈ds,x.gone=true->x.bl=[]
theorem kR.write{ds:List Dk}(h:kR ds)(k:Int)(L:List (List UInt8)):kR (write ds k L):=fun x f e=>by
 obtain⟨y,j,b,rfl⟩:=uH f;rw[kW] at e;rw[Bw e];exact h y j e
theorem kR.iK{ds:List Dk}(h:kR ds)(d:Int):∀k,kR (iK ds d k).1
 |0=>h
 |k+1=>by
  have e:=kR.iK h d k;unfold gE.iK;simp only;split;·exact e
  .split;·exact e
   .exact e.write _ _
theorem kR.step{s:St}(h:kR s.gI)(d:Do):kR (step s d).1.gI:=by
 by_cases r:d.kind=1
 .rw[step_put r];rcases uA s d with⟨f,_⟩|⟨_,_,_,_,_,m⟩
  .rw[f];exact h
  .rcases m with⟨m,_⟩|⟨L',_,_,m,_⟩
   .rw[m];exact h
   .rw[m];exact h.write _ _
 .by_cases w:d.kind=5∨d.kind=6∨d.kind=7
  .rw[step_harm w];rcases pZ s d with⟨f,_⟩|⟨_,C,E,⟨_,f⟩|⟨_,_,f⟩|⟨_,_,b,hb,_,_,f⟩⟩
   .rw[f];exact h
   .rw[f];exact fun x e j=>by
     rcases lH e with e|rfl
     .exact h x e j
     .rfl
   .rw[f];exact fun x e j=>by
     rcases lH e with e|rfl
     .exact h x e j
     .rfl
   .rw[f];exact fun x e j=>by
     rcases lH e with e|rfl
     .exact h x e j
     .have q:=Dz C E;have o:=h _ (jX q) j;rw[o] at hb;cases hb
  .by_cases B:d.kind=8;·rw[step_scrub B];exact kR.iK h _ _
   .rw[step_other r w B];exact h
theorem kR.run{s:St}(h:kR s.gI)(l:List Do):kR (run s l).1.gI:=by
 induction l generalizing s with
 |nil=>exact h
 |cons a l e=>exact e (h.step a)
theorem kR.start(d p b:Int):kR (start d p b).gI:=fun x e f=>by
 have e:x∈List.replicate (d+p).toNat (⟨false,[]⟩:Dk):=e;obtain⟨_,rfl⟩:=oE.1 e;rfl
theorem Ok.run{s:St}{K:Nat}(h:Ok s K)(l:List Do):Ok (run s l).1 (K+l.length):=by
 induction l generalizing s K with
 |nil=>exact h
 |cons a l e=>
  have:=e (h.step a);rw[l8];rw[show K+(l.length+1)=K+1+l.length by omega];exact this
def mi(ds:List Dk):List Nat:=(List.range ds.length).filter fun i=>(ds.getD i ⟨false,[]⟩).gone
theorem vp(ds:List Dk):(mi ds).length=(ds.filter Dk.gone).length:=by
 have e:(List.range ds.length).map (fun i=>ds.getD i ⟨false,[]⟩)=ds:=by
  apply mW;·simp
  .intro i h f;simp[List.getD,f]
 have:(ds.filter Dk.gone).length=(((List.range ds.length).map (fun i=>ds.getD i ⟨false,[]⟩)).filter Dk.gone).length:=by rw[e]
 rw[this,List.filter_map,iz];rfl
theorem sj{ds:List Dk}{i:Nat}:i∈mi ds↔∃x,ds[i]?=some x/\x.gone=true:=by
 unfold mi;rw[mX,mc];constructor
 .rintro⟨e,h⟩;refine⟨ds[i],jz e,?_⟩;simpa[List.getD,e] using h
 .rintro⟨x,f,j⟩;have e:=(nH.1 f).1;refine⟨e,?_⟩;rw[List.getD,f];exact j
def Clean(ds:List Dk)(d p:Int)(k:Nat):Prop:=
 (mi ds=[]/\gW.j9 (blocks ds k) k ds.length=[])∨
 ∃b L,gW.mv b (k:Int) d p L 0/\((mi ds).length:Int)<=p/\∀(i:Nat) (x:Dk),ds[i]?=some x->x.gone=false->find x.bl k=some (L.getD i [])
theorem Du{ds:List Dk}{k:Int}{L:List (List UInt8)}{j:Int}(e:j≠k):blocks (write ds k L) j=blocks ds j:=by
 apply List.ext_getElem?;intro i;unfold blocks;rw[nJ,nJ,rO,Option.map_map];cases ds[i]? with
 |none=>rfl
 |some x=>
  show some (jx (uZ x k _) j)=some (jx x j);unfold jx;rw[kW,oV _ _ e]
theorem nX(ds:List Dk)(k:Int)(L:List (List UInt8)):mi (write ds k L)=mi ds:=by
 unfold mi;rw[lB];refine List.filter_congr fun i hi=>?_;have hi:=mc.1 hi;rw[List.getD,rO,List.getD,jz hi];show(uZ _ _ _).gone=_;rw[kW];simp[List.getD,hi]
theorem Clean.write{ds:List Dk}{d p:Int}{j:Nat}(h:Clean ds d p j){k:Int}(L:List (List UInt8))(f:(j:Int)≠k):Clean (write ds k L) d p j:=by
 unfold Clean;rw[nX,Du f,lB];rcases h with h|⟨b,L',m,o,q⟩
 .exact .inl h
 .refine .inr ⟨b,L',m,o,fun i y w e=>?_⟩;obtain⟨x,r,rfl⟩:=ox w;rw[kW] at e;rw[oV _ _ f];exact q i x r e
theorem CC{x:Dk}{g:Nat}(hb:pF (g:Int) x)(r:∀k:Nat,k<g->find x.bl k≠none):x.bl.length=g:=by
 have m:=rJ _ 0 g hb.1 (fun y B=>by obtain⟨z,C,rfl⟩:=iu.1 B;exact hb.2 z C)
 rw[iz] at m;have o:=uw ((List.range g).map fun k:Nat=>(k:Int)) (x.bl.map Hd.jy) (by
  refine List.Pairwise.map _ (fun a b f=>?_) tE;intro e;exact f (by omega)) (fun u w=>by
  obtain⟨k,j,rfl⟩:=iu.1 w;have j:=mc.1 j;cases h:find x.bl k with
  |none=>exact absurd h (r k j)
  |some b=>
   obtain⟨a,q,e⟩:=FG h;exact iu.2 ⟨a,q,e⟩)
 rw[iz,yt,iz] at o;omega
section
variable {ds : List Dk} {d p : Int} {k : Nat}
theorem Clean.FP(I:kR ds)(K:(ds.length:Int)=d+p){b:List UInt8}{L:List (List UInt8)}(C:gW.mv b (k:Int) d p L 0)(E:∀(i:Nat) (x:Dk),ds[i]?=some x->x.gone=false->find x.bl k=some (L.getD i [])):
  ∃d' m S,d=((d':Nat):Int)/\p=((m:Nat):Int)/\gW.Laid b k d' m S L/\L.length=ds.length/\gW.oY L (blocks ds k) (mi ds):=by
 obtain⟨B,d',m,S,G,r,w,q⟩:=C.laid rfl;obtain rfl:k=B:=by omega
 have f:L.length=ds.length:=by rw[q.len];omega
 refine⟨d',m,S,r,w,q,f,by rw[kq,f],tE.filter _,fun u F=>?_,fun i hi=>?_,fun i hi=>?_⟩;·rw[f];exact mc.1 (mX.1 F).1
 .by_cases o:i<ds.length
  .have j:ds[i]?=some ds[i]:=jz o;have h:ds[i].gone=false:=by
    cases e:ds[i].gone with
    |false=>rfl
    |true=>exact absurd (sj.2 ⟨_,j,e⟩) hi
   rw[mA _ _ _ j];unfold jx;rw[gC (by rw[h];decide),E i _ j h];rfl
  .rw[List.getD,rz (by rw[kq];omega),List.getD,rz (by omega)]
 .obtain⟨x,j,h⟩:=sj.1 hi;left;rw[mA _ _ _ j];unfold jx;rw[gG h]
theorem Clean.bad(h:Clean ds d p k)(r:kR ds)(w:(ds.length:Int)=d+p):(gW.j9 (blocks ds k) k ds.length).length=(mi ds).length/\∀i,i∈gW.j9 (blocks ds k) k ds.length->i∈mi ds:=by
 rcases h with⟨f,j⟩|⟨b,L,f,j,q⟩
 .rw[f,j];exact⟨rfl,fun i hi=>hi⟩
 .obtain⟨d',E,S,B,C,o,e,m⟩:=Clean.FP r w f q;rw[<-e];exact⟨m.Dl o,fun i hi=>(m.bad o).1 hi⟩
theorem Clean.found(h:Clean ds d p k){i:Nat}{x:Dk}(j:ds[i]?=some x)(f:x.gone=false):find x.bl k≠none:=by
 rcases h with⟨o,m⟩|⟨b,L,o,m,q⟩
 .intro r;have hi:=(nH.1 j).1;have:i∈gW.j9 (blocks ds k) k ds.length:=by unfold gW.j9;refine mX.2 ⟨mc.2 hi,?_⟩;rw[mA _ _ _ j];unfold jx;rw[gC (by rw[f];decide),r];show(!gW.right [] _ _)=true;rw[gW.rI];rfl
  rw[m] at this;cases this
 .rw[q i x j f];intro e;cases e
theorem Hr(U:kR ds)(V:(ds.length:Int)=d+p)(h:(gW.lu (blocks ds k) k d).2=0):Clean (write ds k (gW.lu (blocks ds k) k d).1) d p k:=by
 have G:(gW.kX (blocks ds k) k d).2=0:=by refine mU fun e=>?_;unfold gW.lu at h;rw[gG e] at h;exact e h
 have Q:gW.lu (blocks ds k) k d=gW.ni (gW.kX (blocks ds k) k d).1 k d p:=by unfold gW.lu;rw[gC (by intro e;exact e G),kq];rw[show(ds.length:Int)-d=p by omega]
 have F:=gW.pQ (gW.kX (blocks ds k) k d).1 k d p;rw[<-Q,h] at F;right;refine⟨_,_,F,?_,fun i y E o=>?_⟩
 .rw[nX];have j:=gW.oS (blocks ds k) k d;rw[G] at j;unfold gW.kN at j;split at j;·rename_i hc;exact absurd j.2.symm hc
  .rename_i hc;split at j;·exact absurd j.2 (by decide)
   .obtain⟨X,f,O,N⟩:=j;have P:f=0:=by
     rcases N with⟨e,_,L⟩|⟨e,_⟩|⟨e,_⟩
     .exact absurd L.symm e
     .exact e
     .exact e
    subst P;have B:gJ.gT d (((gW.jP (blocks ds k) k (blocks ds k).length).length:Int)-d)=0:=by rw[gW.jo];exact qJ.1 hc
    have S:d<=((gJ.there (gW.jP (blocks ds k) k (blocks ds k).length)).length:Int):=by refine mU fun q=>?_;have:=(O.ou (gJ.wY B (by omega))).2;exact absurd this (by decide)
    have r:=uw (mi ds++gJ.there (gW.jP (blocks ds k) k (blocks ds k).length)) (List.range ds.length) (by
     rw[List.nodup_append];refine⟨tE.filter _,tE.filter _,fun x I y E e=>?_⟩;subst e;obtain⟨z,K,C⟩:=sj.1 I;have m:=(mX.1 E).2;have q:=(nH.1 K).1;rw[gW.oH (by rw[kq];exact q),mA _ _ _ K] at m;have:jx z (k:Int)=[]:=by unfold jx;rw[gG C]
     rw[this,gW.rI] at m;simp at m) (fun u w=>by
     rcases kd.1 w with w|w
     .exact(mX.1 w).1
     .have:=mc.1 (mX.1 w).1;rw[gW.jo,kq] at this;exact mc.2 this)
    rw[iH,yt] at r;omega
 .obtain⟨x,I,rfl⟩:=ox E;rw[kW] at o;exact qt o _ _
end
theorem Fl{ds:List Dk}{d p:Int}(K:kR ds)(L:(ds.length:Int)=d+p):∀k,((iK ds d k).1.length=ds.length/\mi (iK ds d k).1=mi ds)/\((iK ds d k).2.2=0->∀j,j<k->Clean (iK ds d k).1 d p j)
 |0=>⟨⟨rfl,rfl⟩,fun _ j C=>absurd C (Nat.not_lt_zero _)⟩
 |k+1=>by
  obtain⟨⟨i1,i2⟩,r⟩:=Fl K L k;have m:=kR.iK K d k;obtain⟨E,c,f,e⟩:∃E c f,iK ds d k=(E,c,f):=⟨_,_,_,rfl⟩;rw[e] at r i1 i2 m;simp only at r i1 i2 m;have G:(E.length:Int)=d+p:=by rw[i1];exact L
  by_cases o:gW.j9 (blocks E k) k E.length=[]
  .rw[xx e o];refine⟨⟨i1,i2⟩,fun h j C=>?_⟩;by_cases w:j=k
   .subst w;refine .inl ⟨?_,o⟩;refine List.eq_nil_iff_forall_not_mem.2 fun i hi=>?_;obtain⟨x,N,B⟩:=sj.1 hi;have F:=(nH.1 N).1;have:i∈gW.j9 (blocks E j) j E.length:=by unfold gW.j9;refine mX.2 ⟨mc.2 F,?_⟩;rw[mA _ _ _ N];unfold jx;rw[gG B,gW.rI];rfl
    rw[o] at this;cases this
   .exact r h j (by omega)
  .by_cases q:(gW.lu (blocks E k) k d).2=0
   .rw[xy e o q];refine⟨⟨by show(write E k _).length=_;rw[lB];exact i1,by show mi (write E k _)=_;rw[nX];exact i2⟩,fun h j C=>?_⟩;by_cases w:j=k;·subst w;exact Hr m G q
    .exact(r h j (by omega)).write _ (by omega)
   .rw[zU e o q];refine⟨⟨i1,i2⟩,fun h=>?_⟩;have h:(if f=0 then(gW.lu (blocks E k) k d).2 else f)=0:=h;split at h;·exact absurd h q
    .rename_i I;exact absurd h I
theorem ze{ds:List Dk}{d p:Int}(O:kR ds)(U:(ds.length:Int)=d+p){g:Nat}(hc:∀j,j<g->Clean ds d p j):∀k,k<=g->∃E,iK ds d k=(E,0,0)/\kR E/\E.length=ds.length/\mi E=mi ds/\∀j,j<g->Clean E d p j
 |0,_=>⟨ds,rfl,O,rfl,rfl,hc⟩
 |k+1,hk=>by
  obtain⟨E,e,f,G,V,C⟩:=ze O U hc k (by omega);have r:(E.length:Int)=d+p:=by rw[G];exact U
  have q:=C k (by omega);obtain⟨ab,F⟩:=q.bad f r;by_cases w:gW.j9 (blocks E k) k E.length=[];·exact⟨E,xx e w,f,G,V,C⟩
  .rcases id q with⟨_,h⟩|⟨b,L,B,Y,Z⟩
   .exact absurd h w
   .obtain⟨d',p',S,W,e2,I,P,hh⟩:=Clean.FP f r B Z;have hr:gW.kX (blocks E k) k d=(b,0):=by have m:=gW.oS (blocks E k) k d;rw[W] at m⊢;obtain⟨K,N⟩:=hh.read I (by omega) m;exact Prod.ext K N
    have Q:gW.lu (blocks E k) k d=(L,0):=by obtain⟨K,N⟩:=gW.zP B;unfold gW.lu;rw[hr];simp only[ne_eq,not_true,if_false,kq];rw[show(E.length:Int)-d=p by omega];exact Prod.ext K.symm N.symm
    have m:=xy e w (by rw[Q]);rw[Q] at m;have hz:((gW.j9 (blocks E k) k E.length).filter fun i=>!(E.getD i ⟨false,[]⟩).gone)=[]:=by rw[List.filter_eq_nil_iff];intro i hi;have:=(mX.1 (F i hi)).2;rw[this];decide
    rw[hz] at m;refine⟨_,m,f.write _ _,by rw[lB];exact G,by rw[nX];exact V,fun j hj=>?_⟩;by_cases X:j=k
    .subst X;refine .inr ⟨b,L,B,by rw[nX];exact Y,fun i y hy o=>?_⟩;obtain⟨x,hx,rfl⟩:=ox hy;rw[kW] at o;exact qt o _ _
    .exact(C j hj).write _ (by omega)
theorem wJ{ds:List Dk}{d p:Int}(e:kR ds)(f:(ds.length:Int)=d+p):∀k,(∀j,j<k->Clean ds d p j)->kU ds k=(mi ds).length*k
 |0,_=>rfl
 |k+1,hc=>by unfold kU;rw[wJ e f k (fun j h=>hc j (by omega)),((hc k (by omega)).bad e f).1,Nat.mul_add,me]
theorem GK{s:St}{K:Nat}(B:Ok s K)(F:kR s.gI)(L:(jU s).2.err=0):
  (∀x∈(jU s).1.gI,x.gone=false->x.bl.length=s.iF)/\kU (jU s).1.gI s.iF=((jU s).1.gI.filter Dk.gone).length*s.iF/\(jU (jU s).1).2.err=0/\(jU (jU s).1).2.n=0/\
  (jU (jU s).1).1.iF=s.iF/\((jU (jU s).1).1.gI.filter Dk.gone).length=((jU s).1.gI.filter Dk.gone).length/\(∀x∈(jU (jU s).1).1.gI,x.gone=false->x.bl.length=s.iF):=by
 obtain⟨⟨I,P⟩,h⟩:=Fl (p:=s.spare) F B.nd s.iF;have h:=h L;have j:=kR.iK F s.data s.iF;have m:((iK s.gI s.data s.iF).1.length:Int)=s.data+s.spare:=by rw[I];exact B.nd
 have oz:=B.jU;obtain⟨q,G,N,O,C,r⟩:=ze j m h s.iF gM;have E:(jU (jU s).1)=({(jU s).1 with gI:=q},⟨0,0,[],Vw.iL⟩):=by show(_,_)=_;have:iK (jU s).1.gI (jU s).1.data (jU s).1.iF=(q,0,0):=G;rw[this]
 have e:=oz.jU;rw[E] at e⊢;refine⟨fun x o f=>?_,?_,rfl,rfl,rfl,?_,fun x o f=>?_⟩
 .obtain⟨i,hi⟩:=yv o;exact CC (oz.bl x o) (fun k w=>(h k w).found hi f)
 .rw[<-vp];exact wJ j m s.iF h
 .show(q.filter Dk.gone).length=_;rw[<-vp,C,vp];rfl
 .obtain⟨i,hi⟩:=yv o;exact CC (e.bl x o) (fun k w=>(r k w).found hi f)
end Go.Proofs.YthhcdfjijagalaaGreat.gE

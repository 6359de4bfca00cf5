import Derived.Test.YthhcdfjijagalaaGreatM34
set_option linter.all false
namespace Go.Proofs.YthhcdfjijagalaaGreat.gE
open Qz Go.Proofs.Tryz
theorem kJ(a:Hd)(t:List Hd)(k:Int):find (a::t) k=if a.jy=k then some a.b else find t k:=rfl
theorem C6(a:Hd)(t:List Hd)(k:Int)(x:List UInt8):mK (a::t) k x=if a.jy=k then⟨a.jy,x⟩::t else a::mK t k x:=rfl
theorem CI(a:Hd)(t:List Hd)(k:Int)(x:List UInt8):qu (a::t) k x=if a.jy<k then a::qu t k x else⟨k,x⟩::a::t:=rfl
theorem tr{l:List Hd}{k:Int}{b:List UInt8}(x:List UInt8)(h:find l k=some b):find (mK l k x) k=some x:=by
 induction l with
 |nil=>cases h
 |cons a t f=>
  rw[kJ] at h;rw[C6];by_cases e:a.jy=k;·rw[gG e,kJ,gG e]
  .rw[gC e] at h⊢;rw[kJ,gC e];exact f h
theorem sT(l:List Hd){k j:Int}(x:List UInt8)(m:j≠k):find (mK l k x) j=find l j:=by
 induction l with
 |nil=>rfl
 |cons a t o=>
  rw[C6];by_cases e:a.jy=k
  .have f:¬a.jy=j:=fun h=>m (h.symm.trans e);rw[gG e,kJ,kJ,gC f,gC f]
  .rw[gC e,kJ,kJ,o]
theorem Au(l:List Hd)(k:Int)(x:List UInt8):find (qu l k x) k=some x:=by
 induction l with
 |nil=>show find (⟨k,x⟩::[]) k=_;rw[kJ,gG rfl]
 |cons a t f=>
  rw[CI];by_cases e:a.jy<k;·rw[gG e,kJ,gC (by omega),f]
  .rw[gC e,kJ,gG rfl]
theorem zF(l:List Hd){k j:Int}(x:List UInt8)(f:j≠k):find (qu l k x) j=find l j:=by
 induction l with
 |nil=>show find (⟨k,x⟩::[]) j=_;rw[kJ,gC (by intro h;exact f h.symm)]
 |cons a t m=>
  rw[CI];by_cases e:a.jy<k;·rw[gG e,kJ,kJ,m]
  .rw[gC e,kJ,gC (by intro h;exact f h.symm)]
theorem Av(l:List Hd)(k:Int)(x:List UInt8):find (oh l k x) k=some x:=by
 cases h:find l k with
 |none=>unfold oh;rw[h];exact Au l k x
 |some b=>unfold oh;rw[h];exact tr x h
theorem zG(l:List Hd){k j:Int}(x:List UInt8)(e:j≠k):find (oh l k x) j=find l j:=by
 cases h:find l k with
 |none=>unfold oh;rw[h];exact zF l x e
 |some b=>unfold oh;rw[h];exact sT l x e
theorem FG{l:List Hd}{k:Int}{b:List UInt8}(h:find l k=some b):∃a∈l,a.jy=k:=by
 induction l with
 |nil=>cases h
 |cons a t j=>
  rw[kJ] at h;by_cases e:a.jy=k;·exact⟨a,by simp,e⟩
  .rw[gC e] at h;obtain⟨x,f,e⟩:=j h;exact⟨x,by simp[f],e⟩
theorem kW(x:Dk)(k:Int)(b:List UInt8):(uZ x k b).gone=x.gone:=by unfold uZ;split<;>rfl
theorem qt{x:Dk}(h:x.gone=false)(k:Int)(b:List UInt8):find (uZ x k b).bl k=some b:=by
 unfold uZ;rw[gC (by rw[h];decide)];exact Av _ _ _
theorem oV(x:Dk){k j:Int}(b:List UInt8)(e:j≠k):find (uZ x k b).bl j=find x.bl j:=by
 unfold uZ;split;·rfl
 .exact zG _ _ e
theorem Bw{x:Dk}(h:x.gone=true)(k:Int)(b:List UInt8):uZ x k b=x:=by unfold uZ;rw[gG h]
theorem rO(e:List Dk)(k:Int)(L:List (List UInt8))(i:Nat):(write e k L)[i]?=e[i]?.map fun x=>uZ x k (L.getD i []):=by
 unfold write;rw[nJ];by_cases h:i<e.length
 .rw[List.getElem?_range h,jz h];simp[List.getD,h]
 .rw[rz (by simpa using h),rz (by omega)];rfl
theorem ox{e:List Dk}{k:Int}{L:List (List UInt8)}{i:Nat}{y:Dk}(h:(write e k L)[i]?=some y):∃x,e[i]?=some x/\y=uZ x k (L.getD i []):=by
 rw[rO] at h;obtain⟨x,f,j⟩:=Option.map_eq_some_iff.1 h;exact⟨x,f,j.symm⟩
theorem mA(e:List Dk)(k:Int)(i:Nat){x:Dk}(h:e[i]?=some x):(blocks e k).getD i []=jx x k:=by
 unfold blocks;rw[List.getD,nJ,h];rfl
theorem uw{α:Type}[DecidableEq α]:∀(U V:List α),U.Nodup->(∀u∈U,u∈V)->U.length<=V.length
 |[],V,_,_=>Nat.zero_le _
 |u::U,V,hn,hs=>by have f:=vE.1 hn;have h:u∈V:=hs u (by simp);have:=uw U (V.erase u) f.2 (fun x j=>(List.mem_erase_of_ne (by intro e;subst e;exact f.1 j)).2 (hs x (by simp[j])));rw[List.length_erase_of_mem h] at this;have:=List.length_pos_of_mem h;rw[l8];omega
def Pj(r b:List UInt8):Prop:=∃(t:Nat) (y:UInt8) (h:t<r.length),y≠r[t]/\b=r.set t y
structure Core (s:St) (G:Nat->List gD.Ba) (L:Nat->List (List UInt8)) (lL:List (Int×Int)) (H:Nat->Prop):Prop where
 fit:∀k:Nat,k<s.iF->(gD.iy (G k)).err=0/\gW.mv (gD.iy (G k)).l (k:Int) s.data s.spare (L k) 0
 gone:∀x∈s.gI,x.gone=true->x.bl=[]
 hold:∀(i:Nat) (x:Dk),s.gI[i]?=some x->∀(k:Nat) (b:List UInt8),k<s.iF->find x.bl k=some b->b=(L k).getD i []∨(((i:Int),(k:Int))∈lL/\Pj ((L k).getD i []) b)
 safe:∀(i:Nat) (x:Dk),s.gI[i]?=some x->¬H i->x.gone=false/\∀k:Nat,k<s.iF->find x.bl k=some ((L k).getD i [])
def Nk(s:St)(G:Nat->List gD.Ba):List gD.Ba:=(List.range s.iF).flatMap G++s.tail
def wr(e:List Dk)(k:Nat)(L:List (List UInt8)):List Nat:=(List.range L.length).filter fun i=>!decide ((blocks e k).getD i []=L.getD i [])
section
variable {s : St} {K : Nat} {G : Nat → List gD.Ba} {L : Nat → List (List UInt8)} {lL : List (Int × Int)} {H : Nat → Prop}
theorem Core.start(d p b:Int)(G:Nat->List gD.Ba)(L:Nat->List (List UInt8))(H:Nat->Prop):Core (start d p b) G L [] H:=by
 refine⟨fun k f=>absurd f (Nat.not_lt_zero _),fun x e _=>?_,fun i x e k b f=>absurd f (Nat.not_lt_zero _),fun i x e _=>⟨?_,fun k f=>absurd f (Nat.not_lt_zero _)⟩⟩
 .have e:x∈List.replicate (d+p).toNat (⟨false,[]⟩:Dk):=e;obtain⟨_,rfl⟩:=oE.1 e;rfl
 .have e:x∈List.replicate (d+p).toNat (⟨false,[]⟩:Dk):=jX e;obtain⟨_,rfl⟩:=oE.1 e;rfl
theorem Core.congr{e:St}(h:Core s G L lL H)(m:e.data=s.data)(o:e.spare=s.spare)(f:e.gI=s.gI)(j:e.iF=s.iF):Core e G L lL H:=
 ⟨by rw[m,o,j];exact h.fit,by rw[f];exact h.gone,by rw[f,j];exact h.hold,by rw[f,j];exact h.safe⟩
theorem Core.mono{f:List (Int×Int)}{m:Nat->Prop}(h:Core s G L lL H)(o:∀x∈lL,x∈f)(q:∀i,H i->m i):Core s G L f m:=
 ⟨h.fit,h.gone,fun i x j k b r hb=>(h.hold i x j k b r hb).imp id (fun e=>⟨o _ e.1,e.2⟩),fun i x j w=>h.safe i x j (fun e=>w (q i e))⟩
theorem Core.laid(h:Core s G L lL H)(w:Ok s K){k:Nat}(q:k<s.iF):∃d' e S,s.data=((d':Nat):Int)/\s.spare=((e:Nat):Int)/\s.gI.length=d'+e/\gW.Laid (gD.iy (G k)).l k d' e S (L k):=by
 obtain⟨_,o⟩:=h.fit k q;obtain⟨m,d',e,S,B,f,j,r⟩:=o.laid rfl;obtain rfl:k=m:=by omega
 have:=w.nd;exact⟨d',e,S,f,j,by omega,r⟩
theorem Core.len(h:Core s G L lL H)(m:Ok s K){k:Nat}(f:k<s.iF):(L k).length=s.gI.length:=by
 obtain⟨d',r,S,o,q,e,j⟩:=h.laid m f;rw[j.len,e]
theorem Core.ne(h:Core s G L lL H)(o:Ok s K){k:Nat}(j:k<s.iF){i:Nat}(hi:i<s.gI.length):(L k).getD i []≠[]:=by
 obtain⟨d',B,S,q,r,w,m⟩:=h.laid o j;intro e;have f:=m.right (i:=i) (by omega) (k:Int) (i:Int);rw[e,gW.rI] at f;simp at f
theorem Core.FP(h:Core s G L lL H)(E:Ok s K){k:Nat}(w:k<s.iF):gW.oY (L k) (blocks s.gI k) (wr s.gI k (L k)):=by
 have j:=h.len E w;refine⟨by rw[kq,j],tE.filter _,fun u I=>mc.1 (mX.1 I).1,fun i hi=>?_,fun i hi=>?_⟩
 .by_cases o:i<(L k).length
  .refine mU fun f=>hi (mX.2 ⟨mc.2 o,?_⟩);rw[ju f];rfl
  .rw[List.getD,rz (by rw[kq];omega),List.getD,rz (by omega)]
 .obtain⟨m,C⟩:=mX.1 hi;have m:i<s.gI.length:=by rw[<-j];exact mc.1 m
  have B:s.gI[i]?=some s.gI[i]:=jz m;have f:(blocks s.gI k).getD i []≠(L k).getD i []:=by simpa using C
  rw[mA _ _ _ B] at f⊢;unfold jx at f⊢;by_cases r:s.gI[i].gone=true;·rw[gG r];exact .inl rfl
  .rw[gC r] at f⊢;cases q:find s.gI[i].bl k with
   |none=>exact .inl rfl
   |some b=>
    rw[q] at f;rcases h.hold i _ B k b w q with e|⟨_,t,y,F,N,e⟩
    .exact absurd e f
    .exact .inr ⟨t,y,F,N,e⟩
theorem Core.read(h:Core s G L lL H)(j:Ok s K){k:Nat}(f:k<s.iF)(C:((wr s.gI k (L k)).length:Int)<=s.spare):gW.kX (blocks s.gI k) k s.data=((gD.iy (G k)).l,0):=by
 obtain⟨d',E,S,m,w,B,r⟩:=h.laid j f;have e:=gW.oS (blocks s.gI k) k s.data;rw[m] at e⊢;obtain⟨o,q⟩:=(h.FP j f).read r (by omega) e;exact Prod.ext o q
theorem Core.lost(h:Core s G L lL H)(j:Ok s K){k:Nat}(f:k<s.iF)(C:s.spare<((wr s.gI k (L k)).length:Int)):gW.kX (blocks s.gI k) k s.data=([],10):=by
 obtain⟨d',E,S,m,w,B,r⟩:=h.laid j f;have e:=gW.oS (blocks s.gI k) k s.data;rw[m] at e⊢;obtain⟨o,q⟩:=(h.FP j f).lost r (by omega) e;exact Prod.ext o q
theorem Core.one(h:Core s G L lL H)(o:Ok s K){k:Nat}(j:k<s.iF)(q:((wr s.gI k (L k)).length:Int)<=s.spare){l:List gD.Ba}(m:ln s.gI s.data k=(l,0)):ln s.gI s.data (k+1)=(l++G k,0):=by
 have e:=h.read o j q;have f:=gD.tB (G k) (h.fit k j).1;have:=vl m (by rw[e]) (by rw[e];show(gD.parse (gD.iy (G k)).l).err=0;rw[f]);rw[e] at this;rw[this];show(l++(gD.parse (gD.iy (G k)).l).l,(0:Int))=_;rw[f]
theorem qn{α:Type}(G:Nat->List α)(k:Nat):(List.range (k+1)).flatMap G=(List.range k).flatMap G++G k:=by
 rw[sr,List.flatMap_append];simp
theorem Core.ln(h:Core s G L lL H)(e:Ok s K):∀k,k<=s.iF->(∀j,j<k->((wr s.gI j (L j)).length:Int)<=s.spare)->gE.ln s.gI s.data k=((List.range k).flatMap G,0)
 |0,_,_=>rfl
 |k+1,hk,hw=>by have f:=Core.ln h e k (by omega) (fun j m=>hw j (by omega));rw[h.one e (by omega) (hw k (by omega)) f,qn]
theorem Core.EY(h:Core s G L lL H)(e:Ok s K):∀k,k<=s.iF->gE.ln s.gI s.data k=((List.range k).flatMap G,0)∨gE.ln s.gI s.data k=([],10)
 |0,_=>.inl rfl
 |k+1,hk=>by
  rcases Core.EY h e k (by omega) with ih|ih
  .by_cases j:((wr s.gI k (L k)).length:Int)<=s.spare;·exact .inl (by rw[h.one e (by omega) j ih,qn])
   .have f:=h.lost e (show k<s.iF by omega) (by omega);have:=vk ih (by rw[f];decide);rw[f] at this;exact .inr this
  .exact .inr (tj (by decide) ih 1)
theorem Core.all(h:Core s G L lL H)(f:Ok s K):all s=(Nk s G,0)∨all s=([],10):=by
 rcases h.EY f s.iF gM with e|e
 .exact .inl (tk e)
 .exact .inr (rl gM (by decide) e)
theorem Core.tk(h:Core s G L lL H)(e:Ok s K)(f:∀j,j<s.iF->((wr s.gI j (L j)).length:Int)<=s.spare):gE.all s=(Nk s G,0):=gE.tk (h.ln e s.iF gM f)
theorem Core.OF(h:Core s G L lL H)(B:Ok s K){k:Nat}(j:k<s.iF){u:Nat}(C:u∈wr s.gI k (L k)):H u:=by
 refine mU fun w=>?_;obtain⟨e,o⟩:=mX.1 C;have e:u<s.gI.length:=by rw[<-h.len B j];exact mc.1 e
 have m:s.gI[u]?=some s.gI[u]:=jz e;have f:(blocks s.gI k).getD u []≠(L k).getD u []:=by simpa using o
 obtain⟨r,q⟩:=h.safe u _ m w;apply f;rw[mA _ _ _ m];unfold jx;rw[gC (by rw[r];decide),q k j];rfl
def Pb(H:Nat->Prop)(n:Int):Prop:=∀U:List Nat,U.Nodup->(∀u∈U,H u)->(U.length:Int)<=n
theorem Core.PQ(h:Core s G L lL H)(m:Ok s K)(e:Pb H s.spare):∀j,j<s.iF->((wr s.gI j (L j)).length:Int)<=s.spare:=fun j f=>
 e _ (tE.filter _) (fun u o=>h.OF m f o)
theorem Core.seal{o:St}(h:Core s G L lL H)(O:Ok s K)(t:List gD.Ba)(L':List (List UInt8))(I:(gD.iy t).err=0)(E:gW.mv (gD.iy t).l (s.iF:Int) s.data s.spare L' 0)(w:o.data=s.data)(B:o.spare=s.spare)(q:o.gI=write s.gI s.iF L')(N:o.iF=s.iF+1):
  Core o (fun k=>if k=s.iF then t else G k) (fun k=>if k=s.iF then L' else L k) lL H:=by
 refine⟨fun k r=>?_,fun x j f=>?_,fun i y m k b r hb=>?_,fun i y m F=>?_⟩
 .rw[w,B];by_cases e:k=s.iF;·subst e;simp only[if_true];exact⟨I,E⟩
  .simp only[gC e];exact h.fit k (by omega)
 .rw[q] at j;obtain⟨y,m,b,rfl⟩:=uH j;rw[kW] at f;rw[Bw f];exact h.gone y m f
 .rw[q] at m;obtain⟨x,j,rfl⟩:=ox m;by_cases e:k=s.iF
  .subst e;simp only[if_true];by_cases f:x.gone=true;·rw[Bw f,h.gone x (jX j) f] at hb;cases hb
   .rw[qt (by simpa using f)] at hb;injection hb with hb;exact .inl hb.symm
  .simp only[gC e];rw[oV _ _ (by omega)] at hb;exact h.hold i x j k b (by omega) hb
 .rw[q] at m;obtain⟨x,j,rfl⟩:=ox m;obtain⟨f,C⟩:=h.safe i x j F;refine⟨by rw[kW];exact f,fun k r=>?_⟩;by_cases e:k=s.iF;·subst e;simp only[if_true];exact qt f _ _
  .simp only[gC e];rw[oV _ _ (by omega)];exact C k (by omega)
theorem Core.QH{r:List Dk}(h:Core {s with gI:=r} G L lL H){k:Nat}(C:k<s.iF):Core {s with gI:=write r k (L k)} G L lL H:=by
 refine⟨h.fit,fun x m f=>?_,fun i y o j b q hb=>?_,fun i y o B=>?_⟩
 .obtain⟨y,o,b,rfl⟩:=uH m;rw[kW] at f;rw[Bw f];exact h.gone y o f
 .obtain⟨x,m,rfl⟩:=ox o;by_cases e:j=k
  .subst e;by_cases f:x.gone=true;·rw[Bw f,h.gone x (jX m) f] at hb;cases hb
   .rw[qt (by simpa using f)] at hb;injection hb with hb;exact .inl hb.symm
  .rw[oV _ _ (by omega)] at hb;exact h.hold i x m j b q hb
 .obtain⟨x,m,rfl⟩:=ox o;obtain⟨f,w⟩:=h.safe i x m B;refine⟨by rw[kW];exact f,fun j q=>?_⟩;by_cases e:j=k;·subst e;exact qt f _ _
  .rw[oV _ _ (by omega)];exact w j q
theorem Core.fresh(h:Core s G L lL H)(n:Nat)(g:Bool):Core {s with gI:=s.gI.set n ⟨g,[]⟩} G L lL (fun i=>H i∨i=n):=by
 have get:∀{i:Nat} {y:Dk},(s.gI.set n ⟨g,[]⟩)[i]?=some y->(i=n/\y=⟨g,[]⟩)∨(i≠n/\s.gI[i]?=some y):=by
  intro i y f;by_cases e:i=n
  .subst e;rw[List.getElem?_set] at f;simp only[if_true] at f;split at f;·exact .inl ⟨rfl,(kO f).symm⟩
   .cases f
  .rw[tR (fun e'=>e e'.symm)] at f;exact .inr ⟨e,f⟩
 refine⟨h.fit,fun x m q=>?_,fun i y f j b r hb=>?_,fun i y f o=>?_⟩
 .rcases lH m with m|rfl
  .exact h.gone x m q
  .rfl
 .rcases get f with⟨rfl,rfl⟩|⟨_,f⟩
  .cases hb
  .exact h.hold i y f j b r hb
 .rcases get f with⟨rfl,rfl⟩|⟨_,f⟩
  .exact absurd (Or.inr rfl) o
  .exact h.safe i y f (fun e=>o (.inl e))
theorem MQ{b:List UInt8}{t:Nat}(f:t<b.length):b.set t (b.getD t 0)=b:=by
 apply mW (by simp);intro i h j;rw[yE];split;·rename_i e;subst e;simp[List.getD,f]
 .rfl
theorem Ng{x y:UInt8}(e:y≠0):x^^^y≠x:=by
 intro h;apply e;have:x^^^(x^^^y)=x^^^x:=by rw[h]
 rw[<-UInt8.xor_assoc,UInt8.xor_self,UInt8.zero_xor] at this;exact this
theorem Core.GN(h:Core s G L lL H)(P:Ok s K){n t:Nat}{g:Int}{y:UInt8}{b:List UInt8}{x:Dk}(q:s.gI[n]?=some x)(hb:find x.bl g=some b)(B:t<b.length)(Q:y≠0->((n:Int),g)∉lL):
  Core {s with gI:=s.gI.set n ⟨x.gone,mK x.bl g (b.set t (b.getD t 0^^^y))⟩} G L (if y≠0 then((n:Int),g)::lL else lL) (fun i=>H i∨i=n):=by
 have r:=jX q;obtain⟨a,O,C⟩:=FG hb;have E:=(P.bl x r).2 a O;rw[C] at E;have o:∀z∈lL,z∈(if y≠0 then((n:Int),g)::lL else lL):=by
  intro z f;split;·exact sX _ f
  .exact f
 have F:=(nH.1 q).1;have get:∀{i:Nat} {z:Dk},(s.gI.set n ⟨x.gone,mK x.bl g (b.set t (b.getD t 0^^^y))⟩)[i]?=some z->(i=n/\z=⟨x.gone,mK x.bl g (b.set t (b.getD t 0^^^y))⟩)∨(i≠n/\s.gI[i]?=some z):=by
  intro i z f;by_cases e:i=n
  .subst e;rw[sZ F] at f;exact .inl ⟨rfl,(kO f).symm⟩
  .rw[tR (fun e'=>e e'.symm)] at f;exact .inr ⟨e,f⟩
 refine⟨h.fit,fun z f I=>?_,fun i z f j c w hc=>?_,fun i z f N=>?_⟩
 .rcases lH f with f|rfl
  .exact h.gone z f I
  .have:x.bl=[]:=h.gone x r I;rw[this] at hb;cases hb
 .rcases get f with⟨rfl,rfl⟩|⟨_,f⟩
  .by_cases e:(j:Int)=g
   .subst e;rw[tr _ hb] at hc;injection hc with hc;by_cases m:y=0
    .subst m;rw[gC (fun e=>e rfl)];have:b.getD t 0^^^0=b.getD t 0:=UInt8.xor_zero;rw[this,MQ B] at hc;rw[<-hc];exact h.hold i x q j b w hb
    .rw[gG m];rcases h.hold i x q j b w hb with e|⟨e,_⟩
     .refine .inr ⟨by simp,t,_,by rw[<-e];exact B,?_,by rw[<-e];exact hc.symm⟩;have:((L j).getD i [])[t]'(by rw[<-e];exact B)=b.getD t 0:=by simp only[<-e];simp[List.getD,B]
      rw[this];exact Ng m
     .exact absurd e (Q m)
   .rw[sT _ _ e] at hc;exact(h.hold i x q j c w hc).imp id (fun e=>⟨o _ e.1,e.2⟩)
  .exact(h.hold i z f j c w hc).imp id (fun e=>⟨o _ e.1,e.2⟩)
 .rcases get f with⟨rfl,rfl⟩|⟨_,f⟩
  .exact absurd (Or.inr rfl) N
  .exact h.safe i z f (fun e=>N (.inl e))
end
end Go.Proofs.YthhcdfjijagalaaGreat.gE
namespace Go.Proofs.YthhcdfjijagalaaGreat.gE
open Qz Go.Proofs.Tryz
section
variable {s : St} {K : Nat} {G : Nat → List gD.Ba} {L : Nat → List (List UInt8)} {lL : List (Int × Int)} {H : Nat → Prop}
theorem Core.Nx(h:Core s G L lL H)(f:Ok s K){k:Nat}(e:k<s.iF){i:Nat}:i∈gW.j9 (blocks s.gI k) k s.gI.length↔i∈wr s.gI k (L k):=by
 obtain⟨d',r,S,m,o,q,j⟩:=h.laid f e;rw[<-h.len f e];exact(h.FP f e).bad j
theorem Core.Dl(h:Core s G L lL H)(f:Ok s K){k:Nat}(e:k<s.iF):(gW.j9 (blocks s.gI k) k s.gI.length).length=(wr s.gI k (L k)).length:=by
 obtain⟨d',r,S,m,o,q,j⟩:=h.laid f e;rw[<-h.len f e];exact(h.FP f e).Dl j
theorem Core.zQ(h:Core s G L lL H)(f:Ok s K){k:Nat}(e:k<s.iF)(q:((wr s.gI k (L k)).length:Int)<=s.spare):gW.lu (blocks s.gI k) k s.data=(L k,0):=by
 have j:=h.read f e q;obtain⟨m,o⟩:=gW.zP (h.fit k e).2;have r:=f.nd;unfold gW.lu;rw[j];simp only[ne_eq,not_true,if_false,kq];rw[show(s.gI.length:Int)-s.data=s.spare by omega];exact Prod.ext m.symm o.symm
theorem Core.yj(h:Core s G L lL H)(j:Ok s K){k:Nat}(f:k<s.iF)(m:s.spare<((wr s.gI k (L k)).length:Int)):gW.lu (blocks s.gI k) k s.data=([],10):=by
 have e:=h.lost j f m;unfold gW.lu;rw[e];rfl
theorem Core.held(h:Core s G L lL H)(o:Ok s K){k:Nat}(m:k<s.iF){i:Nat}{x:Dk}(q:s.gI[i]?=some x)(r:x.gone=false)(w:i∉wr s.gI k (L k)):find x.bl k=some ((L k).getD i []):=by
 have hi:=(nH.1 q).1;have e:(blocks s.gI k).getD i []=(L k).getD i []:=(h.FP o m).no i w;have f:=h.ne o m hi;rw[mA _ _ _ q] at e;unfold jx at e;rw[gC (by rw[r];decide)] at e;cases j:find x.bl k with
 |none=>rw[j] at e;exact absurd e.symm f
 |some b=>rw[j] at e;exact congrArg some e
structure QQ (s:St) (K:Nat) (G:Nat->List gD.Ba) (L:Nat->List (List UInt8)) (lL:List (Int×Int)) (H:Nat->Prop) (k:Nat) (E:List Dk) (f:Int):Prop where
 core:Core {s with gI:=E} G L lL H
 ok:Ok {s with gI:=E} K
 gn:∀i:Nat,(E[i]?).map Dk.gone=(s.gI[i]?).map Dk.gone
 err:f=0∨f=10
 PQ:Pb H s.spare->f=0
 done:f=0->∀j:Nat,j<k->∀(i:Nat) (x:Dk),E[i]?=some x->x.gone=false->find x.bl j=some ((L j).getD i [])
theorem Core.Qk(h:Core s G L lL H)(Q:Ok s K):∀k,k<=s.iF->QQ s K G L lL H k (iK s.gI s.data k).1 (iK s.gI s.data k).2.2
 |0,_=>⟨h,Q,fun _=>rfl,.inl rfl,fun _=>rfl,fun _ j I=>absurd I (Nat.not_lt_zero _)⟩
 |k+1,hk=>by
  have m:=Core.Qk h Q k (by omega);obtain⟨E,c,f,e⟩:∃E c f,iK s.gI s.data k=(E,c,f):=⟨_,_,_,rfl⟩;rw[e] at m;simp only at m;have o:k<({s with gI:=E}:St).iF:=hk;by_cases B:gW.j9 (blocks E k) k E.length=[]
  .rw[xx e B];refine⟨m.core,m.ok,m.gn,m.err,m.PQ,fun q j I i x C w=>?_⟩;by_cases F:j=k
   .subst F;refine m.core.held m.ok o C w (fun V=>?_);have:=(m.core.Nx m.ok o).2 V;rw[show({s with gI:=E}:St).gI=E from rfl,B] at this;cases this
   .exact m.done q j (by omega) i x C w
  .by_cases S:((wr E k (L k)).length:Int)<=s.spare
   .have N:=m.core.zQ m.ok o S;have r:gW.lu (blocks E k) k s.data=(L k,0):=N;rw[xy e B (by rw[r]),r];refine⟨m.core.QH o,?_,fun i=>?_,m.err,m.PQ,fun q j I i y P w=>?_⟩
    .have U:=m.ok.gI (write E k (L k)) (lB _ _ _) (uh m.ok.bl ⟨by omega,by show(k:Int)<(s.iF:Int);omega⟩);exact U
    .show(write E k (L k))[i]?.map Dk.gone=_;rw[rO,Option.map_map,<-m.gn i];cases E[i]? with
     |none=>rfl
     |some x=>show some (uZ x k _).gone=some x.gone;rw[kW]
    .have P:(write E k (L k))[i]?=some y:=P;obtain⟨x,C,rfl⟩:=ox P;rw[kW] at w;by_cases F:j=k;·subst F;exact qt w _ _
     .rw[oV _ _ (by omega)];exact m.done q j (by omega) i x C w
   .have N:=m.core.yj m.ok o (by show s.spare<((wr E k (L k)).length:Int);omega);have r:gW.lu (blocks E k) k s.data=([],10):=N;rw[zU e B (by rw[r];decide),r];refine⟨m.core,m.ok,m.gn,?_,fun q=>?_,fun q=>?_⟩
    .show(if f=0 then(10:Int) else f)=0∨(if f=0 then(10:Int) else f)=10;rcases m.err with e|e
     .rw[gG e];exact .inr rfl
     .rw[e,gC (by decide)];exact .inr rfl
    .exact absurd (m.core.PQ m.ok q k o) S
    .have q:(if f=0 then(10:Int) else f)=0:=q;split at q;·exact absurd q (by decide)
     .rename_i O;exact absurd q O
theorem uA(s:St)(d:Do):((put s d).1=s/\((put s d).2.err≠0∨d.b.c∈s.seen))∨
  ((put s d).2.err=0/\¬d.b.c∈s.seen/\(put s d).1.data=s.data/\(put s d).1.spare=s.spare/\(put s d).1.iC=s.iC/\
   (((put s d).1.gI=s.gI/\(put s d).1.iF=s.iF/\(put s d).1.tail=s.tail++[d.b]/\((s.tail.length:Int)+1≠s.iC))∨
    (∃L',(gD.iy (s.tail++[d.b])).err=0/\gW.mv (gD.iy (s.tail++[d.b])).l (s.iF:Int) s.data s.spare L' 0/\(put s d).1.gI=write s.gI s.iF L'/\(put s d).1.iF=s.iF+1/\(put s d).1.tail=[]/\((s.tail.length:Int)+1=s.iC)))):=by
 unfold put;split;·rename_i h;exact .inl ⟨rfl,.inl h⟩
 .split;·rename_i h;exact .inl ⟨rfl,.inr h⟩
  .rename_i q;split;·exact .inl ⟨rfl,.inl (show(11:Int)≠0 by decide)⟩
   .split;·rename_i h;exact .inl ⟨rfl,.inl h⟩
    .split
     .rename_i e;have e:(s.tail.length:Int)+1=s.iC:=by rw[iH] at e;simpa using e
      split;·rename_i h;exact .inl ⟨rfl,.inl h⟩
      .rename_i f;have f:=qJ.1 f;refine .inr ⟨rfl,q,?_⟩;by_cases j:(gD.iy (s.tail++[d.b])).err≠0
       .have:jZ {s with tail:=s.tail++[d.b]}=({s with tail:=s.tail++[d.b]},(gD.iy (s.tail++[d.b])).err):=by unfold jZ;rw[gG j]
        rw[this] at f;exact absurd f j
       .by_cases m:(gW.ni (gD.iy (s.tail++[d.b])).l (s.iF:Int) s.data s.spare).2≠0
        .have:jZ {s with tail:=s.tail++[d.b]}=({s with tail:=s.tail++[d.b]},(gW.ni (gD.iy (s.tail++[d.b])).l (s.iF:Int) s.data s.spare).2):=by unfold jZ;rw[gC j,gG m]
         rw[this] at f;exact absurd f m
        .have:jZ {s with tail:=s.tail++[d.b]}=({s with gI:=write s.gI s.iF (gW.ni (gD.iy (s.tail++[d.b])).l (s.iF:Int) s.data s.spare).1,iF:=s.iF+1,tail:=[]},0):=by unfold jZ;rw[gC j,gC m]
         rw[this];have o:=gW.pQ (gD.iy (s.tail++[d.b])).l (s.iF:Int) s.data s.spare;rw[qJ.1 m] at o;exact⟨rfl,rfl,rfl,.inr ⟨_,qJ.1 j,o,rfl,rfl,rfl,e⟩⟩
     .rename_i e;have e:(s.tail.length:Int)+1≠s.iC:=by rw[iH] at e;simpa using e
      exact .inr ⟨rfl,q,rfl,rfl,rfl,.inl ⟨rfl,rfl,rfl,e⟩⟩
theorem Aw{α:Type}{G G':Nat->List α}{n:Nat}(h:∀k,k<n->G k=G' k):(List.range n).flatMap G=(List.range n).flatMap G':=by
 induction n with
 |zero=>rfl
 |succ n e=>rw[qn,qn,e (fun k f=>h k (by omega)),h n (by omega)]
theorem Core.put(h:Core s G L lL H)(C:Ok s K)(d:Do)(hd:d.kind=1):∃G' L',Core (put s d).1 G' L' lL H/\Nk (put s d).1 G'=Nk s G++qv s d:=by
 unfold qv;rw[step_put hd];rcases uA s d with⟨q,e⟩|⟨q,e,j,m,E,f⟩
 .rw[gC (by rintro⟨_,j,m⟩;rcases e with e|e;exact e j;exact m e),mY,q];exact⟨G,L,h,rfl⟩
 .rw[gG ⟨hd,q,e⟩];rcases f with⟨f,o,w,_⟩|⟨L',f,o,w,B,r,_⟩
  .refine⟨G,L,h.congr j m f o,?_⟩;unfold Nk;rw[o,w,ky]
  .refine⟨_,_,h.seal C (s.tail++[d.b]) L' f o j m w B,?_⟩;unfold Nk;rw[B,r,qn,mY,ky];simp only[if_true];rw[Aw (G':=G) (fun k F=>by rw[gC (by omega)])]
def na(s:St)(i:Nat):Prop:=∃x,s.gI[i]?=some x/\x.gone=true
noncomputable def zj(s:St)(d:Do)(H:Nat->Prop):Nat->Prop:=
 if d.kind=5∨d.kind=6∨d.kind=7 then(if (step s d).2.err=0 then fun i=>H i∨(i:Int)=d.n else H)
 else if d.kind=8 then(if (step s d).2.err=0 then na (step s d).1 else H) else H
def Ea(lL:List (Int×Int))(d:Do):List (Int×Int):=if d.kind=7/\d.y≠0 then(d.n,d.jy)::lL else lL
theorem pY(lL:List (Int×Int))(d:Do):∀x∈lL,x∈Ea lL d:=fun x e=>by
 unfold Ea;split;·exact sX _ e
 .exact e
theorem step_harm{s:St}{d:Do}(h:d.kind=5∨d.kind=6∨d.kind=7):step s d=kF s d:=by
 unfold step;rw[gC (by omega),gC (by omega),gC (by omega),gG h]
theorem step_scrub{s:St}{d:Do}(h:d.kind=8):step s d=jU s:=by
 unfold step;rw[gC (by omega),gC (by omega),gC (by omega),gC (by omega),gG h]
theorem step_other{s:St}{d:Do}(h:d.kind≠1)(j:¬(d.kind=5∨d.kind=6∨d.kind=7))(m:d.kind≠8):(step s d).1=s:=by
 unfold step;rw[gC h];by_cases e:d.kind=2∨d.kind=3;·rw[gG e]
 .rw[gC e];by_cases f:d.kind=4;·rw[gG f]
  .rw[gC f,gC j,gC m];split<;>rfl
theorem Dz{s:St}{n:Int}(e:0<=n)(f:n<s.gI.length):s.gI[n.toNat]?=some (s.gI.getD n.toNat ⟨false,[]⟩):=by
 have:n.toNat<s.gI.length:=by omega
 simp[List.getD,this]
theorem pZ(s:St)(d:Do):((kF s d).1=s/\(kF s d).2.err≠0)∨((kF s d).2.err=0/\0<=d.n/\d.n<s.gI.length/\
  ((d.kind=6/\(kF s d).1={s with gI:=s.gI.set d.n.toNat ⟨false,[]⟩})∨(d.kind=5/\(s.gI.getD d.n.toNat ⟨false,[]⟩).gone=false/\(kF s d).1={s with gI:=s.gI.set d.n.toNat ⟨true,[]⟩})∨
   (d.kind≠6/\d.kind≠5/\∃b,find (s.gI.getD d.n.toNat ⟨false,[]⟩).bl d.jy=some b/\0<=d.t/\d.t.toNat<b.length/\
    (kF s d).1={s with gI:=s.gI.set d.n.toNat ⟨(s.gI.getD d.n.toNat ⟨false,[]⟩).gone,mK (s.gI.getD d.n.toNat ⟨false,[]⟩).bl d.jy (b.set d.t.toNat (b.getD d.t.toNat 0^^^d.y))⟩}))):=by
 unfold kF;split;·exact .inl ⟨rfl,show(6:Int)≠0 by decide⟩
 .rename_i j;split;·rename_i f;exact .inr ⟨rfl,by omega,by omega,.inl ⟨f,rfl⟩⟩
  .rename_i f;split
   .rename_i e;split;·exact .inl ⟨rfl,show(8:Int)≠0 by decide⟩
    .rename_i h;exact .inr ⟨rfl,by omega,by omega,.inr (.inl ⟨e,by simpa using h,rfl⟩)⟩
   .rename_i e;split;·exact .inl ⟨rfl,show(6:Int)≠0 by decide⟩
    .rename_i b hb;split;·exact .inl ⟨rfl,show(3:Int)≠0 by decide⟩
     .rename_i m;exact .inr ⟨rfl,by omega,by omega,.inr (.inr ⟨f,e,b,hb,by omega,by omega,rfl⟩)⟩
theorem Core.kF(h:Core s G L lL H)(C:Ok s K)(d:Do)(hd:d.kind=5∨d.kind=6∨d.kind=7)(I:d.kind=7->d.y≠0->(d.n,d.jy)∉lL):Core (kF s d).1 G L (Ea lL d) (zj s d H):=by
 unfold zj;rw[gG hd,step_harm hd];rcases pZ s d with⟨o,q⟩|⟨o,q,B,j⟩
 .rw[o,gC q];exact h.mono (pY lL d) (fun _ e=>e)
 .rw[gG o];have m:=Dz q B;have r:((d.n.toNat:Nat):Int)=d.n:=by omega
  rcases j with⟨_,j⟩|⟨_,_,j⟩|⟨N,O,b,hb,F,E,j⟩
  .rw[j];exact(h.fresh d.n.toNat false).mono (pY lL d) (fun i e=>e.imp id (fun e=>by omega))
  .rw[j];exact(h.fresh d.n.toNat true).mono (pY lL d) (fun i e=>e.imp id (fun e=>by omega))
  .rw[j];have w:d.kind=7:=by omega
   refine(h.GN C m hb E (fun f=>by rw[r];exact I w f)).mono (fun x m=>?_) (fun i e=>e.imp id (fun e=>by omega));unfold Ea;by_cases f:d.y≠0
   .rw[gG f,r] at m;rw[gG ⟨w,f⟩];exact m
   .rw[gC f] at m;rw[gC (fun e=>f e.2)];exact m
theorem Core.jU(h:Core s G L lL H)(e:Ok s K):Core (jU s).1 G L lL H:=(h.Qk e s.iF gM).core
theorem Core.GK(h:Core s G L lL H)(w:Ok s K)(o:(gE.jU s).2.err=0):Core (gE.jU s).1 G L lL (na (gE.jU s).1):=by
 have f:=h.Qk w s.iF gM;refine⟨f.core.fit,f.core.gone,f.core.hold,fun i x m r=>?_⟩;have j:x.gone=false:=by
  cases e:x.gone with
  |false=>rfl
  |true=>exact absurd ⟨x,m,e⟩ r
 exact⟨j,fun k q=>f.done o k q i x m j⟩
theorem Jq{s:St}{d:Do}(h:d.kind≠1):qv s d=[]:=by unfold qv;rw[gC (fun e=>h e.1)]
theorem CF(s:St)(d:Do):(gE.kF s d).1.iF=s.iF/\(gE.kF s d).1.tail=s.tail:=by
 rcases pZ s d with⟨e,_⟩|⟨_,_,_,⟨_,e⟩|⟨_,_,e⟩|⟨_,_,_,_,_,_,e⟩⟩<;>rw[e]<;>exact⟨rfl,rfl⟩
theorem Core.step(h:Core s G L lL H)(o:Ok s K)(d:Do)(B:d.kind=7->d.y≠0->(d.n,d.jy)∉lL):∃G' L',Core (step s d).1 G' L' (Ea lL d) (zj s d H)/\Nk (step s d).1 G'=Nk s G++qv s d:=by
 by_cases f:d.kind=1
 .obtain⟨G',L',q,r⟩:=h.put o d f;refine⟨G',L',?_,by rw[step_put f];exact r⟩;rw[step_put f];unfold zj;rw[gC (by omega),gC (by omega)];exact q.mono (pY lL d) (fun _ e=>e)
 .rw[Jq f,mY];by_cases j:d.kind=5∨d.kind=6∨d.kind=7
  .have:=h.kF o d j B;rw[step_harm j];refine⟨G,L,this,?_⟩;unfold Nk;rw[(CF s d).1,(CF s d).2]
  .by_cases m:d.kind=8
   .refine⟨G,L,?_,?_⟩
    .unfold zj;rw[gC j,gG m,step_scrub m];split;·rename_i w;exact(h.GK o w).mono (pY lL d) (fun _ e=>e)
     .exact(h.jU o).mono (pY lL d) (fun _ e=>e)
    .rw[step_scrub m];rfl
   .have:=step_other (s:=s) f j m;rw[this];refine⟨G,L,?_,rfl⟩;unfold zj;rw[gC j,gC m];exact h.mono (pY lL d) (fun _ e=>e)
end
structure J (s:St) (X:List gD.Ba) (lL:List (Int×Int)) (H:Nat->Prop) (K:Nat):Prop where
 ok:Ok s K
 inv:Inv s X
 core:∃G L,Core s G L lL H/\Nk s G=X
theorem J.start{d p b:Int}(h:kA d p b=0)(H:Nat->Prop):J (start d p b) [] [] H 0:=⟨Ok.start h,Inv.start d p b,fun _=>[],fun _=>[],Core.start d p b _ _ H,rfl⟩
theorem J.step{s:St}{X:List gD.Ba}{lL:List (Int×Int)}{H:Nat->Prop}{K:Nat}(h:J s X lL H K)(d:Do)(m:d.kind=7->d.y≠0->(d.n,d.jy)∉lL):J (step s d).1 (X++qv s d) (Ea lL d) (zj s d H) (K+1):=by
 obtain⟨G,L,hc,j⟩:=h.core;obtain⟨G',L',e,f⟩:=hc.step h.ok d m;exact⟨h.ok.step d,h.inv.step d,G',L',e,by rw[f,j]⟩
theorem J.all{s:St}{X:List gD.Ba}{lL:List (Int×Int)}{H:Nat->Prop}{K:Nat}(h:J s X lL H K):all s=(X,0)∨all s=([],10):=by
 obtain⟨G,L,hc,e⟩:=h.core;rw[<-e];exact hc.all h.ok
theorem J.tk{s:St}{X:List gD.Ba}{lL:List (Int×Int)}{H:Nat->Prop}{K:Nat}(h:J s X lL H K)(e:Pb H s.spare):gE.all s=(X,0):=by
 obtain⟨G,L,hc,f⟩:=h.core;rw[<-f];exact hc.tk h.ok (hc.PQ h.ok e)
theorem J.GJ{s:St}{X:List gD.Ba}{lL:List (Int×Int)}{H:Nat->Prop}{K:Nat}(h:J s X lL H K)(e:Pb H s.spare):(gE.jU s).2.err=0:=by
 obtain⟨G,L,hc,f⟩:=h.core;exact(hc.Qk h.ok s.iF gM).PQ e
theorem J.gone{s:St}{X:List gD.Ba}{lL:List (Int×Int)}{H:Nat->Prop}{K:Nat}(h:J s X lL H K){i:Nat}(e:na s i):H i:=by
 obtain⟨G,L,hc,m⟩:=h.core;obtain⟨x,j,e⟩:=e;refine mU fun f=>?_;rw[(hc.safe i x j f).1] at e;cases e
theorem J.mono{s:St}{X:List gD.Ba}{lL:List (Int×Int)}{H f:Nat->Prop}{K:Nat}(h:J s X lL H K)(j:∀i,H i->f i):J s X lL f K:=by
 obtain⟨G,L,hc,m⟩:=h.core;exact⟨h.ok,h.inv,G,L,hc.mono (fun _ e=>e) j,m⟩
end Go.Proofs.YthhcdfjijagalaaGreat.gE
namespace Go.Proofs.YthhcdfjijagalaaGreat.gE
open Qz Go.Proofs.Tryz
theorem Inv.upto{s:St}{X:List gD.Ba}(hi:Inv s X):s.ls.upto=((events X).length:Int):=by
 obtain⟨f,e⟩:=Vw.DZ hi.err;have h:=hi.err;rw[e] at h;have:=(Vw.DY _ _ 0 f h).2;rw[<-hi.ls,e,this];show(0:Int)+_=_;omega
end Go.Proofs.YthhcdfjijagalaaGreat.gE
namespace Go.Proofs.YthhcdfjijagalaaGreat.gE
open Qz Go.Proofs.Tryz
theorem uD(s:St)(l:List Do)(d:Do):run s (l++[d])=((step (run s l).1 d).1,(run s l).2++[(step (run s l).1 d).2]):=by
 induction l generalizing s with
 |nil=>rfl
 |cons a l e=>show run s (a::(l++[d]))=_;unfold run;rw[e];rfl
theorem Ol(s:St)(l:List Do):(run s l).2.length=l.length:=by
 induction l generalizing s with
 |nil=>rfl
 |cons a l e=>show(run s (a::l)).2.length=_;unfold run;simp[e]
noncomputable def C8(s:St)(l:List Do)(k:Nat):St:=(run s (l.take k)).1
theorem oU{α:Type}(l:List α)(k:Nat)(h:k<l.length):l.take (k+1)=l.take k++[l[k]]:=by
 rw[qg,jz h];rfl
theorem ue(s:St)(l:List Do)(k:Nat)(h:k<l.length):C8 s l (k+1)=(step (C8 s l k) l[k]).1:=by
 unfold C8;rw[oU l k h,uD]
theorem GF(s:St)(d:Do)(l:List Do):run s (d::l)=((run (step s d).1 l).1,(step s d).2::(run (step s d).1 l).2):=rfl
theorem Oi(s:St)(l m:List Do):(run s (l++m)).2=(run s l).2++(run (run s l).1 m).2/\(run s (l++m)).1=(run (run s l).1 m).1:=by
 induction l generalizing s with
 |nil=>exact⟨rfl,rfl⟩
 |cons a l e=>
  rw[yD,GF,GF,(e _).1,(e _).2];exact⟨rfl,rfl⟩
theorem IJ(s:St)(l:List Do)(k:Nat)(h:k<l.length):(run s l).2[k]?=some (step (C8 s l k) l[k]).2:=by
 have e:l=l.take (k+1)++l.drop (k+1):=(AY _ _).symm;have j:=(Oi s (l.take (k+1)) (l.drop (k+1))).1;rw[<-e,oU l k h,uD] at j;rw[j];have f:(run s (l.take k)).2.length=k:=by rw[Ol,jh];omega
 rw[ky,sY (by rw[f];exact jb _),f,lU];rfl
theorem IT(s:St)(l:List Do)(d:Do):qQ s (l++[d])=qQ s l++qv (run s l).1 d:=by
 induction l generalizing s with
 |nil=>show qv s d++[]=[]++qv s d;simp
 |cons a l e=>
  show qv s a++qQ (step s a).1 (l++[d])=(qv s a++qQ (step s a).1 l)++qv (run s (a::l)).1 d;rw[e,ky];rfl
theorem vS(s:St)(l:List Do)(k:Nat)(h:k<l.length):qQ s (l.take (k+1))=qQ s (l.take k)++qv (C8 s l k) l[k]:=by
 rw[oU l k h,IT];rfl
def lY(l:List Do)(a:List An):Nat->List Int×List gD.Ev
 |0=>([],[])
 |k+1=>match l[k]?,a[k]? with
  |some d,some x=>if d.kind=1/\x.err=0/\¬d.b.c∈(lY l a k).1 then((lY l a k).1++[d.b.c],(lY l a k).2++d.b.il) else lY l a k
  |_,_=>lY l a k
theorem GZ{l:List Do}{a:List An}{k:Nat}{d:Do}{x:An}(e:l[k]?=some d)(f:a[k]?=some x):
  lY l a (k+1)=if d.kind=1/\x.err=0/\¬d.b.c∈(lY l a k).1 then((lY l a k).1++[d.b.c],(lY l a k).2++d.b.il) else lY l a k:=by
 show(match l[k]?,a[k]? with
  |some d,some x=>if d.kind=1/\x.err=0/\¬d.b.c∈(lY l a k).1 then((lY l a k).1++[d.b.c],(lY l a k).2++d.b.il) else lY l a k
  |_,_=>lY l a k)=_
 rw[e,f]
theorem G0(s:St)(w:s.seen=[])(l:List Do):∀k,k<=l.length->(lY l (run s l).2 k).2=events (qQ s (l.take k))/\∀c,c∈(lY l (run s l).2 k).1↔c∈(C8 s l k).seen
 |0,_=>⟨rfl,fun c=>by show c∈([]:List Int)↔c∈s.seen;rw[w]⟩
 |k+1,hk=>by
  obtain⟨r,o⟩:=G0 s w l k (by omega);have m:k<l.length:=by omega
  rw[GZ (jz m) (IJ s l k m),vS s l k m,ue s l k m,pX];generalize C8 s l k=st at *;generalize l[k]=d at *;by_cases hd:d.kind=1
  .rw[step_put hd];have C:qv st d=if d.kind=1/\(put st d).2.err=0/\¬d.b.c∈st.seen then[d.b] else[]:=by unfold qv;rw[step_put hd]
   rw[C];rcases Gr st d with⟨q,e2⟩|⟨q,e2,G,I,B⟩
   .have f:¬(d.kind=1/\(put st d).2.err=0/\¬d.b.c∈st.seen):=by rintro⟨_,E,F⟩;rcases e2 with e2|e2;exact e2 E;exact F e2
    have j:¬(d.kind=1/\(put st d).2.err=0/\¬d.b.c∈(lY l (run s l).2 k).1):=by rw[o];exact f
    rw[gC f,gC j,q];exact⟨by rw[r];simp[events],o⟩
   .have f:(d.kind=1/\(put st d).2.err=0/\¬d.b.c∈st.seen):=⟨hd,q,e2⟩;have j:(d.kind=1/\(put st d).2.err=0/\¬d.b.c∈(lY l (run s l).2 k).1):=by rw[o];exact f
    rw[gG f,gG j,B];refine⟨by rw[r];simp[events],fun c=>?_⟩;rw[wO,kd,o,iA];constructor<;>(rintro(h|h)<;>simp[h])
  .rw[Jq hd,gC (fun e=>hd e.1),(step_keeps hd).1];exact⟨by rw[r];simp[events],o⟩
def wI(l:List Do):Nat->List (Int×Int)
 |0=>[]
 |k+1=>match l[k]? with
  |some d=>Ea (wI l k) d
  |none=>wI l k
theorem Ay{l:List Do}{k:Nat}(h:k<l.length):wI l (k+1)=Ea (wI l k) l[k]:=by
 show(match l[k]? with
  |some d=>Ea (wI l k) d
  |none=>wI l k)=_
 rw[jz h]
def Ph(l:List Do):Prop:=∀k (h:k<l.length),l[k].kind=7->l[k].y≠0->(l[k].n,l[k].jy)∉wI l k
theorem J.run{d p b:Int}(h:kA d p b=0){l:List Do}(f:Ph l):∀k,k<=l.length->J (C8 (gE.start d p b) l k) (qQ (gE.start d p b) (l.take k)) (wI l k) (fun _=>True) k
 |0,_=>J.start h _
 |k+1,hk=>by
  have j:=J.run h f k (by omega);have e:k<l.length:=by omega
  rw[ue _ _ _ e,vS _ _ _ e,Ay e];exact(j.step l[k] (f k e)).mono (fun _ _=>trivial)
def Dd(d:Do)(a:An)(all:List gD.Ev):Prop:=
 if d.kind=3 then(if d.n<0∨(all.length:Int)<d.n then a.err=3 else a.err=0/\a.n=all.length/\a.il=all.drop d.n.toNat)
 else if d.kind=2 then(if gD.named (gD.kP d.stream)=false then a.err=7 else a.err=0/\a.n=(all.filter fun x=>decide (x.s=d.stream)).length/\a.il=all.filter fun x=>decide (x.s=d.stream))
 else if d.kind=4 then(Vw.fold Vw.iL all).err=0/\a.err=0/\a.n=all.length/\a.view=(Vw.fold Vw.iL all).v
 else True
theorem M7{X:List gD.Ba}{s:St}(hi:Inv s X):(Vw.fold Vw.iL (events X)).v.upto=((events X).length:Int):=by
 rw[hi.ls,hi.upto]
theorem Jv{s:St}{X:List gD.Ba}(e:all s=(X,0))(d:Do):read s d=if d.kind=3 then(if d.n<0∨((events X).length:Int)<d.n then nf 3 else⟨0,(events X).length,(events X).drop d.n.toNat,Vw.iL⟩)
  else if gD.named (gD.kP d.stream)=false then nf 7 else⟨0,((events X).filter fun x=>decide (x.s=d.stream)).length,(events X).filter fun x=>decide (x.s=d.stream),Vw.iL⟩:=by
 unfold read;rw[e,gC (show¬((X,(0:Int)).2≠0) from fun h=>h rfl)]
theorem Hh{s:St}{X:List gD.Ba}(hi:Inv s X)(f:all s=(X,0))(d:Do):Dd d (step s d).2 (events X):=by
 unfold Dd;split
 .rename_i e;have:(step s d).2=read s d:=by unfold step;rw[gC (by omega),gG (.inr e)]
  rw[this,Jv f,gG e];split;·rfl
  .exact⟨rfl,rfl,rfl⟩
 .rename_i e;split
  .rename_i j;have:(step s d).2=read s d:=by unfold step;rw[gC (by omega),gG (.inl j)]
   rw[this,Jv f,gC e];split;·rfl
   .exact⟨rfl,rfl,rfl⟩
  .rename_i j;split
   .rename_i m;have:(step s d).2=look s:=by unfold step;rw[gC (by omega),gC (by omega),gG m]
    rw[this];unfold look;rw[f,gC (show¬((X,(0:Int)).2≠0) from fun h=>h rfl)];exact⟨hi.err,hi.err,M7 hi,rfl⟩
   .trivial
theorem Jt{d p b:Int}{l:List Do}(e:kA d p b=0)(f:l.length<=80):tg d p b l=((run (start d p b) l).1,(run (start d p b) l).2,0):=by
 unfold tg;rw[gC (by intro h;exact h e),gC (by omega)]
theorem Inv.from(d p b:Int)(l:List Do):Inv (gE.run (gE.start d p b) l).1 (qQ (gE.start d p b) l):=by
 have:=(Inv.start d p b).run l;rwa[mZ] at this
end Go.Proofs.YthhcdfjijagalaaGreat.gE

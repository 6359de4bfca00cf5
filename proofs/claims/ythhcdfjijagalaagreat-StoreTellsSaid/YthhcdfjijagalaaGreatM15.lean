import Derived.Test.YthhcdfjijagalaaGreatM13
import Derived.Test.YthhcdfjijagalaaGreatM14
set_option linter.all false
set_option maxHeartbeats 2000000
namespace Go.Proofs.YthhcdfjijagalaaGreat.Vw
open Qz Go.Proofs.Tryz
theorem Jn{a b:ByteArray}(h:gD.kP a=gD.kP b):a=b:=by
 cases a with|mk a=>cases b with|mk b=>
 unfold gD.kP at h;have:a=b:=Array.toList_inj.1 h;rw[this]
theorem py{a b:Acc}:key a=key b↔a.s=b.s:=⟨Jn,fun h=>by unfold key;rw[h]⟩
theorem vz(a:List UInt8):¬a<a:=List.lt_irrefl a
theorem L5{a b c:List UInt8}(h:a<b)(k:b<c):a<c:=List.lt_trans h k
def Bn(l:List Acc):Int:=(l.map Acc.jO).sum
theorem GS:Bn []=0:=rfl
theorem mQ(a:Acc)(l:List Acc):Bn (a::l)=a.jO+Bn l:=by simp[Bn]
def Up:Option (List UInt8)->List Acc->Prop
 |_,[]=>True
 |p,a::r=>(∀q,p=some q->q<key a)/\Up (some (key a)) r
def G6(u:Int)(l:List Acc):Prop:=∀a∈l,gD.named (key a)=true/\¬my u a
theorem G6.pos{u:Int}{l:List Acc}(h:G6 u l):0<=Bn l/\(l.length:Int)<=Bn l:=by
 induction l with
 |nil=>exact⟨Int.le_refl _,Int.le_refl _⟩
 |cons a l j=>
  have m:=j (fun x f=>h x (sX _ f));have e:=(h a (AZ ..)).2;unfold my at e;rw[mQ,l8];constructor<;>omega
theorem OE(u:Int)(l:List Acc):∀(i:Nat) (c:Int) (p:Option (List UInt8)),(wl u i c p l).1=0↔G6 u l/\Up p l/\c+Bn l=u:=by
 induction l with
 |nil=>
  intro i c p;unfold wl;rw[GS];by_cases h:c=u
  .rw[gC (fun k=>k h)];exact⟨fun _=>⟨fun a C=>by(cases C),trivial,by omega⟩,fun _=>rfl⟩
  .rw[gG h];exact⟨fun k=>by(cases k),fun k=>by omega⟩
 |cons a l E=>
  intro i c p;have B:CZ p a↔∀q,p=some q->q<key a:=by
   cases p with
   |none=>exact⟨fun _ q e=>by(cases e),fun _=>trivial⟩
   |some q=>exact⟨fun h I e=>by cases e;exact h,fun h=>h q rfl⟩
  unfold wl;by_cases f:gD.named (key a)=false
  .rw[gG f];exact⟨fun k=>by(cases k),fun k=>by have:=(k.1 a (AZ ..)).1;rw[f] at this;cases this⟩
  .rw[gC f];by_cases j:my u a
   .rw[gG j];exact⟨fun k=>by(cases k),fun k=>absurd j (k.1 a (AZ ..)).2⟩
   .rw[gC j];by_cases m:CZ p a
    .rw[gC (fun k=>k m)];by_cases w:u<c+a.jO
     .rw[gG w];refine⟨fun k=>by(cases k),fun k=>?_⟩;have G:=G6.pos (u:=u) (l:=l) (fun x hx=>k.1 x (sX _ hx));have:=k.2.2;rw[mQ] at this;omega
     .rw[gC w,E,mQ];constructor
      .rintro⟨o,r,F⟩;refine⟨fun x hx=>?_,⟨B.1 m,r⟩,by omega⟩;rcases jC.1 hx with rfl|hx
       .exact⟨by simpa using f,j⟩
       .exact o x hx
      .rintro⟨o,r,F⟩;exact⟨fun x hx=>o x (sX _ hx),r.2,by omega⟩
    .rw[gG m];exact⟨fun k=>by(cases k),fun k=>absurd (B.2 k.2.1.1) m⟩
structure Good (v:Vi):Prop where
 lo:0<=v.upto
 hi:v.upto<=150
 each:G6 v.upto v.ib
 up:Up none v.ib
 sum:Bn v.ib=v.upto
theorem l9(v:Vi):(iX v).1=0↔Good v:=by
 unfold iX;by_cases h:v.upto<0∨150<v.upto
 .rw[gG h];exact⟨fun k=>by(cases k),fun k=>by have:=k.lo;have:=k.hi;omega⟩
 .rw[gC h,OE];exact⟨fun k=>⟨by omega,by omega,k.1,k.2.1,by have:=k.2.2;omega⟩,fun k=>⟨k.each,k.up,by rw[k.sum];omega⟩⟩
theorem Good.len{v:Vi}(h:Good v):(v.ib.length:Int)<=v.upto:=by have:=h.each.pos;rw[h.sum] at this;exact this.2
theorem Up.all{l:List Acc}:∀{p:List UInt8},Up (some p) l->∀a∈l,p<key a:=by
 induction l with
 |nil=>intro p _ a ha;cases ha
 |cons x l e=>
  intro p h a ha;rcases jC.1 ha with rfl|ha
  .exact h.1 p rfl
  .exact L5 (h.1 p rfl) (e h.2 a ha)
theorem Up.none{l:List Acc}{p:Option (List UInt8)}(h:Up p l):Up Option.none l:=by
 cases l with
 |nil=>trivial
 |cons a l=>exact⟨fun q e=>by(cases e),h.2⟩
theorem Up.get{l:List Acc}:∀{p:Option (List UInt8)},Up p l->∀i j (hi:i<l.length) (f:j<l.length),i<j->key l[i]<key l[j]:=by
 induction l with
 |nil=>intro p _ i j hi;exact absurd hi (by simp)
 |cons a l m=>
  intro p h i j hi f e;cases i with
  |zero=>
   cases j with
   |zero=>exact absurd e (by omega)
   |succ j=>exact Up.all h.2 _ (iE _)
  |succ i=>
   cases j with
   |zero=>exact absurd e (by omega)
   |succ j=>exact m h.2 i j (by simpa using hi) (by simpa using f) (by omega)
theorem CL(a:Acc):∀(l:List Acc) (i:Nat) (h:i<l.length),(∀j (m:j<l.length),j<i->key l[j]<key a)->key l[i]=key a->ins a l=l.set i a:=by
 intro l;induction l with
 |nil=>intro i h;exact absurd h (by simp)
 |cons x l r=>
  intro i h f e;unfold ins;cases i with
  |zero=>
   have e:key x=key a:=e;rw[gC (by rw[e];exact vz _),gG (py.1 e)];rfl
  |succ i=>
   have o:key x<key a:=f 0 (by simp) (by omega);rw[gG o,r i (by simpa using h) (fun j m q=>f (j+1) (by simpa using m) (by omega)) e];rfl
theorem Ec(a:Acc):∀(l:List Acc) (i:Nat),i<=l.length->(∀j (o:j<l.length),j<i->key l[j]<key a)->(∀(h:i<l.length),¬key l[i]<key a/\key l[i]≠key a)->ins a l=l.take i++a::l.drop i:=by
 intro l;induction l with
 |nil=>intro i h _ _;simp[ins]
 |cons x l B=>
  intro i h f m;unfold ins;cases i with
  |zero=>
   have:¬key x<key a/\key x≠key a:=m (by simp);rw[gC this.1,gC (fun e=>this.2 (py.2 e))];rfl
  |succ i=>
   have q:key x<key a:=f 0 (by simp) (by omega);rw[gG q,B i (by simpa using h) (fun j o w=>f (j+1) (by simpa using o) (by omega)) (fun r=>m (by simpa using r))];rfl
theorem Jf(l:List Acc)(s:ByteArray):(get l s).s=s:=by
 induction l with
 |nil=>rfl
 |cons a l e=>
  unfold get;by_cases h:a.s=s;·rw[gG h];exact h
  .rw[gC h];exact e
theorem get_mem(l:List Acc)(s:ByteArray):get l s∈l∨(get l s=new s/\∀a∈l,a.s≠s):=by
 induction l with
 |nil=>exact .inr ⟨rfl,fun a f=>by(cases f)⟩
 |cons a l e=>
  unfold get;by_cases h:a.s=s;·rw[gG h];exact .inl (AZ ..)
  .rw[gC h];rcases e with e|⟨e,k⟩
   .exact .inl (sX _ e)
   .refine .inr ⟨e,fun x hx=>?_⟩;rcases jC.1 hx with rfl|hx
    .exact h
    .exact k x hx
theorem G6.bounds{u:Int}{l:List Acc}(h:G6 u l)(s:ByteArray)(f:0<=u):0<=(get l s).jO/\(get l s).jO<=u/\-1000000*(get l s).jO<=(get l s).sum/\(get l s).sum<=1000000*(get l s).jO:=by
 rcases get_mem l s with e|⟨e,_⟩
 .have:=(h _ e).2;unfold my at this;omega
 .rw[e];unfold new;simp only;omega
theorem PG(a:Acc)(e:gD.Ev):(plus a e).s=a.s:=by
 unfold plus;split;·rfl
 .split<;>rfl
theorem Mq(a:Acc)(e:gD.Ev):(plus a e).jO=a.jO+1:=by
 unfold plus;split;·rfl
 .split<;>rfl
theorem MZ(a:Acc)(l:List Acc)(h:Up none l):Bn (ins a l)=Bn l+a.jO-(get l a.s).jO:=by
 induction l with
 |nil=>show Bn [a]=_;rw[mQ,GS];unfold get new;simp only;omega
 |cons x l r=>
  unfold ins;by_cases f:key x<key a
  .rw[gG f,mQ,r h.2.none,mQ];have:get (x::l) a.s=get l a.s:=by
    conv=>lhs;unfold get
    rw[gC (fun e=>by rw[py.2 e] at f;exact vz _ f)]
   rw[this];omega
  .rw[gC f];by_cases j:x.s=a.s
   .rw[gG j,mQ,mQ];unfold get;rw[gG j];omega
   .rw[gC j,mQ];have q:get (x::l) a.s=new a.s:=by
     rcases get_mem (x::l) a.s with hm|⟨hm,_⟩
     .exfalso;have m:=Jf (x::l) a.s;rcases jC.1 hm with o|hm
      .rw[o] at m;exact j m
      .have:=Up.all h.2 _ hm;rw[show key (get (x::l) a.s)=key a from py.2 m] at this;exact f this
     .exact hm
    rw[q];unfold new;simp only;omega
theorem PN(a:Acc)(l:List Acc):∀(p:Option (List UInt8)),(∀q,p=some q->q<key a)->Up p l->Up p (ins a l):=by
 induction l with
 |nil=>intro p m _;exact⟨m,trivial⟩
 |cons x l w=>
  intro p m h;unfold ins;by_cases f:key x<key a
  .rw[gG f];exact⟨h.1,w _ (fun q e=>by cases e;exact f) h.2⟩
  .rw[gC f];by_cases j:x.s=a.s
   .rw[gG j];have r:=py.2 j;refine⟨m,?_⟩;rw[<-r];exact h.2
   .rw[gC j];have o:key a<key x:=by
     rcases oj (key a<key x) with h3|h3
     .exact h3
     .exact absurd (py.1 (List.le_antisymm (ri.1 h3) (ri.1 f))) j
    exact⟨m,fun q e=>by cases e;exact o,h.2⟩
theorem NQ{a x:Acc}{l:List Acc}(h:x∈ins a l):x=a∨x∈l:=by
 induction l with
 |nil=>exact .inl (by simpa[ins] using h)
 |cons y l e=>
  unfold ins at h;split at h
  .rcases jC.1 h with rfl|h
   .exact .inr (AZ ..)
   .rcases e h with h|h
    .exact .inl h
    .exact .inr (sX _ h)
  .split at h
   .rcases jC.1 h with rfl|h
    .exact .inl rfl
    .exact .inr (sX _ h)
   .rcases jC.1 h with rfl|h
    .exact .inl rfl
    .exact .inr h
theorem Li{v:Vi}{e:gD.Ev}(h:(apply v e).err=0):Good v/\gD.iW e=0/\v.upto≠150/\may (get v.ib e.s) e=true/\(apply v e).v=⟨v.upto+1,ins (plus (get v.ib e.s) e) v.ib⟩:=by
 unfold apply at *;by_cases f:(iX v).1≠0;·rw[gG f] at h;exact absurd h f
 .rw[gC f] at h⊢;by_cases j:gD.iW e≠0;·rw[gG j] at h;exact absurd h j
  .rw[gC j] at h⊢;by_cases m:v.upto=150;·rw[gG m] at h;cases h
   .rw[gC m] at h⊢;by_cases o:may (get v.ib e.s) e=false;·rw[gG o] at h;cases h
    .rw[gC o];exact⟨(l9 v).1 (mU f),mU j,m,by simpa using o,rfl⟩
theorem Iv{u:Int}{a:Acc}{e:gD.Ev}(f:0<=a.jO)(hc:a.jO<=u)(o:-1000000*a.jO<=a.sum)(q:a.sum<=1000000*a.jO)(h:gD.iW e=0):¬my (u+1) (plus a e):=by
 obtain⟨_,_,_,j,m⟩:=gD.lC h;unfold my plus;split;·simp only;omega
 .split;·simp only;omega
  .simp only;omega
theorem Hi{v:Vi}{e:gD.Ev}(h:(apply v e).err=0):Good (apply v e).v/\(apply v e).v.upto=v.upto+1:=by
 obtain⟨f,m,B,C,o⟩:=Li h;rw[o];have hb:=f.each.bounds e.s f.lo;have w:=f.lo;have r:=f.hi;have j:=PG (get v.ib e.s) e;rw[Jf] at j;refine⟨⟨by simp only;omega,by simp only;omega,?_,PN _ _ none (fun q k=>by(cases k)) f.up,?_⟩,rfl⟩
 .intro a ha;rcases NQ ha with rfl|ha
  .refine⟨?_,Iv hb.1 hb.2.1 hb.2.2.1 hb.2.2.2 m⟩;unfold key;rw[j];exact(gD.lC m).1
  .have:=f.each a ha;refine⟨this.1,fun k=>this.2 ?_⟩;unfold my at k⊢;have E:=f.each.pos;simp only at k;rcases k with k|k|k|k
   .exact .inl k
   .exact .inr (.inl (by omega))
   .exact .inr (.inr (.inl k))
   .exact .inr (.inr (.inr k))
 .rw[MZ _ _ f.up,f.sum,j,Mq];simp only;omega
theorem rZ(v:Vi)(e:gD.Ev)(l:List gD.Ev)(i:Nat):fo v (e::l) i=if (apply v e).err≠0 then⟨iL,(apply v e).err,(i:Int)⟩ else fo (apply v e).v l (i+1):=rfl
theorem Pr(f:List gD.Ev):∀(v:Vi) (j:List gD.Ev) (i:Nat),fo v (f++j) i=if (fo v f i).err≠0 then fo v f i else fo (fo v f i).v j (i+f.length):=by
 induction f with
 |nil=>intro v j i;simp[fo]
 |cons e l m=>
  intro v j i;rw[yD,rZ,rZ];by_cases h:(apply v e).err≠0;·rw[gG h,gG h,gG h]
  .rw[gC h,gC h,m,l8,show i+1+l.length=i+(l.length+1) by omega]
theorem LD(l:List gD.Ev):∀(v:Vi) (i j:Nat),(fo v l i).v=(fo v l j).v/\(fo v l i).err=(fo v l j).err:=by
 induction l with
 |nil=>intro v i j;exact⟨rfl,rfl⟩
 |cons e l f=>
  intro v i j;rw[rZ,rZ];split;·exact⟨rfl,rfl⟩
  .exact f _ _ _
theorem Ps(l:List gD.Ev):∀(v:Vi) (i:Nat),(fo v l i).err≠0->(fo v l i).v=iL:=by
 induction l with
 |nil=>intro v i h;exact absurd rfl h
 |cons e l j=>
  intro v i h;rw[rZ] at h⊢;split;·rfl
  .rename_i f;rw[gC f] at h;exact j _ _ h
theorem DY(l:List gD.Ev):∀(v:Vi) (i:Nat),Good v->(fo v l i).err=0->Good (fo v l i).v/\(fo v l i).v.upto=v.upto+l.length:=by
 induction l with
 |nil=>intro v i h _;exact⟨h,by simp[fo]⟩
 |cons e l m=>
  intro v i h j;rw[rZ] at j⊢;split at j;·rename_i f;exact absurd j f
  .rename_i f;rw[gC f];have f:(apply v e).err=0:=mU f;have g:=Hi f;have:=m _ _ g.1 j;refine⟨this.1,?_⟩;rw[this.2,g.2,l8];omega
theorem DZ{v:Vi}{l:List gD.Ev}(h:(fold v l).err=0):Good v/\fold v l=fo v l 0:=by
 unfold fold at *;by_cases e:(iX v).1≠0;·rw[gG e] at h;exact absurd h e
 .rw[gC e];exact⟨(l9 v).1 (mU e),rfl⟩
theorem Jb{v:Vi}(h:Good v)(l:List gD.Ev):fold v l=fo v l 0:=by
 unfold fold;rw[gC (fun k=>k ((l9 v).2 h))]
theorem LF{v:Vi}{l:List gD.Ev}(h:(fold v l).err≠0):(fold v l).v=iL:=by
 unfold fold at *;split;·rfl
 .rename_i e;rw[gC e] at h;exact Ps _ _ _ h
end Go.Proofs.YthhcdfjijagalaaGreat.Vw
namespace Go.Proofs.YthhcdfjijagalaaGreat
open Qz Go.Proofs.Tryz Go.RowKit
def xO(r:Vw.St)(w:World)(e:Ending)(w':World):Prop:=∃a n cap,e=.returned (.tuple #[iJ r.v.upto a n cap,r.err])/\As w' a n cap r.v.ib/\Below w w w'
theorem xH{w w':World}{E:Int}(hb:Below w w w'):xO ⟨Vw.iL,E⟩ w (.returned (.tuple #[.agg #[gy,()],E])) w':=⟨none,0,0,rfl,As.nil _,hb⟩
def vU(r:Vw.St)(w:World)(e:Ending)(w':World):Prop:=∃a n cap,e=.returned (.tuple #[iJ r.v.upto a n cap,r.err])/\As w' a n cap r.v.ib/\Below w w w'/\w'.ownsRow w.heap.size 55 4 (.slice a n cap) n (gR r.v.ib)
theorem vU.A9{r:Vw.St}{w:World}{e:Ending}{w':World}(h:vU r w e w'):xO r w e w':=by
 obtain⟨a,n,cap,f,j,m,_⟩:=h;exact⟨a,n,cap,f,j,m⟩
theorem uG{w w':World}{E:Int}(hb:Below w w w'):vU ⟨Vw.iL,E⟩ w (.returned (.tuple #[.agg #[gy,()],E])) w':=⟨none,0,0,rfl,As.nil _,hb,iY _ _ _ _⟩
theorem kL(w:World)(e f h:Obj)(j:World)(hb:Below (((w.alloc e).alloc f).alloc h).heap.size (((w.alloc e).alloc f).alloc h) j):
  j.heap[w.heap.size]?=some e/\j.heap[w.heap.size+1]?=some f/\j.heap[w.heap.size+1+1]?=some h/\w.heap.size+1+1<j.heap.size/\Below w w j:=by
 have r:=hb.size;simp only[jH] at r;have n1:=gO w e;have n2:=gO (w.alloc e) f;have q:=gO ((w.alloc e).alloc f) h;simp only[jH] at n2 q;have m:=gF (o':=h) (gF (o':=f) n1);have o:=gF (o':=h) n2;refine⟨?_,?_,?_,by omega,?_⟩;·rw[hb.block _ (by simp only[jH];omega)];exact m
 .rw[hb.block _ (by simp only[jH];omega)];exact o
 .rw[hb.block _ (by simp only[jH];omega)];exact q
 .exact gH (((gZ.alloc gM _).alloc (by simp) _).alloc (by simp;omega) _) hb
theorem jq{w:World}{b i:Nat}{cs:Array Value}{t:TypeId}(h:w.heap[b]?=some (.cells cs t))(v:Value):(w.setCell (b,i) v).heap[b]?=some (.cells (cs.setIfInBounds i v) t):=by
 exact yC w b i cs t v h
theorem pL{w:World}{b:Nat}{x y:Value}{t:TypeId}(h:w.heap[b]?=some (.cells #[x,y] t))(e v1:Value):((w.setCell (b,gy) e).setCell (b,ia) v1).heap[b]?=some (.cells #[e,v1] t):=jq (i:=1) (jq (i:=0) h e) v1
theorem sJ{w j:World}{b:Nat}{x y:Value}{t:TypeId}(hb:Below w w j)(f:w.heap.size<=b)(h:j.heap[b]?=some (.cells #[x,y] t))(e v1:Value):
  ((j.setCell (b,gy) e).setCell (b,ia) v1).cell? (b,gy)=some e/\((j.setCell (b,gy) e).setCell (b,ia) v1).cell? (b,ia)=some v1/\Below w w ((j.setCell (b,gy) e).setCell (b,ia) v1):=
 have q:=pL h e v1
 ⟨gw (i:=0) q,gw (i:=1) q,(hb.setCell (p:=(b,gy)) f e).setCell (p:=(b,ia)) f v1⟩
theorem Gz{w f:World}{b:Nat}{x y:Value}{t:TypeId}(hb:Below w w f)(j:w.heap.size<=b)(h:f.heap[b]?=some (.cells #[x,y] t))(e v1:Value)(o:Obj):
  (((f.setCell (b,gy) e).setCell (b,ia) v1).alloc o).drew.cell? (b,gy)=some e/\(((f.setCell (b,gy) e).setCell (b,ia) v1).alloc o).drew.cell? (b,ia)=some v1/\Below w w (((f.setCell (b,gy) e).setCell (b,ia) v1).alloc o).drew:=
 have q:=sJ hb j h e v1
 ⟨(ik (iM _ _ q.1)).trans q.1,(ik (iM _ _ q.2.1)).trans q.2.1,below_drewN (q.2.2.alloc q.2.2.size o) 1⟩
theorem M8(u:Int)(a:Option Addr)(n cap:Nat)(l:List Vw.Acc)(e:gD.Ev)(w:World)(h:As w a n cap l)(f:(Vw.iX ⟨u,l⟩).1≠0):
  Calls prog 69 #[iJ u a n cap,jG e] w (vU ⟨Vw.iL,(Vw.iX ⟨u,l⟩).1⟩ w):=by
 have D:=gx (fun W (C:As W a n cap l)=>mL u a n cap l W C);obtain⟨s,k,m⟩:=e;obtain⟨E,r⟩:∃E,E=Vw.iX ⟨u,l⟩:=⟨_,rfl⟩;rw[<-r] at f⊢;rw[<-r] at D;clear r;obtain⟨q,B⟩:=E;unfold iJ jG;unfold iJ oB at D;simp only at f D⊢;have Q:(q !=0)=true:=ij.2 f;replace f:=gx f;go_enter func69,ntmps69;go_wp2_with fail;go_at_call 68;refine(D _ (((h.alloc _).alloc _).alloc _)).mono ?_;rintro e j⟨rfl,b1⟩;obtain⟨v1,v2,o,F,hb⟩:=kL w _ _ _ j b1;have S:w.heap.size+1+1≠j.heap.size:=by omega
 have U:j.heap.size≠w.heap.size+1+1:=by omega
 obtain⟨O,P⟩:=lv o;have L:j.frozen? (w.heap.size+1+1,gy)=false:=gA o;have N:j.frozen? (w.heap.size+1+1,ia)=false:=gA o;clear b1;go_wp2_with fail;go_region;go_wp2_with fail;obtain⟨G,I,K⟩:=Gz hb (by omega) o gy () (.cells #[q,B] 73);exact gS (v:=.tuple #[.agg #[gy,()],q]) (by simp[results,results69,go_sem,G,I]) rfl (uG K)
theorem iT{W e:World}{b:Nat}{o o':Obj}(h:W.heap[b]?=some o)(hb:Below (W.alloc o').heap.size (W.alloc o') e):e.heap[b]?=some o:=gB (gF h) hb
theorem kg{w W e:World}{o':Obj}(h:Below w w W)(hb:Below (W.alloc o').heap.size (W.alloc o') e):Below w w e:=gH (h.alloc h.size o') hb
theorem M9(u:Int)(a:Option Addr)(n cap:Nat)(l:List Vw.Acc)(e:gD.Ev)(w:World)(h:As w a n cap l)(O:e.s.size<=maxLen)(o:(Vw.iX ⟨u,l⟩).1=0)(q:gD.iW e≠0):
  Calls prog 69 #[iJ u a n cap,jG e] w (vU ⟨Vw.iL,gD.iW e⟩ w):=by
 have D:=gx (fun W (N:As W a n cap l)=>mL u a n cap l W N);have j:=gx (fun W=>pe e O W);obtain⟨s,k,m⟩:=e;generalize Vw.iX ⟨u,l⟩=E at o D;obtain⟨L,B⟩:=E;obtain⟨K,C⟩:∃K,K=gD.iW ⟨s,k,m⟩:=⟨_,rfl⟩;rw[<-C] at q j⊢;replace C:=gx C;have o:L=0:=o;subst o;unfold iJ jG;unfold iJ oB at D;unfold jG at j;simp only at D j⊢;have Z:(K !=0)=true:=ij.2 q;replace q:=gx q;go_enter func69,ntmps69;go_wp2_with fail;go_at_call 68;refine(D _ (((h.alloc _).alloc _).alloc _)).mono ?_;rintro e r⟨rfl,b1⟩;obtain⟨v1,v2,f,P,hb⟩:=kL w _ _ _ r b1;clear b1;have S:(r.alloc (.cells #[gy,B] 73)).cell? (w.heap.size+1,gy)=some (.string s):=gw (gF v2);have U:(r.alloc (.cells #[gy,B] 73)).cell? (w.heap.size+1,ia)=some (.int .i64 k):=gw (gF v2);have V:(r.alloc (.cells #[gy,B] 73)).cell? (w.heap.size+1,j6)=some (.int .i64 m):=gw (gF v2);go_wp2_with fail;go_at_call 65;refine(j _).mono ?_;rintro e I⟨rfl,b2⟩;replace f:=iT f b2;replace hb:=kg hb b2;clear b2 S U V v1 v2;obtain⟨F,G⟩:=lv f;have X:I.frozen? (w.heap.size+1+1,gy)=false:=gA f;have Y:I.frozen? (w.heap.size+1+1,ia)=false:=gA f;go_wp2_with fail;obtain⟨F,G,Q⟩:=sJ hb (by omega) f gy ();exact gS (v:=.tuple #[.agg #[gy,()],K]) (by simp[results,results69,go_sem,F,G]) rfl (uG Q)
theorem Na(a:Option Addr)(n cap:Nat)(l:List Vw.Acc)(e:gD.Ev)(w:World)(h:As w a n cap l)(L:e.s.size<=maxLen)(o:(Vw.iX ⟨150,l⟩).1=0)(B:gD.iW e=0):
  Calls prog 69 #[iJ 150 a n cap,jG e] w (vU ⟨Vw.iL,5⟩ w):=by
 have D:=gx (fun W (K:As W a n cap l)=>mL 150 a n cap l W K);have j:=gx (fun W=>pe e L W);rw[B] at j;replace B:=gx B;obtain⟨s,k,m⟩:=e;generalize Vw.iX ⟨150,l⟩=E at o D;obtain⟨I,r⟩:=E;have o:I=0:=o;subst o;unfold iJ jG;unfold iJ oB at D;unfold jG at j;simp only at D j⊢;go_enter func69,ntmps69;go_wp2_with fail;go_at_call 68;refine(D _ (((h.alloc _).alloc _).alloc _)).mono ?_;rintro e q⟨rfl,b1⟩;obtain⟨v1,v2,f,N,hb⟩:=kL w _ _ _ q b1;clear b1;have P:(q.alloc (.cells #[gy,r] 73)).cell? (w.heap.size+1,gy)=some (.string s):=gw (gF v2);have Q:(q.alloc (.cells #[gy,r] 73)).cell? (w.heap.size+1,ia)=some (.int .i64 k):=gw (gF v2);have S:(q.alloc (.cells #[gy,r] 73)).cell? (w.heap.size+1,j6)=some (.int .i64 m):=gw (gF v2);go_wp2_with fail;go_at_call 65;refine(j _).mono ?_;rintro e C⟨rfl,b2⟩;replace v1:=iT v1 b2;replace f:=iT f b2;replace hb:=kg hb b2;clear b2 P Q S v2;have X:C.cell? (w,gy)=some (.int .i64 150):=gw v1;obtain⟨F,G⟩:=lv f;have U:C.frozen? (w.heap.size+1+1,gy)=false:=gA f;have V:C.frozen? (w.heap.size+1+1,ia)=false:=gA f;go_wp2_with fail;obtain⟨F,G,O⟩:=sJ hb (by omega) f gy ();exact gS (v:=.tuple #[.agg #[gy,()],nk]) (by simp[results,results69,go_sem,F,G]) rfl (uG O)
theorem Nb(u:Int)(a:Option Addr)(n cap:Nat)(l:List Vw.Acc)(e:gD.Ev)(w:World)(h:As w a n cap l)(he:e.s.size<=maxLen)(B:(Vw.iX ⟨u,l⟩).1=0)(L:gD.iW e=0)(N:u≠150)(O:Vw.may (Vw.get l e.s) e=false):
  Calls prog 69 #[iJ u a n cap,jG e] w (vU ⟨Vw.iL,8⟩ w):=by
 have D:=gx (fun W (Q:As W a n cap l)=>mL u a n cap l W Q);have r:=gx (fun W=>pe e he W);have q:=gx (fun W (Q:As W a n cap l)=>yU u a n cap l e.s W Q);have o:=gx (fun W=>Da (Vw.get l e.s) e W);rw[L] at r;rw[O] at o;replace L:=gx L;replace O:=gx O;obtain⟨s,k,m⟩:=e;simp only at q o;obtain⟨A,P⟩:∃A,A=Vw.get l s:=⟨_,rfl⟩;rw[<-P] at q o;replace P:=gx P;obtain⟨j,Am,F,G⟩:=A;generalize Vw.iX ⟨u,l⟩=E at B D;obtain⟨E1,I⟩:=E;have B:E1=0:=B;subst B;unfold iJ jG;unfold iJ oB at D;unfold jG at r o;unfold oA at q o;unfold iJ at q;simp only at D r q o⊢;have t0:(u==150)=false:=jB.2 N;replace N:=gx N;go_enter func69,ntmps69;go_wp2_with fail;go_at_call 68;refine(D _ (((h.alloc _).alloc _).alloc _)).mono ?_;rintro e C⟨rfl,b1⟩;obtain⟨v1,v2,f,ab,hb⟩:=kL w _ _ _ C b1;clear b1;have S:(C.alloc (.cells #[gy,I] 73)).cell? (w.heap.size+1,gy)=some (.string s):=gw (gF v2);have U:(C.alloc (.cells #[gy,I] 73)).cell? (w.heap.size+1,ia)=some (.int .i64 k):=gw (gF v2);have V:(C.alloc (.cells #[gy,I] 73)).cell? (w.heap.size+1,j6)=some (.int .i64 m):=gw (gF v2);go_wp2_with fail;go_at_call 65;refine(r _).mono ?_;rintro e w2⟨rfl,b2⟩;replace v1:=iT v1 b2;replace v2:=iT v2 b2;replace f:=iT f b2;replace hb:=kg hb b2;clear b2 S U V;obtain⟨p0,p1⟩:=lv v1;have p2:w2.cell? (w.heap.size+1,gy)=some (.string s):=gw v2;go_wp2_with fail;go_at_call 36;refine(q _ (h.below hb)).mono ?_;rintro e X⟨rfl,b3⟩;replace v2:=gB v2 b3;replace f:=gB f b3;replace hb:=gH hb b3;clear b3 p0 p1 p2;have S:(X.alloc (.cells #[j,Am,F,.bool G] 55)).cell? (w.heap.size+1,gy)=some (.string s):=gw (gF v2);have U:(X.alloc (.cells #[j,Am,F,.bool G] 55)).cell? (w.heap.size+1,ia)=some (.int .i64 k):=gw (gF v2);have V:(X.alloc (.cells #[j,Am,F,.bool G] 55)).cell? (w.heap.size+1,j6)=some (.int .i64 m):=gw (gF v2);go_wp2_with fail;go_at_call 92;refine(o _).mono ?_;rintro e w4⟨rfl,K⟩;replace f:=iT f K;replace hb:=kg hb K;clear K S U V v2;obtain⟨Y,Z⟩:=lv f;have f0:w4.frozen? (w.heap.size+1+1,gy)=false:=gA f;have f1:w4.frozen? (w.heap.size+1+1,ia)=false:=gA f;go_wp2_with fail;obtain⟨Y,Z,q2⟩:=sJ hb (by omega) f gy ();exact gS (v:=.tuple #[.agg #[gy,()],pt]) (by simp[results,results69,go_sem,Y,Z]) rfl (uG q2)
end Go.Proofs.YthhcdfjijagalaaGreat

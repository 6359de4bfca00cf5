import Derived.Test.YthhcdfjijagalaaGreatM23
set_option linter.all false
set_option maxHeartbeats 4000000
set_option maxRecDepth 100000
namespace Go.Proofs.YthhcdfjijagalaaGreat
open Qz Go.Proofs.Tryz Go.RowKit
theorem qF:(Tryz.prog.info? 78).map (fun i=>(i.zero,i.size,i.bytes))=some (some (.agg #[.string ⟨#[]⟩,gy,gy]),3,32):=by kernel_rfl
theorem np:(Tryz.prog.info? 50).map (fun i=>(i.zero,i.size,i.bytes))=some (some (.agg #[gy,()]),2,32):=by kernel_rfl
def Ro(w:World)(base:Nat)(l:List Rb):Prop:=∀x∈l,w.ownsRow base 78 3 (x.a,x.n,x.cap) x.n (hQ x.il)/\∀e∈x.il,e.s.size<=maxLen
theorem Ro.only{w w':World}{base:Nat}{l:List Rb}{S:List Nat}(h:Ro w base l)(B:gU w w' S)(C:∀x∈S,(∃cs t q,w.heap[x]?=some (.cells cs t q)/\78≠t)):Ro w' base l:=fun x o=>
 ⟨B.own (h x o).1 (fun y F=>by
  obtain⟨cs,t,q,hb,m⟩:=C y F;intro e;rcases(h x o).1.2 with⟨j,_⟩|⟨g,cap,r,j,_,f,_⟩
  .rw[j] at e;simp[Value.ownBlock] at e
  .rw[j] at e;have:g=y:=by simpa[Value.ownBlock] using e
   subst this;rw[hb] at f;injection f with f;injection f with _ E;exact m E.symm),(h x o).2⟩
theorem Ro.grown{w w':World}{base b2:Nat}{l:List Rb}{t:TypeId}{sz n:Nat}{o:Value}{xs:List Value}(h:Ro w base l)(L:w.ownsRow b2 t sz o n xs)(G:w.grownBy w' o.ownBlock)(q:78≠t):Ro w' base l:=fun x r=>
 ⟨(h x r).1.kept G (by
  rcases L.2 with⟨f,_⟩|⟨g,cap,E,f,_,I,_⟩
  .rw[f];cases O:(Value.slice x.a x.n x.cap).ownBlock<;>simp[Value.ownBlock]
  .right;intro j;rcases(h x r).1.2 with⟨m,_⟩|⟨F,B,C,m,_,e,_⟩
   .rw[m,f] at j;simp[Value.ownBlock] at j
   .rw[m,f] at j;have:F=g:=by simpa[Value.ownBlock] using j
    subst this;rw[I] at e;injection e with e;injection e with _ N;exact q N.symm),(h x r).2⟩
def OM(R:gD.PR)(w:World)(e:Ending)(w':World):Prop:=
 ∃a n cap f,e=.returned (.tuple #[.slice a n cap,R.err])/\Bs w' a n cap f/\f.map Rb.ba=R.l/\Below w w w'
def Hb(R:gD.PR)(w:World)(e:Ending)(w':World):Prop:=
 ∃a n cap f,e=.returned (.tuple #[.slice a n cap,R.err])/\Bs w' a n cap f/\f.map Rb.ba=R.l/\Below w w w'/\Ro w' w.heap.size f
theorem Hb.A9{R:gD.PR}{w:World}{e:Ending}{w':World}(h:Hb R w e w'):OM R w e w':=by
 obtain⟨a,n,cap,f,j,m,o,q,_⟩:=h;exact⟨a,n,cap,f,j,m,o,q⟩
theorem Ro.below{w w':World}{base:Nat}{l:List Rb}(h:Ro w base l)(hb:Below w w w'):Ro w' base l:=fun x e=>⟨gL (h x e).1 hb,(h x e).2⟩
theorem Ro.nil(w:World)(base:Nat):Ro w base []:=fun x e=>by cases e
theorem gD.Jr(t:gD.St):(gD.num 1 t).1<256:=by
 have:=gD.Fc (gD.take 1 t).1 1 (by rw[gD.take_length];exact jb _);rw[ld (by rw[gD.take_length];exact jb _)] at this;exact this
theorem gD.pI(m:Nat)(t:gD.St)(h:m=0∨t.ok=false):gD.iC m t=([],t):=by
 cases m with
 |zero=>rfl
 |succ m=>rcases h with h|h;omega;unfold gD.iC;rw[gC (by rw[h];simp)]
theorem gD.pg(m:Nat)(t:gD.St)(h:m=0∨t.ok=false):gD.events m t=([],t):=by
 cases m with
 |zero=>rfl
 |succ m=>rcases h with h|h;omega;unfold gD.events;rw[gC (by rw[h];simp)]
theorem Bs.none(w:World):Bs w none 0 0 []:=⟨Sl.none w 2,fun r e=>by cases e⟩
structure L1 (w wr:World) (N:Nat) (t0:gD.St) (m:Nat) (o:Value) (t:gD.St) (Rs:List Rb):Prop where
 eq:gD.iC N t0=(Rs.map Rb.ba++(gD.iC m t).1,(gD.iC m t).2)
 le:Rs.length+m<=255
 rd:Rd w wr w.heap.size t
 out:wr.ownsRow w.heap.size 50 2 o Rs.length (iD Rs)
 il:Ro wr w.heap.size Rs
structure L2 (w wr W:World) (X:Nat) (c:Int) (K:Nat) (t2:gD.St) (m:Nat) (ev:Value) (t:gD.St) (es:List gD.Ev):Prop where
 eq:gD.events K t2=(es++(gD.events m t).1,(gD.events m t).2)
 le:es.length+m<=255
 rd:Rd w W w.heap.size t
 box:W.heap[X]?=some (.cells #[c,ev] 50)
 own:W.ownsRow w.heap.size 78 3 ev es.length (hQ es)
 new:∀g,ev.ownBlock=some g->wr.heap.size<=g
 sz:∀e∈es,e.s.size<=maxLen
 only:gU wr W [w.heap.size]
theorem gU.PM{w w':World}{S:List Nat}(h:gU w.drew w' S):gU w w' S:=⟨h.os,h.tape,h.output,h.size,h.block⟩
theorem Rd.Il{w0 w w':World}{r:Nat}{t:gD.St}(h:Rd w0 w r t)(hb:∀o,w.heap[r]?=some o->w'.heap[r]?=some o)(j:Below w0 w0 w'):Rd w0 w' r t:=by
 obtain⟨a,n,cap,e,f⟩:=h.cells;exact⟨⟨a,n,cap,hb _ e,f⟩,h.old,j⟩
theorem Rd.drew{w0 w:World}{r:Nat}{t:gD.St}(h:Rd w0 w r t):Rd w0 w.drew r t:=h.Il (fun o h=>h) h.below.drew
section
variable {w wo W w4 w5 : World} {X : Nat} {c : Int} {K kk : Nat} {t2 t' : gD.St} {ev v' : Value} {es : List gD.Ev} {lit : Obj}
theorem L2.QP(h:L2 w wo W X c K t2 (kk+1) ev t' es)(f:X≠w.heap.size)(e:gU W w4 [w.heap.size]):w4.heap[X]?=some (.cells #[c,ev] 50)/\w4.ownsRow w.heap.size 78 3 ev es.length (hQ es):=by
 refine⟨e.jJ h.box (by simpa using f),e.own h.own (fun x j=>?_)⟩;obtain rfl:x=w.heap.size:=by simpa using j
 obtain⟨a,n,cap,hb,_⟩:=h.rd.cells;exact gP h.own hb (by decide)
theorem L2.next(h:L2 w wo W X c K t2 (kk+1) ev t' es)(oz:t'.ok=true)(G:wo.heap.size<=X)(I:X≠w.heap.size)(S:w.heap.size<=wo.heap.size)(B:Rd w w4 w.heap.size (gD.jK t').2)(r:gU W w4 [w.heap.size])(Q:(gD.jK t').1.s.size<=maxLen)
  (q:OT (w4.alloc lit) w5 ev.ownBlock w.heap.size 78 3 v' (es.length+1) (hQ es++Hy (gD.jK t').1)):
  w5.heap[X]?=some (.cells #[c,ev] 50)/\L2 w wo (w5.setCell (X,ia) v') X c K t2 kk v' (gD.jK t').2 (es++[(gD.jK t').1]):=by
 obtain⟨F,f⟩:=h.QP I r;have j:=ie (f.alloc lit) q.grown (gF F) (by decide);have C:gU wo w5 [w.heap.size]:=((h.only.more r.grown (by simp)).alloc lit).more q.grown (fun x U=>.inr (h.new x U));have E:=C.setCell (a:=(X,ia)) (.inr G) v';refine⟨j,⟨?_,?_,?_,xZ j,?_,?_,?_,E⟩⟩
 .have:=h.eq;rw[show gD.events (kk+1) t'=((gD.jK t').1::(gD.events kk (gD.jK t').2).1,(gD.events kk (gD.jK t').2).2) by show(if t'.ok=true then _ else _)=_;rw[gG oz]] at this;rw[this,ky];rfl
 .have:=h.le;rw[iH];simp only[l8,qZ];omega
 .refine B.Il (fun o N=>?_) ?_
  .obtain⟨a,n,cap,hb,_⟩:=B.cells;rw[hb] at N;cases N;rw[mG _ _ _ _ (fun e=>I e.symm)];exact ie (f.alloc lit) q.grown (gF hb) (by decide)
  .have m:=B.below;refine Below.setCell ?_ (by show w.heap.size<=X;omega) _;exact(m.alloc m.size lit).trans (mz q.grown (by simp;have:=m.size;omega) (fun k P=>by have:=h.new k P;omega))
 .have e:(es++[(gD.jK t').1]).length=es.length+1:=by simp
  rw[e,nV];have O:hQ [(gD.jK t').1]=Hy (gD.jK t').1:=by unfold hQ;simp
  rw[O];exact ji q.own (gP q.own j (by decide)) _
 .intro g L;have V:=h.only.size;have Y:=r.size;rcases q.F6 with h3|h3
  .exact h.new g (by rw[<-h3];exact L)
  .have:=h3 g L;simp at this;omega
 .intro e he;rcases kd.1 he with he|he
  .exact h.sz e he
  .rw[iA.1 he];exact Q
end
theorem L1.next{w wo W w5:World}{N K m kk X n2:Nat}{S t2 t':gD.St}{h:List Rb}{c:Int}{ea:Option Addr}{f:Nat}{es:List gD.Ev}{o U:Value}{lit:Obj}{P:Array Value}
  (C:gD.iC N S=(h.map Rb.ba++⟨c,(gD.events K t2).1⟩::(gD.iC m (gD.events K t2).2).1,(gD.iC m (gD.events K t2).2).2)) (ab:h.length+(m+1)<=255)
  (q:wo.ownsRow w.heap.size 50 2 o h.length (iD h)) (F:Ro wo w.heap.size h) (G:wo.heap[w.heap.size]?=some (.cells P 146)) (j:L2 w wo W X c K t2 kk (ea,es,f) t' es) (O:kk=0∨t'.ok=false)
  (I:OT (W.alloc lit) w5 o.ownBlock w.heap.size 50 2 U (h.length+1) (iD h++[.int .i64 c,.slice ea es.length f])):L1 w w5 N S m U t' (h++[⟨c,ea,es.length,f,es⟩]):=by
 have E:=j.eq;rw[gD.pg _ _ O,mY] at E;rw[E] at C;have B:W.ownsRow w.heap.size 50 2 o h.length (iD h):=j.only.own q (fun x hx=>by
  obtain rfl:x=w.heap.size:=by simpa using hx
  exact gP q G (by decide))
 have L:Ro W w.heap.size h:=F.only j.only (fun x hx=>by
  obtain rfl:x=w.heap.size:=by simpa using hx
  exact⟨_,_,_,G,by decide⟩)
 have r:=j.rd.below;refine⟨?_,by simp only[iH,l8,qZ];omega,?_,?_,?_⟩;·rw[C,li,ky];rfl
 .refine j.rd.Il (fun ob Q=>?_) ((r.alloc r.size lit).trans (mz I.grown (by simp;have:=r.size;omega) (fun k Z=>(B.lt k Z).1)));obtain⟨a,n,cap,hb,_⟩:=j.rd.cells;rw[hb] at Q;cases Q;exact ie (B.alloc lit) I.grown (gF hb) (by decide)
 .have e:(h++[(⟨c,ea,es.length,f,es⟩:Rb)]).length=h.length+1:=by simp
  rw[e,lW];exact I.own
 .have V:Ro W w.heap.size (h++[⟨c,ea,es.length,f,es⟩]):=fun x hx=>by
   rcases kd.1 hx with hx|hx
   .exact L x hx
   .obtain rfl:=iA.1 hx;exact⟨j.own,j.sz⟩
  have Y:Ro (W.alloc lit) w.heap.size (h++[⟨c,ea,es.length,f,es⟩]):=V.only ((gU.refl W []).alloc lit) (by simp);exact Y.grown (B.alloc lit) I.grown (by decide)
theorem DH(a:Option Addr)(n cap:Nat)(l:List UInt8)(w:World)(h:Bt w a n cap l):Calls prog 75 #[(a,n,cap)] w (Hb (gD.parse l) w):=by
 have D1:=fun W t (h:Rd w W w.heap.size t)=>sI w W w.heap.size 1 t (by omega) h;have D3:=fun W t (h:Rd w W w.heap.size t)=>sI w W w.heap.size 3 t (by omega) h;have DE:=gx (fun W t (h:Rd w W w.heap.size t)=>Ex w W w.heap.size t h);have R0:Rd w (w.alloc (.cells #[(a,n,cap),.bool true] 146)) w.heap.size ⟨l,true⟩:=⟨⟨a,n,cap,gO w _,h⟩,jb _,gZ.alloc gM _⟩;have D0:=gx (D1 _ _ R0);replace D1:=gx D1;replace D3:=gx D3;have HP:=gx (show gD.parse l=if (gD.iC (gD.num 1 ⟨l,true⟩).1 (gD.num 1 ⟨l,true⟩).2).2.ok=false∨(gD.iC (gD.num 1 ⟨l,true⟩).1 (gD.num 1 ⟨l,true⟩).2).2.l≠[] then⟨[],2⟩ else if 150<(gD.iC (gD.num 1 ⟨l,true⟩).1 (gD.num 1 ⟨l,true⟩).2).1.length then⟨[],5⟩ else if (gD.fb (gD.iC (gD.num 1 ⟨l,true⟩).1 (gD.num 1 ⟨l,true⟩).2).1 0).1≠0 then⟨[],(gD.fb (gD.iC (gD.num 1 ⟨l,true⟩).1 (gD.num 1 ⟨l,true⟩).2).1 0).1⟩ else⟨(gD.iC (gD.num 1 ⟨l,true⟩).1 (gD.num 1 ⟨l,true⟩).2).1,0⟩ from rfl);have hN:=gD.Jr ⟨l,true⟩;generalize gD.num 1 ⟨l,true⟩=n0 at *;obtain⟨N,t0⟩:=n0;simp only at hN;go_enter func75,ntmps75;go_wp2_with fail;go_at_call 102;refine(D0.out).mono ?_;rintro e w1⟨rfl,R1,O1⟩;clear D0 R0;go_wp2_with fail;go_loopg[5,6,7,8] N (fun g o i s7 s8 wr=>∃m t j,g=m/\i=.int .i64 (m:Int)/\L1 w wr N t0 m o t j);case atStart=>exact⟨N,t0,[],rfl,rfl,⟨rfl,by simp;omega,R1,iY _ _ _ _,fun x hx=>by cases hx⟩⟩
 case round=>
  obtain⟨m,t,j,rfl,rfl,S⟩:=hrel;obtain⟨wo,rfl⟩:∃wo:World,wo=wr:=⟨_,rfl⟩;obtain⟨az,aB,aG,G,O⟩:=S;have P:=gx az;clear az;obtain⟨⟨ra,rn,rc,ad,aQ⟩,_,L⟩:=id aG;have al:=L.size;have aX:=iq ad;obtain⟨c0,c1⟩:=lv ad;by_cases f:gk=0∨t.ok=false
  .have HE:=P.out;rw[gD.pI _ _ f,mY] at HE;have E:=HP.out;rw[HE] at E;simp only at E;replace E:=gx E;have ar:=gx (Bt.n aQ);clear HE HP P;cases oz:t.ok with
   |false=>
    rw[oz] at c1;have Q:=gx (show gD.parse l=⟨[],2⟩ by rw[E.out,gG (.inl oz)]);rcases pD gk with h0|h0
    .subst h0;clear f oz;go_wp2_with fail;go_ret2;exact⟨none,0,0,[],by rw[Q.out];rfl,Bs.none _,by rw[Q.out];rfl,L,Ro.nil _ _⟩
    .have u0:decide (0<(gk:Int))=true:=by simp;omega
     clear f oz;go_wp2_with fail;go_ret2;exact⟨none,0,0,[],by rw[Q.out];rfl,Bs.none _,by rw[Q.out];rfl,L,Ro.nil _ _⟩
   |true=>
    rw[oz] at c1;have h0:gk=0:=by
     rcases f with h|h
     .exact h
     .rw[oz] at h;cases h
    subst h0;clear f;by_cases aW:0<rn
    .have Q:=gx (show gD.parse l=⟨[],2⟩ by rw[E.out,gG (.inr (fun e=>by have:=ar.out;rw[e] at this;simp at this;omega))]);clear oz;go_wp2_with fail;go_ret2;exact⟨none,0,0,[],by rw[Q.out];rfl,Bs.none _,by rw[Q.out];rfl,L,Ro.nil _ _⟩
    .obtain rfl:rn=0:=by omega
     have aE:t.l=[]:=qj ar.out;have af:=gx (E.out.trans (gC (fun h=>h.elim (fun h=>by rw[oz] at h;cases h) (fun h=>h aE))));obtain⟨oa,oc,rfl,ab⟩:=gK G;have aD:=ab.max;have aC:=ab.le;unfold maxLen at aD;have hB:Bs wo oa j.length oc j:=⟨ab,fun r hr=>by obtain⟨h1,h2⟩:=O r hr;obtain⟨a2,c2,e2,s2⟩:=gK h1;cases e2;exact⟨s2,h2⟩⟩
     have aK:=gx O;clear oz E O G;by_cases U:150<j.length
     .have Q:=gx (show gD.parse l=⟨[],5⟩ by rw[af.out,gG (by rw[iz];exact U)]);go_wp2_with fail;go_ret2;exact⟨none,0,0,[],by rw[Q.out];rfl,Bs.none _,by rw[Q.out];rfl,L,Ro.nil _ _⟩
     .have aq:=gx (af.out.trans (gC (by rw[iz];exact U)));clear af;obtain⟨nR,ai⟩:∃nR,j.length=nR:=⟨_,rfl⟩;rw[ai] at hB ab aC U aB⊢;have ap:=gx ai;clear ai;go_wp2_with fail;go_loopg[10,11,71] nR (fun g a3 a4 i W=>∃k,g=nR-k/\k<=nR/\i=.int .i64 (k:Int)/\Below wo wo W/\Hid (gD.fb (j.map Rb.ba) 0=gD.fb ((j.map Rb.ba).drop k) k));case atStart=>exact⟨0,rfl,by omega,rfl,iU _ _,gx (by simp)⟩
      case round=>
       obtain⟨k,rfl,hk,rfl,I,HB⟩:=hrel;by_cases aP:k<nR
       .have aA:k<j.length:=by rw[ap.out];exact aP
        obtain⟨b,off,rfl,_⟩:=ab.addr (by omega);obtain⟨q0,q1,hE⟩:=(hB.below I).at k aA;generalize hr:j[k]=r at *;obtain⟨c,ea,en,ec,il⟩:=r;simp only at q0 q1 hE;have Q:=gx hr;clear hr;have D:=gx (fun W (hE:Es W ea en ec il)=>oI c ea en ec il W hE);have HP:=gx (gD.um (j.map Rb.ba) k ⟨c,il⟩ (by rw[nJ,jz aA,Q.out];rfl));go_wp2_with fail;go_at_call 34;refine(D.out _ (hE.alloc _)).mono ?_;rintro e w4⟨rfl,b4⟩;have Y:Below wo wo w4:=(I.alloc I.size _).trans (b4.mono (by have:=I.size;simp;omega));have aH:=Y.size;unfold zE;obtain⟨f1,ah⟩:∃f1,(gD.iI ⟨c,il⟩).1=f1:=⟨_,rfl⟩;rw[ah];have HF:=gx ah;generalize (gD.iI ⟨c,il⟩).2=f2;clear ah b4 q0 q1 hE D;by_cases hz:f1=0
        .subst hz;go_wp2_with fail;go_roundg (nR-(k+1));case measure=>omega
         case rel=>exact⟨k+1,rfl,by omega,by go_num,Y.alloc aH _,gx (by rw[HB.out,HP.out,gC (fun h=>h HF.out)])⟩
        .have t0:(f1 !=0)=true:=by rw[ij];exact hz
         have hG:=gx (show gD.parse l=⟨[],f1⟩ by
          have e1:(gD.fb (j.map Rb.ba) 0)=(f1,(k:Int)):=by rw[HB.out,HP.out,gG (by rw[HF.out];exact hz),HF.out]
          rw[aq.out,e1,gG hz])
         clear hz HB;go_wp2_with fail;go_quiet (fail);go_wp2_with fail;go_ret2;exact⟨none,0,0,[],by rw[hG.out];rfl,Bs.none _,by rw[hG.out];rfl,L.trans ((below_drewN (Y.alloc aH _) _).mono al),Ro.nil _ _⟩
       .obtain rfl:k=nR:=by omega
        have hG:=gx (show gD.parse l=⟨j.map Rb.ba,0⟩ by
         have e1:(gD.fb (j.map Rb.ba) 0).1=0:=by rw[HB.out,mV (by rw[iz,ap.out];exact jb _)];rfl
         rw[aq.out,gC (fun h=>h e1)])
        go_wp2_with fail;go_ret2;refine⟨oa,_,oc,j,?_,hB.below I,?_,L.trans (I.mono al),aK.out.below I⟩;·rw[hG.out];rfl
        .rw[hG.out]
  .obtain⟨m,rfl⟩:∃m,gk=m+1:=⟨gk-1,by omega⟩;have oz:t.ok=true:=by
    cases hh:t.ok with
    |true=>rfl
    |false=>exact absurd (.inr hh) f
   rw[oz] at c1;have aS:decide (0<((m+1:Nat):Int))=true:=by simp
   have aJ:decide ((0:Int)<(m:Int)+1)=true:=by simp
   clear f;have d3:=D3.out wo t aG;have ao:gD.iC (m+1) t=(⟨(gD.num 3 t).1,(gD.events (gD.num 1 (gD.num 3 t).2).1 (gD.num 1 (gD.num 3 t).2).2).1⟩::(gD.iC m (gD.events (gD.num 1 (gD.num 3 t).2).1 (gD.num 1 (gD.num 3 t).2).2).2).1,(gD.iC m (gD.events (gD.num 1 (gD.num 3 t).2).1 (gD.num 1 (gD.num 3 t).2).2).2).2):=by show(if t.ok=true then _ else _)=_;rw[gG oz];rfl
   have C:=P.out;rw[ao] at C;clear P ao;generalize gD.num 3 t=p3 at *;obtain⟨c,t1⟩:=p3;simp only at C;have hK:=gD.Jr t1;have d1:=fun W=>D1.out W t1;generalize gD.num 1 t1=p1 at *;obtain⟨K,t2⟩:=p1;simp only at C hK;have P:=gx C;replace d3:=gx d3;replace d1:=gx d1;clear C;go_wp2_with fail;go_at_call 102;refine(d3.out).mono ?_;rintro e w2⟨rfl,R2,O2⟩;have aI:=O2.size;have ae:w.heap.size≠w2.heap.size:=by omega
   have aw:=R2.td ((gU.refl w2 []).alloc (.cells #[c,()] 50)) (by simp) (by simp);clear d3 c0 c1 aS aJ;go_wp2_with fail;go_at_call 102;refine(d1.out _ aw).mono ?_;rintro e w3⟨rfl,R3,O3⟩;have aO:=O3.jJ (gO w2 (.cells #[c,()] 50)) (by simpa using lE ae);have aM:gU wo w3 [w.heap.size]:=((O2.alloc (.cells #[c,()] 50)).more O3.grown (by simp));clear d1 R2 aw O3;go_wp2_with fail;go_loopg[8] K (fun g i W=>∃kk t' ev es,g=kk/\i=.int .i64 (kk:Int)/\L2 w wo W w2.heap.size c K t2 kk ev t' es);case atStart=>exact⟨K,t2,.slice none 0 0,[],rfl,rfl,⟨rfl,by simp;omega,R3,aO,iY _ _ _ _,fun g hg=>by simp[Value.ownBlock] at hg,fun x hx=>(by cases hx),aM⟩⟩
   case round=>
    obtain⟨kk,t',ev,es,rfl,rfl,S⟩:=hrel;have HL:=gx S;obtain⟨⟨aZ,a1,a0,aF,aU⟩,_,aT⟩:=id S.rd;have c1:wr.cell? (w,ia)=some (.bool t'.ok):=gw aF;obtain⟨x0,x1⟩:=lv S.box;by_cases q:gk=0∨t'.ok=false
    .obtain⟨ea,B,rfl,_⟩:=gK S.own;have aj:wr.ownsRow w.heap.size 50 2 u5 j.length (iD j):=S.only.own G (fun x hx=>by
      obtain rfl:x=w.heap.size:=by simpa using hx
      exact gP G ad (by decide))
     have NX:=gx (fun v5 w5 lit=>@L1.next w wo wr w5 N K m gk w2.heap.size 0 t0 t2 t' j c ea B es u5 v5 lit _ P.out aB G O ad S q);have aY:=S.only.size;obtain⟨a5,ag,rfl,_⟩:=gK aj;clear S;rcases pD gk with h0|h0
     .subst h0;go_wp2_with (refine wpList_append_t rfl (.tmp 49) (.tmp 51) 26 26 rfl w.heap.size 50 2 32 (.agg #[gy,()]) underlying26 np rfl (by decide) (a5,j,ag) j.length (iD j) rfl (OT.start (aj.alloc (.cells #[c,(ea,es,B)] 50))) _ 1 [.int .i64 (c:Int),.slice ea es.length B] rfl (Src.mr wr #[.int .i64 (c:Int),.slice ea es.length B] 50 1 2 underlying26 rfl (by simp[Value.oneCell'])) (by unfold maxLen;omega) (by omega) (by simp;omega) ?_;intro v5 w5 o5 g5;have V:=NX.out v5 w5 _ o5);go_roundg m;case measure=>omega
      case rel=>exact⟨m,_,_,rfl,by go_num,V⟩
     .have F:t'.ok=false:=by
       rcases q with h|h
       .omega
       .exact h
      rw[F] at c1;have u0:decide (0<(gk:Int))=true:=by simp;omega
      go_wp2_with (refine wpList_append_t rfl (.tmp 49) (.tmp 51) 26 26 rfl w.heap.size 50 2 32 (.agg #[gy,()]) underlying26 np rfl (by decide) (a5,j,ag) j.length (iD j) rfl (OT.start (aj.alloc (.cells #[c,(ea,es,B)] 50))) _ 1 [.int .i64 (c:Int),.slice ea es.length B] rfl (Src.mr wr #[.int .i64 (c:Int),.slice ea es.length B] 50 1 2 underlying26 rfl (by simp[Value.oneCell'])) (by unfold maxLen;omega) (by omega) (by simp;omega) ?_;intro v5 w5 o5 g5;have V:=NX.out v5 w5 _ o5);go_roundg m;case measure=>omega
      case rel=>exact⟨m,_,_,rfl,by go_num,V⟩
    .obtain⟨kk,rfl⟩:∃kk,gk=kk+1:=⟨gk-1,by omega⟩;have F:t'.ok=true:=by
      cases hh:t'.ok with
      |true=>rfl
      |false=>exact absurd (.inr hh) q
     rw[F] at c1;have u0:decide (0<((kk+1:Nat):Int))=true:=by simp
     have u1:decide ((0:Int)<(kk:Int)+1)=true:=by simp
     have de:=gx (fun W h=>DE.out W t' h);have aV:es.length+(kk+1)<=255:=S.le;have aL:=gx F;have Z:¬w2.heap.size=w.heap.size:=fun e=>ae e.symm;clear q F S;go_wp2_with fail;have aN:=HL.out.rd.drew;go_region_law (first
      |(go_simp;go_at_call 103;refine(de.out _ aN).mono ?_;rintro e w4⟨rfl,R4,O4,aR⟩;have au:=O4.PM;obtain⟨ax,ak⟩:=HL.out.QP Z au;have k4:w4.cell? (w2,ia)=some ev:=gw ax;have k5:(w4.alloc (.cells #[.string (gD.jK t').1.s,.int .i64 (gD.jK t').1.k,.int .i64 (gD.jK t').1.n] 78)).cell? (w2,ia)=some ev:=(ik (iq ax)).trans k4;have z4:=R4.below.size;unfold jG)
      |(refine step_append_t rfl (.tmp 43) (.tmp 46) 40 40 rfl w.heap.size 78 3 32 (.agg #[.string ⟨#[]⟩,gy,gy]) underlying40 qF rfl (by decide) ev es.length (hQ es) rfl (OT.start (ak.alloc (.cells #[.string (gD.jK t').1.s,.int .i64 (gD.jK t').1.k,.int .i64 (gD.jK t').1.n] 78))) _ 1 [.string (gD.jK t').1.s,.int .i64 (gD.jK t').1.k,.int .i64 (gD.jK t').1.n] rfl (Src.mr w4 #[.string (gD.jK t').1.s,.int .i64 (gD.jK t').1.k,.int .i64 (gD.jK t').1.n] 78 1 3 underlying40 rfl (by simp[Value.oneCell'])) (by unfold maxLen;omega) (by omega) (by simp;omega) ?_;intro v5 w5 o5 g5;obtain⟨a5,ag,rfl,_⟩:=gK o5.own;obtain⟨ay,V⟩:=HL.out.next aL.out aI Z al R4 au aR o5;have s0:w5.cell? (w2,ia)=some ev:=gw ay;have s1:w5.frozen? (w2,ia)=false:=gA ay))
     all_goals go_wp2_with fail
     all_goals
      go_roundg kk;case measure=>omega
      case rel=>exact⟨kk,_,_,_,rfl,by go_num,V⟩
def Kw:Rw:=⟨none,0,0,[]⟩
structure Tw (w W:World) (v1:Value) (T:List Rw) (v2:Value) (P:List Rw):Prop where
 t:OT w W none w.heap.size 64 1 v1 T.length (iv T)
 p:OT w W none w.heap.size 64 1 v2 P.length (iv P)
 ne:∀x,v1.ownBlock=some x->v2.ownBlock≠some x
structure pS (W:World) (v1 v2:Value) (b:Nat) (u:Value):Prop where
 cell:W.cell? (b,gy)=some u
 OS:v1.ownBlock≠some b
 PS:v2.ownBlock≠some b
section
variable {w W W' : World} {v1 v2 v' : Value} {T P : List Rw} {b : Nat} {u : Value}
theorem Tw.nil(w:World):Tw w w () [] () []:=⟨OT.fresh (iY _ _ _ _) gZ gM,OT.fresh (iY _ _ _ _) gZ gM,fun x e=>by cases e⟩
theorem Tw.td(h:Tw w W v1 T v2 P)(hb:Below W W W'):Tw w W' v1 T v2 P:=⟨h.t.below hb,h.p.below hb,h.ne⟩
theorem Tw.alloc(h:Tw w W v1 T v2 P)(o:Obj):Tw w (W.alloc o) v1 T v2 P:=h.td (gZ.alloc gM o)
theorem Tw.drew(h:Tw w W v1 T v2 P):Tw w W.drew v1 T v2 P:=h.td (below_drewN gZ 1)
theorem Tw.below(h:Tw w W v1 T v2 P):Below w w W:=h.t.im gM (fun k e=>by cases e)
theorem Tw.size(h:Tw w W v1 T v2 P):w.heap.size<=W.heap.size:=h.t.grown.size
theorem pS.alloc(h:pS W v1 v2 b u)(o:Obj):pS (W.alloc o) v1 v2 b u:=⟨(ik (iM _ _ h.cell)).trans h.cell,h.OS,h.PS⟩
theorem pS.drew(h:pS W v1 v2 b u):pS W.drew v1 v2 b u:=⟨h.cell,h.OS,h.PS⟩
theorem Tw.lit(h:Tw w W v1 T v2 P)(u:Value)(hb:W.heap.size=b):pS (W.alloc (.cells #[u] 64)) v1 v2 b u:=by
 subst hb;refine⟨nT W #[u] 64 0,fun e=>?_,fun e=>?_⟩;·exact absurd (h.t.own.lt _ e).2 (oP _)
 .exact absurd (h.p.own.lt _ e).2 (oP _)
theorem Tw.Qf(h:Tw w W v1 T v2 P)(u:Value)(hb:W.heap.size=b):pS (W.alloc (.cells #[u] 64)).drew v1 v2 b u:=(h.lit u hb).drew
theorem OT.other{row:Option Nat}{base:Nat}{e:TypeId}{sz n:Nat}{o:Value}{xs:List Value}{q:Option Nat}{w0:World}(h:OT w0 W row base e sz o n xs)(f:W.grownBy W' q)(j:∀x,q=some x->w0.heap.size<=x/\o.ownBlock≠some x):OT w0 W' row base e sz o n xs:=h.step f (.inr j)
theorem Tw.CR(h:Tw w W v1 T v2 P){r:Rw}(m:OT w W' none w.heap.size 64 1 v' (T.length+1) (iv T++[r.v]))(j:W.grownBy W' v1.ownBlock)(hl:v'.ownBlock=v1.ownBlock∨v'.ownBlock=some W.heap.size):Tw w W' v' (T++[r]) v2 P:=by
 refine⟨by simpa[iv] using m,h.p.other j (fun x f=>⟨(h.t.own.lt x f).1,h.ne x f⟩),fun x f=>?_⟩;rcases hl with hl|hl
 .rw[hl] at f;exact h.ne x f
 .rw[hl] at f;cases f;exact fun e=>absurd (h.p.own.lt _ e).2 (oP _)
theorem Tw.symm(h:Tw w W v1 T v2 P):Tw w W v2 P v1 T:=⟨h.p,h.t,fun x f e=>h.ne x e f⟩
theorem pS.symm(h:pS W v1 v2 b u):pS W v2 v1 b u:=⟨h.cell,h.PS,h.OS⟩
theorem pS.CR(h:pS W v1 v2 b u)(j:W.grownBy W' v1.ownBlock)(f:v'.ownBlock=v1.ownBlock∨v'.ownBlock=some W.heap.size):pS W' v' v2 b u:=by
 have hb:=iM _ _ h.cell;refine⟨?_,?_,h.PS⟩
 .rw[yw (w:=W) (j.block b hb (fun e=>h.OS e.symm))];exact h.cell
 .rcases f with f|f
  .rw[f];exact h.OS
  .rw[f];intro e;have e:W.heap.size=b:=by simpa using e
   have hb:b<W.heap.size:=hb;omega
theorem Tw.old(h:Tw w W v1 T v2 P)(j:W.grownBy W' v1.ownBlock){p:Addr}{u:Value}(f:W.cell? p=some u)(m:p.block<w.heap.size):W'.cell? p=some u:=by
 rw[yw (w:=W) (j.block p.block (iM _ _ f) (fun e=>?_))];·exact f
 .have:=(h.t.own.lt _ e.symm).1;omega
end
section
variable {ops : Array Oper} {o : Oper} {a : Act} {K : Act → World → Prop} {Q : Exit → Act → World → Prop} {E : Prop} {w W : World}
theorem step_append_tw(C:o.guard=none)(s S:Operand)(e:TypeId)(m:Tryz.prog.underlying e=some (.slice 64))(ho:o.op=.call {callee:=.builtin .append,args:=#[s,S],argTypes:=#[e,e]})
  {v1 v2:Value} {T P:List Rw} (h:Tw w W v1 T v2 P) (hs:a.eval s=v1) (r:Rw) (b:Nat) (G:a.eval S=.slice (some (b,gy)) 1 1) (Z:pS W v1 v2 b r.v) (N:T.length<=1000)
  (X:∀v' W',Tw w W' v' (T++[r]) v2 P->W.grownBy W' v1.ownBlock->(v'.ownBlock=v1.ownBlock∨v'.ownBlock=some W.heap.size)->K (a.put o.dst v') W'):if Region.wanted o (yielded ops a.tmps)=true then Oper.wp prog o a W K Q else E:=by
 have hw:Region.wanted o (yielded ops a.tmps)=true:=by simp[Region.wanted,C]
 rw[gG hw];obtain⟨i,hi,hz,U,V⟩:=jW l3;have f:Src prog 1 e (some (b,gy),ia,ia) 1 [r.v] W:=Src.ofSlice W m (b,gy) 1 1 [r.v] rfl (fun j u I=>by
  have F:j=0:=by have:=(nH.1 I).1;simp at this;omega
  subst F;rw[je,mH,Z.cell];simpa using I) (fun u O=>by simp at O;subst O;rfl)
 obtain⟨v',w',hr,Y,q,h5⟩:=lN (P:=prog) W w.heap.size e e o.type 64 i () 1 24 m hi hz U V rfl (by decide) v1 T.length (iv T) h.t.own _ 1 [r.v] f (by unfold maxLen;omega) (by omega) h.size;have B:v'.ownBlock=v1.ownBlock∨∀k,v'.ownBlock=some k->W.heap.size<=k:=by
  rcases h5 with h5|h5
  .exact .inl h5
  .exact .inr fun k L=>by rw[h5] at L;cases L;exact jb _
 unfold Oper.wp execOp;simp only[ho,resolve,invoke,builtin,tO,tP,tH,tI,lI,nj,hs,G,hr];exact X v' w' (h.CR (h.t.more Y q B) q h5) q h5
end
end Go.Proofs.YthhcdfjijagalaaGreat

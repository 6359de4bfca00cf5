import Derived.Test.YthhcdfjijagalaaGreatM37
import Derived.Test.YthhcdfjijagalaaGreatM39
set_option linter.all false
set_option maxHeartbeats 8000000
set_option maxRecDepth 100000
namespace Go.Proofs.YthhcdfjijagalaaGreat
open Qz Go.Proofs.Tryz Go.RowKit
def zB(k:Int)(y:Hm)(st:List Hm×Bool)(h:Hm):List Hm×Bool:=
 (if h.s=k then(if k<=h.s/\st.2=false then st.1++[y] else st.1) else(if k<=h.s/\st.2=false then st.1++[y] else st.1)++[h],st.2||decide (k<=h.s))
def G5(k:Int)(y:Hm)(H:List Hm):List Hm×Bool:=H.foldl (zB k y) ([],false)
def Nl(st:List Hm×Bool)(y:Hm):List Hm:=if st.2=true then st.1 else st.1++[y]
theorem Bx(k:Int)(y:Hm)(H:List Hm)(i:Nat)(h:i<H.length):G5 k y (H.take (i+1))=zB k y (G5 k y (H.take i)) H[i]:=by
 unfold G5;rw[qG h,List.foldl_append];rfl
theorem OG(k:Int)(y:Hm)(st:List Hm×Bool)(h:Hm):(zB k y st h).1.length<=st.1.length+2:=by
 unfold zB;simp only;split<;>split<;>simp
theorem JE(k:Int)(y:Hm)(H:List Hm):∀i,i<=H.length->(G5 k y (H.take i)).1.length<=2*i
 |0,_=>by simp[G5]
 |i+1,h=>by rw[Bx k y H i h];have:=OG k y (G5 k y (H.take i)) H[i];have:=JE k y H i (by omega);omega
theorem OH{k:Int}{y:Hm}{st:List Hm×Bool}{h z:Hm}(e:z∈(zB k y st h).1):z∈st.1∨z=y∨z=h:=by
 have f:z∈(if k<=h.s/\st.2=false then st.1++[y] else st.1)->z∈st.1∨z=y:=by
  intro e;split at e
  .rcases kd.1 e with e|e
   .exact .inl e
   .exact .inr (by simpa using e)
  .exact .inl e
 unfold zB at e;simp only at e;split at e
 .rcases f e with h|h
  .exact .inl h
  .exact .inr (.inl h)
 .rcases kd.1 e with e|e
  .rcases f e with h|h
   .exact .inl h
   .exact .inr (.inl h)
  .exact .inr (.inr (by simpa using e))
theorem JF(k:Int)(y:Hm)(H:List Hm):∀i,i<=H.length->∀z∈(G5 k y (H.take i)).1,z∈H∨z=y
 |0,_,z,hz=>by simp[G5] at hz
 |i+1,h,z,hz=>by
  rw[Bx k y H i h] at hz;rcases OH hz with h1|h1|h1
  .exact JF k y H i (by omega) z h1
  .exact .inr h1
  .exact .inl (by rw[h1];exact iE _)
theorem xY(k:Int)(y:Hm):∀(l o:List Hm),(∀h∈l,k<h.s)->l.foldl (zB k y) (o,true)=(o++l,true)
 |[],o,_=>by simp
 |h::t,o,hk=>by
  have f:=hk h (by simp);rw[List.foldl_cons];have:zB k y (o,true) h=(o++[h],true):=by unfold zB;simp only[gC (show¬h.s=k by omega),Bool.true_eq_false,and_false,if_false,Bool.true_or]
  rw[this,xY k y t _ (fun x e=>hk x (by simp[e]))];simp
theorem FF{k:Int}:∀{l:List Hm},(∀h∈l,k<h.s)->gE.find (l.map Hm.hd) k=none
 |[],_=>rfl
 |h::t,hk=>by have f:=hk h (by simp);show gE.find (h.hd::t.map Hm.hd) k=none;unfold gE.find;rw[gC (show¬h.hd.jy=k by show¬h.s=k;omega)];exact FF (fun x e=>hk x (by simp[e]))
theorem FJ(k:Int)(y:Hm)(q:y.s=k):∀(l o:List Hm),((l.map Hm.hd).map gE.Hd.jy).Pairwise (·<·)->(Nl (l.foldl (zB k y) (o,false)) y).map Hm.hd=o.map Hm.hd++gE.oh (l.map Hm.hd) k y.b
 |[],o,_=>by unfold Nl;show(if false=true then o else o++[y]).map Hm.hd=_++[⟨k,y.b⟩];rw[gC (by simp),li];show _++[y.hd]=_;unfold Hm.hd;rw[q]
 |h::t,o,hp=>by
  have m:=tG.1 hp;have r:∀x∈t,h.s<x.s:=fun x hx=>m.1 x.s (iu.2 ⟨x.hd,iu.2 ⟨x,hx,rfl⟩,rfl⟩);rw[List.foldl_cons];show _=_++gE.oh (h.hd::t.map Hm.hd) k y.b;by_cases w:h.s<k
  .have e:zB k y (o,false) h=(o++[h],false):=by unfold zB;simp only[gC (show¬h.s=k by omega),show¬k<=h.s by omega,false_and,if_false,decide_false,Bool.or_false]
   rw[e,FJ k y q t _ m.2];have f:gE.oh (h.hd::t.map Hm.hd) k y.b=h.hd::gE.oh (t.map Hm.hd) k y.b:=by
    have n1:¬h.hd.jy=k:=by show¬h.s=k;omega
    unfold gE.oh;have:gE.find (h.hd::t.map Hm.hd) k=gE.find (t.map Hm.hd) k:=by
     conv=>lhs;unfold gE.find
     rw[gC n1]
    rw[this];split
    .conv=>lhs;unfold gE.qu
     rw[gG (show h.hd.jy<k from w)]
    .conv=>lhs;unfold gE.mK
     rw[gC n1]
   rw[f,li,ky];rfl
  .by_cases j:h.s=k
   .have e:zB k y (o,false) h=(o++[y],true):=by unfold zB;simp only[gG j,show k<=h.s by omega,and_self,if_true,decide_true,Bool.or_true]
    rw[e,xY k y t _ (fun x hx=>by have:=r x hx;omega)];unfold Nl;rw[gG rfl];have f:gE.oh (h.hd::t.map Hm.hd) k y.b=⟨h.s,y.b⟩::t.map Hm.hd:=by
     unfold gE.oh;have:gE.find (h.hd::t.map Hm.hd) k=some h.b:=by unfold gE.find;rw[gG (show h.hd.jy=k from j)];rfl
     rw[this];show gE.mK (h.hd::t.map Hm.hd) k y.b=_;unfold gE.mK;rw[gG (show h.hd.jy=k from j)];rfl
    rw[f,li,li,ky];show _++([y.hd]++_)=_;unfold Hm.hd;rw[q,j];rfl
   .have e:zB k y (o,false) h=(o++[y]++[h],true):=by unfold zB;simp only[gC j,show k<=h.s by omega,and_self,if_true,decide_true,Bool.or_true]
    rw[e,xY k y t _ (fun x hx=>by have:=r x hx;omega)];unfold Nl;rw[gG rfl];have f:gE.oh (h.hd::t.map Hm.hd) k y.b=⟨k,y.b⟩::h.hd::t.map Hm.hd:=by
     unfold gE.oh;have:gE.find (h.hd::t.map Hm.hd) k=none:=by
      have:=FF (k:=k) (l:=h::t) (fun x hx=>by
       rcases jC.1 hx with rfl|hx
       .omega
       .have:=r x hx;omega)
      exact this
     rw[this];show gE.qu (h.hd::t.map Hm.hd) k y.b=_;unfold gE.qu;rw[gC (show¬h.hd.jy<k from w)]
    rw[f,li,li,li,ky,ky];show _++([y.hd]++_)=_;unfold Hm.hd;rw[q];rfl
theorem PO{k:Int}{y:Hm}(f:y.s=k){H:List Hm}(e:((H.map Hm.hd).map gE.Hd.jy).Pairwise (·<·)):(Nl (G5 k y H) y).map Hm.hd=gE.oh (H.map Hm.hd) k y.b:=by
 have:=FJ k y f H [] e;unfold G5;rw[this];rfl
theorem JD{k:Int}{y:Hm}{H:List Hm}:∀z∈Nl (G5 k y H) y,z∈H∨z=y:=by
 intro z e;have:=JF k y H H.length gM z;rw[sE] at this;unfold Nl at e;split at e;·exact this e
 .rcases kd.1 e with e|e
  .exact this e
  .exact .inr (by simpa using e)
theorem FE(l m:List gE.Hd)(k:Int):gE.find (l++m) k=(gE.find l k).or (gE.find m k):=by
 induction l with
 |nil=>rfl
 |cons h t e=>
  show(if h.jy=k then some h.b else gE.find (t++m) k)=(if h.jy=k then some h.b else gE.find t k).or (gE.find m k);split;·rfl
  .exact e
theorem JR{H:List Hm}{k:Int}{j:Nat}(f:j<H.length)(e:H[j].s≠k):gE.find ((H.take (j+1)).map Hm.hd) k=gE.find ((H.take j).map Hm.hd) k:=by
 rw[qG f,li,FE];have:gE.find ([H[j]].map Hm.hd) k=none:=by show gE.find [H[j].hd] k=none;unfold gE.find;rw[gC (show¬H[j].hd.jy=k from e)];rfl
 rw[this];cases gE.find (List.map Hm.hd (List.take j H)) k<;>rfl
theorem zO{k:Int}:∀{l:List Hm},(∀h∈l,h.s≠k)->gE.find (l.map Hm.hd) k=none
 |[],_=>rfl
 |h::t,hk=>by show gE.find (h.hd::t.map Hm.hd) k=none;unfold gE.find;rw[gC (show¬h.hd.jy=k from hk h (by simp))];exact zO (fun x e=>hk x (by simp[e]))
theorem PJ{H:List Hm}(f:((H.map Hm.hd).map gE.Hd.jy).Pairwise (·<·)){i j:Nat}(hi:i<j)(e:j<H.length):(H[i]'(by omega)).s<H[j].s:=by
 have:=List.pairwise_iff_getElem.1 f i j (by simp;omega) (by simpa using e) hi;simpa[Hm.hd] using this
theorem ND{H:List Hm}{k:Int}(o:((H.map Hm.hd).map gE.Hd.jy).Pairwise (·<·)){j:Nat}(e:j<H.length)(f:H[j].s=k):gE.find ((H.take (j+1)).map Hm.hd) k=some H[j].b:=by
 rw[qG e,li,FE,zO (fun h m=>?_)]
 .show gE.find [H[j].hd] k=_;unfold gE.find;rw[gG (show H[j].hd.jy=k from f)];rfl
 .obtain⟨i,hi,rfl⟩:=List.mem_take_iff_getElem.1 m;have:=PJ o (i:=i) (j:=j) (by omega) e;omega
def EM(w:World)(sz:Nat)(v:Value)(n:Nat)(cs:List Value):Prop:=∃a cap,v=.slice a n cap/\Sl w sz a n cap cs
theorem EM.below{w w':World}{sz n:Nat}{v:Value}{cs:List Value}(h:EM w sz v n cs)(hb:Below w w w'):EM w' sz v n cs:=by
 obtain⟨a,c,e,h⟩:=h;exact⟨a,c,e,h.below hb⟩
theorem Sl.off{w w':World}{sz:Nat}{a:Option Addr}{n cap:Nat}{cs:List Value}{S:List Nat}(h:Sl w sz a n cap cs)(r:gU w w' S)(m:0<n->∀b off,a=some ⟨b,off,Option.none⟩->b∉S):Sl w' sz a n cap cs:=
 ⟨h.le,h.max,h.len,h.nil,fun q=>by obtain⟨b,off,e,hc⟩:=h.addr q;refine⟨b,off,e,fun j u B=>?_⟩;have o:=hc j u B;have f:=iM _ _ o;rw[yw (w:=w) (r.block b f (m q b off e))];exact o⟩
theorem Sl.first{w w':World}{sz:Nat}{a:Option Addr}{n cap:Nat}{cs:List Value}{S:List Nat}(h:Sl w sz a n cap cs)(L:0<sz)(E:gU w w' S)(F:∀B∈S,∃f t,w.heap[B]?=some (.cells f t)/\∀u,cs[0]?=some u->u∉f.toList):Sl w' sz a n cap cs:=
 h.off E (fun r b off e K=>by
  obtain⟨f,t,hb,N⟩:=F b K;have I:=h.len;have j:0<cs.length:=by rw[I];exact Nat.mul_pos r L
  have o:cs[0]?=some cs[0]:=jz j;obtain⟨b',C,e',hc⟩:=h.addr r;rw[e] at e';cases e';have q:=hc 0 _ o;rw[mH,gw hb] at q;exact N _ o (by obtain⟨m,G⟩:=tQ.1 q;rw[<-G];exact Array.mem_toList_iff.2 (Array.getElem_mem m)))
theorem nt{w:World}{base:Nat}{e:TypeId}{sz m:Nat}{v:Value}{xs:List Value}(h:w.ownsRow base e sz v m xs):∀a n c,v=.slice a n c->Ty w a n e:=by
 intro a n c f;obtain⟨a',r,e',_⟩:=gK h;rw[e'] at f;injection f with j o q;subst j o q;rw[e'] at h;exact nb h
structure nv (w:World) (m:ig):Prop where
 ng:EM w 2 m.dv m.D.length (rows mT m.D)
 held:∀x∈m.D,Sl w 2 x.a x.H.length x.cap (rows jE x.H)
 bytes:∀x∈m.D,∀h∈x.H,Bt w h.a h.b.length h.cap h.b
 tail:∃a c,m.tv=.slice a m.T.length c/\Bs w a m.T.length c m.T
 seen:EM w 1 m.sv m.seen.length (m.seen.map (Value.int .i64))
 ib:∃a c,m.av=.slice a m.A.length c/\As w a m.A.length c m.A
 O7:∀a n c,m.dv=.slice a n c->Ty w a n 63
 O9:∀x∈m.D,Ty w x.a x.H.length 66
 Ow:∀x∈m.D,∀h∈x.H,Ty w h.a h.b.length 5
 M4:∀a n c,m.tv=.slice a n c->Ty w a n 50
 M0:∀a n c,m.sv=.slice a n c->Ty w a n 3
 KY:∀a n c,m.av=.slice a n c->Ty w a n 55
theorem nv.below{w w':World}{m:ig}(h:nv w m)(hb:Below w w w'):nv w' m:=
 ⟨h.ng.below hb,fun x f=>(h.held x f).below hb,fun x f y o=>(h.bytes x f y o).below hb,by
  obtain⟨a,c,e,j⟩:=h.tail;exact⟨a,c,e,j.below hb⟩,h.seen.below hb,by
  obtain⟨a,c,e,j⟩:=h.ib;exact⟨a,c,e,j.below hb⟩,fun a n c e=>(h.O7 a n c e).below hb,fun x f=>(h.O9 x f).below hb,fun x f y o=>(h.Ow x f y o).below hb,fun a n c e=>(h.M4 a n c e).below hb,fun a n c e=>(h.M0 a n c e).below hb,fun a n c e=>(h.KY a n c e).below hb⟩
theorem Nj.sv{w:World}{base:Nat}{m:ig}(h:Nj w base m):nv w m:=
 ⟨gK h.ng,fun x j=>by
  obtain⟨a,c,e,f⟩:=gK (h.held x j);simp only[Dm.v,kx,kI] at e;obtain⟨rfl,rfl⟩:=e;exact f,fun x j y o=>by
  obtain⟨a,c,e,f⟩:=gK (h.bytes x j y o);simp only[Hm.v,kx,kI] at e;obtain⟨rfl,rfl⟩:=e;exact f,by
  obtain⟨a,c,e,f⟩:=gK h.tail;refine⟨a,c,e,f,fun r F=>?_⟩;obtain⟨B,C⟩:=h.il r F;obtain⟨G,c1,q,E⟩:=gK B;cases q;exact⟨E,C⟩,gK h.seen,by
  obtain⟨a,c,e,f⟩:=gK h.ib;exact⟨a,c,e,f,h.EN⟩,nt h.ng,fun x j=>nb (h.held x j),fun x j y o=>nb (h.bytes x j y o),nt h.tail,nt h.seen,nt h.ib⟩
theorem Bu{w:World}{t:TypeId}:∀a n c,Value.slice none 0 0=.slice a n c->Ty w a n t:=by
 intro a n c e;injection e with h f j;subst f;exact Ty.zero _ _ _
theorem nv.zero(w:World):nv w wZ:=
 ⟨⟨none,0,rfl,Sl.none w 2⟩,(fun x e=>by cases e),(fun x e=>by cases e),⟨none,0,rfl,Sl.none w 2,fun r f=>by cases f⟩,⟨none,0,rfl,Sl.none w 1⟩,⟨none,0,rfl,Sl.none w 4,fun r f=>by cases f⟩,Bu,(fun x e=>by cases e),(fun x e=>by cases e),Bu,Bu,Bu⟩
def OL(w:World)(S:List Nat):Prop:=∀B∈S,∃(e:Array Value) (t:TypeId),w.heap[B]?=some (.cells e t)/\(t=32∨t=42∨t=30∨t=73)/\∀s,Value.string s∉e.toList
theorem OL.ne{w:World}{S:List Nat}(h:OL w S){t:TypeId}(m:t≠32/\t≠42/\t≠30/\t≠73):∀B∈S,∃(cs:Array Value) (o:TypeId),w.heap[B]?=some (.cells cs o)/\o≠t:=fun B r=>by
 obtain⟨j,o,q,f,_⟩:=h B r;refine⟨j,o,q,fun e=>?_⟩;subst e;rcases f with f|f|f|f
 .exact m.1 f
 .exact m.2.1 f
 .exact m.2.2.1 f
 .exact m.2.2.2 f
theorem Pp{l:List gD.Ev}{u:Value}(e:(hQ l)[0]?=some u):∃s,u=.string s:=by
 cases l with
 |nil=>simp[hQ] at e
 |cons x l=>
  refine⟨x.s,?_⟩;have:(hQ (x::l))[0]?=some (.string x.s):=rfl;rw[this] at e;exact(kO e).symm
theorem Es.off{w W:World}{S:List Nat}{a:Option Addr}{n cap:Nat}{l:List gD.Ev}(h:Es w a n cap l)(o:gU w W S)(q:OL w S):Es W a n cap l:=
 ⟨Sl.first h.sl (by decide) o (fun B m=>by
  obtain⟨e,t,f,_,j⟩:=q B m;exact⟨e,t,f,fun u r=>by obtain⟨s,rfl⟩:=Pp r;exact j s⟩),h.ok⟩
theorem nv.only{w W:World}{m:ig}{S:List Nat}(h:nv w m)(f:gU w W S)(j:OL w S):nv W m:=by
 refine⟨?_,fun x q=>(h.held x q).lG (h.O9 x q) f (j.ne (by decide)),fun x q y B=>Sl.lG (h.bytes x q y B) (h.Ow x q y B) f (j.ne (by decide)),?_,?_,?_,
  fun a n c e=>(h.O7 a n c e).only f (j.ne (by decide)),fun x q=>(h.O9 x q).only f (j.ne (by decide)),fun x q y B=>(h.Ow x q y B).only f (j.ne (by decide)),fun a n c e=>(h.M4 a n c e).only f (j.ne (by decide)),fun a n c e=>(h.M0 a n c e).only f (j.ne (by decide)),fun a n c e=>(h.KY a n c e).only f (j.ne (by decide))⟩
 .obtain⟨a,c,e,o⟩:=h.ng;exact⟨a,c,e,o.lG (h.O7 _ _ _ e) f (j.ne (by decide))⟩
 .obtain⟨a,c,e,o⟩:=h.tail;exact⟨a,c,e,o.sl.lG (h.M4 _ _ _ e) f (j.ne (by decide)),fun r C=>(o.ev r C).off f j⟩
 .obtain⟨a,c,e,o⟩:=h.seen;exact⟨a,c,e,o.lG (h.M0 _ _ _ e) f (j.ne (by decide))⟩
 .obtain⟨a,c,e,o⟩:=h.ib;exact⟨a,c,e,o.sl.lG (h.KY _ _ _ e) f (j.ne (by decide)),o.ok⟩
theorem ux{w:World}{B:Nat}(N O P Q S:Int)(e f j m:Option Addr)(G o I q K r L E:Nat)(h:w.heap[B]?=some (.cells #[N,O,P,(e,G,o),Q,(f,I,q),(j,K,r),S,(m,L,E)] 32)):OL w [B]:=by
 intro C F;obtain rfl:=iA.1 F;exact⟨_,_,h,.inl rfl,fun s=>by simp⟩
theorem nr{w:World}{B C:Nat}(Q S U V W X Y Z:Int)(f j m o b2 q:Option Addr)(L r N E O F P G m2 d2 K I:Nat)(h:w.heap[B]?=some (.cells #[Q,S,U,(f,L,r),V,(j,N,E),(m,O,F),W,(o,P,G)] 32))
  (k:w.heap[C]?=some (.cells #[X,Y,(b2,m2,d2),Z,(q,K,I)] 42)):OL w [B,C]:=by
 intro D e;simp only[jC,nK,lR] at e;rcases e with rfl|rfl
 .exact⟨_,_,h,.inl rfl,fun s=>by simp⟩
 .exact⟨_,_,k,.inr (.inl rfl),fun s=>by simp⟩
def pN(w:World)(v:Value)(a:gE.An):Prop:=∃ea ec aa ac,v=gX a.err a.n (.slice ea a.il.length ec) a.view.upto (.slice aa a.view.ib.length ac)/\Es w ea a.il.length ec a.il/\As w aa a.view.ib.length ac a.view.ib/\Ty w ea a.il.length 78/\Ty w aa a.view.ib.length 55
theorem pN.below{w w':World}{v:Value}{a:gE.An}(h:pN w v a)(hb:Below w w w'):pN w' v a:=by
 obtain⟨ea,ec,aa,ac,e,f,j,m,o⟩:=h;exact⟨ea,ec,aa,ac,e,f.below hb,j.below hb,m.below hb,o.below hb⟩
theorem pN.only{w W:World}{v:Value}{a:gE.An}{S:List Nat}(h:pN w v a)(f:gU w W S)(j:∀t,t=78∨t=55->∀B∈S,∃(cs:Array Value) (C:TypeId),w.heap[B]?=some (.cells cs C)/\C≠t):pN W v a:=by
 obtain⟨ea,ec,aa,ac,e,m,o,q,r⟩:=h;exact⟨ea,ec,aa,ac,e,⟨m.sl.lG q f (j _ (.inl rfl)),m.ok⟩,⟨o.sl.lG r f (j _ (.inr rfl)),o.ok⟩,q.only f (j _ (.inl rfl)),r.only f (j _ (.inr rfl))⟩
theorem pN.off{w W:World}{v:Value}{a:gE.An}{S:List Nat}(h:pN w v a)(e:gU w W S)(f:OL w S):pN W v a:=h.only e (fun t j=>f.ne (by rcases j with rfl|rfl<;>decide))
theorem pN.err(w:World)(e:Int):pN w (gX e 0 () 0 ()) (gE.nf e):=⟨none,0,none,0,rfl,⟨Sl.none w 3,fun r f=>by cases f⟩,⟨Sl.none w 4,fun r f=>by cases f⟩,Ty.zero _ _ _,Ty.zero _ _ _⟩
theorem pN.num(w:World)(n:Int):pN w (gX 0 n () 0 ()) (gE.Ak n):=⟨none,0,none,0,rfl,⟨Sl.none w 3,fun r e=>by cases e⟩,⟨Sl.none w 4,fun r e=>by cases e⟩,Ty.zero _ _ _,Ty.zero _ _ _⟩
def rk(P:gE.St×gE.An)(f:List Rb)(h:Rb)(w:World)(e:Ending)(w':World):Prop:=∃m v,e=.returned (.tuple #[jd m,v])/\nv w' m/\pN w' v P.2/\m.st=P.1/\(∀r∈m.T,r∈f∨r=h)/\Below w w w'
end Go.Proofs.YthhcdfjijagalaaGreat
namespace Go.Proofs.YthhcdfjijagalaaGreat
open Qz Go.Proofs.Tryz Go.RowKit Go.Maps
structure xK (w:World) (base:Nat) (D:List Dm):Prop where
 held:∀x∈D,w.ownsRow base 66 2 x.v x.H.length (rows jE x.H)
 bytes:∀x∈D,∀h∈x.H,w.ownsRow base 5 1 h.v h.b.length (cb h.b)
 sep:Sep D
section
variable {w w' w0 : World} {base : Nat} {D : List Dm}
theorem xK.nil(w:World)(base:Nat):xK w base []:=⟨(fun x e=>by cases e),(fun x e=>by cases e),⟨(fun x e=>by cases e),(fun i j x y k f hi=>by simp at hi),(fun i j x y k f hi=>by simp at hi)⟩⟩
theorem xK.below(h:xK w base D)(hb:Below w w w'):xK w' base D:=⟨fun x e=>gL (h.held x e) hb,fun x e y f=>gL (h.bytes x e y f) hb,h.sep⟩
theorem xK.mono{e:Nat}(h:xK w base D)(hb:e<=base):xK w e D:=⟨fun x f=>hJ (h.held x f) hb,fun x f y j=>hJ (h.bytes x f y j) hb,h.sep⟩
theorem Dn{x:Dm}(m:∀h∈x.H,w.ownsRow base 5 1 h.v h.b.length (cb h.b)){k:Nat}(j:k∈x.bb):base<=k/\k<w.heap.size:=by
 obtain⟨h,f,e⟩:=pk.1 j;exact(m h f).lt k e
theorem xK.snoc(h:xK w0 base D)(hb:Below w0 w0 w)(L:base<=w0.heap.size)(x:Dm)(G:w.ownsRow w0.heap.size 66 2 x.v x.H.length (rows jE x.H))(I:∀h∈x.H,w.ownsRow w0.heap.size 5 1 h.v h.b.length (cb h.b))(O:x.bb.Nodup):xK w base (D++[x]):=by
 have K:=h.below hb;have get:∀i z,(D++[x])[i]?=some z->D[i]?=some z∨(i=D.length/\z=x):=by
  intro i z hz;by_cases hi:i<D.length;·rw[List.getElem?_append_left hi] at hz;exact .inl hz
  .rw[sY (by omega)] at hz;cases hd:i-D.length with
   |zero=>
    rw[hd] at hz;simp only[List.getElem?_cons_zero,Option.some.injEq] at hz;exact .inr ⟨by omega,hz.symm⟩
   |succ m=>rw[hd] at hz;simp at hz
 refine⟨fun z hz=>?_,fun z hz q N=>?_,⟨fun z hz=>?_,fun i j a b k C hi F r=>?_,fun i j a b k C hi F r=>?_⟩⟩
 .rcases kd.1 hz with hz|hz
  .exact K.held z hz
  .obtain rfl:=iA.1 hz;exact hJ G L
 .rcases kd.1 hz with hz|hz
  .exact K.bytes z hz q N
  .obtain rfl:=iA.1 hz;exact hJ (I q N) L
 .rcases kd.1 hz with hz|hz
  .exact h.sep.own z hz
  .obtain rfl:=iA.1 hz;exact O
 .rcases get i a hi with f|⟨f,E⟩<;>rcases get j b F with o|⟨o,B⟩
  .exact h.sep.held i j a b k C f o r
  .intro e;rw[B] at e;have:=((h.held a (jX f)).lt k r).2;have:=(G.lt k e).1;omega
  .intro e;rw[E] at r;have:=((h.held b (jX o)).lt k e).2;have:=(G.lt k r).1;omega
  .omega
 .rcases get i a hi with f|⟨f,E⟩<;>rcases get j b F with o|⟨o,B⟩
  .exact h.sep.bytes i j a b k C f o r
  .intro e;rw[B] at e;have:=(Dn (h.bytes a (jX f)) r).2;have:=(Dn I e).1;omega
  .intro e;rw[E] at r;have:=(Dn (h.bytes b (jX o)) e).2;have:=(Dn I r).1;omega
  .omega
structure Ni (w:World) (base:Nat) (H:List Hm):Prop where
 bytes:∀h∈H,w.ownsRow base 5 1 h.v h.b.length (cb h.b)
 nodup:(H.filterMap fun h=>h.v.ownBlock).Nodup
theorem Ni.nil(w:World)(base:Nat):Ni w base []:=⟨(fun x e=>by cases e),vM⟩
theorem Ni.below{H:List Hm}(h:Ni w base H)(hb:Below w w w'):Ni w' base H:=⟨fun x e=>gL (h.bytes x e) hb,h.nodup⟩
theorem xK.Oo{G n cap o:Nat}{xs:List Value}(h:xK w base D)(f:w.ownsRow o 63 2 (some (G,gy),n,cap) n xs)(j:Nat)(v:Value):xK (w.setCell (G,j) v) base D:=
 ⟨fun x e=>ji (a:=(G,j)) (h.held x e) (jL f (h.held x e) (by decide) rfl) v,fun x e y m=>ji (a:=(G,j)) (h.bytes x e y m) (jL f (h.bytes x e y m) (by decide) rfl) v,h.sep⟩
theorem xK.off{cs:Array Value}{B:Nat}(h:xK w base D)(m:gU w w' [B])(j:w.heap[B]?=some (.cells cs 32)):xK w' base D:=
 ⟨fun x e=>m.own (h.held x e) (fun k f=>by
  obtain rfl:k=B:=by simpa using f
  exact gP (h.held x e) j (by decide)),fun x e y o=>m.own (h.bytes x e y o) (fun k f=>by
  obtain rfl:k=B:=by simpa using f
  exact gP (h.bytes x e y o) j (by decide)),h.sep⟩
theorem Ni.snoc{H:List Hm}(h:Ni w0 base H)(C:∀{e:TypeId} {sz n f:Nat} {v:Value} {xs:List Value},w0.ownsRow f e sz v n xs->e≠66->w.ownsRow f e sz v n xs)(r:base<=w0.heap.size)(y:Hm)(m:w.ownsRow w0.heap.size 5 1 y.v y.b.length (cb y.b)):Ni w base (H++[y]):=by
 refine⟨fun z j=>?_,?_⟩
 .rcases kd.1 j with j|j
  .exact C (h.bytes z j) (by decide)
  .obtain rfl:=iA.1 j;exact hJ m r
 .rw[List.filterMap_append];refine List.nodup_append.2 ⟨h.nodup,?_,fun a B b hb=>?_⟩
  .rw[List.filterMap_cons];split;·exact vM
   .simp
  .obtain⟨z,j,e⟩:=pk.1 B;obtain⟨q,E,o⟩:=pk.1 hb;obtain rfl:=iA.1 E;have:=((h.bytes z j).lt a e).2;have:=(m.lt b o).1;omega
end
theorem wH{w w':World}{r:Option Nat}{b:Nat}{o:Obj}(j:w.grownBy w' r)(f:r≠some b)(h:w.heap[b]?=some o):w'.heap[b]?=some o:=by
 rw[j.block b (iq h) (fun e=>f e.symm)];exact h
theorem NC(x:Dm):∀u∈mT x,u.oneCell'=true:=by
 intro u e;simp only[mT,jC,nK,lR] at e;rcases e with rfl|rfl<;>rfl
theorem Hv{D N:List Dm}{i:Nat}{x:Dm}(hi:i<D.length)(j:N.length=i)(a:Option Addr)(cap:Nat)(H:List Hm)(m:D[i].g=x.g)(h:x=⟨x.g,a,cap,H⟩):(rows mT (N++D.drop i)).set (i*2+1) (a,H,cap)=rows mT ((N++[x])++D.drop (i+1)):=by
 have f:i<(N++D.drop i).length:=by simp;omega
 have e:(N++D.drop i)[i]'f=D[i]:=by rw[nI (by omega)];simp[j]
 rw[mJ lJ (N++D.drop i) x (a,H,cap) 1 (by decide) i f (by rw[e,h];unfold mT Dm.v;simp[m])];congr 1;rw[xp _ _ (by omega),j,lU,rv hi,iN,ky];rfl
theorem Kf{W w':World}{r:Option Addr}{n c:Nat}(B:gU W w' (Value.slice r n c).ownBlock.toList){j:Nat}{q:List Value}(C:W.ownsRow j 66 2 (r,n,c) n q){e:TypeId}{sz m f:Nat}{v:Value}{xs:List Value}(h:W.ownsRow f e sz v m xs)(o:e≠66):w'.ownsRow f e sz v m xs:=
 B.own h (fun k E e'=>jL C h (fun e=>o e.symm) (by simpa using E) e')
theorem rC(m:ig)(w:World)(h:nv w m)(aT:0<m.D.length)(hD:m.D.length<=100)(hH:∀x∈m.D,x.H.length<=1000)(hY:∀x∈m.D,∀h∈x.H,h.b.length<=1000):
  Calls prog 29 #[jd m] w fun e w'=>∃G B N,e=.returned (jd {m with dv:=.slice (some ⟨G,0,none⟩) m.D.length B,D:=N})/\N.length=m.D.length/\N.map Dm.dk=m.D.map Dm.dk/\nv w' {m with dv:=.slice (some ⟨G,0,none⟩) m.D.length B,D:=N}/\w'.ownsRow w.heap.size 63 2 (.slice (some ⟨G,0,none⟩) m.D.length B) m.D.length (rows mT N)/\xK w' w.heap.size N/\Below w w w':=by
 obtain⟨d,s,b,dv,D,g,tv,T,sv,seen,u,av,A⟩:=m;obtain⟨da,dc,a7,az⟩:=h.ng;obtain⟨ta,tc,bk,aF⟩:=h.tail;obtain⟨sa,sc,bj,aE⟩:=h.seen;obtain⟨aa,ac,a5,has⟩:=h.ib;simp only at a7 bk bj a5 az aF aE has aT hD hH hY;subst a7 bk bj a5;have bz:=gx az;have aJ:=gx h.held;have aI:=gx h.bytes;have bD:=gx aF;have bC:=gx aE;have bu:=gx has;have aq:=gx (show(∀a n c,Value.slice ta T.length tc=.slice a n c->Ty w a n 50)/\(∀a n c,Value.slice sa seen.length sc=.slice a n c->Ty w a n 3)/\(∀a n c,Value.slice aa A.length ac=.slice a n c->Ty w a n 55) from⟨h.M4,h.M0,h.KY⟩);have HH:=gx hH;have HY:=gx hY;simp only at aJ aI;clear h az aF aE has hH hY;unfold jd;simp only;have B0:=gF (o':=.cells uN 32) (gO w (.cells #[d,s,b,(da,D,dc),g,(ta,T,tc),(sa,seen,sc),u,(aa,A,ac)] 32));have B1:=gO (w.alloc (.cells #[d,s,b,(da,D,dc),g,(ta,T,tc),(sa,seen,sc),u,(aa,A,ac)] 32)) (.cells uN 32);rw[jH] at B1;have bV:=gx (((iU w.heap.size w).alloc gM (.cells #[d,s,b,(da,D,dc),g,(ta,T,tc),(sa,seen,sc),u,(aa,A,ac)] 32)).alloc (by simp) (.cells uN 32));unfold uN at B0 B1 bV;go_enter func29,ntmps29;go_upto_region 1 with(fail);obtain⟨V,hV⟩:∃V,V=(w.alloc (.cells #[d,s,b,(da,D,dc),g,(ta,T,tc),(sa,seen,sc),u,(aa,A,ac)] 32)).alloc (.cells #[gy,gy,gy,(),gy,(),(),gy,()] 32):=⟨_,rfl⟩;rw[<-hV] at B0 B1 bV⊢;have aY:=gx (show V.heap.size=w.heap.size+2 by rw[hV];simp);clear hV;have ai:=gx (bz.below bV);have c3:V.cell? (w,jF)=some (.slice da D.length dc):=gw B0;have k3:(V.alloc (.cells #[] 63)).cell? (w,jF)=some (.slice da D.length dc):=gw (gF B0);have bN:=bV.size;have ae:=gx (show OT V (V.alloc (.cells #[] 63)) none V.heap.size 63 2 (some (V,gy),gy,gy) 0 [] from OT.fresh (sA V #[] 0 gM (by decide) rfl) (gZ.alloc gM _) gM);have aG:=gx B0;have aH:=gx B1;have br:=gF (o':=.cells #[] 63) aG;go_wp2_with (at_builtin;go_loud (refine wpList_append_t rfl (.tmp 7) (.tmp 9) 25 25 rfl V.heap.size 63 2 32 (.agg #[.bool false,()]) underlying25 AF rfl (by decide) (some (V,gy),gy,gy) 0 [] rfl ae (da,D,dc) D.length (rows mT D) rfl (Sl.src (ai.alloc _) underlying25 (Bb NC D)) (by unfold maxLen;omega) (by omega) (by simp) ?_);intro v5 w5 o5 g5;have O:=o5.own;rw[jk,mZ] at O;obtain⟨G,B,rfl,-,-,-,-⟩:=jR O aT;have aP:=gx o5;have q5:=gx (ie ae.own g5 br (by decide));have r5:=gx (ie ae.own g5 (gF aH) (by decide));have f5:∀j,w5.frozen? ⟨w.heap.size,j,none⟩=false:=(fun j=>gA q5);have x5:w5.cell? (w,jF)=some (.slice da D.length dc):=(gw q5));have aS:Below w w w5:=gH bV (aP.im gM (fun k e=>by cases e));have hG:G≠w.heap.size:=by have:=O.lt G rfl;have:=aY.out;omega
 have bK:G≠w.heap.size+1:=by have:=O.lt G rfl;have:=aY.out;omega
 obtain⟨W,hW⟩:∃W,W=w5.setCell (w,jF) (some (G,gy),D,B):=⟨_,rfl⟩;have aw:gU w5 W [w.heap.size]:=by rw[hW];exact(gU.refl w5 [w.heap.size]).setCell (a:=(w,jF)) (.inl (by simp)) _
 have aZ:W.heap[w.heap.size]?=some (.cells #[d,s,b,(some (G,gy),D,B),g,(ta,T,tc),(sa,seen,sc),u,(aa,A,ac)] 32):=by rw[hW];exact mB (i:=3) q5 _
 have a2:W.heap[w.heap.size+1]?=some (.cells #[gy,gy,gy,(),gy,(),(),gy,()] 32):=aw.jJ r5 (by simp);have a0:W.ownsRow w.heap.size 63 2 (some (G,gy),D,B) D.length (rows mT D):=hJ (aw.own O (fun x C=>by
  obtain rfl:x=w.heap.size:=by simpa using C
  intro e;exact hG (by simpa[Value.ownBlock] using e))) bN
 have a3:Below w w W:=by rw[hW];exact aS.setCell (p:=(w,jF)) gM _
 rw[<-hW];have aR:=gx aZ;have bG:=gx a2;have bF:=gx a0;have bH:=gx a3;clear hW aw aZ a2 a0 a3 q5 r5 f5 x5 aP O g5 aS c3 k3 br ae aG aH B0 B1 ai bV;have z3:W.cell? (w,jF)=some (.slice (some (G,gy)) D.length B):=gw aR;go_wp2_with fail;clear z3;go_loopg[15] D.length (fun gg bO wr=>∃(i:Nat) (N:List Dm),gg=D.length-i/\i<=D.length/\bO=.int .i64 (i:Int)/\Hid (N.length=i)/\Hid (N.map Dm.dk=(D.take i).map Dm.dk)/\wr.heap[w.heap.size]?=some (.cells #[d,s,b,(some (G,gy),D,B),g,(ta,T,tc),(sa,seen,sc),u,(aa,A,ac)] 32)/\wr.heap[w.heap.size+1]?=some (.cells #[gy,gy,gy,(),gy,(),(),gy,()] 32)/\wr.ownsRow w.heap.size 63 2 (some (G,gy),D,B) D.length (rows mT (N++D.drop i))/\xK wr w.heap.size N/\Below w w wr);case atStart=>exact⟨0,[],rfl,by omega,rfl,gx rfl,gx rfl,aR,bG,bF,xK.nil _ _,bH⟩
 case round=>
  obtain⟨i,N,rfl,hi,rfl,K,aO,a9,bf,bd,bc,bg⟩:=hrel;obtain⟨wo,rfl⟩:∃wo:World,wo=wr:=⟨_,rfl⟩;have ab:=gx a9;have L:=gx bf;have S:=gx bd;have aQ:=gx bc;have ad:=gx bg;clear a9 bf bd bc bg;by_cases aB:i<D.length
  .have ah:(N++D.drop i)[i]?=some D[i]:=by rw[sY (by rw[K.out];exact jb _),K.out,lU,qY,mH,jz aB]
   have ag:=gx (aJ D[i] (iE _));have ay:=gx (aI D[i] (iE _));have a8:=HH D[i] (iE _);have aC:=gx (HY D[i] (iE _));have bM:=gx (rfl:D[i]=D[i]);obtain⟨x,C⟩:∃x,x=D[i]:=⟨_,rfl⟩;rw[<-C] at ah ag ay a8 aC;have HX:=gx C;clear C bM;obtain⟨xg,xa,xc,E⟩:=x;simp only at ag ay a8 aC;obtain⟨bQ,bR,ee,bh⟩:=gK S;cases ee;have aj:i<(N++D.drop i).length:=by have:=K.out;rw[iH,kG];omega
   obtain⟨-,e1⟩:=pd bh i aj;have e2:(N++D.drop i)[i]=⟨xg,xa,xc,E⟩:=by rw[jz aj] at ah;exact kO ah
   rw[e2] at e1;replace e1:wo.cell? ⟨G,i*2+1,none⟩=some (.slice xa E.length xc):=by simpa using e1
   clear bh e2 ah;have i0:(0:Int)<=(i:Int):=by omega
   have i1:(i:Int)<(D.length:Int):=by omega
   have z3:wo.cell? (w,jF)=some (.slice (some (G,gy)) D.length B):=gw ab;go_wp2_with fail;have aK:=gx e1;clear z3 e1;go_loopg[25,4] E.length (fun gg bP s4 wr=>∃(j:Nat) (H:List Hm) (P:Option Addr) (hc:Nat),gg=E.length-j/\j<=E.length/\bP=.int .i64 (j:Int)/\s4=.slice P j hc/\Hid (H.length=j)/\Hid (H.map Hm.hd=(E.take j).map Hm.hd)/\OT wo wr none wo.heap.size 66 2 (P,j,hc) j (rows jE H)/\Ni wr wo.heap.size H);case atStart=>exact⟨0,[],none,0,rfl,by omega,rfl,rfl,gx rfl,gx rfl,OT.fresh (iY _ _ _ _) gZ gM,Ni.nil _ _⟩
   case round=>
    obtain⟨j,H,P,hc,rfl,hj,rfl,rfl,aN,aM,au,aV⟩:=hrel;obtain⟨f,rfl⟩:∃f:World,f=wr:=⟨_,rfl⟩;have ao:=gx au;have al:=gx aV;have bi:=gx (au.im gM (fun k e=>by cases e));clear au aV;have bS:=bi.size;by_cases ak:j<E.length
    .obtain⟨xb,xo,rfl,-⟩:=ag.addr (by omega);have r:=gH ad bi;obtain⟨e0,e1⟩:=qA (ag.below r) j ak;have ax:=gx ((ay E[j] (iE _)).below r);obtain⟨y,hy⟩:∃y,y=E[j]:=⟨_,rfl⟩;have bm:=aC E[j] (iE _);rw[<-hy] at e0 e1 ax bm;have bJ:=gx hy;clear hy r;obtain⟨ys,ya,yc,I⟩:=y;simp only at e0 e1 ax bm;have i0:(0:Int)<=(j:Int):=by omega
     have i1:(j:Int)<(E.length:Int):=by omega
     go_upto_region 9 with(fail);obtain⟨U,hU⟩:∃U,U=f.alloc (.cells #[ys,(ya,I,yc)] 66):=⟨_,rfl⟩;have af:U.heap[f.heap.size]?=some (.cells #[ys,(ya,I,yc)] 66):=by rw[hU];exact gO _ _
     have ar:=gx (show Below f f U by rw[hU];exact gZ.alloc gM _);have aX:f.heap.size<U.heap.size:=iq af;rw[<-hU];clear hU;obtain⟨x0,x1⟩:=lv af;have bw:=gx (ax.below ar);have Q:=gx (ao.below ar);have aD:=gx (show(Value.slice P j hc).ownBlock≠some f.heap.size from fun e=>oP _ (ao.own.lt _ e).2);have bE:=gx af;clear e0 e1;go_region_held3 (fun w'=>w'.cell? (f,gy)=some (.int .i64 ys)/\w'.cell? (f,ia)=some (.slice ya I.length yc)) (first|with_reducible exact⟨x0,x1⟩|with_reducible exact⟨bp,bq⟩|with_reducible exact⟨bn,bo⟩|(refine⟨?_,?_⟩<;>(repeat (first|with_reducible assumption|with_reducible refine m9 ?_|with_reducible refine cdrew ?_));done)|go_keep)
       (first
        |(refine step_append_ob rfl (.tmp 32) (.tmp 34) rfl U.heap.size (some (U,gy),gy,gy) [] I rfl (OB.lit (w:=U) (W:=U.drew) (iV gZ) #[] [] (by simp[maxLen]) rfl) ya I.length yc rfl ((Sl.drewN bw 1).alloc _) (by simp;omega) (by simp) ?_;intro v4 w4 o4 g4;have Z:OB U w4 none U.heap.size v4 I:=o4;obtain⟨za,zc,rfl,-⟩:=gK Z.own;have b4:Below U U w4:=Z.im gM (fun k e=>by cases e);have bn:=(b4.cell (p:=(f,gy)) aX).trans x0;have bo:=(b4.cell (p:=(f,ia)) aX).trans x1)
        |(refine step_append_t rfl (.tmp 29) (.tmp 37) 61 61 rfl wo.heap.size 66 2 32 (.agg #[gy,()]) underlying61 lQ rfl (by decide) (P,j,hc) j (rows jE H) rfl ((Q.below b4).alloc _) (some (w4,gy),ia,ia) 1 (jE ⟨ys,za,zc,I⟩) rfl (Src.mr w4 #[.int .i64 ys,.slice za I.length zc] 66 1 2 underlying61 rfl (by simp[Value.oneCell'])) (by unfold maxLen;omega) (by omega) (by have:=b4.size;simp;omega) ?_;intro v5 w5 o5 g5;obtain⟨a4,a6,rfl,-⟩:=gK o5.own;have u5:=wH g5 aD (gF (gB bE b4));have bp:w5.cell? (f,gy)=some (.int .i64 ys):=gw u5;have bq:w5.cell? (f,ia)=some (.slice ya I.length yc):=gw u5))
     have bA:=gx (show OT wo w5 none wo.heap.size 66 2 (a4,(j+1),a6) (j+1) (rows jE (H++[⟨ys,za,zc,I⟩])) by rw[kh];exact o5);have bI:=gx (show w5.ownsRow U.heap.size 5 1 (za,I,zc) I.length (cb I) from yp (Z.own.alloc _) g5 (fun q hq e=>jL ((Q.below b4).alloc (.cells #[ys,(za,I,zc)] 66)).own (Z.own.alloc _) (by decide) hq e));have bB:=gx (show gU U w5 (Value.slice P j hc).ownBlock.toList from(((gU.refl U _).below b4).alloc _).more g5 (fun x C=>.inl (by rw[C];simp)));clear o4 Z g4 o5 g5 b4 bn bo x0 x1 af u5 bp bq;go_wp2_with fail;go_roundg (E.length-(j+1));case measure=>omega
     case rel=>
      refine⟨j+1,H++[⟨ys,za,zc,I⟩],a4,a6,rfl,by omega,by go_num,rfl,gx (by rw[iH,aN.out];rfl),gx ?_,bA.out,?_⟩;·rw[li,aM.out,qG ak,li,<-bJ.out];rfl
      .exact(al.below ar).snoc (fun ho aD=>Kf bB Q.own ho aD) (by omega) _ bI
    .obtain rfl:j=E.length:=by omega
     have aA:=gL S bi;have fz:∀q,f.frozen? ⟨G,q,none⟩=false:=fun q=>aA.frozenAt q;have e1:f.cell? ⟨G,i*2+1,none⟩=some (.slice xa E.length xc):=(bi.cell (p:=⟨G,_,none⟩) (iM _ _ aK)).trans aK;have z3:f.cell? (w,jF)=some (.slice (some (G,gy)) D.length B):=gw (gB ab bi);have aL:=gx aA;clear aA;go_wp2_with fail;go_roundg (D.length-(i+1));case measure=>omega
     case rel=>
      have hO:gU f (f.setCell ⟨G,i*2+1,none⟩ (P,E,hc)) [G]:=(gU.refl f [G]).setCell (a:=⟨G,i*2+1,none⟩) (.inl (by simp)) _;have aU:H.length=E.length:=aN.out;refine⟨i+1,N++[⟨xg,P,hc,H⟩],rfl,by omega,by go_num,gx (by rw[iH,K.out];rfl),gx ?_,hO.jJ (gB ab bi) (by simpa using fun e=>hG e.symm),hO.jJ (gB L bi) (by simpa using fun e=>bK e.symm),?_,?_,?_⟩
      .rw[li,aO.out,qG aB,li,<-HX.out];have:=aM.out;rw[sE] at this;show _++[Dm.dk _]=_++[Dm.dk _];unfold Dm.dk;simp only;rw[this]
      .have h1:=Hv (D:=D) (N:=N) (x:=⟨xg,P,hc,H⟩) aB K P hc H (by rw[<-HX.out]) rfl;rw[aU] at h1;exact jQ aL (i*2+1) _ h1 (by omega)
      .refine xK.Oo (aQ.snoc bi ad.size ⟨xg,P,hc,H⟩ ?_ al.bytes al.nodup) aL _ _;show f.ownsRow wo.heap.size 66 2 (P,H,hc) H.length (rows jE H);rw[aU];exact ao.own
      .exact(gH ad bi).setCell (p:=⟨G,i*2+1,none⟩) (S.lt G rfl).1 _
  .obtain rfl:i=D.length:=by omega
   obtain⟨r0,r1,r2,r3,r4,r5,r6,r7,r8⟩:=kC ab;obtain⟨x0,x1,x2,x3,x4,x5,x6,x7,x8⟩:=kC L;have f0:∀j,wo.frozen? ⟨w.heap.size+1,j,none⟩=false:=fun j=>gA L;go_wp2_with fail;obtain⟨W9,bL,q,F,aW⟩:=gV (b:=w.heap.size+1) ad (sF _) L d s b (some (G,gy),D,B) g (ta,T,tc) (sa,seen,sc) u (aa,A,ac);rw[bL];obtain⟨q0,q1,q2,q3,q4,q5,q6,q7,q8⟩:=kC q;have X:=aQ.off aW L;have o:W9.ownsRow w.heap.size 63 2 (some (G,gy),D,B) D.length (rows mT N):=by
    have:=aW.own S (fun x C=>by
     obtain rfl:x=w.heap.size+1:=by simpa using C
     exact gP S L (by decide))
    rw[List.drop_length,mY] at this;exact this
   have Y:N.length=D.length:=K.out;have ap:=gx o;rw[<-Y] at o;refine gS (v:=.agg #[d,s,b,(some (G,gy),D,B),g,(ta,T,tc),(sa,seen,sc),u,(aa,A,ac)]) (by simp[results,results29,go_sem,q0,q1,q2,q3,q4,q5,q6,q7,q8]) rfl ⟨G,B,N,rfl,Y,by rw[aO.out,sE],?_,?_,X,F⟩
   .refine⟨?_,fun x C=>?_,fun x C y hy=>?_,⟨ta,tc,rfl,bD.below F⟩,⟨sa,sc,rfl,bC.below F⟩,⟨aa,ac,rfl,bu.below F⟩,nt ap,fun x C=>nb (X.held x C),fun x C y hy=>nb (X.bytes x C y hy),fun a n c e=>(aq.1 a n c e).below F,fun a n c e=>(aq.2.1 a n c e).below F,fun a n c e=>(aq.2.2 a n c e).below F⟩
    .rw[Y] at o;show EM W9 2 (some (G,gy),D,B) N.length (rows mT N);rw[Y];exact gK o
    .obtain⟨a1,c1,e,h1⟩:=gK (X.held x C);simp only[Dm.v,kx,kI] at e;obtain⟨rfl,rfl⟩:=e;exact h1
    .obtain⟨a1,c1,e,h1⟩:=gK (X.bytes x C y hy);simp only[Hm.v,kx,kI] at e;obtain⟨rfl,rfl⟩:=e;exact h1
   .show W9.ownsRow w.heap.size 63 2 (some (G,gy),D,B) D.length (rows mT N);rw[Y] at o;exact o
end Go.Proofs.YthhcdfjijagalaaGreat

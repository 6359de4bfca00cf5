import Derived.Test.YthhcdfjijagalaaGreatM01
import Derived.Laws.CopyOwn
import Derived.Deep.AppendLies
set_option linter.all false
namespace Go.Proofs.YthhcdfjijagalaaGreat
open Qz Go.Proofs.Tryz Go.RowKit
theorem I7{W e:World}(hb:Below W W e):(∀b o,b<W.heap.size->e.cell? ⟨b,o,none⟩=W.cell? ⟨b,o,none⟩)/\(∀b o,b<W.heap.size->e.frozen? ⟨b,o,none⟩=W.frozen? ⟨b,o,none⟩):=
 ⟨fun b o h=>hb.cell (p:=(b,o)) h,fun b o h=>hb.frozen (p:=(b,o)) h⟩
theorem nT(w:World)(cs:Array Value)(t:TypeId)(i:Nat):(w.alloc (.cells cs t)).cell? (w,i)=cs[i]?:=by simp
theorem ik{w:World}{o:Obj}{b i:Nat}(h:b<w.heap.size):(w.alloc o).cell? (b,i)=w.cell? (b,i):=(((iU w.heap.size w).alloc gM o).cell (p:=(b,i)) h)
theorem mC{w:World}{o:Obj}{b i:Nat}(h:b<w.heap.size):(w.alloc o).frozen? (b,i)=w.frozen? (b,i):=(((iU w.heap.size w).alloc gM o).frozen (p:=(b,i)) h)
theorem jR{w:World}{base:Nat}{e:TypeId}{sz:Nat}{v:Value}{n:Nat}{xs:List Value}(h:w.ownsRow base e sz v n xs)(f:0<n):∃g cap,v=.slice (some ⟨g,0,none⟩) n cap/\base<=g/\g<w.heap.size/\n<=cap/\cap<=maxLen:=by
 rcases h.2 with⟨rfl,rfl⟩|⟨g,cap,j,rfl,hb,m,f,o,q,r⟩
 .omega
 .exact⟨g,cap,rfl,hb,(tQ.1 m).1,f,o⟩
theorem Dw(l:List UInt8)(i:Nat)(y:UInt8):cb (l.set i y)=(cb l).set i (.int .u8 (y.toNat:Int)):=by simp[cb,nz]
theorem Ng(a b:Nat)(h:b≠0):a^^^b≠a:=by
 intro e;apply h;have:a^^^(a^^^b)=a^^^a:=by rw[e]
 rwa[<-qI,rh,Nat.zero_xor] at this
theorem wpList_make_bytes{f:Array Oper}{rest:List Oper}{o:Oper}{a:Act}{Q:Exit->Act->World->Prop}{w:World}(E:o.guard=none)(l c:Operand)(m:o.op=Op.makeSlice 64 l c)
  (n:Nat) (G:a.eval l=.int .i64 (n:Int)) (hc:a.eval c=.int .i64 (n:Int)) (K:n<=140737488355328)
  (C:∀w',w'.ownsRow w.heap.size 5 1 (some (w,gy),n,n) n (cb (List.replicate n 0))->Below w w w'->w.heap.size<w'.heap.size->wpList prog f Q rest (a.put o.dst (some (w,gy),n,n)) w'):
  wpList prog f Q (o::rest) a w:=by
 obtain⟨i,hi,I,q,r⟩:=jW sd;refine wpList_make_full w E l c 64 m w.heap.size 5 i (.int .u8 0) 1 underlying64 hi I q .i64 .i64 n n n G hc rfl rfl (by rw[r];omega) (by unfold maxLen;omega) gM ?_;intro w' B h;have j:=(B.lt _ rfl).2;refine C w' ?_ (Below.grown gZ h gM (by intro k F;cases F)) j;have e:(madeCells (Value.cells (.int .u8 0)) (n*1)).toList=cb (List.replicate n 0):=by
  simp only[madeCells,Value.cells,cb,me,List.map_replicate];apply mW;·simp
  .intro i q r;simp[Nat.mod_one]
 rw[<-e];exact B
theorem sn{w:World}{base:Nat}{e:TypeId}{g n cap:Nat}{xs:List Value}(h:w.ownsRow base e 1 (some (g,gy),n,cap) n xs):
  ∃f:List Value,w.heap[g]?=some (.cells f.toArray e)/\base<=g/\n<=cap/\cap<=maxLen/\f.length=cap/\f.take n=xs:=by
 rcases h.2 with⟨j,_⟩|⟨E,r,f,j,hb,B,q,m,o,C⟩
 .simp at j
 .simp only[kx,Option.some.injEq,Addr.mk.injEq,and_true,kI] at j;obtain⟨rfl,rfl⟩:=j;exact⟨f.toList,by simpa using B,hb,q,m,by simpa using o,by simpa using C⟩
theorem AT{w:World}{base:Nat}{e:TypeId}{g n cap:Nat}{xs:List Value}{f:List Value}(j:w.heap[g]?=some (.cells f.toArray e))(hb:base<=g)(o:n<=cap)(hc:cap<=maxLen)(m:f.length=cap)(h:f.take n=xs):
  w.ownsRow base e 1 (some (g,gy),n,cap) n xs:=
 ⟨by rw[<-h,jh];omega,.inr ⟨g,cap,f.toArray,rfl,hb,j,o,hc,by simpa using m,by simpa using h⟩⟩
theorem wpList_copy_bytes{F:Array Oper}{rest:List Oper}{o:Oper}{a:Act}{Q:Exit->Act->World->Prop}{w:World}(P:o.guard=none)(d s:Operand)
  (ho:o.op=.call {callee:=.builtin .copy,args:=#[d,s],argTypes:=#[64,64]})
  (base g n cap:Nat) (l m:List UInt8) (hd:a.eval d=.slice (some (g,gy)) n cap) (e:w.ownsRow base 5 1 (some (g,gy),n,cap) n (cb l))
  (U:Option Addr) (f V:Nat) (hs:a.eval s=.slice U f V) (W:Bt w U f V m) (G:Nat) (w0:World) (K:Below G w0 w) (ad:G<=base)
  (h:∀w' r,w'.ownsRow base 5 1 (some (g,gy),n,cap) n (cb (m.take n++l.drop f))->Below G w0 w'->wpList prog F Q rest (a.put o.dst r) w'):wpList prog F Q (o::rest) a w:=by
 obtain⟨q,hg,L,S,N,ab,O⟩:=sn e;have E:=Bt.n W;have ae:l.length=n:=by have:=e.1;simpa[cb] using this
 refine wpList_copy_splice P d s 64 64 ho 5 underlying64 (by kernel_rfl) (some (g,gy)) U n cap f V hd hs g 0 q 5 hg (cb (m.take n)) (by rw[lO,jh,E];exact Nat.min_comm _ _) (fun hp=>?_)
  (by rw[lO,jh];omega) (xR _) G w0 K (by omega) ?_
 .refine⟨rfl,?_⟩;rw[lO,jh] at hp;obtain⟨b,off,rfl,hc⟩:=W.addr (by omega);refine⟨_,rfl,fun j v I=>?_⟩;rw[je];refine hc j v ?_;have:cb (m.take n)=(cb m).take n:=by simp[cb,vP]
  rw[this,ql] at I;split at I;·exact I
  .cases I
 .intro w' B Z;have B:w'.heap[g]?=some (.cells (splice q 0 (cb (m.take n))).toArray 5):=B;have C:(splice q 0 (cb (m.take n))).length=cap:=by unfold splice;simp only[oO,mZ,iH,lO,jh,kG];omega
  refine h w' _ (AT B L S N C ?_) Z;unfold splice;simp only[oO,mZ,jk];rw[List.take_append,ld (by rw[lO,jh];omega),oG];congr 1;have X:(cb (m.take n)).length=min n f:=by rw[lO,jh,E]
  rw[X];have Y:cb (l.drop f)=(cb l).drop f:=by simp[cb,List.map_drop]
  rw[Y,<-O];by_cases hh:f<=n;·rw[Nat.min_eq_right hh,List.drop_take]
  .rw[pE (by omega),lU,oO,List.drop_eq_nil_of_le (by rw[jh];omega)]
section
variable {P : Program} (w : World)
theorem lN(base:Nat)(t tx ty e:TypeId)(i:TypeInfo)(z:Value)(size bytes:Nat)(ht:P.underlying t=some (.slice e))(hi:P.info? e=some i)(hz:i.zero=some z)
  (U:i.size=size) (ae:i.bytes=bytes) (ai:z.cells.size=size) (ak:0<size)
  (v:Value) (n:Nat) (xs:List Value) (q:w.ownsRow base e size v n xs)
  (x:Value) (m:Nat) (f:List Value) (G:Src P size tx x m f w)
  (X:n+m<=maxLen) (B:(n+m)*bytes<=140737488355328) (L:base<=w.heap.size):
  ∃v' w',(Builtin.append_ #[t,tx] ty #[v,x]).run P w=.ok v' w'/\w'.ownsRow base e size v' (n+m) (xs++f)/\w.grownBy w' v.ownBlock/\(v'.ownBlock=v.ownBlock∨v'.ownBlock=some w.heap.size):=by
 subst U;subst ae;have ab:n+m<=9223372036854775807:=by simp only[maxLen] at X;omega
 have hl:=G.newsLen;have h:(xs++f).length=(n+m)*i.size:=by rw[iH,q.1,hl,nB]
 have grown:∀(old:Nat),old<n+m->∀(row:Option Nat),
   (w.drew.alloc (.cells ((xs++f).toArray++Builtin.zeroCells z.cells (grownCap w (n+m) old e-(n+m))) e)).ownsRow base e i.size
    (.slice (some (w,gy)) (n+m) (grownCap w (n+m) old e)) (n+m) (xs++f)/\
   w.grownBy (w.drew.alloc (.cells ((xs++f).toArray++Builtin.zeroCells z.cells (grownCap w (n+m) old e-(n+m))) e)) row:=by
  intro old ho row;have ag:=grownCap_ge w (n+m) old e;have N:grownCap w (n+m) old e<=maxLen:=vL w (n+m) old e X;refine⟨⟨h,.inr ⟨w.heap.size,_,_,rfl,L,vN w.drew _,ag,N,?_,?_⟩⟩,⟨rfl,rfl,rfl,by simp,fun k I _=>vO w.drew _ I⟩⟩
  .rw[sB,sC,qh,ai,h,<-nB];congr 1;omega
  .rw[sx,<-h];exact tL
 rcases q.2 with⟨rfl,rfl⟩|⟨g,cap,F,rfl,ad,hg,aj,N,af,V⟩
 .have ah:xs=[]:=qj (by simpa using q.1);subst ah;by_cases hm:m=0
  .subst hm;have hn:f=[]:=qj (by simpa using hl);subst hn;refine⟨.slice none 0 0,w,?_,iY w base e i.size,⟨rfl,rfl,rfl,jb _,fun _ _ _=>rfl⟩,.inl rfl⟩;have hc:=G.cells;have O:=G.len;rcases G.kind with⟨e',I⟩|I<;>simp[Builtin.append_,oi ht,oi I,sizeOf,typeInfo,hi,O,hc]
  .have W:=run_append_grow_src (P:=P) w t tx ty e i z ht hi hz none 0 0 [] (run_firstCells_none w.drew i.size 0 0 0) x m f G (by omega) (by omega) (tM (by omega) B);have C:=grown 0 (by omega) (Value.ownBlock ());simp only[jk,mZ] at C W⊢;exact⟨_,_,W,C.1,C.2,.inr rfl⟩
 .by_cases r:n+m<=cap
  .have Y:n*i.size+f.length<=F.size:=by rw[hl,af,<-nB];exact ss _ r
   have Z:=run_storeCells_at P g (n*i.size) e f 0 F w hg (by simpa using Y) G.one;simp only[mH] at Z;have hc:=G.cells;have O:=G.len;have W:(Builtin.append_ #[t,tx] ty #[.slice (some (g,gy)) n cap,x]).run P w=.ok (some (g,gy),(n+m),cap) (w.setRow g (F.toList.take (n*i.size)++f++F.toList.drop (n*i.size+f.length)).toArray):=by rcases G.kind with⟨e',I⟩|I<;>simp[Builtin.append_,oi ht,oi I,sizeOf,typeInfo,hi,O,r,hc,Addr.add_lit,Z]
   refine⟨_,_,W,⟨h,.inr ⟨g,cap,_,rfl,ad,nC w g F _ e _ hg,r,N,?_,?_⟩⟩,⟨rfl,rfl,rfl,by simp,fun k _ I=>oF w g k _ (fun e=>I (by simp[Value.ownBlock,e]))⟩,.inl rfl⟩
   .simp only[sC,iH,jh,kG,uW];omega
   .rw[V,<-h];exact tL
  .have S:∀j u,xs[j]?=some u->w.drew.cell? (((g,gy):Addr).add j)=some u:=fun j u hj=>q.cells (g:=g) rfl j u hj;have hold:=oD (P:=P) w.drew i.size n (g,gy) n cap xs q.1 S;have W:=run_append_grow_src (P:=P) w t tx ty e i z ht hi hz (some (g,gy)) n cap xs hold x m f G (by omega) (by omega) (tM (by omega) B);have C:=grown cap (by omega) (Value.ownBlock (some (g,gy),n,cap));exact⟨_,_,W,C.1,C.2,.inr rfl⟩
end
theorem LM{a b c:World}{r q:Option Nat}(h:a.grownBy b r)(k:b.grownBy c q)(j:q=r∨∀x,q=some x->a.heap.size<=x):a.grownBy c r:=
 ⟨k.os.trans h.os,k.tape.trans h.tape,k.output.trans h.output,jY h.size k.size,fun i hi f=>by
  refine(k.block i (qK hi h.size) (fun e=>?_)).trans (h.block i hi f);rcases j with j|j
  .exact f (e.trans j)
  .have:=j i e.symm;omega⟩
theorem mE{w w':World}(hb:Below w w w')(r:Option Nat):w.grownBy w' r:=⟨hb.os,hb.tape,hb.output,hb.size,fun i hi _=>hb.block i hi⟩
theorem mz{w w':World}{r:Option Nat}{b:Nat}(h:w.grownBy w' r)(hb:b<=w.heap.size)(f:∀k,r=some k->b<=k):Below b w w':=
 ⟨h.os,h.tape,h.output,h.size,fun k j=>h.block k (by omega) (fun e=>by have:=f k e.symm;omega)⟩
structure OT (w0 w:World) (row:Option Nat) (base:Nat) (e:TypeId) (sz:Nat) (o:Value) (n:Nat) (xs:List Value):Prop where
 own:w.ownsRow base e sz o n xs
 grown:w0.grownBy w row
 F6:o.ownBlock=row∨∀k,o.ownBlock=some k->w0.heap.size<=k
theorem OT.start{w:World}{base:Nat}{e:TypeId}{sz:Nat}{o:Value}{n:Nat}{xs:List Value}(h:w.ownsRow base e sz o n xs):OT w w o.ownBlock base e sz o n xs:=
 ⟨h,⟨rfl,rfl,rfl,jb _,fun _ _ _=>rfl⟩,.inl rfl⟩
theorem OT.fresh{w0 w:World}{base:Nat}{e:TypeId}{sz:Nat}{o:Value}{n:Nat}{xs:List Value}(h:w.ownsRow base e sz o n xs)(hb:Below w0 w0 w)(f:w0.heap.size<=base):OT w0 w none base e sz o n xs:=
 ⟨h,mE hb _,.inr fun k j=>jY f (h.lt k j).1⟩
theorem OT.step{w0 w w':World}{row q:Option Nat}{base:Nat}{e:TypeId}{sz:Nat}{o:Value}{n:Nat}{xs:List Value}(h:OT w0 w row base e sz o n xs)(j:w.grownBy w' q)(hq:q=none∨∀x,q=some x->w0.heap.size<=x/\o.ownBlock≠some x):OT w0 w' row base e sz o n xs:=
 ⟨h.own.kept j (by
   rcases hq with rfl|hq
   .cases o.ownBlock<;>simp
   .cases f:q with
    |none=>cases o.ownBlock<;>simp
    |some x=>exact .inr (hq x f).2),
  LM h.grown j (.inr fun x m=>by rcases hq with rfl|hq;cases m;exact(hq x m).1),h.F6⟩
theorem OT.alloc{w0 w:World}{row:Option Nat}{base:Nat}{e:TypeId}{sz:Nat}{o:Value}{n:Nat}{xs:List Value}(h:OT w0 w row base e sz o n xs)(x:Obj):OT w0 (w.alloc x) row base e sz o n xs:=h.step (World.grownBy_alloc w x none) (.inl rfl)
theorem OT.below{w0 w w':World}{row:Option Nat}{base:Nat}{e:TypeId}{sz:Nat}{o:Value}{n:Nat}{xs:List Value}(h:OT w0 w row base e sz o n xs)(hb:Below w w w'):OT w0 w' row base e sz o n xs:=h.step (mE hb none) (.inl rfl)
theorem OT.drewN{w0 w:World}{row:Option Nat}{base:Nat}{e:TypeId}{sz:Nat}{o:Value}{n:Nat}{xs:List Value}(h:OT w0 w row base e sz o n xs)(k:Nat):OT w0 (w.drewN k) row base e sz o n xs:=h.below ⟨rfl,rfl,rfl,jb _,fun _ _=>rfl⟩
theorem OT.drew{w0 w:World}{row:Option Nat}{base:Nat}{e:TypeId}{sz:Nat}{o:Value}{n:Nat}{xs:List Value}(h:OT w0 w row base e sz o n xs):OT w0 w.drew row base e sz o n xs:=h.drewN 1
theorem OT.more{w0 w w':World}{row:Option Nat}{base m:Nat}{e:TypeId}{sz:Nat}{o o':Value}{n:Nat}{xs j:List Value}(h:OT w0 w row base e sz o n xs)(q:w'.ownsRow base e sz o' m j)(r:w.grownBy w' o.ownBlock)(f:o'.ownBlock=o.ownBlock∨∀k,o'.ownBlock=some k->w.heap.size<=k):OT w0 w' row base e sz o' m j:=
 ⟨q,LM h.grown r h.F6,by
  rcases f with f|f
  .rw[f];exact h.F6
  .exact .inr fun k B=>jY h.grown.size (f k B)⟩
theorem OT.im{w0 w:World}{row:Option Nat}{base b:Nat}{e:TypeId}{sz:Nat}{o:Value}{n:Nat}{xs:List Value}(h:OT w0 w row base e sz o n xs)(hb:b<=w0.heap.size)(f:∀k,row=some k->b<=k):Below b w0 w:=mz h.grown hb f
section
variable {P : Program}
theorem wp_append_t{o:Oper}{a:Act}{K:Act->World->Prop}{Q:Exit->Act->World->Prop}{w:World}(s O:Operand)(t tx:TypeId)
  (W:o.op=.call {callee:=.builtin .append,args:=#[s,O],argTypes:=#[t,tx]})
  {w0:World} {row:Option Nat} (base:Nat) (e:TypeId) (size bytes:Nat) (z:Value) (Z:P.underlying t=some (.slice e)) (B:(P.info? e).map (fun i=>(i.zero,i.size,i.bytes))=some (some z,size,bytes)) (I:z.cells.size=size) (F:0<size)
  (v:Value) (n:Nat) (xs:List Value) (Y:a.eval s=v) (q:OT w0 w row base e size v n xs)
  (x:Value) (m:Nat) (f:List Value) (G:a.eval O=x) (hx:Src P size tx x m f w)
  (C:n+m<=maxLen) (j:(n+m)*bytes<=140737488355328) (r:base<=w.heap.size)
  (h:∀v' w',OT w0 w' row base e size v' (n+m) (xs++f)->w.grownBy w' v.ownBlock->K (a.put o.dst v') w'):o.wp P a w K Q:=by
 obtain⟨i,hi,hz,S,U⟩:=jW B;obtain⟨v',w',X,V,L,h5⟩:=lN (P:=P) w base t tx o.type e i z size bytes Z hi hz S U I F v n xs q.own x m f hx C j r;unfold Oper.wp execOp;simp only[W,resolve,invoke,builtin,tO,tP,tH,tI,lI,nj,Y,G,X];exact h v' w' (q.more V L (by
  rcases h5 with h5|h5
  .exact .inl h5
  .exact .inr fun k N=>by rw[h5] at N;cases N;exact jb _)) L
theorem wpList_append_t{ops:Array Oper}{rest:List Oper}{o:Oper}{a:Act}{Q:Exit->Act->World->Prop}{w:World}(F:o.guard=none)(s N:Operand)(t tx:TypeId)
  (V:o.op=.call {callee:=.builtin .append,args:=#[s,N],argTypes:=#[t,tx]})
  {w0:World} {row:Option Nat} (base:Nat) (e:TypeId) (size bytes:Nat) (z:Value) (X:P.underlying t=some (.slice e)) (r:(P.info? e).map (fun i=>(i.zero,i.size,i.bytes))=some (some z,size,bytes)) (L:z.cells.size=size) (G:0<size)
  (v:Value) (n:Nat) (xs:List Value) (W:a.eval s=v) (B:OT w0 w row base e size v n xs)
  (x:Value) (m:Nat) (f:List Value) (I:a.eval N=x) (Y:Src P size tx x m f w)
  (C:n+m<=maxLen) (j:(n+m)*bytes<=140737488355328) (q:base<=w.heap.size)
  (h:∀v' w',OT w0 w' row base e size v' (n+m) (xs++f)->w.grownBy w' v.ownBlock->wpList P ops Q rest (a.put o.dst v') w'):wpList P ops Q (o::rest) a w:=
 wpList_plain F fun K U=>wp_append_t s N t tx V base e size bytes z X r L G v n xs W B x m f I Y C j q fun v' w' O S=>U _ _ (h v' w' O S)
theorem step_append_t{ops:Array Oper}{o:Oper}{a:Act}{K:Act->World->Prop}{Q:Exit->Act->World->Prop}{E:Prop}{w:World}(F:o.guard=none)(s N:Operand)(t tx:TypeId)
  (O:o.op=.call {callee:=.builtin .append,args:=#[s,N],argTypes:=#[t,tx]})
  {w0:World} {row:Option Nat} (base:Nat) (e:TypeId) (size bytes:Nat) (z:Value) (U:P.underlying t=some (.slice e)) (r:(P.info? e).map (fun i=>(i.zero,i.size,i.bytes))=some (some z,size,bytes)) (L:z.cells.size=size) (G:0<size)
  (v:Value) (n:Nat) (xs:List Value) (S:a.eval s=v) (B:OT w0 w row base e size v n xs)
  (x:Value) (m:Nat) (f:List Value) (I:a.eval N=x) (W:Src P size tx x m f w)
  (C:n+m<=maxLen) (j:(n+m)*bytes<=140737488355328) (q:base<=w.heap.size)
  (h:∀v' w',OT w0 w' row base e size v' (n+m) (xs++f)->w.grownBy w' v.ownBlock->K (a.put o.dst v') w'):
  if Region.wanted o (yielded ops a.tmps)=true then Oper.wp P o a w K Q else E:=by
 have V:Region.wanted o (yielded ops a.tmps)=true:=by simp[Region.wanted,F]
 rw[gG V];exact wp_append_t s N t tx O base e size bytes z U r L G v n xs S B x m f I W C j q h
end
abbrev OB(w0 w:World)(row:Option Nat)(base:Nat)(o:Value)(l:List UInt8):Prop:=OT w0 w row base 5 1 o l.length (cb l)
theorem OB.lit{w W:World}(hb:Below w w W)(cs:Array Value)(L:List UInt8)(e:L.length<=maxLen)(h:cs.toList=cb L):OB w (W.alloc (.cells cs 5)) none w.heap.size (some (W,gy),L,L.length) L:=
 OT.fresh (xh W w.heap.size hb.size cs L e h) (hb.alloc hb.size _) gM
theorem OB.sl{w0 w:World}{row:Option Nat}{base:Nat}{o:Value}{l:List UInt8}(h:OB w0 w row base o l):∃a cap,o=.slice a l.length cap/\Bt w a l.length cap l:=gK h.own
section
variable {ops : Array Oper} {rest : List Oper} {o : Oper} {a : Act} {Q : Exit → Act → World → Prop} {K : Act → World → Prop} {E : Prop} {w w0 : World} {row : Option Nat}
theorem wpList_append_ob(q:o.guard=none)(s F:Operand)(S:o.op=.call {callee:=.builtin .append,args:=#[s,F],argTypes:=#[64,64]})
  (base:Nat) (v:Value) (l m:List UInt8) (U:a.eval s=v) (f:OB w0 w row base v l) (B:Option Addr) (j C:Nat) (r:a.eval F=.slice B j C) (I:Bt w B j C m)
  (G:l.length+m.length<=140737488355328) (e:base<=w.heap.size)
  (h:∀v' w',OB w0 w' row base v' (l++m)->w.grownBy w' v.ownBlock->wpList prog ops Q rest (a.put o.dst v') w'):wpList prog ops Q (o::rest) a w:=by
 have O:=Bt.n I;refine wpList_append_t q s F 64 64 S base 5 1 1 (.int .u8 0) underlying64 sd rfl (by decide) v l.length (cb l) U f (B,j,C) j (cb m) r (Sl.src I underlying64 (xR m)) (by unfold maxLen;omega) (by omega) e ?_;intro v' w' L N;refine h v' w' ?_ N;unfold OB;rw[iH,oG,O];exact L
theorem step_append_ob(q:o.guard=none)(s F:Operand)(S:o.op=.call {callee:=.builtin .append,args:=#[s,F],argTypes:=#[64,64]})
  (base:Nat) (v:Value) (l m:List UInt8) (U:a.eval s=v) (f:OB w0 w row base v l) (B:Option Addr) (j C:Nat) (r:a.eval F=.slice B j C) (I:Bt w B j C m)
  (G:l.length+m.length<=140737488355328) (e:base<=w.heap.size)
  (h:∀v' w',OB w0 w' row base v' (l++m)->w.grownBy w' v.ownBlock->K (a.put o.dst v') w'):if Region.wanted o (yielded ops a.tmps)=true then Oper.wp prog o a w K Q else E:=by
 have O:=Bt.n I;refine step_append_t q s F 64 64 S base 5 1 1 (.int .u8 0) underlying64 sd rfl (by decide) v l.length (cb l) U f (B,j,C) j (cb m) r (Sl.src I underlying64 (xR m)) (by unfold maxLen;omega) (by omega) e ?_;intro v' w' L N;refine h v' w' ?_ N;unfold OB;rw[iH,oG,O];exact L
theorem Dv(x:ByteArray):byteCells x=cb x.data.toList:=rfl
theorem step_append_os(m:o.guard=none)(s r:Operand)(G:o.op=.call {callee:=.builtin .append,args:=#[s,r],argTypes:=#[64,9]})
  (base:Nat) (v:Value) (l:List UInt8) (I:a.eval s=v) (j:OB w0 w row base v l) (x:ByteArray) (q:a.eval r=.string x)
  (B:l.length+x.size<=140737488355328) (f:base<=w.heap.size)
  (h:∀v' w',OB w0 w' row base v' (l++x.data.toList)->w.grownBy w' v.ownBlock->K (a.put o.dst v') w'):if Region.wanted o (yielded ops a.tmps)=true then Oper.wp prog o a w K Q else E:=by
 refine step_append_t m s r 64 9 G base 5 1 1 (.int .u8 0) underlying64 sd rfl (by decide) v l.length (cb l) I j x x.size (byteCells x) q (Src.ofString w underlying9 x) (by unfold maxLen;omega) (by omega) f ?_;intro v' w' C F;refine h v' w' ?_ F;unfold OB;rw[iH,oG,<-Dv];have e:x.data.toList.length=x.size:=by simp
 rw[e];exact C
end
theorem ie{w w':World}{base:Nat}{e t:TypeId}{sz n b:Nat}{o:Value}{xs:List Value}{cs:Array Value}{m:Nat×Nat}(f:w.ownsRow base e sz o n xs)(B:w.grownBy w' o.ownBlock)(hb:w.heap[b]?=some (.cells cs t m))(j:e≠t):w'.heap[b]?=some (.cells cs t m):=by
 rw[B.block b (tQ.1 hb).1 (fun q=>?_)];·exact hb
 .rcases f.2 with⟨rfl,_⟩|⟨g,cap,r,rfl,_,h,_⟩
  .simp[Value.ownBlock] at q
  .have:b=g:=by simpa[Value.ownBlock] using q
   subst this;rw[hb] at h;injection h with h;injection h with _ C;exact j C.symm
theorem gP{w:World}{base:Nat}{e t:TypeId}{sz n b:Nat}{o:Value}{xs:List Value}{cs:Array Value}{r:Nat×Nat}(f:w.ownsRow base e sz o n xs)(hb:w.heap[b]?=some (.cells cs t r))(j:e≠t):o.ownBlock≠some b:=by
 intro m;rcases f.2 with⟨rfl,_⟩|⟨g,cap,q,rfl,_,h,_⟩
 .simp[Value.ownBlock] at m
 .have:g=b:=by simpa[Value.ownBlock] using m
  subst this;rw[hb] at h;injection h with h;injection h with _ B;exact j B.symm
theorem gB{w w':World}{b:Nat}{o:Obj}(hb:w.heap[b]?=some o)(h:Below w w w'):w'.heap[b]?=some o:=by
 rw[h.block b (tQ.1 hb).1];exact hb
theorem gw{w:World}{b i:Nat}{cs:Array Value}{t:TypeId}{e:Nat×Nat}(hb:w.heap[b]?=some (.cells cs t e)):w.cell? (b,i)=cs[i]?:=by simp[World.cell?,hb]
theorem lv{w:World}{b:Nat}{x0 x1:Value}{l:List Value}{t:TypeId}(h:w.heap[b]?=some (.cells (List.toArray (x0::x1::l)) t (0,0))):w.cell? ⟨b,0,none⟩=some x0/\w.cell? ⟨b,1,none⟩=some x1:=⟨gw h,gw h⟩
theorem PP{w:World}{b:Nat}{x0 x1 x2:Value}{l:List Value}{t:TypeId}(h:w.heap[b]?=some (.cells (List.toArray (x0::x1::x2::l)) t (0,0))):w.cell? ⟨b,0,none⟩=some x0/\w.cell? ⟨b,1,none⟩=some x1/\w.cell? ⟨b,2,none⟩=some x2:=⟨gw h,gw h,gw h⟩
theorem Lm{w:World}{b:Nat}{x0 x1 x2 x3:Value}{l:List Value}{t:TypeId}(h:w.heap[b]?=some (.cells (List.toArray (x0::x1::x2::x3::l)) t (0,0))):w.cell? ⟨b,0,none⟩=some x0/\w.cell? ⟨b,1,none⟩=some x1/\w.cell? ⟨b,2,none⟩=some x2/\w.cell? ⟨b,3,none⟩=some x3:=⟨gw h,gw h,gw h,gw h⟩
theorem jV{w:World}{b:Nat}{x0 x1 x2 x3 x4:Value}{l:List Value}{t:TypeId}(h:w.heap[b]?=some (.cells (List.toArray (x0::x1::x2::x3::x4::l)) t (0,0))):w.cell? ⟨b,0,none⟩=some x0/\w.cell? ⟨b,1,none⟩=some x1/\w.cell? ⟨b,2,none⟩=some x2/\w.cell? ⟨b,3,none⟩=some x3/\w.cell? ⟨b,4,none⟩=some x4:=⟨gw h,gw h,gw h,gw h,gw h⟩
theorem QX{w:World}{b:Nat}{x0 x1 x2 x3 x4 x5:Value}{l:List Value}{t:TypeId}(h:w.heap[b]?=some (.cells (List.toArray (x0::x1::x2::x3::x4::x5::l)) t (0,0))):w.cell? ⟨b,0,none⟩=some x0/\w.cell? ⟨b,1,none⟩=some x1/\w.cell? ⟨b,2,none⟩=some x2/\w.cell? ⟨b,3,none⟩=some x3/\w.cell? ⟨b,4,none⟩=some x4/\w.cell? ⟨b,5,none⟩=some x5:=⟨gw h,gw h,gw h,gw h,gw h,gw h⟩
theorem QY{w:World}{b:Nat}{x0 x1 x2 x3 x4 x5 x6:Value}{l:List Value}{t:TypeId}(h:w.heap[b]?=some (.cells (List.toArray (x0::x1::x2::x3::x4::x5::x6::l)) t (0,0))):w.cell? ⟨b,0,none⟩=some x0/\w.cell? ⟨b,1,none⟩=some x1/\w.cell? ⟨b,2,none⟩=some x2/\w.cell? ⟨b,3,none⟩=some x3/\w.cell? ⟨b,4,none⟩=some x4/\w.cell? ⟨b,5,none⟩=some x5/\w.cell? ⟨b,6,none⟩=some x6:=⟨gw h,gw h,gw h,gw h,gw h,gw h,gw h⟩
theorem QZ{w:World}{b:Nat}{x0 x1 x2 x3 x4 x5 x6 x7:Value}{l:List Value}{t:TypeId}(h:w.heap[b]?=some (.cells (List.toArray (x0::x1::x2::x3::x4::x5::x6::x7::l)) t (0,0))):w.cell? ⟨b,0,none⟩=some x0/\w.cell? ⟨b,1,none⟩=some x1/\w.cell? ⟨b,2,none⟩=some x2/\w.cell? ⟨b,3,none⟩=some x3/\w.cell? ⟨b,4,none⟩=some x4/\w.cell? ⟨b,5,none⟩=some x5/\w.cell? ⟨b,6,none⟩=some x6/\w.cell? ⟨b,7,none⟩=some x7:=⟨gw h,gw h,gw h,gw h,gw h,gw h,gw h,gw h⟩
theorem kC{w:World}{b:Nat}{x0 x1 x2 x3 x4 x5 x6 x7 x8:Value}{l:List Value}{t:TypeId}(h:w.heap[b]?=some (.cells (List.toArray (x0::x1::x2::x3::x4::x5::x6::x7::x8::l)) t (0,0))):w.cell? ⟨b,0,none⟩=some x0/\w.cell? ⟨b,1,none⟩=some x1/\w.cell? ⟨b,2,none⟩=some x2/\w.cell? ⟨b,3,none⟩=some x3/\w.cell? ⟨b,4,none⟩=some x4/\w.cell? ⟨b,5,none⟩=some x5/\w.cell? ⟨b,6,none⟩=some x6/\w.cell? ⟨b,7,none⟩=some x7/\w.cell? ⟨b,8,none⟩=some x8:=⟨gw h,gw h,gw h,gw h,gw h,gw h,gw h,gw h,gw h⟩
theorem gA{w:World}{b i:Nat}{cs:Array Value}{t:TypeId}(hb:w.heap[b]?=some (.cells cs t)):w.frozen? (b,i)=false:=by simp[World.frozen?,hb]
theorem Ny{w:World}{b:Nat}(h:w.heap.size=b)(cs:Array Value)(t:TypeId)(i:Nat):(w.alloc (.cells cs t)).cell? (b,i)=cs[i]?:=by subst h;exact nT w cs t i
theorem Fk{w:World}{b:Nat}(h:w.heap.size=b)(cs:Array Value)(t:TypeId)(i:Nat):(w.alloc (.cells cs t)).drew.cell? (b,i)=cs[i]?:=Ny h cs t i
theorem gO(w:World)(o:Obj):(w.alloc o).heap[w.heap.size]?=some o:=vN w o
theorem gF{w:World}{b:Nat}{o o':Obj}(hb:w.heap[b]?=some o):(w.alloc o').heap[b]?=some o:=by rw[vO w o' (tQ.1 hb).1];exact hb
theorem iq{w:World}{b:Nat}{o:Obj}(hb:w.heap[b]?=some o):b<w.heap.size:=(tQ.1 hb).1
theorem Sl.drew{w:World}{sz:Nat}{a:Option Addr}{n cap:Nat}{cs:List Value}(h:Sl w sz a n cap cs):Sl w.drew sz a n cap cs:=h.drewN 1
structure gU (w w':World) (S:List Nat):Prop where
 os:w'.os=w.os
 tape:w'.tape=w.tape
 output:w'.output=w.output
 size:w.heap.size<=w'.heap.size
 block:∀k,k<w.heap.size->k∉S->w'.heap[k]?=w.heap[k]?
theorem gU.refl(w:World)(S:List Nat):gU w w S:=⟨rfl,rfl,rfl,jb _,fun _ _ _=>rfl⟩
theorem gU.more{w0 w w':World}{S:List Nat}{q:Option Nat}(h:gU w0 w S)(k:w.grownBy w' q)(m:∀x,q=some x->x∈S∨w0.heap.size<=x):gU w0 w' S:=
 ⟨k.os.trans h.os,k.tape.trans h.tape,k.output.trans h.output,jY h.size k.size,fun i hi f=>by
  refine(k.block i (qK hi h.size) (fun e=>?_)).trans (h.block i hi f);rcases m i e.symm with j|j
  .exact f j
  .omega⟩
theorem gU.alloc{w0 w:World}{S:List Nat}(h:gU w0 w S)(o:Obj):gU w0 (w.alloc o) S:=h.more (World.grownBy_alloc w o none) (fun x e=>by cases e)
theorem gU.below{w0 w w':World}{S:List Nat}(h:gU w0 w S)(hb:Below w w w'):gU w0 w' S:=h.more (mE hb none) (fun x e=>by cases e)
theorem gU.drew{w0 w:World}{S:List Nat}(h:gU w0 w S):gU w0 w.drew S:=⟨h.os,h.tape,h.output,h.size,h.block⟩
theorem gU.setCell{w0 w:World}{S:List Nat}(h:gU w0 w S){a:Addr}(m:a.block∈S∨w0.heap.size<=a.block)(v:Value):gU w0 (w.setCell a v) S:=
 ⟨h.os,h.tape,h.output,by simpa using h.size,fun k o j=>by
  rw[mG _ _ _ _ (fun e=>?_)];·exact h.block k o j
  .rcases m with f|f
   .exact j (e▸f)
   .omega⟩
theorem gU.nZ{w w':World}{S:List Nat}{b:Nat}(h:gU w w' S)(hb:b<=w.heap.size)(e:∀x∈S,b<=x):Below b w w':=
 ⟨h.os,h.tape,h.output,h.size,fun k j=>h.block k (by omega) (fun f=>by have:=e k f;omega)⟩
theorem gU.own{w w':World}{S:List Nat}{base:Nat}{e:TypeId}{sz:Nat}{o:Value}{n:Nat}{xs:List Value}(h:gU w w' S)(m:w.ownsRow base e sz o n xs)(B:∀x∈S,o.ownBlock≠some x):w'.ownsRow base e sz o n xs:=by
 refine⟨m.1,?_⟩;rcases m.2 with q|⟨g,cap,f,rfl,C,j,r⟩
 .exact .inl q
 .exact .inr ⟨g,cap,f,rfl,C,by rw[h.block g (tQ.1 j).1 (fun E=>B g E rfl)];exact j,r⟩
theorem gU.jJ{w w':World}{S:List Nat}{b:Nat}{o:Obj}(h:gU w w' S)(hb:w.heap[b]?=some o)(e:b∉S):w'.heap[b]?=some o:=by
 rw[h.block b (tQ.1 hb).1 e];exact hb
theorem gU.grown{w w':World}{r:Nat}(h:gU w w' [r]):w.grownBy w' (some r):=⟨h.os,h.tape,h.output,h.size,fun k j f=>h.block k j (by simpa using fun e=>f (by rw[e]))⟩
theorem gU.trans'{a b c:World}{S:List Nat}(h:gU a b S)(k:gU b c S):gU a c S:=
 ⟨k.os.trans h.os,k.tape.trans h.tape,k.output.trans h.output,jY h.size k.size,fun i hi e=>(k.block i (qK hi h.size) e).trans (h.block i hi e)⟩
theorem km{w:World}{a b:Nat}{cs e:Array Value}{t j:TypeId}{m f:Nat×Nat}(o:w.heap[a]?=some (.cells cs t m))(hb:w.heap[b]?=some (.cells e j f))(h:t≠j):a≠b:=by
 rintro rfl;rw[o] at hb;injection hb with hb;injection hb with _ q;exact h q
theorem Src.mr{P:Program}(W:World)(cs:Array Value)(t:TypeId)(m sz:Nat){tx e':TypeId}(h:P.underlying tx=some (.slice e'))(o:cs.size=m*sz)(e:∀u∈cs.toList,u.oneCell'=true):
  Src P sz tx (some (W,gy),m,m) m cs.toList (W.alloc (.cells cs t)):=
 Src.ofSlice _ h _ m m cs.toList (by simpa using o) (fun j u f=>by rw[je,jk,nT];simpa using f) e
end Go.Proofs.YthhcdfjijagalaaGreat

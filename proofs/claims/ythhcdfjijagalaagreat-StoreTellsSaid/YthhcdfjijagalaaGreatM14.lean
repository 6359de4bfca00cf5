import Derived.Test.YthhcdfjijagalaaGreatM12
import Derived.Lib.AppendZerosOnto
import Derived.Lib.Overlaps
import Derived.Laws.Externs
set_option linter.all false
set_option maxHeartbeats 4000000
set_option maxRecDepth 100000
namespace Go.Proofs.YthhcdfjijagalaaGreat
open Qz Go.Proofs.Tryz Go.RowKit
theorem F5:∀(x y:List UInt8),Op.bytesLess x y=decide (x<y)
 |[],[]=>by simp[Op.bytesLess]
 |_::_,[]=>by simp[Op.bytesLess]
 |[],_::_=>by simp[Op.bytesLess]
 |a::x,b::y=>by rw[Op.bytesLess,F5 x y];by_cases h:a=b<;>simp[h,List.cons_lt_cons_iff]
theorem uv(a b:ByteArray):Op.bytesLess a.toList b.toList=decide (gD.kP a<gD.kP b):=by
 rw[F5,tF,tF];rfl
def xT(a b:List UInt8):Int:=if a<b then -1 else if b<a then 1 else 0
theorem nF(a:ByteArray)(w:World):Calls prog 113 #[a] w (Same (.bool false) w):=by
 have e:(a.toList==a.toList)=true:=by simp
 go_enter func113,ntmps113;go_wp2_with fail;go_ret;exact⟨rfl,rfl⟩
theorem Fp(a b:ByteArray)(w:World):Calls prog 95 #[a,b] w (Same (.int .i64 (xT (gD.kP a) (gD.kP b))) w):=by
 have m:=gx (show xT (gD.kP a) (gD.kP b)=if gD.kP a<gD.kP b then -1 else if gD.kP b<gD.kP a then 1 else 0 from rfl);by_cases f:gD.kP a<gD.kP b
 .have r:Op.bytesLess a.toList b.toList=true:=by rw[uv,kr f]
  have h:=gx (m.trans (gG f));rw[h.out];clear f m h;go_enter func95,ntmps95;go_wp2_with fail;go_at_call 113;refine(nF _ _).mono ?_;rintro e q⟨rfl,rfl⟩;go_wp2_with fail;go_at_call 113;refine(nF _ _).mono ?_;rintro e q⟨rfl,rfl⟩;go_wp2_with fail;go_ret;exact⟨rfl,rfl⟩
 .have r:Op.bytesLess a.toList b.toList=false:=by rw[uv,ju f]
  by_cases j:gD.kP b<gD.kP a
  .have B:Op.bytesLess b.toList a.toList=true:=by rw[uv,kr j]
   have h:=gx (m.trans ((gC f).trans (gG j)));rw[h.out];have C:(a.toList==b.toList)=false:=by rw[lA,ju];rintro rfl;exact f j
   clear f j m h;go_enter func95,ntmps95;go_wp2_with fail;go_at_call 113;refine(nF _ _).mono ?_;rintro e q⟨rfl,rfl⟩;go_wp2_with fail;go_at_call 113;refine(nF _ _).mono ?_;rintro e q⟨rfl,rfl⟩;go_wp2_with fail;go_ret;exact⟨rfl,rfl⟩
  .have B:Op.bytesLess b.toList a.toList=false:=by rw[uv,ju j]
   have h:=gx (m.trans ((gC f).trans (gC j)));rw[h.out];have o:gD.kP a=gD.kP b:=List.le_antisymm (ri.1 j) (ri.1 f);have C:(a.toList==b.toList)=true:=by rw[tF,tF];have:a.data.toList=b.data.toList:=o;rw[this];simp
   clear f j m h o;go_enter func95,ntmps95;go_wp2_with fail;go_at_call 113;refine(nF _ _).mono ?_;rintro e q⟨rfl,rfl⟩;go_wp2_with fail;go_at_call 113;refine(nF _ _).mono ?_;rintro e q⟨rfl,rfl⟩;go_wp2_with fail;go_ret;exact⟨rfl,rfl⟩
theorem xG(a:Vw.Acc)(s:ByteArray)(w:World):Calls prog 94 #[oA a,s] w (m7 (.int .i64 (xT (Vw.key a) (gD.kP s))) w):=by
 obtain⟨t,m,c,o⟩:=a;unfold oA Vw.key;simp only;have D:=gx (fun W=>Fp t s W);generalize xT (gD.kP t) (gD.kP s)=r at *;go_enter func94,ntmps94;go_wp2_with fail;go_at_call 95;refine(D _).mono ?_;rintro e f⟨rfl,rfl⟩;go_wp2_with fail;go_ret;exact⟨rfl,gZ.alloc gM _⟩
def Found(l:List Vw.Acc)(s:ByteArray)(w:World)(e:Ending)(w':World):Prop:=
 ∃i:Nat,i<=l.length/\e=.returned (.tuple #[i,.bool (decide ((l[i]?).map Vw.key=some (gD.kP s)))])/\(∀j (h:j<l.length),j<i->Vw.key l[j]<gD.kP s)/\(∀j (h:j<l.length),i<=j->¬Vw.key l[j]<gD.kP s)/\Below w w w'
theorem Fm{a b:List UInt8}:xT a b<0↔a<b:=by
 unfold xT;by_cases h:a<b;·rw[gG h];simp[h]
 .rw[gC h];by_cases e:b<a;·rw[gG e];simp[h]
  .rw[gC e];simp[h]
theorem JK{a b:List UInt8}:xT a b=0↔a=b:=by
 unfold xT;by_cases h:a<b
 .rw[gG h];exact⟨fun e=>absurd e (by decide),fun e=>by subst e;exact absurd h (List.lt_irrefl _)⟩
 .rw[gC h];by_cases f:b<a
  .rw[gG f];exact⟨fun e=>absurd e (by decide),fun e=>by subst e;exact absurd f (List.lt_irrefl _)⟩
  .rw[gC f];exact⟨fun _=>List.le_antisymm (ri.1 f) (ri.1 h),fun _=>rfl⟩
def PX(l:List Vw.Acc):Prop:=∀i j (hi:i<l.length) (e:j<l.length),i<j->Vw.key l[i]<Vw.key l[j]
theorem Bg(a:Option Addr)(n cap:Nat)(l:List Vw.Acc)(s:ByteArray)(w:World)(h:As w a n cap l)(E:PX l)(hn:n<=1000):Calls prog 93 #[(a,n,cap),s,.func (Fn.func 94) #[] #[]] w (Found l s w):=by
 have L:=gx h.jO;have HR:=gx E;clear E;go_enter func93,ntmps93;go_wp2_with fail;go_loopg[9,10] n (fun g s9 ag wr=>∃i j:Nat,g=j-i/\i<=j/\j<=n/\s9=.int .i64 (i:Int)/\ag=.int .i64 (j:Int)/\Below w w wr/\Hid (∀k (F:k<l.length),k<i->Vw.key l[k]<gD.kP s)/\Hid (∀k (F:k<l.length),j<=k->¬Vw.key l[k]<gD.kP s));case atStart=>exact⟨0,n,rfl,by omega,by omega,rfl,rfl,iU _ _,gx (fun k _ F=>absurd F (by omega)),gx (fun k F aj=>absurd F (by rw[L.out];omega))⟩
 case round=>
  obtain⟨i,j,rfl,ab,ai,rfl,rfl,hb,Y,Z⟩:=hrel;by_cases af:i<j
  .obtain⟨b,off,rfl,_⟩:=h.sl.addr (by omega);obtain⟨m,hm⟩:∃m,m=(i+j)/2:=⟨_,rfl⟩;have ak:m<j:=by omega
   have ah:i<=m:=by omega
   have G:m<l.length:=by rw[L.out];omega
   obtain⟨O,P,Q,S⟩:=(h.below hb).at m G;have D:=gx (fun W=>xG l[m] s W);have s1:IntKind.i64.wrap ((i:Int)+(j:Int))=(i:Int)+(j:Int):=iO _ (by omega);have s2:IntKind.u64.wrap ((i:Int)+(j:Int))=(i:Int)+(j:Int):=IntWalk.u64_in _ (by omega);have s3:((i:Int)+(j:Int))/2=(m:Int):=by omega
   have i0:(0:Int)<=(m:Int):=by omega
   have i1:(m:Int)<(n:Int):=by omega
   replace hm:=gx hm;obtain⟨ac,B⟩:∃ac,l[m]=ac:=⟨_,rfl⟩;rw[B] at O P Q S D;replace B:=gx B;obtain⟨t,X,U,o⟩:=ac;simp only at O P Q S;unfold oA at D;by_cases f:Vw.key l[m]<gD.kP s
   .have C:=Fm.2 f;rw[B.out] at C;obtain⟨r,E⟩:∃r,xT (Vw.key (⟨t,X,U,o⟩:Vw.Acc)) (gD.kP s)=r:=⟨_,rfl⟩;rw[E] at C D;replace E:=gx E;have K:=gx f;clear f;go_wp2_with fail;go_at_call 94;refine(D _).mono ?_;rintro e w1⟨rfl,b1⟩;go_wp2_with fail;go_roundg (j-(m+1));case measure=>omega
    case rel=>
     refine⟨m+1,j,rfl,by omega,by omega,by go_num,rfl,gH hb b1,gx (fun k F ae=>?_),Z⟩;by_cases e:k=m;·subst e;exact K
     .exact List.lt_trans (HR k m F G (by omega)) K
   .have C:¬xT (Vw.key l[m]) (gD.kP s)<0:=fun I=>f (Fm.1 I);rw[B.out] at C;obtain⟨r,E⟩:∃r,xT (Vw.key (⟨t,X,U,o⟩:Vw.Acc)) (gD.kP s)=r:=⟨_,rfl⟩;rw[E] at C D;replace E:=gx E;have K:=gx f;clear f;go_wp2_with fail;go_at_call 94;refine(D _).mono ?_;rintro e w1⟨rfl,b1⟩;go_wp2_with fail;go_roundg (m-i);case measure=>omega
    case rel=>
     refine⟨i,m,rfl,by omega,by omega,rfl,by go_num,gH hb b1,Y,gx (fun k F ae I=>?_)⟩;by_cases e:k=m;·subst e;exact K I
     .exact K (List.lt_trans (HR m k G F (by omega)) I)
  .obtain rfl:i=j:=by omega
   clear af ab;by_cases ad:i<n
   .have N:i<l.length:=by rw[L.out];exact ad
    obtain⟨b,off,rfl,_⟩:=h.sl.addr (by omega);obtain⟨O,P,Q,S⟩:=(h.below hb).at i N;have D:=gx (fun W=>xG l[i] s W);have V:=JK (a:=Vw.key l[i]) (b:=gD.kP s);have q:(decide ((l[i]?).map Vw.key=some (gD.kP s)))=(xT (Vw.key l[i]) (gD.kP s)==0):=by
     rw[jz N,re];by_cases e:Vw.key l[i]=gD.kP s;·rw[V.2 e,kr (congrArg some e)];rfl
     .rw[ju (fun e'=>e (kO e'))];exact(jB.2 (fun I=>e (V.1 I))).symm
    replace q:=gx q;replace V:=gx V;obtain⟨ac,B⟩:∃ac,l[i]=ac:=⟨_,rfl⟩;rw[B] at O P Q S D q;replace B:=gx B;obtain⟨t,X,U,o⟩:=ac;simp only at O P Q S;unfold oA at D;obtain⟨r,E⟩:∃r,xT (Vw.key (⟨t,X,U,o⟩:Vw.Acc)) (gD.kP s)=r:=⟨_,rfl⟩;rw[E] at D q;replace E:=gx E;have u0:(i:Int)<(n:Int):=by omega
    go_wp2_with fail;go_at_call 94;refine(D _).mono ?_;rintro e w1⟨rfl,b1⟩;go_wp2_with fail;go_ret2;exact⟨i,by omega,by rw[q.out];rfl,Y,Z,gH hb b1⟩
   .obtain rfl:n=i:=by omega
    have q:=gx (ju (p:=(l[n]?).map Vw.key=some (gD.kP s)) (fun e=>by rw[rz (by rw[L.out];exact jb _)] at e;cases e));go_wp2_with fail;go_ret2;exact⟨n,by rw[L.out];exact jb _,by rw[q.out];rfl,Y,Z,hb⟩
theorem p7:(Tryz.prog.info? 55).map (fun i=>(i.zero,i.size,i.bytes))=some (some (.agg #[.string ⟨#[]⟩,gy,gy,.bool false]),4,40):=by kernel_rfl
theorem Ml(W:World)(base:Nat)(hb:base<=W.heap.size):(W.alloc (.cells #[] 55)).ownsRow base 55 4 (some (W,gy),gy,gy) 0 []:=
 sA W #[] 0 hb (by decide) rfl
section
variable {P : Program} (w : World)
theorem ke(C L N h e':TypeId)(sz:Nat)(K:P.underlying C=some (.slice h))(o:(P.info? h).map (·.size)=some sz)
  (g off f q e j:Nat) (sp:Option Addr) (m:List Value) (t:TypeId) (F:w.heap[g]?=some (.cells m.toArray t)) (cs:List Value)
  (I:(Builtin.firstCells sz (Nat.min e f) (sp,e,j)).run P w=.ok cs.toArray w) (r:off+cs.length<=m.length) (E:∀v∈cs,v.oneCell'=true):
  (Builtin.copy_ #[C,L] N #[.slice (some (g,off)) f q,.slice sp e j]).run P w=.ok (goInt (Nat.min e f)) (w.setRow g (splice m off cs).toArray):=by
 have B:=run_storeCells_at P g off t cs 0 m.toArray w F (by simpa using r) E;simp only[mH] at B;cases hi:P.info? h with
 |none=>rw[hi] at o;cases o
 |some i=>
  rw[hi] at o;have o:i.size=sz:=by simpa using o
  subst o;have G:(Builtin.lenOf (sp,e,j)).run P w=.ok e w:=rfl;simp[Builtin.copy_,oi K,sizeOf,typeInfo,hi,G,I,B,splice]
theorem wpList_copy_at{e:Array Oper}{rest:List Oper}{o:Oper}{a:Act}{Q:Exit->Act->World->Prop}(f:o.guard=none)(d s:Operand)(j m:TypeId)
  (r:o.op=.call {callee:=.builtin .copy,args:=#[d,s],argTypes:=#[j,m]}) (v u:Value) (hd:a.eval d=v) (C:a.eval s=u) {v':Value} {w':World}
  (B:(Builtin.copy_ #[j,m] o.type #[v,u]).run P w=.ok v' w') (h:wpList P e Q rest (a.put o.dst v') w'):wpList P e Q (o::rest) a w:=
 wpList_plain f fun _ q=>by unfold Oper.wp execOp;simp only[r,resolve,invoke,builtin,tO,tP,tH,tI,lI,nj,hd,C,B];exact q _ _ h
theorem step_copy_at{e:Array Oper}{o:Oper}{a:Act}{w:World}{K:Act->World->Prop}{Q:Exit->Act->World->Prop}{E:Prop}
  (q:o.guard=none) (d x:Operand) (h j:TypeId) (f:o.op=Op.call {callee:=Callee.builtin Builtin.copy,args:=#[d,x],argTypes:=#[h,j]})
  (v u:Value) (hd:a.eval d=v) (C:a.eval x=u) {v':Value} {w':World} (r:(Builtin.copy_ #[h,j] o.type #[v,u]).run P w=.ok v' w') (m:K (a.put o.dst v') w'):
  if Region.wanted o (yielded e a.tmps)=true then Oper.wp P o a w K Q else E:=by
 have B:Region.wanted o (yielded e a.tmps)=true:=by simp[Region.wanted,q]
 rw[gG B];unfold Oper.wp;simp[execOp,f,resolve,invoke,builtin,hd,C,r,Result.andThen];exact m
end
theorem qT(a:Option Addr)(n cap:Nat)(l:List Vw.Acc)(w:World)(h:As w a n cap l)(o:n<=1000000):
  Calls prog 11 #[(a,n,cap)] w fun e w'=>∃v,e=.returned v/\Below w w w'/\w'.ownsRow w.heap.size 55 4 v n (gR l):=by
 cases a with
 |none=>
  have q:=h.sl.nil rfl;have C:=h.sl.le;obtain rfl:n=0:=by omega
  obtain rfl:cap=0:=q;have j:l=[]:=qj h.jO;subst j;have r:=fun m=>uV (P:=prog) m 28 55 none 0 0 0 0 underlying28;go_enter func11,ntmps11;go_wp2;go_ret;exact⟨_,rfl,iU _ _,iY _ _ _ _⟩
 |some p=>
  have r:=fun m=>uV (P:=prog) m 28 55 (some p) n cap 0 0 underlying28;go_enter func11,ntmps11;go_wp2_with (at_builtin;(refine wpList_append_t rfl (.tmp 5) (.tmp 6) 28 28 rfl w.heap.size 55 4 40 _ underlying28 p7 rfl (by decide) (some (w,gy),gy,gy) 0 [] rfl (OT.fresh (Ml w w.heap.size gM) (gZ.alloc gM _) gM) ((some p),n,cap) n (gR l) rfl (Sl.src (h.sl.alloc _) underlying28 (ti l)) ?d1 ?d2 ?d3 ?_);(case d1=>unfold maxLen;omega);(case d2=>omega);(case d3=>simp);intro v2 E f B);go_ret;refine⟨v2,rfl,f.im gM (fun k e=>by cases e),?_⟩;have:=f.own;rwa[mZ,jk] at this
theorem Nt(w:World)(x:Vw.Acc)(e:Nat)(m:w.heap[e]?=some (.cells #[x.s,x.sum,x.jO,.bool x.xe] 55)):Src prog 4 28 (some (e,gy),ia,ia) 1 (oW x) w:=
 Src.ofSlice w underlying28 (e,gy) 1 1 (oW x) rfl (fun j u h=>by
  rw[je,jk,gw m];simpa[oW] using h) (fun u f=>by
  simp only[oW,jC,nK,lR] at f;rcases f with rfl|rfl|rfl|rfl<;>rfl)
theorem js{w:World}{base:Nat}{e:TypeId}{sz g n cap:Nat}{xs:List Value}(h:w.ownsRow base e sz (some (g,gy),n,cap) n xs):
  ∃f:List Value,w.heap[g]?=some (.cells f.toArray e)/\base<=g/\n<=cap/\cap<=maxLen/\f.length=cap*sz/\f.take (n*sz)=xs:=by
 rcases h.2 with⟨j,_⟩|⟨E,r,f,j,hb,B,q,m,o,C⟩
 .simp at j
 .simp only[kx,Option.some.injEq,Addr.mk.injEq,and_true,kI] at j;obtain⟨rfl,rfl⟩:=j;exact⟨f.toList,by simpa using B,hb,q,m,by simpa using o,by simpa using C⟩
theorem kQ{w:World}{base:Nat}{e:TypeId}{sz g n cap:Nat}{xs:List Value}{f:List Value}(o:w.heap[g]?=some (.cells f.toArray e))(hb:base<=g)(j:n<=cap)(hc:cap<=maxLen)(h:f.length=cap*sz)(m:f.take (n*sz)=xs):
  w.ownsRow base e sz (some (g,gy),n,cap) n xs:=
 ⟨by rw[<-m,jh,h];exact pE (ss _ j),.inr ⟨g,cap,f.toArray,rfl,hb,o,j,hc,by simpa using h,by simpa using m⟩⟩
theorem B9(v:Value)(n:Nat)(l:List Vw.Acc)(x:Vw.Acc)(j base:Nat)(w:World)(o:w.ownsRow base 55 4 v n (gR l))(f:base<=w.heap.size)(G:n<=1000000)
  (F:w.heap[j]?=some (.cells #[x.s,x.sum,x.jO,.bool x.xe] 55)):
  Calls prog 96 #[v,n,(some (j,gy),ia,ia)] w fun e w'=>∃v',e=.returned v'/\OT w w' v.ownBlock base 55 4 v' (n+1) (gR l++oW x):=by
 have q:=Nt w x j F;rcases o.2 with⟨rfl,rfl⟩|⟨g,cap,C,rfl,_,_,E,r,_,_⟩
 .go_enter func96,ntmps96;go_wp2_with (at_builtin;(refine wpList_append_t rfl (.tmp 23) (.tmp 24) 28 28 rfl base 55 4 40 _ underlying28 p7 rfl (by decide) () 0 (gR l) rfl (OT.start o) (some (j,gy),ia,ia) 1 (oW x) rfl q ?d1 ?d2 ?d3 ?_);(case d1=>unfold maxLen;omega);(case d2=>omega);(case d3=>exact f);intro v2 B h m);go_ret;exact⟨v2,rfl,h⟩
 .unfold maxLen at r;by_cases hc:cap=n
  .subst hc;go_enter func96,ntmps96;go_wp2_with (at_builtin;(refine wpList_append_t rfl (.tmp 23) (.tmp 24) 28 28 rfl base 55 4 40 _ underlying28 p7 rfl (by decide) (some (g,gy),cap,cap) cap (gR l) rfl (OT.start o) (some (j,gy),ia,ia) 1 (oW x) rfl q ?d1 ?d2 ?d3 ?_);(case d1=>unfold maxLen;omega);(case d2=>omega);(case d3=>exact f);intro v2 B h m);go_ret;exact⟨v2,rfl,h⟩
  .go_enter func96,ntmps96;go_wp2_with (at_builtin;(refine wpList_append_t rfl (.tmp 23) (.tmp 24) 28 28 rfl base 55 4 40 _ underlying28 p7 rfl (by decide) (some (g,gy),n,cap) n (gR l) rfl (OT.start o) (some (j,gy),ia,ia) 1 (oW x) rfl q ?d1 ?d2 ?d3 ?_);(case d1=>unfold maxLen;omega);(case d2=>omega);(case d3=>exact f);intro v2 B h m);go_ret;exact⟨v2,rfl,h⟩
theorem vW(l:List Vw.Acc):∀i,gR (l.drop i)=(gR l).drop (i*4):=by
 induction l with
 |nil=>intro i;simp[gR]
 |cons a l f=>
  intro i;cases i with
  |zero=>simp
  |succ i=>
   rw[sw,f i];show _=(oW a++gR l).drop _;have e:(oW a).length=4:=rfl;rw[List.drop_append,mV (l:=oW a) (by rw[e];omega),e,mZ];congr 1;omega
theorem vX(l:List Vw.Acc):∀i,gR (l.take i)=(gR l).take (i*4):=by
 induction l with
 |nil=>intro i;simp[gR]
 |cons a l f=>
  intro i;cases i with
  |zero=>simp[gR]
  |succ i=>
   rw[su];show oW a++gR (l.take i)=(oW a++gR l).take _;have e:(oW a).length=4:=rfl;rw[f i,List.take_append,ld (l:=oW a) (by rw[e];omega),e];congr 2;omega
theorem yT{α:Type}(e D X:List α)(p k:Nat)(f:X.length=k)(q:p+k<=e.length):(splice (splice e (p+k) D) p X).take (p+k+D.length)=e.take p++(X++D):=by
 unfold splice;have o:(e.take (p+k)).length=p+k:=by rw[jh];omega
 have h:(e.take (p+k)++(D++e.drop (p+k+D.length))).take p=e.take p:=by rw[List.take_append_of_le_length (by omega),List.take_take,pE (by omega)]
 have j:(e.take (p+k)++(D++e.drop (p+k+D.length))).drop (p+X.length)=D++e.drop (p+k+D.length):=by rw[f];exact List.drop_left' o
 rw[h,j];have m:e.take p++(X++(D++e.drop (p+k+D.length)))=(e.take p++(X++D))++e.drop (p+k+D.length):=by simp
 rw[m];refine oN ?_;rw[iH,iH,jh,f];omega
theorem sM(w:World)(g:Nat)(c h:Array Value)(t:TypeId)(f:Array Value)(o:w.heap[g]?=some (.cells f t)):
  ((w.setRow g c).setRow g h).heap[g]?=some (.cells h t)/\w.grownBy ((w.setRow g c).setRow g h) (some g):=by
 have m:=nC w g f c t _ o;refine⟨nC _ g c h t _ m,⟨rfl,rfl,rfl,by simp[World.setRow],fun k _ j=>?_⟩⟩;have j:k≠g:=fun e=>j (by rw[e]);rw[oF _ g k _ j,oF _ g k _ j]
theorem zI(g n cap:Nat)(l:List Vw.Acc)(i:Nat)(x:Vw.Acc)(B base:Nat)(w:World)(ho:w.ownsRow base 55 4 (some (g,gy),n,cap) n (gR l))(hn:n<=1000000)(hi:i<n)(G:n+1<=cap)(Q:B≠g)
  (W:w.heap[B]?=some (.cells #[x.s,x.sum,x.jO,.bool x.xe] 55)):
  Calls prog 96 #[(some (g,gy),n,cap),i,(some (B,gy),ia,ia)] w fun e w'=>∃v',e=.returned v'/\OT w w' (some g) base 55 4 v' (n+1) (gR (l.take i++x::l.drop i)):=by
 obtain⟨m,K,X,ao,Y,r,O⟩:=js ho;have ak:=iq K;have ab:l.length=n:=by have:=ho.1;rw[kS] at this;omega
 unfold maxLen at Y;have U:(Tryz.prog.info? 55).map (·.size)=some 4:=by kernel_rfl
 have ad:∀lb cb,(callFunc 114 #[.slice (some (B,gy)) 1 1,.slice (some ⟨g,(i+1)*4,none⟩) lb cb]).run prog w=.ok (.value (.bool false)) w:=fun lb cb=>by
  rw[run_callFunc_extern func114 (by kernel_rfl) (by kernel_rfl) (by kernel_rfl) (e:=Extern.SlicesOverlaps.overlaps #[28,28] #[4]) (by kernel_rfl),
   Lib.run_overlaps_apart w 28 4 55 underlying28 4 Tryz.sizeOf55 (B,gy) ⟨g,(i+1)*4,none⟩ 1 1 lb cb Q 55 55 4 (cap*4) (by simp[World.shape?,W]) (by simp[World.shape?,K,r]) (by omega) (gA W) (gA W)]
  rfl
 have ar:IntKind.i64.wrap ((i:Int)+1)=(i:Int)+1:=iO _ (by omega);have au:IntKind.i64.wrap ((n:Int)+1)=(n:Int)+1:=iO _ (by omega);have af:(0:Int)<=(i:Int)+1:=by omega
 have al:i<=n:=by omega
 have aq:((i:Int)+1).toNat=i+1:=by omega
 have ap:((n:Int)+1).toNat=n+1:=by omega
 have ag:¬(cap=i+1):=by omega
 have ah:(i:Int)<=(n:Int)+1:=by omega
 have ai:¬(cap=i):=by omega
 have aj:¬((i:Int)=(n:Int)):=by omega
 have C:(gR (l.drop i)).length=(n-i)*4:=by rw[kS,kG,ab]
 have E:∀I F sc,(Builtin.copy_ #[28,28] I #[.slice (some ⟨g,(i+1)*4,none⟩) (n-i) F,.slice (some (g,i*4)) (n+1-i) sc]).run prog w.drew=.ok (goInt ((n-i:Nat):Int)) (w.drew.setRow g (splice m ((i+1)*4) (gR (l.drop i))).toArray):=fun I F sc=>by
  have f:Nat.min (n+1-i) (n-i)=n-i:=by show min _ _=_;omega
  have:=ke (P:=prog) w.drew 28 28 I 55 55 4 underlying28 U g ((i+1)*4) (n-i) F (n+1-i) sc (some (g,i*4)) m 55 K (gR (l.drop i))
   (by
    rw[f];exact oD w.drew 4 (n-i) (g,i*4) _ _ _ C (fun j u L=>by
     rw[vW,qY,<-O,ql] at L;rw[je];show w.cell? _=_;rw[gw K];split at L;·simpa using L
     .cases L))
   (by rw[C,r];omega) (ti _)
  rw[f] at this;exact this
 obtain⟨h,o⟩:∃h,h=splice m ((i+1)*4) (gR (l.drop i)):=⟨_,rfl⟩;rw[<-o] at E;have q:h.length=cap*4:=by rw[o,length_splice _ _ _ (by rw[C,r];omega),r]
 replace o:=gx o;have N:∀I F,(Builtin.copy_ #[28,28] I #[.slice (some (g,i*4)) (n+1-i) F,.slice (some (B,gy)) 1 1]).run prog (w.drew.setRow g h.toArray)=.ok (goInt ((Nat.min 1 (n+1-i):Nat):Int)) ((w.drew.setRow g h.toArray).setRow g (splice h (i*4) (oW x)).toArray):=fun I F=>by
  have f:Nat.min 1 (n+1-i)=1:=by show min _ _=_;omega
  refine ke (P:=prog) (w.drew.setRow g h.toArray) 28 28 I 55 55 4 underlying28 U g (i*4) (n+1-i) F 1 1 (some (B,gy)) h 55 (nC w.drew g _ _ 55 _ K) (oW x) ?_ (by rw[q];simp[oW];omega) (fun u hu=>by simp only[oW,jC,nK,lR] at hu;rcases hu with rfl|rfl|rfl|rfl<;>rfl)
  rw[f];refine oD _ 4 1 (B,gy) _ _ _ rfl (fun j u L=>?_);have ae:(w.drew.setRow g h.toArray).heap[B]?=some (.cells #[x.s,x.sum,x.jO,.bool x.xe] 55):=by rw[oF _ g B _ Q];exact W
  rw[je,jk,gw ae];simpa[oW] using L
 go_enter func96,ntmps96;go_wp2_with (simp only[ad]);go_region_law (refine step_copy_at rfl _ _ 28 28 rfl _ _ (by simp[Act.eval,Act.put]) (by simp[Act.eval,Act.put]) (E _ _ _) ?_);go_wp2_with (at_builtin;refine wpList_copy_at _ rfl _ _ 28 28 rfl _ _ rfl rfl (N _ _) ?_);go_ret;refine⟨_,rfl,?_⟩;obtain⟨k1,V⟩:=sM w.drew g h.toArray (splice h (i*4) (oW x)).toArray 55 m.toArray K;have Z:(splice h (i*4) (oW x)).length=cap*4:=by rw[length_splice _ _ _ (by rw[q];simp[oW];omega),q]
 refine⟨kQ k1 X G (by unfold maxLen;omega) Z ?_,⟨V.os,V.tape,V.output,V.size,V.block⟩,.inl rfl⟩;have S:=yT m (gR (l.drop i)) (oW x) (i*4) 4 rfl (by rw[r];omega);rw[show i*4+4=(i+1)*4 by omega,<-o.out,C,show(i+1)*4+(n-i)*4=(n+1)*4 by omega] at S;rw[S,mx,vX,<-O,List.take_take,pE (by omega)];rfl
theorem AH(g n cap:Nat)(l:List Vw.Acc)(i:Nat)(x:Vw.Acc)(vb base:Nat)(w:World)(ho:w.ownsRow base 55 4 (some (g,gy),n,cap) n (gR l))(aD:base<=w.heap.size)(hn:n<=1000000)(hi:i<n)(aI:cap<n+1)
  (hv:w.heap[vb]?=some (.cells #[x.s,x.sum,x.jO,.bool x.xe] 55)):
  Calls prog 96 #[(some (g,gy),n,cap),i,(some (vb,gy),ia,ia)] w fun e w'=>∃v',e=.returned v'/\OT w w' (some g) base 55 4 v' (n+1) (gR (l.take i++x::l.drop i)):=by
 obtain⟨af,hg,aU,aY,aE,aW,ak⟩:=js ho;obtain rfl:cap=n:=by omega
 have aG:=iq hg;have aK:=iq hv;have aw:l.length=cap:=by have:=ho.1;rw[kS] at this;omega
 clear aE;have ay:(Tryz.prog.info? 55).map (·.size)=some 4:=by kernel_rfl
 obtain⟨i0,aH,aM,aO,az⟩:=jW p7;have hold:(Builtin.firstCells i0.size i (some (g,gy),i,cap)).run prog w.drew=.ok (gR (l.take i)).toArray w.drew:=by
  rw[aO];exact oD w.drew 4 i (g,gy) i cap (gR (l.take i)) (by rw[kS,jh];omega) (fun j v B=>by
   rw[je,jk];show w.cell? _=_;rw[gw hg];rw[vX,<-ak,ql] at B;split at B
   .rw[ql] at B;split at B;·simpa using B
    .cases B
   .cases B)
 have ad:i+(cap+1-i)=cap+1:=by omega
 have au:(cap:Int)+1-(i:Int)=((cap+1-i:Nat):Int):=by omega
 obtain⟨G,hG⟩:∃G,G=grownCap w (cap+1) cap 55:=⟨_,rfl⟩;have aA:cap+1<=G:=by rw[hG];exact grownCap_ge w _ _ _
 have ag:G<=maxLen:=by rw[hG];exact vL w (cap+1) cap 55 (by unfold maxLen;omega)
 obtain⟨f,r⟩:∃f:List Value,f=((gR (l.take i)).toArray++Builtin.zeroCells (Value.agg #[.string ⟨#[]⟩,gy,gy,.bool false]).cells (cap+1-i)++Builtin.zeroCells (Value.agg #[.string ⟨#[]⟩,gy,gy,.bool false]).cells (G-(cap+1))).toList:=⟨_,rfl⟩;have aN:(Value.agg #[.string ⟨#[]⟩,gy,gy,.bool false]).cells.size=4:=by kernel_rfl
 have ae:(gR (l.take i)).length=i*4:=by rw[kS,jh,aw,pE (by omega)]
 have I:f.length=G*4:=by rw[r,uW,sB,sB,qh,qh,aN,sC,ae];omega
 have ah:f.take (i*4)=gR (l.take i):=by rw[r,sx,sx,ky];exact oN (by simpa using ae)
 have ax:∀S,(Builtin.append_ #[28,3] S #[.slice (some (g,gy)) i cap,.int .i64 ((cap:Int)+1-(i:Int))]).run prog w=.ok (some (w,gy),(cap+1),G) (w.drew.alloc (.cells f.toArray 55)):=fun S=>by have h:=Lib.run_append_grow_zeros (P:=prog) w 28 3 S 55 i0 _ .i64 .i64 underlying28 underlying3 aH aM (some (g,gy)) i cap (gR (l.take i)) hold (cap+1-i) (by omega) (by omega) (by omega) (by omega) (by rw[az];omega) (by rw[az,ad];exact tM (by omega) (by omega));rw[ad,<-hG] at h;rw[au,r,Array.toArray_toList];exact h
 obtain⟨N,hN⟩:∃N,N=w.heap.size:=⟨_,rfl⟩;obtain⟨F,V⟩:∃F,F=w.drew.alloc (.cells f.toArray 55):=⟨_,rfl⟩;have ao:F.heap[N]?=some (.cells f.toArray 55):=by rw[V,hN];exact vN w.drew _
 have q:w.grownBy F none:=by rw[V];exact⟨rfl,rfl,rfl,by simp,fun k hk _=>vO w.drew _ hk⟩
 have aF:F.heap[g]?=some (.cells af.toArray 55):=(q.block g aG (by simp)).trans hg;have aJ:F.heap[vb]?=some (.cells #[x.s,x.sum,x.jO,.bool x.xe] 55):=(q.block vb aK (by simp)).trans hv;rw[<-V,<-hN] at ax;have aB:g≠N:=by omega
 have X:(oW x).length=4:=rfl;have aL:∀u∈oW x,u.oneCell'=true:=fun u hu=>by simp only[oW,jC,nK,lR] at hu;rcases hu with rfl|rfl|rfl|rfl<;>rfl
 have L:∀S dc,(Builtin.copy_ #[28,28] S #[.slice (some (N,i*4)) (cap+1-i) dc,.slice (some (vb,gy)) 1 1]).run prog F=.ok (goInt ((Nat.min 1 (cap+1-i):Nat):Int)) (F.setRow N (splice f (i*4) (oW x)).toArray):=fun S dc=>by
  have C:Nat.min 1 (cap+1-i)=1:=by show min _ _=_;omega
  refine ke (P:=prog) F 28 28 S 55 55 4 underlying28 ay N (i*4) (cap+1-i) dc 1 1 (some (vb,gy)) f 55 ao (oW x) ?_ (by rw[I,X];omega) aL;rw[C];refine oD _ 4 1 (vb,gy) _ _ _ rfl (fun j u B=>?_);rw[je,jk,gw aJ];simpa[oW] using B
 obtain⟨E,U⟩:∃E,E=splice f (i*4) (oW x):=⟨_,rfl⟩;have K:E.length=G*4:=by rw[U,length_splice _ _ _ (by rw[X,I];omega),I]
 rw[<-U] at L;obtain⟨o,m⟩:∃o,o=F.setRow N E.toArray:=⟨_,rfl⟩;have ap:o.heap[N]?=some (.cells E.toArray 55):=by rw[m];exact nC F N _ _ 55 _ ao
 have al:o.heap[g]?=some (.cells af.toArray 55):=by rw[m,oF _ N g _ aB];exact aF
 rw[<-m] at L;have W:(gR (l.drop i)).length=(cap-i)*4:=by rw[kS,kG,aw]
 have Y:∀S dc sc,(Builtin.copy_ #[28,28] S #[.slice (some ⟨N,(i+1)*4,none⟩) (cap-i) dc,.slice (some (g,i*4)) (cap-i) sc]).run prog o.drew=.ok (goInt ((cap-i:Nat):Int)) (o.drew.setRow N (splice E ((i+1)*4) (gR (l.drop i))).toArray):=fun S dc sc=>by
  have C:Nat.min (cap-i) (cap-i)=cap-i:=by show min _ _=_;omega
  have:=ke (P:=prog) o.drew 28 28 S 55 55 4 underlying28 ay N ((i+1)*4) (cap-i) dc (cap-i) sc (some (g,i*4)) E 55 ap (gR (l.drop i))
   (by
    rw[C];exact oD o.drew 4 (cap-i) (g,i*4) _ _ _ W (fun j u B=>by
     rw[vW,qY,<-ak,ql] at B;rw[je];show o.cell? _=_;rw[gw al];split at B;·simpa using B
     .cases B))
   (by rw[W,K];omega) (ti _)
  rw[C] at this;exact this
 have O:(splice E ((i+1)*4) (gR (l.drop i))).take ((cap+1)*4)=gR (l.take i++x::l.drop i):=by
  have e1:(i+1)*4=i*4+4:=by omega
  have ai:E.take ((i+1)*4)=gR (l.take i)++oW x:=by rw[U];unfold splice;rw[<-ky,oN (by rw[iH,jh,X,I];omega),ah]
  unfold splice;rw[ai,<-ky,oN (by rw[iH,iH,ae,X,W];omega),mx,ky];rfl
 have ab:(splice E ((i+1)*4) (gR (l.drop i))).length=G*4:=by rw[length_splice _ _ _ (by rw[W,K];omega),K]
 obtain⟨S2,aj⟩:∃S2,S2=splice E ((i+1)*4) (gR (l.drop i)):=⟨_,rfl⟩;rw[<-aj] at O ab Y;have aC:base<=N:=by omega
 have aq:(o.drew.setRow N S2.toArray).heap[N]?=some (.cells S2.toArray 55):=nC o.drew N _ _ 55 _ ap;have Z:w.grownBy (o.drew.setRow N S2.toArray) (some g):=by
  refine⟨?_,?_,?_,?_,fun k hk aZ=>?_⟩;·show o.os=_;rw[m];exact q.os
  .show o.tape=_;rw[m];exact q.tape
  .show o.output=_;rw[m];exact q.output
  .have:=q.size;rw[m];simpa[World.setRow] using this
  .have ar:k≠N:=by omega
   rw[oF _ N k _ ar];show o.heap[k]?=_;rw[m,oF _ N k _ ar];exact q.block k hk (by simp)
 have aQ:¬(G=i):=by omega
 have aP:¬(G=i+1):=by omega
 have aV:¬(cap=i):=by omega
 have a1:IntKind.i64.wrap ((i:Int)+1)=(i:Int)+1:=iO _ (by omega);have a2:IntKind.i64.wrap ((cap:Int)+1)=(cap:Int)+1:=iO _ (by omega);have a3:IntKind.i64.wrap ((cap:Int)+1-(i:Int))=(cap:Int)+1-(i:Int):=iO _ (by omega);have aR:(0:Int)<=(i:Int)+1:=by omega
 have aX:i<=cap:=by omega
 have a0:((i:Int)+1).toNat=i+1:=by omega
 have aS:(i:Int)<=(cap:Int):=by omega
 have aT:¬((i:Int)=(cap:Int)):=by omega
 have Q:∃v',(Value.slice (some (N,gy)) (cap+1) G)=v'/\OT w (o.drew.setRow N S2.toArray) (some g) base 55 4 v' (cap+1) (gR (l.take i++x::l.drop i)):=
  ⟨_,rfl,kQ aq aC aA ag ab O,Z,.inr (fun k hk=>by cases hk;exact nc hN.symm)⟩
 replace Q:=gx Q;unfold maxLen at ag;clear au ad hold r hG I ah V m U aj O ab aq Z hN;go_enter func96,ntmps96;go_wp2_with (first
  |(at_builtin;refine Lib.wpList_append_run _ rfl _ _ _ _ rfl _ _ rfl rfl _ _ (ax _) ?_)
  |(at_builtin;refine wpList_copy_at _ rfl _ _ 28 28 rfl _ _ rfl rfl (L _ _) ?_))
 go_region_law (refine step_copy_at rfl _ _ 28 28 rfl _ _ (by simp[Act.eval,Act.put]) (by simp[Act.eval,Act.put]) (Y _ _ _) ?_);go_wp2_with fail;go_ret;obtain⟨v',e1,e2⟩:=Q.out;exact⟨v',by rw[<-e1];rfl,e2⟩
theorem AG(v:Value)(n:Nat)(l:List Vw.Acc)(i:Nat)(x:Vw.Acc)(j base:Nat)(w:World)(m:w.ownsRow base 55 4 v n (gR l))(f:base<=w.heap.size)(o:n<=1000000)(hi:i<=n)(q:v.ownBlock≠some j)
  (r:w.heap[j]?=some (.cells #[x.s,x.sum,x.jO,.bool x.xe] 55)):
  Calls prog 96 #[v,i,(some (j,gy),ia,ia)] w fun e w'=>∃v',e=.returned v'/\OT w w' v.ownBlock base 55 4 v' (n+1) (gR (l.take i++x::l.drop i)):=by
 have F:l.length=n:=by have:=m.1;rw[kS] at this;omega
 rcases qi i n with h|h
 .obtain⟨g,cap,rfl,B,E,G,C⟩:=jR m (by omega);rcases qi cap (n+1) with hc|hc
  .exact AH g n cap l i x j base w m f o h hc r
  .exact zI g n cap l i x j base w m o h hc (fun e=>q (by rw[e];rfl)) r
 .obtain rfl:i=n:=by omega
  have:=B9 v i l x j base w m f o r;rw[ld (by omega),mV (by omega),mx];exact this
end Go.Proofs.YthhcdfjijagalaaGreat

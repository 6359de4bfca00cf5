import Derived.Test.YthhcdfjijagalaaGreatM10
import Derived.Test.YthhcdfjijagalaaGreatRows
import Derived.ProofKit
import Derived.OpenShut
import Derived.Carry
import Derived.Lib.SmallJoins
import Derived.Deep.Slices
import Derived.Deep.Fields
set_option linter.all false
set_option maxRecDepth 100000
namespace Go.Proofs.YthhcdfjijagalaaGreat
open Qz Go.Proofs.Tryz Go.ChangeShapes Go.WideShapes Go.ChangeAt Go.RowKit
theorem knobs:ownKnob Tryz.prog.godebug=none:=by kernel_rfl
theorem laidOut:laidOutB prog=true:=by kernel_rfl
theorem Ch{H:Type}{enc:TypeId×Value->H}{P:Program}(I:laidOutB P=true){W E:World}(hb:Below W W E):∀(m:List TypeId) (j:List Value) (f:List (DataW H)) (r:List MemPlace),
  (m.all fun t=>P.readableRec t&&decide (t<P.types.size))=true->(∀x∈r,x.block<W.heap.size)->
  DataW.TrodAll enc P W 0 (fun _=>true) true m j f r->DataW.TrodAll enc P E 0 (fun b=>decide (b<W.heap.size)) true m j f r:=by
 intro m;induction m with
 |nil=>
  intro j f r _ _ h;cases j<;>cases f<;>first|exact h|exact h.elim
 |cons t m K=>
  intro j f r B o h;cases j with
  |nil=>exact h.elim
  |cons v j=>
   cases f with
   |nil=>exact h.elim
   |cons d f=>
    obtain⟨p,q,F,G,e⟩:=h;simp only[List.all_cons,yF,yz] at B;exact⟨p,q,Below.trod I B.1.1 B.1.2 F hb (fun x C=>o x (by rw[e];exact List.mem_append_left _ C)),
     K j f q B.2 (fun x C=>o x (by rw[e];exact List.mem_append_right _ C)) G,e⟩
theorem Ee{H:Type}{enc:TypeId×Value->H}{f:FuncId}{B:Func}{s:ChangeSpec}{P:TypeId}(j:s.vars=[])(G:B.resultTypes=#[P])(K:Tryz.prog.underlying P=some .bool)
  (o:(B.params.toList.all fun t=>Tryz.prog.readableRec t&&decide (t<Tryz.prog.types.size))=true)
  {W:World} {args:Array Value} {r N:List (DataW H)} {m:List MemPlace} (I:s.fn H (r++N)={results:=[.lit (.bool true)],args:=r})
  (C:DataW.Whole enc prog B.params.toList s.vars false W args.toList r N m)
  (h:Calls prog f args W (m7 (.bool true) W)):
  Calls prog f args W fun e L=>∃v,e=.returned v/\s.post enc prog B false true false false W args v L:=by
 refine h.mono fun e L⟨S,hb⟩=>⟨_,S,?_⟩;have F:=C.lt;have E:=C;obtain⟨p,q,Q,O,rfl,_,_⟩:=E;rw[j] at O;obtain⟨rfl,rfl⟩:=trodVars_none O;refine⟨r,[],p++[],[],p,[],C,?_,?_,?_,?_,fun h=>by cases h⟩
 .rw[G,I];exact trodAll_cons_mk (shut_bool K _) trodAll_mk0
 .rw[I];exact Ch laidOut hb _ _ _ _ o (fun x U=>F x (by simpa using U)) Q
 .rw[j];have:(s.fn H (r++[])).vars=[]:=by rw[I]
  rw[this];rfl
 .exact hb.frame _
end Go.Proofs.YthhcdfjijagalaaGreat
namespace Go.Proofs.YthhcdfjijagalaaGreat
open Qz Go.Proofs.Tryz Go.ChangeShapes Go.WideShapes Go.ChangeAt Go.RowKit Go.Joins
theorem ts{a:Int}(h:(Lit.int .i64 a).wf=true):-9223372036854775808<=a/\a<=9223372036854775807:=by
 simpa[Lit.wf,IntKind.min,IntKind.max,IntKind.signed,IntKind.bits] using h
theorem KR{a:Int}(h:(Lit.int .u8 a).wf=true):0<=a/\a<=255:=by
 simpa[Lit.wf,IntKind.min,IntKind.max,IntKind.signed,IntKind.bits] using h
end Go.Proofs.YthhcdfjijagalaaGreat
namespace Go.Proofs.YthhcdfjijagalaaGreat.gD
open Qz Go.Proofs.Tryz
structure Ev where
 s:ByteArray
 k:Int
 n:Int
structure Ba where
 c:Int
 il:List Ev
def kP(s:ByteArray):List UInt8:=s.data.toList
def NT(c:UInt8):Bool:=(decide (97<=c.toNat)&&decide (c.toNat<=122))||(decide (48<=c.toNat)&&decide (c.toNat<=57))
def named(l:List UInt8):Bool:=decide (0<l.length)&&decide (l.length<=10)&&l.all NT
def iW(e:Ev):Int:=if named (kP e.s)=false then 7 else if e.k<1∨4<e.k then 1 else if e.n<0∨1000000<e.n∨((e.k=1∨e.k=4)/\e.n≠0) then 3 else 0
def fw:List Ev->Nat->Int×Int
 |[],_=>(0,0)
 |e::r,i=>if iW e≠0 then(iW e,(i:Int)) else fw r (i+1)
def iI(b:Ba):Int×Int:=if b.c<1∨1000000<b.c then(3,0) else if b.il.length<1∨10<b.il.length then(5,0) else fw b.il 0
def fb:List Ba->Nat->Int×Int
 |[],_=>(0,0)
 |b::r,i=>if (iI b).1≠0 then((iI b).1,(i:Int)) else fb r (i+1)
def three(n:Nat):List UInt8:=[.ofNat (n/65536),.ofNat (n/256),.ofNat n]
def nU(e:Ev):List UInt8:=UInt8.ofNat (kP e.s).length::(kP e.s++UInt8.ofNat e.k.toNat::three e.n.toNat)
def nQ(b:Ba):List UInt8:=three b.c.toNat++UInt8.ofNat b.il.length::b.il.flatMap nU
def bytes(bs:List Ba):List UInt8:=UInt8.ofNat bs.length::bs.flatMap nQ
structure R where
 l:List UInt8
 err:Int
 at_:Int
def iy(bs:List Ba):R:=if 150<bs.length then⟨[],5,0⟩ else if (fb bs 0).1≠0 then⟨[],(fb bs 0).1,(fb bs 0).2⟩ else⟨bytes bs,0,0⟩
structure St where
 l:List UInt8
 ok:Bool
def be(l:List UInt8):Nat:=l.foldl (fun n c=>n*256+c.toNat) 0
def take(k:Nat)(t:St):List UInt8×St:=if t.l.length<k then(List.replicate k 0,⟨t.l,false⟩) else(t.l.take k,⟨t.l.drop k,t.ok⟩)
def num(k:Nat)(t:St):Nat×St:=(be (take k t).1,(take k t).2)
def jK(t:St):Ev×St:=
 let a:=num 1 t
 let s:=take a.1 a.2
 let k:=num 1 s.2
 let n:=num 3 k.2
 (⟨⟨s.1.toArray⟩,k.1,n.1⟩,n.2)
def events:Nat->St->List Ev×St
 |0,t=>([],t)
 |k+1,t=>if t.ok then let e:=jK t;let r:=events k e.2;(e.1::r.1,r.2) else([],t)
def Ll(t:St):Ba×St:=
 let c:=num 3 t
 let k:=num 1 c.2
 let es:=events k.1 k.2
 (⟨c.1,es.1⟩,es.2)
def iC:Nat->St->List Ba×St
 |0,t=>([],t)
 |k+1,t=>if t.ok then let b:=Ll t;let r:=iC k b.2;(b.1::r.1,r.2) else([],t)
structure PR where
 l:List Ba
 err:Int
def parse(l:List UInt8):PR:=
 let n:=num 1 ⟨l,true⟩
 let b:=iC n.1 n.2
 if b.2.ok=false∨b.2.l≠[] then⟨[],2⟩ else if 150<b.1.length then⟨[],5⟩ else if (fb b.1 0).1≠0 then⟨[],(fb b.1 0).1⟩ else⟨b.1,0⟩
theorem NF(l:List Ev):∀i,(fw l i).1=0->∀e∈l,iW e=0:=by
 induction l with
 |nil=>intro i _ e he;cases he
 |cons a l j=>
  intro i h e he;unfold fw at h;split at h;·rename_i f;exact absurd h f
  .rename_i f;rcases jC.1 he with rfl|he
   .exact mU f
   .exact j _ h e he
theorem I9(l:List Ba):∀i,(fb l i).1=0->∀b∈l,(iI b).1=0:=by
 induction l with
 |nil=>intro i _ e he;cases he
 |cons a l j=>
  intro i h e he;unfold fb at h;split at h;·rename_i f;exact absurd h f
  .rename_i f;rcases jC.1 he with rfl|he
   .exact mU f
   .exact j _ h e he
theorem lC{e:Ev}(h:iW e=0):named (kP e.s)=true/\1<=e.k/\e.k<=4/\0<=e.n/\e.n<=1000000:=by
 unfold iW at h;split at h;·cases h
 .rename_i f;split at h;·cases h
  .split at h;·cases h
   .exact⟨by simpa using f,by omega,by omega,by omega,by omega⟩
theorem ym{l:List UInt8}(h:named l=true):0<l.length/\l.length<=10:=by
 unfold named at h;simp only[yF,yz] at h;exact h.1
theorem lh{b:Ba}(h:(iI b).1=0):1<=b.c/\b.c<=1000000/\1<=b.il.length/\b.il.length<=10/\∀e∈b.il,iW e=0:=by
 unfold iI at h;split at h;·cases h
 .split at h;·cases h
  .exact⟨by omega,by omega,by omega,by omega,NF _ _ h⟩
theorem ml(n:Nat):(UInt8.ofNat n).toNat=n%256:=uU
theorem QR(a:UInt8):be [a]=a.toNat:=by simp[be]
theorem QS(a b c:UInt8):be [a,b,c]=a.toNat*65536+b.toNat*256+c.toNat:=by simp[be];omega
theorem Ln(n:Nat)(h:n<16777216):be (three n)=n:=by
 unfold three;rw[QS,ml,ml,ml];omega
theorem Bp(a r:List UInt8)(k:Nat)(ok:Bool)(h:a.length=k):take k ⟨a++r,ok⟩=(a,⟨r,ok⟩):=by
 unfold take;rw[gC (by rw[iH];omega)];simp only;rw[oN h,List.drop_left' h]
theorem NS(a:UInt8)(r:List UInt8)(ok:Bool):num 1 ⟨a::r,ok⟩=(a.toNat,⟨r,ok⟩):=by
 have:=Bp [a] r 1 ok rfl;unfold num;rw[show a::r=[a]++r from rfl,this,QR]
theorem Qg(n:Nat)(r:List UInt8)(ok:Bool)(h:n<16777216):num 3 ⟨three n++r,ok⟩=(n,⟨r,ok⟩):=by
 have:=Bp (three n) r 3 ok rfl;unfold num;rw[this,Ln n h]
theorem Fz(e:Ev)(r:List UInt8)(ok:Bool)(h:iW e=0):jK ⟨nU e++r,ok⟩=(e,⟨r,ok⟩):=by
 obtain⟨j,f,m,o,q⟩:=lC h;have B:=ym j;obtain⟨s,k,n⟩:=e;obtain⟨k,rfl⟩:=jD (a:=k) (by simp at f;omega);obtain⟨n,rfl⟩:=jD o;simp only at f m q B;unfold jK nU;simp only[yD,ky,NS,ml,lS];rw[show(kP s).length%256=(kP s).length by omega,Bp _ _ _ _ rfl];simp only[NS,ml];rw[Qg n r ok (by omega)];simp only[show k%256=k by omega,Prod.mk.injEq,Ev.mk.injEq,and_true];unfold kP;simp
theorem DX(es:List Ev)(r:List UInt8)(h:∀e∈es,iW e=0):events es.length ⟨es.flatMap nU++r,true⟩=(es,⟨r,true⟩):=by
 induction es with
 |nil=>rfl
 |cons e es j=>
  simp only[l8,events,sD,ky,if_true];rw[Fz e _ true (h e (AZ ..))];simp only;rw[j (fun x f=>h x (sX _ f))]
theorem Fb(b:Ba)(r:List UInt8)(h:(iI b).1=0):Ll ⟨nQ b++r,true⟩=(b,⟨r,true⟩):=by
 obtain⟨f,j,m,o,e⟩:=lh h;obtain⟨c,es⟩:=b;obtain⟨c,rfl⟩:=jD (a:=c) (by simp at f;omega);simp only at j m o e;unfold Ll nQ;simp only[ky,lS,yD];rw[Qg c _ _ (by omega)];simp only[NS,ml];rw[show es.length%256=es.length by omega,DX es r e]
theorem BR(bs:List Ba)(r:List UInt8)(h:∀b∈bs,(iI b).1=0):iC bs.length ⟨bs.flatMap nQ++r,true⟩=(bs,⟨r,true⟩):=by
 induction bs with
 |nil=>rfl
 |cons e es j=>
  simp only[l8,iC,sD,ky,if_true];rw[Fb e _ (h e (AZ ..))];simp only;rw[j (fun x f=>h x (sX _ f))]
theorem tB(bs:List Ba)(h:(iy bs).err=0):parse (iy bs).l=⟨bs,0⟩:=by
 unfold iy at *;split at h;·cases h
 .rename_i f;rw[gC f];split at h;·rename_i e;exact absurd h e
  .rename_i e;rw[gC e];have e:(fb bs 0).1=0:=mU e;simp only;unfold parse bytes;simp only[NS,ml];have:=BR bs [] (I9 bs 0 e);rw[mY] at this;rw[show bs.length%256=bs.length by omega,this];simp only;rw[gC (by simp),gC f,gC (fun h=>h e)]
end Go.Proofs.YthhcdfjijagalaaGreat.gD
namespace Go.Proofs.YthhcdfjijagalaaGreat
open Qz Go.Proofs.Tryz Go.RowKit
def jG(e:gD.Ev):Value:=.agg #[e.s,e.k,e.n]
def Hy(e:gD.Ev):List Value:=[.string e.s,.int .i64 e.k,.int .i64 e.n]
def hQ(l:List gD.Ev):List Value:=l.flatMap Hy
theorem lq(l:List gD.Ev):(hQ l).length=l.length*3:=by
 induction l with
 |nil=>rfl
 |cons e l f=>unfold hQ at *;rw[sD,iH,f];simp[Hy];omega
theorem nV(l m:List gD.Ev):hQ (l++m)=hQ l++hQ m:=by unfold hQ;simp
theorem tq(l:List gD.Ev):∀(i:Nat) (h:i<l.length),(hQ l)[i*3]?=some (.string l[i].s)/\(hQ l)[i*3+1]?=some (.int .i64 l[i].k)/\(hQ l)[i*3+2]?=some (.int .i64 l[i].n):=by
 induction l with
 |nil=>intro i h;exact absurd h (by simp)
 |cons e l m=>
  intro i h;have f:hQ (e::l)=Hy e++hQ l:=rfl;rw[f]
  match i with
  |0=>exact⟨rfl,rfl,rfl⟩
  |i+1=>
   have:=m i (by simpa using h);have g:∀j,(Hy e++hQ l)[(i+1)*3+j]?=(hQ l)[i*3+j]?:=by intro j;rw[sY (by simp[Hy];omega)];congr 1;simp[Hy];omega
   exact⟨(g 0).trans this.1,(g 1).trans this.2.1,(g 2).trans this.2.2⟩
structure Es (w:World) (a:Option Addr) (n cap:Nat) (l:List gD.Ev):Prop where
 sl:Sl w 3 a n cap (hQ l)
 ok:∀e∈l,e.s.size<=maxLen
theorem Es.n{w:World}{a:Option Addr}{n cap:Nat}{l:List gD.Ev}(h:Es w a n cap l):l.length=n:=by
 have:=h.sl.len;rw[lq] at this;omega
theorem Es.below{w w':World}{a:Option Addr}{n cap:Nat}{l:List gD.Ev}(h:Es w a n cap l)(hb:Below w w w'):Es w' a n cap l:=⟨h.sl.below hb,h.ok⟩
theorem Es.alloc{w:World}{a:Option Addr}{n cap:Nat}{l:List gD.Ev}(h:Es w a n cap l)(o:Obj):Es (w.alloc o) a n cap l:=⟨h.sl.alloc o,h.ok⟩
theorem Es.at{w:World}{b off n cap:Nat}{l:List gD.Ev}(h:Es w (some (b,off)) n cap l)(i:Nat)(hi:i<l.length):
  w.cell? (b,off+i*3)=some (.string l[i].s)/\w.cell? ⟨b,off+i*3+1,none⟩=some (.int .i64 l[i].k)/\w.cell? ⟨b,off+i*3+2,none⟩=some (.int .i64 l[i].n):=by
 have f:=h.n;have e:=tq l i hi;exact⟨h.sl.cell (by omega) e.1,h.sl.cell (by omega) e.2.1,h.sl.cell (by omega) e.2.2⟩
structure Rb where
 c:Int
 a:Option Addr
 n:Nat
 cap:Nat
 il:List gD.Ev
def Rb.ba(r:Rb):gD.Ba:=⟨r.c,r.il⟩
def PH(r:Rb):List Value:=[.int .i64 r.c,.slice r.a r.n r.cap]
def iD(l:List Rb):List Value:=l.flatMap PH
theorem A6(l:List Rb):(iD l).length=l.length*2:=by
 induction l with
 |nil=>rfl
 |cons e l f=>unfold iD at *;rw[sD,iH,f];simp[PH];omega
theorem lW(l m:List Rb):iD (l++m)=iD l++iD m:=by unfold iD;simp
theorem Gu(l:List Rb):∀(i:Nat) (h:i<l.length),(iD l)[i*2]?=some (.int .i64 l[i].c)/\(iD l)[i*2+1]?=some (.slice l[i].a l[i].n l[i].cap):=by
 induction l with
 |nil=>intro i h;exact absurd h (by simp)
 |cons e l m=>
  intro i h;have f:iD (e::l)=PH e++iD l:=rfl;rw[f]
  match i with
  |0=>exact⟨rfl,rfl⟩
  |i+1=>
   have:=m i (by simpa using h);have g:∀j,(PH e++iD l)[(i+1)*2+j]?=(iD l)[i*2+j]?:=by intro j;rw[sY (by simp[PH];omega)];congr 1;simp[PH];omega
   exact⟨(g 0).trans this.1,(g 1).trans this.2⟩
structure Bs (w:World) (a:Option Addr) (n cap:Nat) (l:List Rb):Prop where
 sl:Sl w 2 a n cap (iD l)
 ev:∀r∈l,Es w r.a r.n r.cap r.il
theorem Bs.n{w:World}{a:Option Addr}{n cap:Nat}{l:List Rb}(h:Bs w a n cap l):l.length=n:=by
 have:=h.sl.len;rw[A6] at this;omega
theorem Bs.below{w w':World}{a:Option Addr}{n cap:Nat}{l:List Rb}(h:Bs w a n cap l)(hb:Below w w w'):Bs w' a n cap l:=⟨h.sl.below hb,fun r e=>(h.ev r e).below hb⟩
theorem Bs.alloc{w:World}{a:Option Addr}{n cap:Nat}{l:List Rb}(h:Bs w a n cap l)(o:Obj):Bs (w.alloc o) a n cap l:=⟨h.sl.alloc o,fun r e=>(h.ev r e).alloc o⟩
theorem Bs.at{w:World}{b off n cap:Nat}{l:List Rb}(h:Bs w (some (b,off)) n cap l)(i:Nat)(hi:i<l.length):
  w.cell? (b,off+i*2)=some (.int .i64 l[i].c)/\w.cell? ⟨b,off+i*2+1,none⟩=some (.slice l[i].a l[i].n l[i].cap)/\Es w l[i].a l[i].n l[i].cap l[i].il:=by
 have f:=h.n;have e:=Gu l i hi;exact⟨h.sl.cell (by omega) e.1,h.sl.cell (by omega) e.2,h.ev _ (iE _)⟩
end Go.Proofs.YthhcdfjijagalaaGreat
namespace Go.Proofs.YthhcdfjijagalaaGreat
open Qz Go.Proofs.Tryz Go.ChangeShapes Go.WideShapes Go.ChangeAt Go.RowKit Go.Joins Go.Deep
section
variable {H : Type} {enc : TypeId × Value → H} {w : World} {base : Nat} {spare : Nat → Bool} {held : Bool}
theorem Im{t e:TypeId}{o:Array Field}{q:Nat}{v:Value}{x:DataW H×List MemPlace}(ht:Tryz.prog.underlying t=some (.slice e))(S:Tryz.prog.underlying e=some (.struct o))(r:oneCellFields prog o=true)(Q:Tryz.prog.cellsOf e=o.size)
  (h:DataW.trod enc prog w base spare held q t [v]=some x):
  v=.slice none 0 0∨∃(a:Addr) (n cap:Nat),v=.slice (some a) n cap/\n<=cap/\cap<=maxLen/\∀i,i<n->∀(j:Nat) (f:Field),o[j]?=some f->∃(u:Value) (y:DataW H×List MemPlace) (k:Nat),w.cell? (a.add (i*o.size+j))=some u/\DataW.trod enc prog w base spare held k f.type [u]=some y:=by
 rcases open_slice ht h with⟨O,_⟩|⟨a,n,cap,m,k,D,Pl,C,_,X,Y,I,_,hi⟩
 .left;simpa using O
 .right;refine⟨a,n,cap,by simpa using C,X,Y,fun i U j f E=>?_⟩;have G:i<m:=by rw[I];split<;>omega
  obtain⟨B,K,P⟩:=hi i G;rw[Q] at K;obtain⟨_,L,zH⟩:=World.cells?_some K;obtain⟨N,k',_,_,_,ab,F⟩:=DataW.trod_struct S P;have V:=(tQ.1 E).1;obtain⟨Z,W⟩:=hone_of r j f E;have hd:=F j f E;rw[Z,W,rv (by omega)] at hd;have hy:N[j]?=some (N[j]'(by omega)):=jz (by omega);refine⟨B[j]'(by omega),_,k',?_,hd.trans hy⟩;have:=zH j V;rw[<-Go.Deep.add_add,this,jz (by omega)]
theorem PD{w:World}{a:Addr}{u:Value}{k:Nat}(h:w.cell? (a.add (0*k+0))=some u):∃b off,a=⟨b,off,none⟩:=by
 rw[Nat.zero_mul] at h;obtain⟨b,off,f⟩:=a;have e:f=none:=by have:=World.cell?_spot h;unfold Addr.add at this;simpa using this
 exact⟨b,off,by rw[e]⟩
theorem Pq{w:World}{b off n cap:Nat}(V:Nat->gD.Ev)(C:n<=cap)(E:cap<=maxLen)
  (hc:∀i,i<n->(w.cell? ⟨b,off+i*3,none⟩=some (.string (V i).s)/\w.cell? ⟨b,off+(i*3+1),none⟩=some (.int .i64 (V i).k)/\w.cell? ⟨b,off+(i*3+2),none⟩=some (.int .i64 (V i).n))/\(V i).s.size<=maxLen):
  Es w (some (b,off)) n cap ((List.range n).map V):=by
 refine⟨⟨C,E,by rw[lq];simp,(fun e=>by cases e),fun F=>⟨b,off,rfl,fun j u f=>?_⟩⟩,fun e r=>?_⟩
 .have B:j<n*3:=by have:=(nH.1 f).1;rw[lq] at this;simpa using this
  have hi:j/3<n:=by omega
  obtain⟨h,m,o⟩:=tq ((List.range n).map V) (j/3) (by simpa using hi);obtain⟨⟨q,c1,c2⟩,_⟩:=hc (j/3) hi;simp only[rB,yA] at h m o;have h3:j%3=0∨j%3=1∨j%3=2:=by omega
  rcases h3 with h3|h3|h3
  .have e:j=j/3*3:=by omega
   rw[e,h] at f;rw[e,q,f]
  .have e:j=j/3*3+1:=by omega
   rw[e,m] at f;rw[e,c1,f]
  .have e:j=j/3*3+2:=by omega
   rw[e,o] at f;rw[e,c2,f]
 .obtain⟨i,hi,rfl⟩:=iu.1 r;exact(hc i (mc.1 hi)).2
theorem Gj{f:Nat}{v:Value}{x:DataW H×List MemPlace}(h:DataW.trod enc prog w base spare held f 40 [v]=some x):∃a n cap l,v=.slice a n cap/\Es w a n cap l:=by
 rcases Im underlying40 underlying78 (by kernel_rfl) (by kernel_rfl) h with rfl|⟨a,n,cap,rfl,E,F,j⟩
 .exact⟨none,0,0,[],rfl,Sl.none _ _,fun e m=>by cases m⟩
 .rcases pD n with h0|h0
  .subst h0;exact⟨some a,0,cap,[],rfl,⟨E,F,rfl,(fun e=>by cases e),fun h=>absurd h (by omega)⟩,fun e m=>by cases m⟩
  .obtain⟨u,y,k,O,_⟩:=j 0 h0 0 _ rfl;obtain⟨b,off,rfl⟩:=PD O;have L:∀i,i<n->∃e:gD.Ev,(w.cell? ⟨b,off+i*3,none⟩=some (.string e.s)/\w.cell? ⟨b,off+(i*3+1),none⟩=some (.int .i64 e.k)/\w.cell? ⟨b,off+(i*3+2),none⟩=some (.int .i64 e.n))/\e.s.size<=maxLen:=by intro i hi;obtain⟨Y,y0,U,h0,P⟩:=j i hi 0 _ rfl;obtain⟨Z,y1,W,B,Q⟩:=j i hi 1 _ rfl;obtain⟨u2,y2,X,C,S⟩:=j i hi 2 _ rfl;obtain⟨s,o,_,N⟩:=DataW.trod_string underlying9 P;obtain⟨G,q,_,_⟩:=pA underlying3 Q;obtain⟨I,r,_,_⟩:=pA underlying3 S;simp at o q r;subst o q r;rw[je] at h0 B C;exact⟨⟨s,G,I⟩,⟨h0,B,C⟩,N⟩
   have:Inhabited gD.Ev:=⟨⟨⟨#[]⟩,0,0⟩⟩;obtain⟨V,K⟩:=choose_lt (α:=gD.Ev) L;exact⟨_,n,cap,_,rfl,Pq V E F K⟩
end
end Go.Proofs.YthhcdfjijagalaaGreat
namespace Go.Proofs.YthhcdfjijagalaaGreat.Vw
open Qz Go.Proofs.Tryz
structure Acc where
 s:ByteArray
 sum:Int
 jO:Int
 xe:Bool
structure Vi where
 upto:Int
 ib:List Acc
def key(a:Acc):List UInt8:=gD.kP a.s
def my(u:Int)(a:Acc):Prop:=a.jO<1∨u<a.jO∨a.sum < -1000000*a.jO∨1000000*a.jO<a.sum
instance(u:Int)(a:Acc):Decidable (my u a):=by unfold my;exact inferInstance
def CZ:Option (List UInt8)->Acc->Prop
 |none,_=>True
 |some q,a=>q<key a
instance(p:Option (List UInt8))(a:Acc):Decidable (CZ p a):=by cases p<;>unfold CZ<;>exact inferInstance
def wl(u:Int):Nat->Int->Option (List UInt8)->List Acc->Int×Int
 |i,c,_,[]=>if c≠u then(8,(i:Int)) else(0,0)
 |i,c,p,a::r=>if gD.named (key a)=false then(7,(i:Int)) else if my u a then(3,(i:Int)) else if ¬CZ p a then(2,(i:Int)) else if u<c+a.jO then(8,(i:Int)) else wl u (i+1) (c+a.jO) (some (key a)) r
def iX(v:Vi):Int×Int:=if v.upto<0∨150<v.upto then(3,0) else wl v.upto 0 0 none v.ib
def new(s:ByteArray):Acc:=⟨s,0,0,false⟩
def get(l:List Acc)(s:ByteArray):Acc:=match l with
 |[]=>new s
 |a::r=>if a.s=s then a else get r s
def may(a:Acc)(e:gD.Ev):Bool:=if e.k=1 then !a.xe else if e.k=2∨e.k=4 then a.xe else if e.k=3 then a.xe&&decide (e.n<=a.sum) else false
def plus(a:Acc)(e:gD.Ev):Acc:=if e.k=2 then⟨a.s,a.sum+e.n,a.jO+1,a.xe⟩ else if e.k=3 then⟨a.s,a.sum-e.n,a.jO+1,a.xe⟩ else⟨a.s,a.sum,a.jO+1,decide (e.k=1)⟩
def ins(a:Acc):List Acc->List Acc
 |[]=>[a]
 |x::r=>if key x<key a then x::ins a r else if x.s=a.s then a::r else a::x::r
structure St where
 v:Vi
 err:Int
def iL:Vi:=⟨0,[]⟩
def apply(v:Vi)(e:gD.Ev):St:=
 if (iX v).1≠0 then⟨iL,(iX v).1⟩ else if gD.iW e≠0 then⟨iL,gD.iW e⟩ else if v.upto=150 then⟨iL,5⟩
 else if may (get v.ib e.s) e=false then⟨iL,8⟩ else⟨⟨v.upto+1,ins (plus (get v.ib e.s) e) v.ib⟩,0⟩
structure Fo where
 v:Vi
 err:Int
 at_:Int
def fo:Vi->List gD.Ev->Nat->Fo
 |v,[],_=>⟨v,0,0⟩
 |v,e::r,i=>if (apply v e).err≠0 then⟨iL,(apply v e).err,(i:Int)⟩ else fo (apply v e).v r (i+1)
def fold(v:Vi)(l:List gD.Ev):Fo:=if (iX v).1≠0 then⟨iL,(iX v).1,0⟩ else fo v l 0
end Go.Proofs.YthhcdfjijagalaaGreat.Vw
namespace Go.Proofs.YthhcdfjijagalaaGreat.gW
open Qz Go.Proofs.Tryz
noncomputable def kX(l:List (List UInt8))(g d:Int):List UInt8×Int:=(Classical.choose (tW l g d),Classical.choose (yu (tW l g d)))
theorem oS(l:List (List UInt8))(g d:Int):kN l g d (kX l g d).1 (kX l g d).2:=yu (yu (tW l g d))
theorem Gv{l:List (List UInt8)}{g d:Int}{R:List UInt8}{e:Int}(h:kN l g d R e):R=(kX l g d).1/\e=(kX l g d).2:=h.ou (oS l g d)
noncomputable def ni(b:List UInt8)(g d s:Int):List (List UInt8)×Int:=(Classical.choose (vu b g d s),Classical.choose (yu (vu b g d s)))
theorem pQ(b:List UInt8)(g d s:Int):mv b g d s (ni b g d s).1 (ni b g d s).2:=yu (yu (vu b g d s))
theorem zP{b:List UInt8}{g d s:Int}{L:List (List UInt8)}{e:Int}(h:mv b g d s L e):L=(ni b g d s).1/\e=(ni b g d s).2:=h.ou (pQ b g d s)
noncomputable def lu(l:List (List UInt8))(g d:Int):List (List UInt8)×Int:=if (kX l g d).2≠0 then([],(kX l g d).2) else ni (kX l g d).1 g d ((l.length:Int)-d)
end Go.Proofs.YthhcdfjijagalaaGreat.gW
namespace Go.Proofs.YthhcdfjijagalaaGreat.gE
open Qz Go.Proofs.Tryz
structure Hd where
 jy:Int
 b:List UInt8
structure Dk where
 gone:Bool
 bl:List Hd
structure St where
 data:Int
 spare:Int
 iC:Int
 gI:List Dk
 iF:Nat
 tail:List gD.Ba
 seen:List Int
 ls:Vw.Vi
structure Do where
 kind:Int
 n:Int
 jy:Int
 t:Int
 y:UInt8
 b:gD.Ba
 stream:ByteArray
 ll:Int
structure An where
 err:Int
 n:Int
 il:List gD.Ev
 view:Vw.Vi
def Hg:An:=⟨0,0,[],Vw.iL⟩
def nf(e:Int):An:=⟨e,0,[],Vw.iL⟩
def Ak(n:Int):An:=⟨0,n,[],Vw.iL⟩
def kA(d s b:Int):Int:=if gJ.gT d s≠0 then gJ.gT d s else if b<1∨10<b then 3 else 0
def find(l:List Hd)(k:Int):Option (List UInt8):=match l with
 |[]=>none
 |h::t=>if h.jy=k then some h.b else find t k
def jx(d:Dk)(k:Int):List UInt8:=if d.gone=true then[] else(find d.bl k).getD []
def blocks(e:List Dk)(k:Int):List (List UInt8):=e.map fun d=>jx d k
def mK(l:List Hd)(k:Int)(x:List UInt8):List Hd:=match l with
 |[]=>[]
 |h::t=>if h.jy=k then⟨h.jy,x⟩::t else h::mK t k x
def qu(l:List Hd)(k:Int)(x:List UInt8):List Hd:=match l with
 |[]=>[⟨k,x⟩]
 |h::t=>if h.jy<k then h::qu t k x else⟨k,x⟩::h::t
def oh(l:List Hd)(k:Int)(x:List UInt8):List Hd:=match find l k with
 |none=>qu l k x
 |some _=>mK l k x
def uZ(d:Dk)(k:Int)(x:List UInt8):Dk:=if d.gone=true then d else⟨d.gone,oh d.bl k x⟩
def write(e:List Dk)(k:Int)(L:List (List UInt8)):List Dk:=(List.range e.length).map fun i=>uZ (e.getD i ⟨false,[]⟩) k (L.getD i [])
noncomputable def ln(e:List Dk)(d:Int):Nat->List gD.Ba×Int
 |0=>([],0)
 |k+1=>if (ln e d k).2≠0 then([],(ln e d k).2) else if (gW.kX (blocks e k) k d).2≠0 then([],(gW.kX (blocks e k) k d).2)
  else if (gD.parse (gW.kX (blocks e k) k d).1).err≠0 then([],(gD.parse (gW.kX (blocks e k) k d).1).err) else((ln e d k).1++(gD.parse (gW.kX (blocks e k) k d).1).l,0)
noncomputable def all(s:St):List gD.Ba×Int:=if (ln s.gI s.data s.iF).2≠0 then([],(ln s.gI s.data s.iF).2) else((ln s.gI s.data s.iF).1++s.tail,0)
def events(l:List gD.Ba):List gD.Ev:=l.flatMap gD.Ba.il
noncomputable def jZ(s:St):St×Int:=
 if (gD.iy s.tail).err≠0 then(s,(gD.iy s.tail).err)
 else if (gW.ni (gD.iy s.tail).l s.iF s.data s.spare).2≠0 then(s,(gW.ni (gD.iy s.tail).l s.iF s.data s.spare).2)
 else({s with gI:=write s.gI s.iF (gW.ni (gD.iy s.tail).l s.iF s.data s.spare).1,iF:=s.iF+1,tail:=[]},0)
def kK(l:List Int)(c:Int):List Int:=match l with
 |[]=>[c]
 |x::t=>if x<c then x::kK t c else c::x::t
noncomputable def put(s:St)(d:Do):St×An:=
 if (gD.iI d.b).1≠0 then(s,nf (gD.iI d.b).1)
 else if d.b.c∈s.seen then(s,Ak s.ls.upto)
 else if 0<=d.ll/\(Vw.get s.ls.ib d.stream).jO≠d.ll then(s,nf 11)
 else if (Vw.fold s.ls d.b.il).err≠0 then(s,nf (Vw.fold s.ls d.b.il).err)
 else if ((s.tail++[d.b]).length:Int)=s.iC then
  if (jZ {s with tail:=s.tail++[d.b]}).2≠0 then(s,nf (jZ {s with tail:=s.tail++[d.b]}).2)
  else({(jZ {s with tail:=s.tail++[d.b]}).1 with seen:=kK s.seen d.b.c,ls:=(Vw.fold s.ls d.b.il).v},Ak (Vw.fold s.ls d.b.il).v.upto)
 else({s with tail:=s.tail++[d.b],seen:=kK s.seen d.b.c,ls:=(Vw.fold s.ls d.b.il).v},Ak (Vw.fold s.ls d.b.il).v.upto)
noncomputable def read(s:St)(d:Do):An:=
 if (all s).2≠0 then nf (all s).2
 else if d.kind=3 then
  if d.n<0∨((events (all s).1).length:Int)<d.n then nf 3 else⟨0,(events (all s).1).length,(events (all s).1).drop d.n.toNat,Vw.iL⟩
 else if gD.named (gD.kP d.stream)=false then nf 7
 else⟨0,((events (all s).1).filter fun x=>decide (x.s=d.stream)).length,(events (all s).1).filter fun x=>decide (x.s=d.stream),Vw.iL⟩
noncomputable def look(s:St):An:=
 if (all s).2≠0 then nf (all s).2 else⟨(Vw.fold Vw.iL (events (all s).1)).err,(Vw.fold Vw.iL (events (all s).1)).v.upto,[],(Vw.fold Vw.iL (events (all s).1)).v⟩
def kF(s:St)(d:Do):St×An:=
 if d.n<0∨(s.gI.length:Int)<=d.n then(s,nf 6)
 else if d.kind=6 then({s with gI:=s.gI.set d.n.toNat ⟨false,[]⟩},Hg)
 else if d.kind=5 then
  if (s.gI.getD d.n.toNat ⟨false,[]⟩).gone=true then(s,nf 8) else({s with gI:=s.gI.set d.n.toNat ⟨true,[]⟩},Hg)
 else match find (s.gI.getD d.n.toNat ⟨false,[]⟩).bl d.jy with
  |none=>(s,nf 6)
  |some b=>if d.t<0∨(b.length:Int)<=d.t then(s,nf 3)
   else({s with gI:=s.gI.set d.n.toNat ⟨(s.gI.getD d.n.toNat ⟨false,[]⟩).gone,mK (s.gI.getD d.n.toNat ⟨false,[]⟩).bl d.jy (b.set d.t.toNat (b.getD d.t.toNat 0^^^d.y))⟩},Hg)
noncomputable def iK(e:List Dk)(d:Int):Nat->List Dk×Int×Int
 |0=>(e,0,0)
 |k+1=>
  let p:=iK e d k
  let l:=blocks p.1 k
  if gW.j9 l k l.length=[] then p
  else if (gW.lu l k d).2≠0 then(p.1,p.2.1,if p.2.2=0 then(gW.lu l k d).2 else p.2.2)
  else(write p.1 k (gW.lu l k d).1,p.2.1+((gW.j9 l k l.length).filter fun i=>!(p.1.getD i ⟨false,[]⟩).gone).length,p.2.2)
noncomputable def jU(s:St):St×An:=({s with gI:=(iK s.gI s.data s.iF).1},⟨(iK s.gI s.data s.iF).2.2,(iK s.gI s.data s.iF).2.1,[],Vw.iL⟩)
noncomputable def kU(e:List Dk):Nat->Nat
 |0=>0
 |k+1=>kU e k+(gW.j9 (blocks e k) k e.length).length
noncomputable def step(s:St)(d:Do):St×An:=
 if d.kind=1 then put s d else if d.kind=2∨d.kind=3 then(s,read s d) else if d.kind=4 then(s,look s)
 else if d.kind=5∨d.kind=6∨d.kind=7 then kF s d else if d.kind=8 then jU s else if d.kind=9 then(s,Ak (kU s.gI s.iF)) else(s,nf 1)
noncomputable def run(s:St):List Do->St×List An
 |[]=>(s,[])
 |d::l=>((run (step s d).1 l).1,(step s d).2::(run (step s d).1 l).2)
def start(d s b:Int):St:=⟨d,s,b,List.replicate (d+s).toNat ⟨false,[]⟩,0,[],[],Vw.iL⟩
def nil:St:=⟨0,0,0,[],0,[],[],Vw.iL⟩
noncomputable def tg(d s b:Int)(l:List Do):St×List An×Int:=
 if kA d s b≠0 then(nil,[],kA d s b) else if 80<l.length then(nil,[],5) else((run (start d s b) l).1,(run (start d s b) l).2,0)
end Go.Proofs.YthhcdfjijagalaaGreat.gE
namespace Go.Proofs.YthhcdfjijagalaaGreat
open Qz Go.Proofs.Tryz Go.RowKit
def oA(a:Vw.Acc):Value:=.agg #[a.s,a.sum,a.jO,.bool a.xe]
def oW(a:Vw.Acc):List Value:=[.string a.s,.int .i64 a.sum,.int .i64 a.jO,.bool a.xe]
def gR(l:List Vw.Acc):List Value:=l.flatMap oW
theorem kS(l:List Vw.Acc):(gR l).length=l.length*4:=by
 induction l with
 |nil=>rfl
 |cons e l f=>unfold gR at *;rw[sD,iH,f];simp[oW];omega
theorem mx(l m:List Vw.Acc):gR (l++m)=gR l++gR m:=by unfold gR;simp
theorem ti(l:List Vw.Acc):∀u∈gR l,u.oneCell'=true:=by
 intro u e;unfold gR at e;obtain⟨a,_,h⟩:=yG.1 e;simp only[oW,jC,nK,lR] at h;rcases h with rfl|rfl|rfl|rfl<;>rfl
theorem EU(l:List Vw.Acc):∀(i:Nat) (h:i<l.length),(gR l)[i*4]?=some (.string l[i].s)/\(gR l)[i*4+1]?=some (.int .i64 l[i].sum)/\(gR l)[i*4+2]?=some (.int .i64 l[i].jO)/\(gR l)[i*4+3]?=some (.bool l[i].xe):=by
 induction l with
 |nil=>intro i h;exact absurd h (by simp)
 |cons e l m=>
  intro i h;have f:gR (e::l)=oW e++gR l:=rfl;rw[f]
  match i with
  |0=>exact⟨rfl,rfl,rfl,rfl⟩
  |i+1=>
   have:=m i (by simpa using h);have g:∀j,(oW e++gR l)[(i+1)*4+j]?=(gR l)[i*4+j]?:=by intro j;rw[sY (by simp[oW];omega)];congr 1;simp[oW];omega
   exact⟨(g 0).trans this.1,(g 1).trans this.2.1,(g 2).trans this.2.2.1,(g 3).trans this.2.2.2⟩
structure As (w:World) (a:Option Addr) (n cap:Nat) (l:List Vw.Acc):Prop where
 sl:Sl w 4 a n cap (gR l)
 ok:∀e∈l,e.s.size<=maxLen
section
variable {w w' : World} {a : Option Addr} {n cap : Nat} {l : List Vw.Acc}
theorem As.jO(h:As w a n cap l):l.length=n:=by
 have:=h.sl.len;rw[kS] at this;omega
theorem As.below(h:As w a n cap l)(hb:Below w w w'):As w' a n cap l:=⟨h.sl.below hb,h.ok⟩
theorem As.alloc(h:As w a n cap l)(o:Obj):As (w.alloc o) a n cap l:=⟨h.sl.alloc o,h.ok⟩
theorem As.nil(w:World):As w none 0 0 []:=⟨Sl.none w 4,fun r e=>by cases e⟩
theorem As.at{b off:Nat}(h:As w (some (b,off)) n cap l)(i:Nat)(hi:i<l.length):
  w.cell? (b,off+i*4)=some (.string l[i].s)/\w.cell? ⟨b,off+i*4+1,none⟩=some (.int .i64 l[i].sum)/\w.cell? ⟨b,off+i*4+2,none⟩=some (.int .i64 l[i].jO)/\w.cell? ⟨b,off+i*4+3,none⟩=some (.bool l[i].xe):=by
 have f:=h.jO;have e:=EU l i hi;exact⟨h.sl.cell (by omega) e.1,h.sl.cell (by omega) e.2.1,h.sl.cell (by omega) e.2.2.1,h.sl.cell (by omega) e.2.2.2⟩
end
end Go.Proofs.YthhcdfjijagalaaGreat

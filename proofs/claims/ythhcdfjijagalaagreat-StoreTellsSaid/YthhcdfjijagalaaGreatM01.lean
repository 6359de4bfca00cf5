import Derived.WalkKit
import Derived.Deep.QuietTactic
import Derived.BigQuiet
import Derived.WalkLawsBesides
import Derived.WalkSmall
import Derived.Deep.LoopGhost
import Derived.Deep.OwnRows
import Derived.KernelRfl
import Derived.Deep.Cut
import Derived.Deep.CutRange
import Derived.Deep.Light
import Derived.Deep.RegionWith
import Derived.StillTailTactics
import Derived.Deep.RegionHeld3
import Derived.Deep.DeepCutAuto
import Derived.Test.YthhcdfjijagalaaGreatProg
import Derived.Deep.AppendSrc
set_option linter.all false
namespace Go.Proofs.YthhcdfjijagalaaGreat
open Go.RowKit
inductive Qz where|gy|ia|j6|jF|pR|nk|mu|ps|pt|Qj
open Qz Go.Proofs.Tryz
instance:CoeDep Qz gy Nat:=⟨0⟩
instance:CoeDep Qz ia Nat:=⟨1⟩
instance:CoeDep Qz j6 Nat:=⟨2⟩
instance:CoeDep Qz jF Nat:=⟨3⟩
instance:CoeDep Qz pR Nat:=⟨4⟩
instance:CoeDep Qz nk Nat:=⟨5⟩
instance:CoeDep Qz mu Nat:=⟨6⟩
instance:CoeDep Qz ps Nat:=⟨7⟩
instance:CoeDep Qz pt Nat:=⟨8⟩
instance:CoeDep Qz Qj Nat:=⟨9⟩
instance:CoeDep Qz gy Value:=⟨.int .i64 0⟩
instance:CoeDep Qz ia Value:=⟨.int .i64 1⟩
instance:CoeDep Qz j6 Value:=⟨.int .i64 2⟩
instance:CoeDep Qz jF Value:=⟨.int .i64 3⟩
instance:CoeDep Qz pR Value:=⟨.int .i64 4⟩
instance:CoeDep Qz nk Value:=⟨.int .i64 5⟩
instance:CoeDep Qz mu Value:=⟨.int .i64 6⟩
instance:CoeDep Qz ps Value:=⟨.int .i64 7⟩
instance:CoeDep Qz pt Value:=⟨.int .i64 8⟩
instance:CoeDep Qz Qj Value:=⟨.int .i64 9⟩
instance:Coe Int Value:=⟨.int .i64⟩
instance:Coe Nat Value:=⟨fun n=>.int .i64 (n:Int)⟩
instance:Coe ByteArray Value:=⟨.string⟩
instance{α}:CoeOut (List α) Nat:=⟨List.length⟩
instance{α}:CoeOut (List α) Value:=⟨fun l=>.int .i64 (l.length:Int)⟩
instance:Coe World Nat:=⟨fun w=>w.heap.size⟩
instance:CoeDep Unit () Value:=⟨.slice none 0 0⟩
instance(n:Nat):CoeDep Nat n Nat:=⟨n⟩
instance(w:World):CoeDep World w Nat:=⟨w.heap.size⟩
instance{α}(l:List α):CoeDep (List α) l Nat:=⟨l.length⟩
instance(a:Option Addr):CoeDep (Option Addr) a (Option Addr):=⟨a⟩
section
variable {A N C}(a:A)(n:N)(c:C)
instance[CoeDep A a Nat][CoeDep N n Nat]:CoeDep (A×N) (a,n) Addr:=⟨⟨CoeDep.coe a,CoeDep.coe n,none⟩⟩
instance[CoeDep A a Nat][CoeDep N n Nat]:CoeDep (A×N) (a,n) Value:=⟨.pointer (some ⟨CoeDep.coe a,CoeDep.coe n,none⟩)⟩
instance[CoeDep A a Nat][CoeDep N n Nat]:CoeDep (Option (A×N)) (some (a,n)) (Option Addr):=⟨some ⟨CoeDep.coe a,CoeDep.coe n,none⟩⟩
theorem gM{n:Nat}:n<=n:=Nat.le_refl n
theorem gZ{B:Nat}{w:World}:Below B w w:=Below.refl _ _
instance[CoeDep A a (Option Addr)][CoeDep N n Nat][CoeDep C c Nat]:CoeDep (A×N×C) (a,n,c) Value:=⟨.slice (CoeDep.coe a) (CoeDep.coe n) (CoeDep.coe c)⟩
end
def tQ:=@Array.getElem?_eq_some_iff
def sy:=@Array.getElem?_push
def uW:=@Array.length_toList
def sB:=@Array.size_append
def lj:=@Array.size_push
def sx:=@Array.toList_append
def m6:=@Below.alloc
def iV:=@Below.drew
def mG:=@Below.heap_setCell
def iU:=@Below.refl
def yF:=@Bool.and_eq_true
def tF:=@ByteArray.toList_eq
def mU:=@Classical.byContradiction
def yu:=@Classical.choose_spec
def oj:=@Classical.em
def qJ:=@Classical.not_not
def pA:=@DataW.trod_int
def jD:=@Int.eq_ofNat_of_zero_le
def yB:=@Int.natCast_nonneg
def lS:=@Int.toNat_natCast
def iO:=@IntWalk.i64_in
def uV:=@Lib.run_eql_slice_nil
def ky:=@List.append_assoc
def mY:=@List.append_nil
def yD:=@List.cons_append
def rv:=@List.drop_eq_getElem_cons
def mV:=@List.drop_of_length_le
def sw:=@List.drop_succ_cons
def tK:=@List.drop_zero
def qj:=@List.eq_nil_of_length_eq_zero
def mW:=@List.ext_getElem
def tS:=@List.filter_append
def vI:=@List.filter_nil
def sD:=@List.flatMap_cons
def sY:=@List.getElem?_append_right
def qY:=@List.getElem?_drop
def jz:=@List.getElem?_eq_getElem
def rz:=@List.getElem?_eq_none
def nH:=@List.getElem?_eq_some_iff
def nJ:=@List.getElem?_map
def yv:=@List.getElem?_of_mem
def tR:=@List.getElem?_set_ne
def sZ:=@List.getElem?_set_self
def ql:=@List.getElem?_take
def oC:=@List.getElem_append_left
def nI:=@List.getElem_append_right
def iQ:=@List.getElem_cons_succ
def jr:=@List.getElem_cons_zero
def rB:=@List.getElem_map
def iE:=@List.getElem_mem
def rA:=@List.getElem_of_mem
def yA:=@List.getElem_range
def yE:=@List.getElem_set
def iR:=@List.getElem_toArray
def iH:=@List.length_append
def l8:=@List.length_cons
def kG:=@List.length_drop
def vG:=@List.length_filter_le
def iz:=@List.length_map
def qZ:=@List.length_nil
def yt:=@List.length_range
def vF:=@List.length_replicate
def kH:=@List.length_set
def jh:=@List.length_take
def li:=@List.map_append
def lI:=@List.map_cons
def nj:=@List.map_nil
def nz:=@List.map_set
def vP:=@List.map_take
def tI:=@List.map_toArray
def kd:=@List.mem_append
def jC:=@List.mem_cons
def sX:=@List.mem_cons_of_mem
def AZ:=@List.mem_cons_self
def mX:=@List.mem_filter
def pk:=@List.mem_filterMap
def yG:=@List.mem_flatMap
def iu:=@List.mem_map
def jX:=@List.mem_of_getElem?
def tD:=@List.mem_of_mem_drop
def ry:=@List.mem_of_mem_take
def lH:=@List.mem_or_eq_of_mem_set
def mc:=@List.mem_range
def oE:=@List.mem_replicate
def iA:=@List.mem_singleton
def mZ:=@List.nil_append
def vE:=@List.nodup_cons
def vM:=@List.nodup_nil
def tE:=@List.nodup_range
def ri:=@List.not_lt
def nK:=@List.not_mem_nil
def tG:=@List.pairwise_cons
def sr:=@List.range_succ
def jM:=@List.setIfInBounds_toArray
def xp:=@List.set_append_right
def iS:=@List.set_cons_succ
def iN:=@List.set_cons_zero
def sC:=@List.size_toArray
def qg:=@List.take_add_one
def AY:=@List.take_append_drop
def tL:=@List.take_left
def oN:=@List.take_left'
def sE:=@List.take_length
def ld:=@List.take_of_length_le
def tN:=@List.take_set
def su:=@List.take_succ_cons
def qG:=@List.take_succ_eq_append_getElem
def oO:=@List.take_zero
def nB:=@Nat.add_mul
def AX:=@Nat.add_sub_cancel_left
def mH:=@Nat.add_zero
def pD:=@Nat.eq_zero_or_pos
def nc:=@Nat.le_of_eq
def pp:=@Nat.le_of_lt
def jb:=@Nat.le_refl
def sF:=@Nat.le_succ
def jY:=@Nat.le_trans
def oP:=@Nat.lt_irrefl
def qK:=@Nat.lt_of_lt_of_le
def qi:=@Nat.lt_or_ge
def pE:=@Nat.min_eq_left
def ss:=@Nat.mul_le_mul_right
def me:=@Nat.mul_one
def om:=@Nat.ne_of_lt
def yy:=@Nat.pow_le_pow_right
def vK:=@Nat.shiftLeft_eq
def qH:=@Nat.shiftRight_eq_div_pow
def lU:=@Nat.sub_self
def qI:=@Nat.xor_assoc
def qk:=@Nat.xor_lt_two_pow
def rh:=@Nat.xor_self
def jk:=@Nat.zero_add
def lE:=@Ne.symm
def re:=@Option.map_some
def kO:=@Option.some.inj
def tH:=@Result.andThen_ok
def tO:=@Sem.run_bind
def tP:=@Sem.run_pure
def pz:=@UInt8.toNat_lt
def uU:=@UInt8.toNat_ofNat'
def kx:=@Value.slice.injEq
def iM:=@World.block_lt_of_cell?
def yw:=@World.cell?_of_block
def yx:=@World.ownsRow.stored
def sA:=@World.ownsRow_lit
def iY:=@World.ownsRow_nil
def tJ:=@World.rowIs.set
def jH:=@World.size_alloc
def pn:=@World.size_setCell
def jB:=@beq_eq_false_iff_ne
def ij:=@bne_iff_ne
def gS:=@bodyPost_ret
def ju:=@decide_eq_false
def kr:=@decide_eq_true
def yz:=@decide_eq_true_eq
def vL:=@grownCap_le_maxLen
def tM:=@growslice_fits
def vN:=@heap_alloc_new
def vO:=@heap_alloc_old
def yC:=@heap_setCell_same
def gC:=@if_neg
def gG:=@if_pos
def lR:=@or_false
def ji:=@ownsRow_setCell_other
def oD:=@run_firstCells_some
def oi:=@run_underlying
def nC:=@setRow_heap
def oF:=@setRow_other
def qh:=@size_zeroCells
def kI:=@true_and
def sG:=@u8_xor_nat
def vH:=@wp_region_still_tail
theorem gx{p:Prop}(h:p):Hid p:=h
theorem kY{k:IntKind}{a b:Int}(h:a=b):Ending.returned (.int k a)=.returned (.int k b):=by rw[h]
theorem rH{a b:Bool}(h:a=b):Ending.returned (.bool a)=.returned (.bool b):=by rw[h]
def m7(v:Value)(w:World)(e:Ending)(w':World):Prop:=e=.returned v/\Below w w w'
def JG(v:Value)(w:World)(e:Ending)(w':World):Prop:=e=.returned v/\∃n,w'=w.drewN n
def Same(v:Value)(w:World)(e:Ending)(w':World):Prop:=e=.returned v/\w=w'
theorem Same.drew{v:Value}{w:World}{e:Ending}{w':World}(h:Same v w e w'):JG v w e w':=⟨h.1,0,h.2▸rfl⟩
theorem gH{w e f:World}(h:Below w w e)(k:Below e e f):Below w w f:=h.trans (k.mono h.size)
theorem kE{w e:World}{cs:Array Value}{t:TypeId}(hb:Below (w.alloc (.cells cs t)).heap.size (w.alloc (.cells cs t)) e)(i:Nat):e.cell? (w,i)=cs[i]?:=by
 have f:=hb.cell (p:=(w,i)) (by simp);rw[f];simp
theorem mN{w e:World}{o:Obj}(hb:Below (w.alloc o).heap.size (w.alloc o) e):Below w w e:=gH (gZ.alloc gM _) hb
theorem rm{w:World}{p:Addr}{v:Value}(q:Addr)(h:p.block≠q.block):(w.setCell p v).cell? q=w.cell? q:=World.cell?_setCell_other _ _ _ _ (fun e=>h (by rw[e]))
theorem Fh{w e:World}{o:Obj}(hb:Below (w.alloc o).heap.size (w.alloc o) e):w.heap.size<e.heap.size:=by have:=hb.size;simp at this;omega
theorem wpList_value{P:Program}{e:Array Oper}{rest:List Oper}{o:Oper}{a:Act}{Q:Exit->Act->World->Prop}{w w':World}{v:Value}(f:o.guard=none)
  (m:(execOp a.eval o).run P w=.ok (.value v) w') (h:wpList P e Q rest (a.put o.dst v) w'):wpList P e Q (o::rest) a w:=
 wpList_plain f fun K j=>by unfold Oper.wp;rw[m];exact j _ _ h
theorem below_drewN{B:Nat}{a w:World}(h:Below B a w)(n:Nat):Below B a (w.drewN n):=h.trans ⟨rfl,rfl,rfl,jb _,fun _ _=>rfl⟩
theorem sQ(n:Int)(e:0<=n)(h:n<2 ^ 62):IntKind.i64.wrap n=n:=iO n (by omega)
theorem qD(a b:Nat)(h:a<2 ^ 62)(hb:b<2 ^ 62):bits .xor .i64 (a:Int) (b:Int)=((a^^^b:Nat):Int):=by
 have e:a%2 ^ 64=a:=Nat.mod_eq_of_lt (by omega);have f:b%2 ^ 64=b:=Nat.mod_eq_of_lt (by omega);have j:=qk h hb;show IntKind.i64.wrap ((BitVec.ofInt 64 (a:Int)^^^BitVec.ofInt 64 (b:Int)).toNat:Int)=_;simp only[BitVec.ofInt_natCast,BitVec.toNat_xor,BitVec.toNat_ofNat,e,f];exact sQ _ (by omega) (by omega)
theorem FQ(a b:Nat)(e:a<2 ^ 62)(hb:b<2 ^ 62):bits .and .i64 (a:Int) (b:Int)=((a &&& b:Nat):Int):=
 (bits_nat .i64 62 (by decide) sQ a b e hb).1
theorem AD(a b:Nat)(e:a<2 ^ 62)(hb:b<2 ^ 62):bits .or .i64 (a:Int) (b:Int)=((a ||| b:Nat):Int):=
 (bits_nat .i64 62 (by decide) sQ a b e hb).2
theorem tA(a b k:Nat)(e:a<2 ^ k):a ||| (b*2 ^ k)=a+b*2 ^ k:=by
 rw[Nat.or_comm,<-vK,<-Nat.shiftLeft_add_eq_or_of_lt e,vK,Nat.add_comm]
theorem wN(x y:Nat)(f:x<256)(e:y<256):bits .or .i64 ((x:Int)*256) (y:Int)=((256*x+y:Nat):Int):=by
 have h:=AD (x*256) y (by omega) (by omega);rw[Nat.or_comm,tA y x 8 e] at h;rw[show((x*256:Nat):Int)=(x:Int)*256 by simp] at h;rw[h];congr 1;omega
theorem G1(e f h j:Nat)(q:e<256)(r:f<256)(w:h<256)(B:j<256):∃m o R:Nat,bits .or .u32 (e:Int) ((f:Int)*256)=(m:Int)/\bits .or .u32 (m:Int) ((h:Int)*65536)=(o:Int)/\
  bits .or .u32 (o:Int) ((j:Int)*16777216)=(R:Int)/\R=e+256*f+65536*h+16777216*j:=by
 refine⟨e+f*2 ^ 8,e+f*2 ^ 8+h*2 ^ 16,e+f*2 ^ 8+h*2 ^ 16+j*2 ^ 24,?_,?_,?_,by omega⟩
 .have:=u32_or_nat e (f*2 ^ 8) (by omega) (by omega);rw[tA e f 8 q] at this;simpa using this
 .have:=u32_or_nat (e+f*2 ^ 8) (h*2 ^ 16) (by omega) (by omega);rw[tA _ h 16 (by omega)] at this;simpa using this
 .have:=u32_or_nat (e+f*2 ^ 8+h*2 ^ 16) (j*2 ^ 24) (by omega) (by omega);rw[tA _ j 24 (by omega)] at this;simpa using this
end Go.Proofs.YthhcdfjijagalaaGreat
namespace Go.Proofs.YthhcdfjijagalaaGreat
open Qz Go.Proofs.Tryz Go.RowKit
theorem je(b off j:Nat):((b,off):Addr).add j=(b,off+j):=by
 unfold Addr.add;split;·simp_all
 .rfl
structure Sl (w:World) (sz:Nat) (a:Option Addr) (n cap:Nat) (cs:List Value):Prop where
 le:n<=cap
 max:cap<=maxLen
 len:cs.length=n*sz
 nil:a=none->cap=0
 addr:0<n->∃b off,a=some ⟨b,off,none⟩/\∀j u,cs[j]?=some u->w.cell? ⟨b,off+j,none⟩=some u
theorem Sl.below{w w':World}{sz:Nat}{a:Option Addr}{n cap:Nat}{cs:List Value}(h:Sl w sz a n cap cs)(hb:Below w w w'):Sl w' sz a n cap cs:=
 ⟨h.le,h.max,h.len,h.nil,fun o=>by
  obtain⟨b,off,e,hc⟩:=h.addr o;exact⟨b,off,e,fun j u m=>by have:=hc j u m;have f:=iM _ _ this;exact(hb.cell (p:=(b,off+j)) f).trans this⟩⟩
theorem Sl.drewN{w:World}{sz:Nat}{a:Option Addr}{n cap:Nat}{cs:List Value}(h:Sl w sz a n cap cs)(k:Nat):Sl (w.drewN k) sz a n cap cs:=h.below ⟨rfl,rfl,rfl,jb _,fun _ _=>rfl⟩
theorem Sl.alloc{w:World}{sz:Nat}{a:Option Addr}{n cap:Nat}{cs:List Value}(h:Sl w sz a n cap cs)(o:Obj):Sl (w.alloc o) sz a n cap cs:=h.below (gZ.alloc gM _)
theorem Sl.lt{w:World}{sz:Nat}{b off n cap:Nat}{cs:List Value}(h:Sl w sz (some (b,off)) n cap cs)(f:0<n)(o:0<sz):b<w.heap.size:=by
 obtain⟨b',j,e,hc⟩:=h.addr f;cases e;have m:0<cs.length:=by rw[h.len];exact Nat.mul_pos f o
 exact iM _ _ (hc 0 cs[0] (by rw[jz m]))
theorem Sl.cell{w:World}{sz:Nat}{b off n cap:Nat}{cs:List Value}(h:Sl w sz (some (b,off)) n cap cs)(o:0<n){j:Nat}{u:Value}(m:cs[j]?=some u):w.cell? (b,off+j)=some u:=by
 obtain⟨b',f,e,hc⟩:=h.addr o;cases e;exact hc j u m
theorem Sl.none(w:World)(sz:Nat):Sl w sz none 0 0 []:=⟨jb _,by simp[maxLen],by simp,fun _=>rfl,fun h=>absurd h (by omega)⟩
theorem Sl.take{w:World}{sz:Nat}{a:Option Addr}{n cap:Nat}{cs:List Value}(h:Sl w sz a n cap cs){k:Nat}(m:k<=n):Sl w sz a k cap (cs.take (k*sz)):=
 ⟨jY m h.le,h.max,by rw[jh,h.len,pE (ss _ m)],h.nil,fun o=>by obtain⟨b,off,e,hc⟩:=h.addr (qK o m);exact⟨b,off,e,fun j u f=>hc j u (by rw[ql] at f;split at f;exact f;cases f)⟩⟩
theorem Sl.slice{w:World}{sz:Nat}{a:Option Addr}{n cap:Nat}{cs:List Value}(h:Sl w sz a n cap cs){lo hi:Nat}(q:lo<=hi)(r:hi<=n):
  Sl w sz (if cap=lo then a else a.map (·.add (lo*sz))) (hi-lo) (cap-lo) ((cs.drop (lo*sz)).take ((hi-lo)*sz)):=by
 have o:=h.le;have m:=h.max;refine⟨by omega,by omega,?_,?_,fun B=>?_⟩
 .rw[jh,kG,h.len,<-Nat.sub_mul];exact pE (ss _ (by omega))
 .intro e;split at e;·omega
  .have:=h.nil (by cases a<;>simp_all);omega
 .obtain⟨b,off,rfl,hc⟩:=h.addr (by omega);rw[gC (by omega)];refine⟨b,off+lo*sz,?_,fun j u f=>?_⟩;·simp[je]
  .have:=hc (lo*sz+j) u (by
    rw[ql] at f;split at f;·rw[qY] at f;exact f
    .cases f)
   rw[Nat.add_assoc];exact this
theorem gK{w:World}{base:Nat}{e:TypeId}{sz:Nat}{v:Value}{n:Nat}{xs:List Value}(h:w.ownsRow base e sz v n xs):∃a cap,v=.slice a n cap/\Sl w sz a n cap xs:=by
 rcases h.2 with⟨rfl,rfl⟩|⟨g,cap,f,rfl,hb,r,q,o,B,C⟩
 .have:xs=[]:=qj (by simpa using h.1);subst this;exact⟨none,0,rfl,Sl.none w sz⟩
 .refine⟨some (g,gy),cap,rfl,q,o,h.1,(fun e=>by cases e),fun _=>⟨g,0,rfl,fun j u m=>?_⟩⟩;have:=h.cells (g:=g) rfl j u m;rw[je] at this;exact this
theorem gL{w w':World}{base:Nat}{e:TypeId}{sz:Nat}{v:Value}{n:Nat}{xs:List Value}(h:w.ownsRow base e sz v n xs)(hb:Below w w w'):w'.ownsRow base e sz v n xs:=by
 refine⟨h.1,?_⟩;rcases h.2 with m|⟨g,cap,f,q,o,j,r⟩
 .exact .inl m
 .exact .inr ⟨g,cap,f,q,o,by rw[hb.block g (tQ.1 j).1];exact j,r⟩
theorem hJ{w:World}{base f:Nat}{e:TypeId}{sz:Nat}{v:Value}{n:Nat}{xs:List Value}(h:w.ownsRow base e sz v n xs)(hb:f<=base):w.ownsRow f e sz v n xs:=by
 refine⟨h.1,?_⟩;rcases h.2 with m|⟨g,cap,j,q,o,r⟩
 .exact .inl m
 .exact .inr ⟨g,cap,j,q,jY hb o,r⟩
theorem qw{w w0 w':World}{base:Nat}{e:TypeId}{sz:Nat}{v:Value}{n:Nat}{xs:List Value}(h:w.ownsRow base e sz v n xs)(hb:Below base w0 w)(o:base<=w.heap.size)(q:w.grownBy w' v.ownBlock):Below base w0 w':=
 hb.grown q o fun k j=>by
  rcases h.2 with⟨rfl,_⟩|⟨g,cap,m,rfl,f,r⟩
  .cases j
  .cases j;exact f
theorem rX{w w0 w':World}{base k:Nat}(hb:Below base w0 w)(e:base<=w.heap.size)(f:w.grownBy w' (some k))(m:base<=k):Below base w0 w':=
 hb.grown f e fun j h=>by cases h;exact m
section
variable {P : Program} (w : World)
theorem vQ(base:Nat)(t tx Y e:TypeId)(i:TypeInfo)(z:Value)(size bytes:Nat)(X:P.underlying t=some (.slice e))(hi:P.info? e=some i)(hz:i.zero=some z)
  (N:i.size=size) (ab:i.bytes=bytes) (ag:z.cells.size=size) (ai:0<size)
  (v:Value) (n:Nat) (xs:List Value) (o:w.ownsRow base e size v n xs)
  (x:Value) (m:Nat) (f:List Value) (E:Src P size tx x m f w)
  (S:n+m<=maxLen) (r:(n+m)*bytes<=140737488355328) (G:base<=w.heap.size):
  ∃v' w',(Builtin.append_ #[t,tx] Y #[v,x]).run P w=.ok v' w'/\w'.ownsRow base e size v' (n+m) (xs++f)/\w.grownBy w' v.ownBlock:=by
 subst N;subst ab;have W:n+m<=9223372036854775807:=by simp only[maxLen] at S;omega
 have hl:=E.newsLen;have h:(xs++f).length=(n+m)*i.size:=by rw[iH,o.1,hl,nB]
 have grown:∀(old:Nat),old<n+m->∀(row:Option Nat),
   (w.drew.alloc (.cells ((xs++f).toArray++Builtin.zeroCells z.cells (grownCap w (n+m) old e-(n+m))) e)).ownsRow base e i.size
    (.slice (some (w,gy)) (n+m) (grownCap w (n+m) old e)) (n+m) (xs++f)/\
   w.grownBy (w.drew.alloc (.cells ((xs++f).toArray++Builtin.zeroCells z.cells (grownCap w (n+m) old e-(n+m))) e)) row:=by
  intro old ho row;have ae:=grownCap_ge w (n+m) old e;have I:grownCap w (n+m) old e<=maxLen:=vL w (n+m) old e S;refine⟨⟨h,.inr ⟨w.heap.size,_,_,rfl,G,vN w.drew _,ae,I,?_,?_⟩⟩,⟨rfl,rfl,rfl,by simp,fun k F _=>vO w.drew _ F⟩⟩
  .rw[sB,sC,qh,ag,h,<-nB];congr 1;omega
  .rw[sx,<-h];exact tL
 rcases o.2 with⟨rfl,rfl⟩|⟨g,cap,C,rfl,Z,hg,ah,I,ad,O⟩
 .have af:xs=[]:=qj (by simpa using o.1);subst af;by_cases hm:m=0
  .subst hm;have hn:f=[]:=qj (by simpa using hl);subst hn;refine⟨.slice none 0 0,w,?_,iY w base e i.size,⟨rfl,rfl,rfl,jb _,fun _ _ _=>rfl⟩⟩;have hc:=E.cells;have K:=E.len;rcases E.kind with⟨e',F⟩|F<;>simp[Builtin.append_,oi X,oi F,sizeOf,typeInfo,hi,K,hc]
  .have Q:=run_append_grow_src (P:=P) w t tx Y e i z X hi hz none 0 0 [] (run_firstCells_none w.drew i.size 0 0 0) x m f E (by omega) (by omega) (tM (by omega) r);have B:=grown 0 (by omega) (Value.ownBlock ());simp only[jk,mZ] at B Q⊢;exact⟨_,_,Q,B.1,B.2⟩
 .by_cases q:n+m<=cap
  .have U:n*i.size+f.length<=C.size:=by rw[hl,ad,<-nB];exact ss _ q
   have V:=run_storeCells_at P g (n*i.size) e f 0 C w hg (by simpa using U) E.one;simp only[mH] at V;have hc:=E.cells;have K:=E.len;have Q:(Builtin.append_ #[t,tx] Y #[.slice (some (g,gy)) n cap,x]).run P w=.ok (some (g,gy),(n+m),cap) (w.setRow g (C.toList.take (n*i.size)++f++C.toList.drop (n*i.size+f.length)).toArray):=by rcases E.kind with⟨e',F⟩|F<;>simp[Builtin.append_,oi X,oi F,sizeOf,typeInfo,hi,K,q,hc,Addr.add_lit,V]
   refine⟨_,_,Q,⟨h,.inr ⟨g,cap,_,rfl,Z,nC w g C _ e _ hg,q,I,?_,?_⟩⟩,⟨rfl,rfl,rfl,by simp,fun k _ F=>oF w g k _ (fun e=>F (by simp[Value.ownBlock,e]))⟩⟩
   .simp only[sC,iH,jh,kG,uW];omega
   .rw[O,<-h];exact tL
  .have L:∀j u,xs[j]?=some u->w.drew.cell? (((g,gy):Addr).add j)=some u:=fun j u hj=>o.cells (g:=g) rfl j u hj;have hold:=oD (P:=P) w.drew i.size n (g,gy) n cap xs o.1 L;have Q:=run_append_grow_src (P:=P) w t tx Y e i z X hi hz (some (g,gy)) n cap xs hold x m f E (by omega) (by omega) (tM (by omega) r);have B:=grown cap (by omega) (Value.ownBlock (some (g,gy),n,cap));exact⟨_,_,Q,B.1,B.2⟩
theorem Sl.src{w:World}{sz:Nat}{a:Option Addr}{n cap:Nat}{cs:List Value}(h:Sl w sz a n cap cs){tx e':TypeId}(m:P.underlying tx=some (.slice e'))(o:∀u∈cs,u.oneCell'=true):Src P sz tx (a,n,cap) n cs w:=by
 cases a with
 |none=>
  have h0:=h.nil rfl;have r:=h.le;obtain rfl:n=0:=by omega
  have:cs=[]:=qj (by simpa using h.len);subst this;exact Src.ofNil w m cap
 |some p=>
  refine Src.ofSlice w m p n cap cs h.len (fun j u f=>?_) o;have q:j<cs.length:=by
   rcases qi j cs.length with h|h
   .exact h
   .rw[rz h] at f;cases f
  have B:0<n:=by
   rcases pD n with h0|h0
   .rw[h.len,h0] at q;omega
   .exact h0
  obtain⟨b,off,e,hc⟩:=h.addr B;cases e;have:=hc j u f;rw[je];exact this
theorem wpList_append_src{C:Array Oper}{rest:List Oper}{o:Oper}{a:Act}{Q:Exit->Act->World->Prop}(G:o.guard=none)(s N:Operand)(t tx:TypeId)
  (U:o.op=.call {callee:=.builtin .append,args:=#[s,N],argTypes:=#[t,tx]})
  (base:Nat) (e:TypeId) (i:TypeInfo) (z:Value) (size bytes:Nat) (X:P.underlying t=some (.slice e)) (hi:P.info? e=some i) (Z:i.zero=some z)
  (r:i.size=size) (F:i.bytes=bytes) (L:z.cells.size=size) (I:0<size)
  (v:Value) (n:Nat) (xs:List Value) (W:a.eval s=v) (B:w.ownsRow base e size v n xs)
  (x:Value) (m:Nat) (f:List Value) (K:a.eval N=x) (Y:Src P size tx x m f w)
  (E:n+m<=maxLen) (j:(n+m)*bytes<=140737488355328) (q:base<=w.heap.size)
  (h:∀v' w',w'.ownsRow base e size v' (n+m) (xs++f)->w.grownBy w' v.ownBlock->wpList P C Q rest (a.put o.dst v') w'):wpList P C Q (o::rest) a w:=by
 obtain⟨v',w',V,O,S⟩:=vQ (P:=P) w base t tx o.type e i z size bytes X hi Z r F L I v n xs B x m f Y E j q;refine wpList_value G ?_ (h v' w' O S);unfold execOp;simp only[U,resolve,invoke,builtin,tO,tP,tH,tI,lI,nj,W,K,V]
end
def Ac(w:World)(base:Nat)(e:TypeId)(sz:Nat)(v:Value)(n:Nat)(xs:List Value):Prop:=
 w.ownsRow base e sz v n xs∨(∃a,v=.slice a 0 0/\n=0/\xs=[])
theorem Ac.sl{w:World}{base:Nat}{e:TypeId}{sz:Nat}{v:Value}{n:Nat}{xs:List Value}(h:Ac w base e sz v n xs):∃a cap,v=.slice a n cap/\Sl w sz a n cap xs:=by
 rcases h with h|⟨a,rfl,rfl,rfl⟩
 .exact gK h
 .exact⟨a,0,rfl,jb _,by simp[maxLen],by simp,fun _=>rfl,fun h=>absurd h (by omega)⟩
theorem Ac.below{w w':World}{base:Nat}{e:TypeId}{sz:Nat}{v:Value}{n:Nat}{xs:List Value}(h:Ac w base e sz v n xs)(hb:Below w w w'):Ac w' base e sz v n xs:=by
 rcases h with h|h
 .exact .inl (gL h hb)
 .exact .inr h
theorem Ac.alloc{w:World}{base:Nat}{e:TypeId}{sz:Nat}{v:Value}{n:Nat}{xs:List Value}(h:Ac w base e sz v n xs)(o:Obj):Ac (w.alloc o) base e sz v n xs:=h.below (gZ.alloc gM _)
theorem Ac.mono{w:World}{base f:Nat}{e:TypeId}{sz:Nat}{v:Value}{n:Nat}{xs:List Value}(h:Ac w base e sz v n xs)(hb:f<=base):Ac w f e sz v n xs:=by
 rcases h with h|h
 .exact .inl (hJ h hb)
 .exact .inr h
section
variable {P : Program} (w : World)
end
def iB(l:List UInt8)(i:Nat):Nat:=(l.getD i 0).toNat
theorem iP(l:List UInt8)(i:Nat):iB l i<256:=pz _
def cb(l:List UInt8):List Value:=l.map fun x=>.int .u8 (x.toNat:Int)
theorem qy(l:List UInt8){e:List Int}(h:l.map (fun x=>(x.toNat:Int))=e):cb l=e.map (Value.int .u8):=by
 rw[<-h,List.map_map];rfl
theorem lO(l:List UInt8):(cb l).length=l.length:=by simp[cb]
theorem Ar(l:List UInt8)(i:Nat)(h:i<l.length):(cb l)[i]?=some (.int .u8 (iB l i)):=by
 simp[cb,iB,h,List.getD]
theorem oG(l m:List UInt8):cb (l++m)=cb l++cb m:=by simp[cb]
theorem xR(l:List UInt8):∀u∈cb l,u.oneCell'=true:=by
 intro u e;obtain⟨x,_,rfl⟩:=iu.1 e;rfl
abbrev Bt(w:World)(a:Option Addr)(n cap:Nat)(l:List UInt8):Prop:=Sl w 1 a n cap (cb l)
theorem Bt.n{w:World}{a:Option Addr}{n cap:Nat}{l:List UInt8}(h:Bt w a n cap l):l.length=n:=by
 have:=h.len;rw[lO] at this;omega
theorem Bt.at{w:World}{b off n cap:Nat}{l:List UInt8}(h:Bt w (some (b,off)) n cap l)(i:Nat)(hi:i<n):w.cell? (b,off+i)=some (.int .u8 (iB l i)):=
 Sl.cell h (by omega) (Ar l i (by rw[Bt.n h];exact hi))
theorem Bt.take{w:World}{a:Option Addr}{n cap:Nat}{l:List UInt8}(h:Bt w a n cap l){k:Nat}(e:k<=n):Bt w a k cap (l.take k):=by
 have:=Sl.take h e;unfold Bt cb;rw[vP];simpa[cb] using this
theorem Bt.slice{w:World}{a:Option Addr}{n cap:Nat}{l:List UInt8}(h:Bt w a n cap l){lo hi:Nat}(e:lo<=hi)(f:hi<=n):
  Bt w (if cap=lo then a else a.map (·.add (lo*1))) (hi-lo) (cap-lo) ((l.drop lo).take (hi-lo)):=by
 have:=Sl.slice h e f;unfold Bt cb;rw[vP,List.map_drop];simpa[cb] using this
def PU(R:List UInt8)(err:Int)(w:World)(e:Ending)(w':World):Prop:=
 ∃v,e=.returned (.tuple #[v,err])/\Below w w w'/\w'.ownsRow w.heap.size 5 1 v R.length (cb R)
theorem jW{P:Program}{t:TypeId}{z:Value}{sz e:Nat}(h:(P.info? t).map (fun i=>(i.zero,i.size,i.bytes))=some (some z,sz,e)):
  ∃i,P.info? t=some i/\i.zero=some z/\i.size=sz/\i.bytes=e:=by
 cases hi:P.info? t with
 |none=>rw[hi] at h;cases h
 |some i=>rw[hi] at h;simp at h;exact⟨i,rfl,h.1,h.2.1,h.2.2⟩
theorem sd:(Tryz.prog.info? 5).map (fun i=>(i.zero,i.size,i.bytes))=some (some (.int .u8 0),1,1):=by kernel_rfl
theorem xh(w:World)(base:Nat)(hb:base<=w.heap.size)(cs:Array Value)(l:List UInt8)(e:l.length<=maxLen)(h:cs.toList=cb l):
  (w.alloc (.cells cs 5)).ownsRow base 5 1 (some (w,gy),l,l.length) l.length (cb l):=by
 rw[<-h];exact sA w cs l.length hb e (by rw[<-uW,h,lO];omega)
theorem p8(w:World)(cs:Array Value)(l:List UInt8)(f:l.length<=maxLen)(h:cs.toList=cb l):
  Bt (w.alloc (.cells cs 5)) (some (w,gy)) l.length l.length l:=by
 obtain⟨a,cap,e,j⟩:=gK (xh w w.heap.size gM cs l f h);cases e;exact j
theorem wpList_append_bytes{j:Array Oper}{rest:List Oper}{o:Oper}{a:Act}{Q:Exit->Act->World->Prop}{w:World}(r:o.guard=none)(s G:Operand)
  (U:o.op=.call {callee:=.builtin .append,args:=#[s,G],argTypes:=#[64,64]})
  (base:Nat) (v:Value) (l m:List UInt8) (V:a.eval s=v) (f:w.ownsRow base 5 1 v l.length (cb l))
  (E:Option Addr) (q F:Nat) (C:a.eval G=.slice E q F) (K:Bt w E q F m)
  (I:l.length+m.length<=140737488355328) (e:base<=w.heap.size)
  (h:∀v' w',w'.ownsRow base 5 1 v' (l++m).length (cb (l++m))->w.grownBy w' v.ownBlock->wpList prog j Q rest (a.put o.dst v') w'):wpList prog j Q (o::rest) a w:=by
 obtain⟨i,hi,W,L,N⟩:=jW sd;have S:=Bt.n K;refine wpList_append_src w r s G 64 64 U base 5 i (.int .u8 0) 1 1 underlying64 hi W L N rfl (by decide) v l.length (cb l) V f (E,q,F) q (cb m) C
  (Sl.src K underlying64 (xR m)) (by unfold maxLen;omega) (by omega) e ?_
 intro v' w' B O;refine h v' w' ?_ O;rw[iH,oG,S];exact B
end Go.Proofs.YthhcdfjijagalaaGreat

import Derived.Test.YthhcdfjijagalaaGreatM01
set_option linter.all false
namespace Go.Proofs.YthhcdfjijagalaaGreat.nO
open Qz Go.Proofs.Tryz
def one(c:Nat):Nat:=if c &&& 1=1 then(c >>> 1)^^^0x82f63b78 else c >>> 1
def eight(c:Nat):Nat:=one (one (one (one (one (one (one (one c)))))))
def step(c x:Nat):Nat:=eight (c^^^x)
def sum(l:List UInt8):Nat:=(l.foldl (fun c x=>step c x.toNat) 4294967295)^^^4294967295
def MI(c x:Nat):Nat:=(c >>> 8)^^^eight ((c^^^x) &&& 255)
theorem QA(n:Nat):(n &&& 1=1)↔n.testBit 0=true:=by
 rw[Nat.testBit_zero,Nat.and_one_is_mod];simp
theorem one_add(a b:Nat):one (a^^^b)=one a^^^one b:=by
 unfold one;simp only[QA,Nat.testBit_xor,Nat.shiftRight_xor_distrib];generalize (0x82f63b78:Nat)=p;cases a.testBit 0<;>cases b.testBit 0<;>simp;·rw[qI]
 .rw[qI,qI,Nat.xor_comm p]
 .rw[qI,<-qI p,Nat.xor_comm p,qI _ p p,rh,Nat.xor_zero]
theorem Mj(m:Nat):one (2*m)=m:=by
 unfold one;rw[gC (by rw[Nat.and_one_is_mod];omega),qH];omega
theorem Cu(a b:Nat):eight (a^^^b)=eight a^^^eight b:=by simp only[eight,one_add]
theorem JO(m:Nat):eight (256*m)=m:=by
 unfold eight;rw[show 256*m=2*(2*(2*(2*(2*(2*(2*(2*m))))))) by omega];simp only[Mj]
theorem MV(c:Nat):c=(256*(c >>> 8))^^^(c &&& 255):=by
 apply Nat.eq_of_testBit_eq;intro i;rw[Nat.testBit_xor,show 256*(c >>> 8)=(c >>> 8) <<< 8 by rw[vK];omega,Nat.testBit_shiftLeft,Nat.testBit_shiftRight,Nat.testBit_and,show(255:Nat)=2 ^ 8-1 from rfl,Nat.testBit_two_pow_sub_one];by_cases h:i<8;·simp[h,Nat.not_le.2 h]
 .simp[h,Nat.le_of_not_lt h,Nat.add_sub_cancel' (Nat.le_of_not_lt h)]
theorem MJ(c x:Nat)(e:x<256):MI c x=step c x:=by
 unfold MI step;conv=>rhs;rw[MV (c^^^x)]
 rw[Cu,JO,Nat.shiftRight_xor_distrib,show x >>> 8=0 by rw[qH];omega,Nat.xor_zero]
theorem kp(c:Nat)(h:c<2 ^ 32):one c<2 ^ 32:=by
 have e:c >>> 1<2 ^ 32:=by rw[qH];omega
 unfold one;split;·exact qk e (by decide)
 .exact e
theorem Fv(c:Nat)(h:c<2 ^ 32):eight c<2 ^ 32:=by
 unfold eight;iterate 8 refine kp _ ?_
 exact h
theorem step_lt(c x:Nat)(h:c<2 ^ 32)(e:x<256):step c x<2 ^ 32:=Fv _ (qk h (by omega))
theorem pi(c:Nat)(h:c<2 ^ 32)(e:one c=0):c=0:=by
 unfold one at e;have f:c >>> 1<2 ^ 31:=by rw[qH];omega
 split at e
 .have:((c >>> 1)^^^0x82f63b78).testBit 31=true:=by rw[Nat.testBit_xor,Nat.testBit_lt_two_pow f];rfl
  rw[e] at this;simp at this
 .rename_i hb;rw[Nat.and_one_is_mod] at hb;rw[qH] at e;omega
theorem Hw(c:Nat)(h:c<2 ^ 32)(e:eight c=0):c=0:=by
 unfold eight at e;exact pi _ h (pi _ (kp _ h) (pi _ (kp _ (kp _ h)) (pi _ (kp _ (kp _ (kp _ h))) (pi _ (kp _ (kp _ (kp _ (kp _ h)))) (pi _ (kp _ (kp _ (kp _ (kp _ (kp _ h))))) (pi _ (kp _ (kp _ (kp _ (kp _ (kp _ (kp _ h)))))) (pi _ (kp _ (kp _ (kp _ (kp _ (kp _ (kp _ (kp _ h))))))) e)))))))
theorem ui{a b:Nat}(h:a^^^b=0):a=b:=by
 have:a^^^b^^^b=0^^^b:=by rw[h]
 rwa[qI,rh,Nat.xor_zero,Nat.zero_xor] at this
theorem Cv(a b:Nat)(e:a<2 ^ 32)(hb:b<2 ^ 32)(h:eight a=eight b):a=b:=by
 refine ui (Hw _ (qk e hb) ?_);rw[Cu,h,rh]
theorem step_inj(a b x:Nat)(f:a<2 ^ 32)(hb:b<2 ^ 32)(j:x<256)(h:step a x=step b x):a=b:=by
 have:=Cv _ _ (qk f (show x<2 ^ 32 by omega)) (qk hb (show x<2 ^ 32 by omega)) h;refine ui ?_;have e:(a^^^x)^^^(b^^^x)=0:=by rw[this,rh]
 rwa[qI,Nat.xor_comm b x,<-qI x,rh,Nat.zero_xor] at e
theorem step_inj2(a x y:Nat)(e:a<2 ^ 32)(j:x<256)(m:y<256)(h:step a x=step a y):x=y:=by
 have:=Cv _ _ (qk e (show x<2 ^ 32 by omega)) (qk e (show y<2 ^ 32 by omega)) h;refine ui ?_;have f:(a^^^x)^^^(a^^^y)=0:=by rw[this,rh]
 rwa[Nat.xor_comm a x,qI,<-qI a,rh,Nat.zero_xor] at f
def run(l:List UInt8)(c:Nat):Nat:=l.foldl (fun c x=>step c x.toNat) c
theorem yR(l:List UInt8):∀c,c<2 ^ 32->run l c<2 ^ 32:=by
 induction l with
 |nil=>exact fun c h=>h
 |cons x l e=>exact fun c h=>e _ (step_lt _ _ h (pz x))
theorem Oj(l:List UInt8):∀a b,a<2 ^ 32->b<2 ^ 32->run l a=run l b->a=b:=by
 induction l with
 |nil=>exact fun a b _ _ h=>h
 |cons x l f=>exact fun a b e hb h=>step_inj _ _ _ e hb (pz x) (f _ _ (step_lt _ _ e (pz x)) (step_lt _ _ hb (pz x)) h)
theorem EF(l:List UInt8):sum l<2 ^ 32:=qk (yR l _ (by decide)) (by decide)
theorem IW{a b c:Nat}(h:a^^^c=b^^^c):a=b:=by
 have:a^^^c^^^c=b^^^c^^^c:=by rw[h]
 rwa[qI,rh,Nat.xor_zero,qI,rh,Nat.xor_zero] at this
theorem Ot(l:List UInt8)(i:Nat)(h:i<l.length)(y:UInt8)(m:y≠l[i]):sum (l.set i y)≠sum l:=by
 intro e;have e:=IW e;have f:l=l.take i++l[i]::l.drop (i+1):=by rw[List.getElem_cons_drop,AY]
 have j:l.set i y=l.take i++y::l.drop (i+1):=List.set_eq_take_append_cons_drop .. |>.trans (by simp[h])
 rw[j] at e;conv at e=>rhs;rw[f]
 simp only[List.foldl_append,List.foldl_cons] at e;have hc:run (l.take i) 4294967295<2 ^ 32:=yR _ _ (by decide);have:=Oj (l.drop (i+1)) _ _ (step_lt _ _ hc (pz _)) (step_lt _ _ hc (pz _)) e;exact m (UInt8.toNat_inj.1 (step_inj2 _ _ _ hc (pz _) (pz _) this))
end Go.Proofs.YthhcdfjijagalaaGreat.nO
namespace Go.Proofs.YthhcdfjijagalaaGreat.jT
open Qz Go.Proofs.Tryz
def jN(g s z:Int)(n:Nat):Int:=if g<0∨39<g∨s<0∨11<s∨z<0∨3200<z then 3 else if n=0∨400<n then 5 else 0
def Ie(g s z n:Nat):List UInt8:=[83,.ofNat g,.ofNat s,.ofNat (z/256),.ofNat z,.ofNat (n/256),.ofNat n]
def EP(c:Nat):List UInt8:=[.ofNat c,.ofNat (c/256),.ofNat (c/65536),.ofNat (c/16777216)]
def body(g s z:Nat)(l:List UInt8):List UInt8:=Ie g s z l.length++l
def bytes(g s z:Nat)(l:List UInt8):List UInt8:=body g s z l++EP (nO.sum (body g s z l))
theorem Fi(g s z n:Nat)(l B:List UInt8)(f:l.length=n)(e:Ie g s z n++l=B):bytes g s z l=B++EP (nO.sum B):=by
 unfold bytes body;rw[f,e]
def Qe:Nat->Nat->List UInt8
 |0,_=>[]
 |k+1,c=>.ofNat c::Qe k (c/256)
theorem QG(c:Nat):Qe 4 c=EP c:=by
 simp only[Qe,EP,Nat.div_div_eq_div_mul]
theorem Hn(c:Nat):[UInt8.ofNat c].map (fun x=>(x.toNat:Int))=[(c:Int)%256]:=by
 simp only[lI,nj,uU,List.cons.injEq,and_true];omega
structure PR where
 err:Int
 g:Nat
 s:Nat
 z:Nat
 data:List UInt8
def BM(l:List UInt8)(k:Nat):Nat:=iB l k+256*iB l (k+1)+65536*iB l (k+2)+16777216*iB l (k+3)
def parse(l:List UInt8):PR:=
 if l.length<12∨iB l 0≠83∨256*iB l 5+iB l 6≠l.length-11 then⟨2,0,0,0,[]⟩
 else if BM l (l.length-4)≠nO.sum (l.take (l.length-4)) then⟨9,0,0,0,[]⟩
 else if jN (iB l 1) (iB l 2) ((256*iB l 3+iB l 4:Nat):Int) (l.length-11)≠0 then⟨jN (iB l 1) (iB l 2) ((256*iB l 3+iB l 4:Nat):Int) (l.length-11),0,0,0,[]⟩
 else⟨0,iB l 1,iB l 2,256*iB l 3+iB l 4,(l.drop 7).take (l.length-11)⟩
theorem ny(l:List UInt8)(h:l.length<12∨iB l 0≠83∨256*iB l 5+iB l 6≠l.length-11):parse l=⟨2,0,0,0,[]⟩:=by
 unfold parse;rw[gG h]
theorem yq(l:List UInt8)(K:Nat)(e:l.length=K+4)(m:8<=K)(h:iB l 0=83)(j:256*iB l 5+iB l 6+7=K)(f:BM l K≠nO.sum (l.take K)):parse l=⟨9,0,0,0,[]⟩:=by
 unfold parse;rw[e,gC (by omega),show K+4-4=K by omega,gG f]
theorem zo(l:List UInt8)(K:Nat)(e:l.length=K+4)(q:8<=K)(m:iB l 0=83)(o:256*iB l 5+iB l 6+7=K)(f:BM l K=nO.sum (l.take K))
  (j:jN (iB l 1) (iB l 2) ((256*iB l 3+iB l 4:Nat):Int) (K-7)≠0):parse l=⟨jN (iB l 1) (iB l 2) ((256*iB l 3+iB l 4:Nat):Int) (K-7),0,0,0,[]⟩:=by
 unfold parse;rw[e,gC (by omega),show K+4-4=K by omega,gC (fun h=>h f),show K+4-11=K-7 by omega,gG j]
theorem AU(l:List UInt8)(K:Nat)(e:l.length=K+4)(q:8<=K)(m:iB l 0=83)(o:256*iB l 5+iB l 6+7=K)(f:BM l K=nO.sum (l.take K))
  (j:jN (iB l 1) (iB l 2) ((256*iB l 3+iB l 4:Nat):Int) (K-7)=0):parse l=⟨0,iB l 1,iB l 2,256*iB l 3+iB l 4,(l.drop 7).take (K-7)⟩:=by
 unfold parse;rw[e,gC (by omega),show K+4-4=K by omega,gC (fun h=>h f),show K+4-11=K-7 by omega,gC (fun h=>h j)]
theorem sR{g s z:Int}{n:Nat}(h:jN g s z n=0):(0<=g/\g<=39/\0<=s/\s<=11/\0<=z/\z<=3200)/\0<n/\n<=400:=by
 unfold jN at h;split at h;·cases h
 split at h;·cases h
 .omega
theorem oK(g s z n:Nat):(Ie g s z n).length=7:=rfl
theorem FN(g s z n:Nat):(Ie g s z n).length<=maxLen:=by rw[oK];decide
theorem vw(c:Nat):(EP c).length=4:=rfl
theorem LZ(c:Nat):(EP c).length<=maxLen:=by rw[vw];decide
theorem CG(g s z n:Nat)(h:g<=39)(e:s<=11)(f:z<=3200)(j:n<=400):(Ie g s z n).map (fun x=>(x.toNat:Int))=[83,(g:Int),(s:Int),(z:Int)/256,(z:Int)%256,(n:Int)/256,(n:Int)%256]:=by
 simp only[Ie,lI,nj,uU,List.cons.injEq,and_true];refine⟨rfl,?_,?_,?_,?_,?_,?_⟩<;>omega
theorem J8(c:Nat)(h:c<4294967296):(EP c).map (fun x=>(x.toNat:Int))=[(c:Int)%256,(c:Int)/256%256,(c:Int)/65536%256,(c:Int)/16777216%256]:=by
 simp only[EP,lI,nj,uU,List.cons.injEq,and_true];refine⟨?_,?_,?_,?_⟩<;>omega
end Go.Proofs.YthhcdfjijagalaaGreat.jT
namespace Go.Proofs.YthhcdfjijagalaaGreat.jT
open Qz Go.Proofs.Tryz
theorem uk(l m:List UInt8)(i k:Nat)(h:l.length=k):iB (l++m) (k+i)=iB m i:=by
 subst h;unfold iB List.getD;rw[sY (by omega),AX]
theorem qx(g s z:Nat)(l:List UInt8):(body g s z l).length=7+l.length:=by unfold body;rw[iH,oK]
theorem lx(g s z:Nat)(l:List UInt8):(bytes g s z l).length=l.length+11:=by unfold bytes;rw[iH,qx,vw];omega
theorem ml(n:Nat):(UInt8.ofNat n).toNat=n%256:=uU
theorem Ju(b:List UInt8)(c k:Nat)(h:c<4294967296)(e:b.length=k):BM (b++EP c) k=c:=by
 unfold BM;rw[uk b (EP c) 1 k e,uk b (EP c) 2 k e,uk b (EP c) 3 k e];have f:iB (b++EP c) k=iB (EP c) 0:=uk b (EP c) 0 k e;rw[f];show(UInt8.ofNat c).toNat+256*(UInt8.ofNat (c/256)).toNat+65536*(UInt8.ofNat (c/65536)).toNat+16777216*(UInt8.ofNat (c/16777216)).toNat=c;rw[ml,ml,ml,ml];omega
theorem tB(g s z:Nat)(l:List UInt8)(h:jN g s z l.length=0):parse (bytes g s z l)=⟨0,g,s,z,l⟩:=by
 have C:=sR h;have e:iB (bytes g s z l) 1=g:=by show(UInt8.ofNat g).toNat=g;rw[ml];omega
 have f:iB (bytes g s z l) 2=s:=by show(UInt8.ofNat s).toNat=s;rw[ml];omega
 have j:iB (bytes g s z l) 3=z/256:=by show(UInt8.ofNat (z/256)).toNat=_;rw[ml];omega
 have m:iB (bytes g s z l) 4=z%256:=by show(UInt8.ofNat z).toNat=_;rw[ml]
 have q:iB (bytes g s z l) 5=l.length/256:=by show(UInt8.ofNat (l.length/256)).toNat=_;rw[ml];omega
 have r:iB (bytes g s z l) 6=l.length%256:=by show(UInt8.ofNat l.length).toNat=_;rw[ml]
 have o:256*(z/256)+z%256=z:=by omega
 have B:(bytes g s z l).take (7+l.length)=body g s z l:=by unfold bytes;rw[<-qx g s z l];exact tL
 have hd:((bytes g s z l).drop 7).take (7+l.length-7)=l:=by have:(bytes g s z l).drop 7=l++EP (nO.sum (body g s z l)):=rfl;rw[this,AX];exact tL
 have w:7+l.length-7=l.length:=by omega
 have:=AU (bytes g s z l) (7+l.length) (by rw[lx];omega) (by omega) rfl (by rw[q,r];omega)
  (by rw[B];unfold bytes;exact Ju _ _ _ (nO.EF _) (qx g s z l)) (by rw[e,f,j,m,o,w];exact h)
 rw[this,e,f,j,m,o,hd]
end Go.Proofs.YthhcdfjijagalaaGreat.jT
namespace Go.Proofs.YthhcdfjijagalaaGreat.gW
open Qz Go.Proofs.Tryz
def right(l:List UInt8)(g i:Int):Bool:=decide ((jT.parse l).err=0/\((jT.parse l).g:Int)=g/\((jT.parse l).s:Int)=i)
def j9(l:List (List UInt8))(g:Int)(k:Nat):List Nat:=(List.range k).filter fun i=>!right (l.getD i []) g i
theorem Ap{l:List (List UInt8)}{g:Int}{k:Nat}(h:right (l.getD k []) g k=true):j9 l g (k+1)=j9 l g k:=by
 unfold j9;rw[sr,tS,List.filter_cons_of_neg (by rw[h];decide),vI,mY]
theorem Dj{l:List (List UInt8)}{g:Int}{k:Nat}(h:right (l.getD k []) g k=false):j9 l g (k+1)=j9 l g k++[k]:=by
 unfold j9;rw[sr,tS,List.filter_cons_of_pos (by rw[h];decide),vI]
theorem rW(l:List (List UInt8))(g:Int)(k:Nat):(j9 l g k).length<=k:=by
 unfold j9;exact jY (vG _ _) (by simp)
theorem I6{l:List (List UInt8)}{g:Int}{k i:Nat}(h:i∈j9 l g k):i<k:=mc.1 (mX.1 h).1
theorem rI(g i:Int):gW.right [] g i=false:=by
 unfold gW.right;rw[jT.ny [] (.inl (by simp))];simp
end Go.Proofs.YthhcdfjijagalaaGreat.gW
namespace Go.Proofs.YthhcdfjijagalaaGreat.jT
open Qz Go.Proofs.Tryz
theorem rV(l:List UInt8)(i k:Nat)(y:UInt8)(h:i≠k):iB (l.set i y) k=iB l k:=by
 unfold iB List.getD;rw[tR h]
theorem Hj(l:List UInt8)(i:Nat)(y:UInt8)(h:i<l.length):iB (l.set i y) i=y.toNat:=by
 unfold iB List.getD;rw[sZ h];rfl
theorem Nv(l:List UInt8)(i:Nat)(h:i<l.length):iB l i=l[i].toNat:=by
 unfold iB List.getD;rw[jz h];rfl
theorem Kh(g s z:Nat)(l:List UInt8)(h:jN g s z l.length=0)(i:Nat)(y:UInt8)(hi:i<(bytes g s z l).length)(w:y≠(bytes g s z l)[i]):
  parse ((bytes g s z l).set i y)=⟨2,0,0,0,[]⟩∨parse ((bytes g s z l).set i y)=⟨9,0,0,0,[]⟩:=by
 have O:=sR h;have f:((bytes g s z l).set i y).length=l.length+11:=by rw[kH,lx]
 by_cases F:((bytes g s z l).set i y).length<12∨iB ((bytes g s z l).set i y) 0≠83∨256*iB ((bytes g s z l).set i y) 5+iB ((bytes g s z l).set i y) 6≠((bytes g s z l).set i y).length-11;·exact .inl (ny _ F)
 .right;have C:iB ((bytes g s z l).set i y) 0=83:=by omega
  have E:256*iB ((bytes g s z l).set i y) 5+iB ((bytes g s z l).set i y) 6+7=7+l.length:=by omega
  have hb:=qx g s z l;refine yq _ (7+l.length) (by rw[f];omega) (by omega) C E ?_;rw[lx] at hi;have j:BM (bytes g s z l) (7+l.length)=nO.sum (body g s z l):=by unfold bytes;exact Ju _ _ _ (nO.EF _) hb
  by_cases N:i<7+l.length
  .have r:((bytes g s z l).set i y).take (7+l.length)=(body g s z l).set i y:=by unfold bytes;rw[List.set_append_left _ _ (by omega)];exact oN (by rw[kH,hb])
   have G:BM ((bytes g s z l).set i y) (7+l.length)=BM (bytes g s z l) (7+l.length):=by unfold BM;rw[rV _ _ _ _ (by omega),rV _ _ _ _ (by omega),rV _ _ _ _ (by omega),rV _ _ _ _ (by omega)]
   rw[r,G,j];intro e;refine nO.Ot (body g s z l) i (by omega) y ?_ e.symm;intro B;apply w;rw[B];unfold bytes;exact(oC (by omega)).symm
  .have r:((bytes g s z l).set i y).take (7+l.length)=body g s z l:=by unfold bytes;rw[xp _ _ (by omega)];exact oN hb
   rw[r,<-j];intro e;apply w;have q:iB ((bytes g s z l).set i y) i=y.toNat:=Hj _ _ _ (by rw[lx];omega);have m:iB (bytes g s z l) i=((bytes g s z l)[i]'(by rw[lx];omega)).toNat:=Nv _ _ _;apply UInt8.toNat_inj.1;rw[<-q,<-m];have b:=fun k=>iP ((bytes g s z l).set i y) k;have c:=fun k=>iP (bytes g s z l) k;have I:=b (7+l.length);have b1:=b (7+l.length+1);have b2:=b (7+l.length+2);have b3:=b (7+l.length+3);have K:=c (7+l.length);have c1:=c (7+l.length+1);have c2:=c (7+l.length+2);have L:=c (7+l.length+3);unfold BM at e;have o:i=7+l.length∨i=7+l.length+1∨i=7+l.length+2∨i=7+l.length+3:=by omega
   rcases o with rfl|rfl|rfl|rfl<;>omega
end Go.Proofs.YthhcdfjijagalaaGreat.jT

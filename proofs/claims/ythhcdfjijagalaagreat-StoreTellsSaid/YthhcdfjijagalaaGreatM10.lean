import Derived.Test.YthhcdfjijagalaaGreatM02
import Derived.Test.YthhcdfjijagalaaGreatM09
set_option linter.all false
namespace Go.Proofs.YthhcdfjijagalaaGreat.gW
open Qz Go.Proofs.Tryz
open gJ
def wd(z d:Nat):Nat:=max ((z+d-1)/d) 1
def chunk(b:List UInt8)(n i:Nat):List UInt8:=(List.range n).map fun k=>b.getD (i*n+k) 0
def lr(b:List UInt8)(d:Nat):List (List UInt8):=(List.range d).map (chunk b (wd b.length d))
def blocks(g z:Nat)(S:List (List UInt8)):List (List UInt8):=(List.range S.length).map fun i=>jT.bytes g i z (S.getD i [])
def mv(b:List UInt8)(g d s:Int)(L:List (List UInt8))(e:Int):Prop:=
 if gT d s≠0 then L=[]/\e=gT d s else if g<0∨39<g then L=[]/\e=3 else if 400*d<(b.length:Int) then L=[]/\e=4
 else∃S,j8 (lr b d.toNat) s S 0/\L=blocks g.toNat b.length (lr b d.toNat++S)/\e=0
theorem mv.ou{b:List UInt8}{g d s:Int}{L K:List (List UInt8)}{e f:Int}(h:mv b g d s L e)(k:mv b g d s K f):L=K/\e=f:=by
 unfold mv at h k;split at h;·rw[gG (by assumption)] at k;exact⟨h.1.trans k.1.symm,h.2.trans k.2.symm⟩
 .rw[gC (by assumption)] at k;split at h;·rw[gG (by assumption)] at k;exact⟨h.1.trans k.1.symm,h.2.trans k.2.symm⟩
  .rw[gC (by assumption)] at k;split at h;·rw[gG (by assumption)] at k;exact⟨h.1.trans k.1.symm,h.2.trans k.2.symm⟩
   .rw[gC (by assumption)] at k;obtain⟨S,j,m,o⟩:=h;obtain⟨T,q,r,w⟩:=k;obtain⟨rfl,_⟩:=j.ou q;exact⟨m.trans r.symm,o.trans w.symm⟩
theorem LW{b:List UInt8}{g d s:Int}(h:gT d s≠0):mv b g d s [] (gT d s):=by unfold mv;rw[gG h];exact⟨rfl,rfl⟩
theorem F4{b:List UInt8}{g d s:Int}(h:gT d s=0)(f:g<0∨39<g):mv b g d s [] 3:=by unfold mv;rw[gC (fun e=>e h),gG f];exact⟨rfl,rfl⟩
theorem LX{b:List UInt8}{g d s:Int}(h:gT d s=0)(f:¬(g<0∨39<g))(j:400*d<(b.length:Int)):mv b g d s [] 4:=by
 unfold mv;rw[gC (fun e=>e h),gC f,gG j];exact⟨rfl,rfl⟩
theorem LY{b:List UInt8}{g d s:Nat}{S:List (List UInt8)}(h:gT (d:Int) (s:Int)=0)(j:g<=39)(m:b.length<=400*d)(f:j8 (lr b d) (s:Int) S 0):
  mv b (g:Int) (d:Int) (s:Int) (blocks g b.length (lr b d++S)) 0:=by
 unfold mv;rw[gC (fun e=>e h),gC (by omega),gC (by omega)];exact⟨S,by simpa using f,by simp,rfl⟩
theorem IV(z d:Nat):1<=wd z d:=by unfold wd;omega
theorem JB{z d:Nat}(hd:1<=d)(h:z<=400*d):wd z d<=400:=by
 unfold wd;have:(z+d-1)/d<=400:=by
  have:(z+d-1)/d<401:=by rw[Nat.div_lt_iff_lt_mul (by omega)];omega
  omega
 omega
theorem Nd{z d:Nat}(hd:1<=d):z<=wd z d*d:=by
 have e:(z+d-1)/d<=wd z d:=by unfold wd;omega
 have f:=Nat.div_add_mod (z+d-1) d;have h:=Nat.mod_lt (z+d-1) (show 0<d by omega);have j:(z+d-1)/d*d<=wd z d*d:=ss _ e;rw[Nat.mul_comm] at f;omega
theorem pJ(b:List UInt8)(n i:Nat):(chunk b n i).length=n:=by simp[chunk]
theorem sL(b:List UInt8)(d:Nat):(lr b d).length=d:=by simp[lr]
theorem sK{b:List UInt8}{d:Nat}(e:1<=d)(j:d<=8)(f:b.length<=400*d):lD (lr b d) d (wd b.length d):=
 ⟨sL b d,fun r h=>by obtain⟨i,_,rfl⟩:=iu.1 h;exact pJ _ _ _,e,by omega,IV _ _,JB e f⟩
theorem qS(g z:Nat)(S:List (List UInt8)):(blocks g z S).length=S.length:=by simp[blocks]
theorem vn(g z:Nat)(S:List (List UInt8))(i:Nat)(h:i<S.length):(blocks g z S)[i]?=some (jT.bytes g i z (S.getD i [])):=by simp[blocks,h]
structure Laid (b:List UInt8) (g d s:Nat) (S L:List (List UInt8)):Prop where
 QO:g<=39
 z:b.length<=400*d
 sh:m8 (lr b d) S d s (wd b.length d)
 eq:L=blocks g b.length (lr b d++S)
theorem mv.laid{b:List UInt8}{g d s:Int}{L:List (List UInt8)}{e:Int}(h:mv b g d s L e)(w:e=0):∃f d' j S,g=(f:Nat)/\d=(d':Nat)/\s=(j:Nat)/\Laid b f d' j S L:=by
 subst w;unfold mv at h;split at h;·rename_i m;exact absurd h.2.symm m
 rename_i m;have hc:=kv (qJ.1 m);split at h;·exact absurd h.2 (by decide)
 split at h;·exact absurd h.2 (by decide)
 obtain⟨S,q,r,_⟩:=h;obtain⟨d',rfl⟩:=jD (a:=d) (by omega);obtain⟨j,rfl⟩:=jD (a:=s) (by omega);obtain⟨f,rfl⟩:=jD (a:=g) (by omega);have o:=sK (b:=b) (d:=d') (by omega) (by omega) (by omega);exact⟨f,d',j,S,rfl,rfl,rfl,by omega,by omega,⟨o,by omega,by omega,(j8.ok o (by omega) (by omega) (by simpa using q)).1⟩,by simpa using r⟩
theorem mv.bad{b:List UInt8}{g d s:Int}{L:List (List UInt8)}{e:Int}(h:mv b g d s L e)(j:e≠0):L=[]:=by
 unfold mv at h;split at h;·exact h.1
 split at h;·exact h.1
 split at h;·exact h.1
 obtain⟨S,_,_,f⟩:=h;exact absurd f j
section
variable {b : List UInt8} {g d s : Nat} {S L : List (List UInt8)}
theorem Laid.len(h:Laid b g d s S L):L.length=d+s:=by rw[h.eq,qS,h.sh.whole.rows]
theorem Laid.Eh(h:Laid b g d s S L):d+s<=12/\1<=d:=by have:=h.sh.d8;have:=h.sh.s4;have:=h.sh.qU.n1;omega
theorem Laid.row(h:Laid b g d s S L){i:Nat}(hi:i<d+s):L.getD i []=jT.bytes g i b.length ((lr b d++S).getD i []):=by
 rw[h.eq,List.getD,vn _ _ _ _ (by rw[h.sh.whole.rows];exact hi)];rfl
theorem Laid.fit(h:Laid b g d s S L){i:Nat}(hi:i<d+s):jT.jN g i b.length ((lr b d++S).getD i []).length=0:=by
 have e:=h.sh.row hi;have f:=h.Eh;have j:=h.sh.qU.m1;have m:=h.sh.qU.m2;have o:=h.z;have q:=h.QO;have r:=h.sh.d8;unfold jT.jN;rw[e,gC (by omega),gC (by omega)]
theorem Laid.parse(h:Laid b g d s S L){i:Nat}(hi:i<d+s):jT.parse (L.getD i [])=⟨0,g,i,b.length,(lr b d++S).getD i []⟩:=by
 rw[h.row hi];exact jT.tB _ _ _ _ (h.fit hi)
theorem Laid.right(h:Laid b g d s S L){i:Nat}(hi:i<d+s)(e k:Int):gW.right (L.getD i []) e k=decide ((g:Int)=e/\(i:Int)=k):=by
 unfold gW.right;rw[h.parse hi];simp
theorem Laid.spoilt(h:Laid b g d s S L){i:Nat}(hi:i<d+s){k:Nat}{y:UInt8}(j:k<(L.getD i []).length)(o:y≠(L.getD i [])[k])(f q:Int):gW.right ((L.getD i []).set k y) f q=false:=by
 have m:=h.row hi;generalize L.getD i []=l at *;subst m;unfold gW.right;rcases jT.Kh g i b.length _ (h.fit hi) k y j o with e|e<;>rw[e]<;>simp
end
end Go.Proofs.YthhcdfjijagalaaGreat.gW
namespace Go.Proofs.YthhcdfjijagalaaGreat.gW
open Qz Go.Proofs.Tryz
open gJ
theorem Cs(b:List UInt8)(N i k:Nat)(h:k<(chunk b N i).length):(chunk b N i)[k]=b.getD (i*N+k) 0:=by
 simp[chunk]
theorem Hq{b:List UInt8}{N i lo:Nat}(h:lo=min (i*N) b.length):(b.drop lo).take N++(List.replicate N (0:UInt8)).drop (b.length-lo)=chunk b N i:=by
 apply mW;·rw[pJ,iH,jh,kG,kG,vF];omega
 .intro k o j;have m:k<N:=by rwa[pJ] at j
  rw[Cs];by_cases f:k<b.length-lo
  .have e:lo=i*N:=by omega
   rw[oC (by rw[jh,kG];omega)];rw[List.getElem_take,List.getElem_drop];rw[List.getD,jz (by omega)];simp only[e,Option.getD_some]
  .rw[nI (by rw[jh,kG];omega)];rw[List.getElem_drop,List.getElem_replicate];rw[List.getD,rz (by omega)];rfl
theorem JV(b:List UInt8)(N d:Nat):((List.range d).map (chunk b N)).flatten=(List.range (d*N)).map fun k=>b.getD k 0:=by
 induction d with
 |zero=>simp
 |succ d e=>
  rw[sr,li,List.flatten_append,e,Nat.succ_mul,List.range_add,li];simp[chunk,Function.comp_def]
theorem L8(b:List UInt8)(m:Nat)(h:b.length<=m):((List.range m).map fun k=>b.getD k 0).take b.length=b:=by
 apply mW;·rw[jh,iz,yt];omega
 .intro k f e;rw[List.getElem_take,rB,yA,List.getD,jz e];rfl
theorem JU{b:List UInt8}{d:Nat}(h:1<=d):((lr b d).flatten).take b.length=b/\b.length<=((lr b d).flatten).length:=by
 have f:=Nd (z:=b.length) h;have e:=JV b (wd b.length d) d;unfold lr;rw[e];refine⟨L8 _ _ (by rw[Nat.mul_comm];exact f),?_⟩;rw[iz,yt,Nat.mul_comm];exact f
end Go.Proofs.YthhcdfjijagalaaGreat.gW
namespace Go.Proofs.YthhcdfjijagalaaGreat.gW
open Qz Go.Proofs.Tryz
open gJ
structure oY (L O:List (List UInt8)) (U:List Nat):Prop where
 len:O.length=L.length
 nd:U.Nodup
 lt:∀u∈U,u<L.length
 no:∀i,i∉U->O.getD i []=L.getD i []
 yes:∀i,i∈U->O.getD i []=[]∨∃(k:Nat) (y:UInt8) (h:k<(L.getD i []).length),y≠(L.getD i [])[k]/\O.getD i []=(L.getD i []).set k y
theorem oY.start(L:List (List UInt8)):oY L L []:=⟨rfl,vM,(fun u e=>by cases e),(fun _ _=>rfl),fun i hi=>by cases hi⟩
theorem JZ{α:Type}(l:List α)(i j:Nat)(x d:α)(h:i<l.length):(l.set i x).getD j d=if i=j then x else l.getD j d:=by
 unfold List.getD;by_cases e:i=j;·subst e;rw[gG rfl,sZ h];rfl
 .rw[gC e,tR e]
section
variable {b : List UInt8} {g d s : Nat} {S L O : List (List UInt8)} {U : List Nat}
theorem oY.right(h:oY L O U)(j:Laid b g d s S L){i:Nat}(hi:i<d+s):gW.right (O.getD i []) g i=decide (i∉U):=by
 by_cases f:i∈U
 .rw[ju (fun k=>k f)];rcases h.yes i f with e|⟨k,y,m,o,e⟩
  .rw[e];exact rI _ _
  .rw[e];exact j.spoilt hi m o _ _
 .rw[kr f,h.no i f,j.right hi];exact kr ⟨rfl,rfl⟩
theorem oY.bad(h:oY L O U)(f:Laid b g d s S L){i:Nat}:i∈j9 O g L.length↔i∈U:=by
 unfold j9;rw[mX,mc];constructor
 .rintro⟨e,j⟩;rw[h.right f (by rw[<-f.len];exact e)] at j;simpa using j
 .intro m;have e:=h.lt i m;refine⟨e,?_⟩;rw[h.right f (by rw[<-f.len];exact e)];simpa using m
theorem oY.Dl(h:oY L O U)(f:Laid b g d s S L):(j9 O g L.length).length=U.length:=by
 have e:(j9 O g L.length).Nodup:=tE.filter _;exact((List.perm_ext_iff_of_nodup e h.nd).2 fun i=>h.bad f).length_eq
end
end Go.Proofs.YthhcdfjijagalaaGreat.gW
namespace Go.Proofs.YthhcdfjijagalaaGreat.gW
open Qz Go.Proofs.Tryz
open gJ
def lk(l:List (List UInt8))(g:Int)(k:Nat):List Nat:=((List.range k).filter fun i=>right (l.getD i []) g i).map fun i=>(jT.parse (l.getD i [])).z
def jP(l:List (List UInt8))(g:Int)(k:Nat):List (List UInt8):=(List.range l.length).map fun i=>if i<k/\right (l.getD i []) g i=true then(jT.parse (l.getD i [])).data else[]
def mS(l:List (List UInt8))(g:Int)(k:Nat):Prop:=∀x∈lk l g k,∀y∈lk l g k,x=y
def th(U:List Nat):Int:=if U=[] then -1 else((U.getLastD 0:Nat):Int)
def flat(X:List (List UInt8))(d:Int):List UInt8:=(X.take d.toNat).flatten
open Classical in
def kN (l:List (List UInt8)) (g d:Int) (R:List UInt8) (e:Int):Prop:=
 if gT d ((l.length:Int)-d)≠0 then R=[]/\e=gT d ((l.length:Int)-d) else if ¬mS l g l.length then R=[]/\e=8
 else∃X f,lm (jP l g l.length) d X f/\((f≠0/\R=[]/\e=f)∨(f=0/\((flat X d).length:Int)<th (lk l g l.length)/\R=[]/\e=8)∨(f=0/\th (lk l g l.length)<=((flat X d).length:Int)/\R=(flat X d).take (th (lk l g l.length)).toNat/\e=0))
theorem kN.ou{l:List (List UInt8)}{g d:Int}{R K:List UInt8}{e f:Int}(h:kN l g d R e)(k:kN l g d K f):R=K/\e=f:=by
 classical
 unfold kN at h k;split at h;·rw[gG (by assumption)] at k;exact⟨h.1.trans k.1.symm,h.2.trans k.2.symm⟩
 .rw[gC (by assumption)] at k;split at h;·rw[gG (by assumption)] at k;exact⟨h.1.trans k.1.symm,h.2.trans k.2.symm⟩
  .rw[gC (by assumption)] at k;obtain⟨X,F,w,B⟩:=h;obtain⟨Y,G,C,E⟩:=k;obtain⟨rfl,rfl⟩:=w.ou C;rcases B with⟨j,m,o⟩|⟨j,m,o,q⟩|⟨j,m,o,q⟩<;>rcases E with⟨b1,b2,b3⟩|⟨b1,b2,b3,r⟩|⟨b1,b2,b3,r⟩<;>first|exact absurd j b1|exact absurd b1 j|exact absurd m (by omega)|(subst m b2 o b3;exact⟨rfl,rfl⟩)|exact⟨o.trans b3.symm,q.trans r.symm⟩
theorem ID{l:List (List UInt8)}{g d:Int}(h:gT d ((l.length:Int)-d)≠0):kN l g d [] (gT d ((l.length:Int)-d)):=by unfold kN;rw[gG h];exact⟨rfl,rfl⟩
theorem IE{l:List (List UInt8)}{g d:Int}(h:gT d ((l.length:Int)-d)=0)(f:¬mS l g l.length):kN l g d [] 8:=by unfold kN;rw[gC (fun e=>e h),gG f];exact⟨rfl,rfl⟩
theorem IF{l:List (List UInt8)}{g d:Int}{X:List (List UInt8)}{f:Int}(h:gT d ((l.length:Int)-d)=0)(j:mS l g l.length)(m:lm (jP l g l.length) d X f)(o:f≠0):kN l g d [] f:=by
 unfold kN;rw[gC (fun e=>e h),gC (fun e=>e j)];exact⟨X,f,m,.inl ⟨o,rfl,rfl⟩⟩
theorem IG{l:List (List UInt8)}{g d:Int}{X:List (List UInt8)}(h:gT d ((l.length:Int)-d)=0)(f:mS l g l.length)(j:lm (jP l g l.length) d X 0)(m:((flat X d).length:Int)<th (lk l g l.length)):kN l g d [] 8:=by
 unfold kN;rw[gC (fun e=>e h),gC (fun e=>e f)];exact⟨X,0,j,.inr (.inl ⟨rfl,m,rfl,rfl⟩)⟩
theorem IH{l:List (List UInt8)}{g d:Int}{X:List (List UInt8)}(h:gT d ((l.length:Int)-d)=0)(f:mS l g l.length)(j:lm (jP l g l.length) d X 0)(m:th (lk l g l.length)<=((flat X d).length:Int)):kN l g d ((flat X d).take (th (lk l g l.length)).toNat) 0:=by
 unfold kN;rw[gC (fun e=>e h),gC (fun e=>e f)];exact⟨X,0,j,.inr (.inr ⟨rfl,m,rfl,rfl⟩)⟩
theorem kN.bad{l:List (List UInt8)}{g d:Int}{R:List UInt8}{e:Int}(h:kN l g d R e)(m:e≠0):R=[]:=by
 classical
 unfold kN at h;split at h;·exact h.1
 split at h;·exact h.1
 obtain⟨X,f,_,⟨_,j,_⟩|⟨_,_,j,_⟩|⟨_,_,_,j⟩⟩:=h;·exact j
 .exact j
 .exact absurd j m
section
variable {l : List (List UInt8)} {g : Int} {k : Nat}
theorem EH(h:right (l.getD k []) g k=false):lk l g (k+1)=lk l g k:=by
 unfold lk;rw[sr,tS,List.filter_cons_of_neg (by rw[h];decide),vI,mY]
theorem xF(h:right (l.getD k []) g k=true):lk l g (k+1)=lk l g k++[(jT.parse (l.getD k [])).z]:=by
 unfold lk;rw[sr,tS,List.filter_cons_of_pos (by rw[h]),vI,li,lI,nj]
theorem Ov:th []=-1:=by simp[th]
theorem GU(U:List Nat)(z:Nat):th (U++[z])=(z:Int):=by unfold th;rw[gC (by simp)];simp
theorem Ou{U:List Nat}(h:th U<0):U=[]:=by
 unfold th at h;split at h;·assumption
 .omega
theorem Bo{U:List Nat}(h:U≠[]):∃z:Nat,th U=z/\z∈U:=by
 unfold th;rw[gC h];refine⟨_,rfl,?_⟩;obtain⟨x,e,rfl⟩:∃x e,U=e++[x]:=⟨U.getLast h,U.dropLast,(List.dropLast_concat_getLast h).symm⟩;simp
theorem zX{m:Nat}(h:k<=m){x:Nat}(e:x∈lk l g k):x∈lk l g m:=by
 unfold lk at *;obtain⟨i,hi,rfl⟩:=iu.1 e;rw[mX,mc] at hi;exact iu.2 ⟨i,by rw[mX,mc];exact⟨by omega,hi.2⟩,rfl⟩
theorem mS.mono{m:Nat}(h:k<=m)(e:mS l g m):mS l g k:=fun x f y j=>e x (zX h f) y (zX h j)
theorem Ah:mS l g 0:=fun x e=>by cases e
theorem EX(h:right (l.getD k []) g k=false)(e:mS l g k):mS l g (k+1):=by unfold mS at *;rw[EH h];exact e
theorem Co(h:right (l.getD k []) g k=true)(f:mS l g k)(hz:th (lk l g k)<0∨((jT.parse (l.getD k [])).z:Int)=th (lk l g k)):mS l g (k+1):=by
 have key:∀x∈lk l g k,x=(jT.parse (l.getD k [])).z:=fun x hx=>by
  rcases hz with hz|hz
  .rw[Ou hz] at hx;cases hx
  .obtain⟨z,m,j⟩:=Bo (U:=lk l g k) (fun e=>by rw[e] at hx;cases hx);have:=f x hx z j;omega
 unfold mS;rw[xF h];intro x hx y hy;rcases kd.1 hx with hx|hx<;>rcases kd.1 hy with hy|hy
 .exact f x hx y hy
 .rw[iA.1 hy];exact key x hx
 .rw[iA.1 hx];exact(key y hy).symm
 .rw[iA.1 hx,iA.1 hy]
theorem Cn(h:right (l.getD k []) g k=true)(C:k<l.length)(B:0<=th (lk l g k))(f:((jT.parse (l.getD k [])).z:Int)≠th (lk l g k)):¬mS l g l.length:=fun r=>by
 have w:lk l g k≠[]:=fun e=>by rw[e,Ov] at B;omega
 obtain⟨z,j,o⟩:=Bo w;have q:(jT.parse (l.getD k [])).z∈lk l g (k+1):=by rw[xF h];simp
 have:=r _ (zX (m:=l.length) (by omega) q) _ (zX (m:=l.length) (by omega) o);rw[j] at f;omega
theorem jo:(jP l g k).length=l.length:=by simp[jP]
theorem oH{i:Nat}(hi:i<l.length):(jP l g k).getD i []=if i<k/\right (l.getD i []) g i=true then(jT.parse (l.getD i [])).data else[]:=by
 simp[jP,List.getD,hi]
theorem Fq:jP l g 0=List.replicate l.length []:=by
 apply mW;·simp[jP]
 .intro i e f;simp[jP]
theorem JM(h:right (l.getD k []) g k=false):jP l g (k+1)=jP l g k:=by
 unfold jP;refine List.map_congr_left fun i hi=>?_;by_cases e:i=k;·subst e;rw[h];simp
 .have:(i<k+1)↔(i<k):=by omega
  simp only[this]
theorem FB{A B:List (List UInt8)}(j:A.length=B.length)(h:∀i,i<A.length->A.getD i []=B.getD i []):A=B:=by
 apply mW j;intro i e f;have:=h i e;simpa[List.getD,e,f] using this
theorem Hu(h:right (l.getD k []) g k=true)(j:k<l.length):jP l g (k+1)=(jP l g k).set k (jT.parse (l.getD k [])).data:=by
 refine FB (by rw[kH,jo,jo]) fun i f=>?_;rw[jo] at f;rw[JZ _ _ _ _ _ (by rw[jo];exact j),oH f,oH f];by_cases e:k=i;·subst e;rw[gG ⟨by omega,h⟩,gG rfl]
 .rw[gC e];have:(i<k+1)↔(i<k):=by omega
  simp only[this]
theorem yl{d:Int}{X:List (List UInt8)}(hc:gT d ((l.length:Int)-d)=0)(h:lm (jP l g l.length) d X 0):lk l g l.length≠[]:=by
 classical
 intro m;have hd:=kv hc;have j:gJ.there (jP l g l.length)=[]:=by
  unfold gJ.there;rw[List.filter_eq_nil_iff];intro i hi;rw[mc,jo] at hi;have f:¬(right (l.getD i []) g i=true):=fun f=>by
   have:(jT.parse (l.getD i [])).z∈lk l g l.length:=by unfold lk;exact iu.2 ⟨i,by rw[mX,mc];exact⟨hi,f⟩,rfl⟩
   rw[m] at this;cases this
  rw[oH hi,gC (fun e=>f e.2)];simp
 unfold lm at h;rw[jo,gC (fun e=>e hc),j,gG (by simp;omega)] at h;exact absurd h.2 (by decide)
end
theorem Ge{l:List (List UInt8)}{d:Int}{X:List (List UInt8)}(h:lm l d X 0):X.length=l.length/\∀r∈X,r.length<=400:=by
 classical
 unfold lm at h;split at h;·rename_i o;exact absurd h.2.symm o
 split at h;·exact absurd h.2 (by decide)
 split at h;·exact absurd h.2 (by decide)
 rename_i hb;obtain⟨f,_,m,_⟩:=h;refine⟨m.rows,fun r j=>?_⟩;rw[m.lP r j];unfold wid;generalize (gJ.there l).getD 0 0=i;by_cases hi:i<l.length
 .have e:l.getD i []=l[i]:=by simp[List.getD,hi]
  rw[e];refine Nat.not_lt.1 fun q=>hb ⟨l[i],iE _,.inl q⟩
 .have e:l.getD i []=[]:=by simp[List.getD,Nat.not_lt.1 hi]
  rw[e];simp
theorem Ax{X:List (List UInt8)}(h:∀r∈X,r.length<=400):X.flatten.length<=X.length*400:=by
 induction X with
 |nil=>simp
 |cons r X f=>
  rw[List.flatten_cons,iH,l8];have j:=h r (by simp);have m:=f fun q e=>h q (by simp[e]);omega
end Go.Proofs.YthhcdfjijagalaaGreat.gW
namespace Go.Proofs.YthhcdfjijagalaaGreat.gW
open Qz Go.Proofs.Tryz
open gJ
section
variable {b : List UInt8} {g d s : Nat} {S L O : List (List UInt8)} {U : List Nat}
theorem oY.data(h:oY L O U)(f:Laid b g d s S L){i:Nat}(hi:i<d+s):(jP O g O.length).getD i []=if i∈U then[] else(lr b d++S).getD i []:=by
 have j:i<O.length:=by rw[h.len,f.len];exact hi
 rw[oH j,h.right f hi];by_cases e:i∈U;·rw[gG e,gC (by simp[e])]
 .rw[gC e,gG ⟨j,kr e⟩,h.no i e,f.parse hi]
theorem oY.left(h:oY L O U)(e:Laid b g d s S L):gJ.Left (lr b d) S (jP O g O.length) d s:=by
 refine⟨by rw[jo,h.len,e.len],fun i hi=>?_⟩;rw[h.data e hi];by_cases f:i∈U;·rw[gG f];exact .inr rfl
 .rw[gC f];exact .inl rfl
theorem Lx{n:Nat}(h:U.Nodup)(e:∀u∈U,u<n):((List.range n).filter fun i=>decide (i∈U)).length=U.length:=by
 have f:U.Perm ((List.range n).filter (fun i=>decide (i∈U))):=(List.perm_ext_iff_of_nodup h (tE.filter _)).2 fun i=>by rw[mX,mc];exact⟨fun hi=>⟨e i hi,kr hi⟩,fun hi=>of_decide_eq_true hi.2⟩
 exact f.length_eq.symm
theorem JL{n:Nat}(h:U.Nodup)(j:∀u∈U,u<n):((List.range n).filter fun i=>decide (i∉U)).length+U.length=n:=by
 have f:=List.length_eq_countP_add_countP (fun i=>decide (i∈U)) (l:=List.range n);rw[yt,List.countP_eq_length_filter,List.countP_eq_length_filter,Lx h j] at f;have e:(fun i=>decide (i∉U))=fun a=>decide (¬(decide (a∈U)=true)):=by funext i;simp
 rw[e];omega
theorem oY.there(h:oY L O U)(f:Laid b g d s S L):(gJ.there (jP O g O.length)).length+U.length=d+s:=by
 have o:=JL (n:=d+s) h.nd (fun u j=>by have:=h.lt u j;rwa[f.len] at this);have e:gJ.there (jP O g O.length)=(List.range (d+s)).filter fun i=>decide (i∉U):=by
  unfold gJ.there;rw[jo,h.len,f.len];refine List.filter_congr fun i hi=>?_;have m:=mc.1 hi;have hd:=h.data f m;rw[h.len,f.len] at hd;rw[hd];by_cases j:i∈U;·rw[gG j];simp[j]
  .rw[gC j,f.sh.row m];have:=f.sh.qU.m1;simp[j];omega
 rw[e];exact o
theorem oY.MS(h:oY L O U)(e:Laid b g d s S L){x:Nat}(j:x∈lk O g O.length):x=b.length:=by
 unfold lk at j;obtain⟨i,hi,rfl⟩:=iu.1 j;rw[mX,mc,h.len,e.len] at hi;have f:=hi.2;rw[h.right e hi.1] at f;rw[h.no i (by simpa using f),e.parse hi.1]
theorem oY.ON(h:oY L O U)(e:Laid b g d s S L):mS O g O.length:=fun x f y j=>by rw[h.MS e f,h.MS e j]
theorem oY.code(h:oY L O U)(e:Laid b g d s S L):gT (d:Int) ((O.length:Int)-(d:Int))=0:=by
 have f:=e.sh.qU.n1;have j:=e.sh.d8;have m:=e.sh.s4;exact kl (by rw[h.len,e.len];omega)
theorem oY.read(h:oY L O U)(j:Laid b g d s S L)(I:U.length<=s){R:List UInt8}{e:Int}(o:kN O g (d:Int) R e):R=b/\e=0:=by
 classical
 have G:=h.there j;unfold kN at o;rw[gC (fun k=>k (h.code j)),gC (fun k=>k (h.ON j))] at o;obtain⟨X,f,w,B⟩:=o;obtain⟨rfl,rfl⟩:=L9 j.sh (h.left j) (by omega) w;have q:=yl (h.code j) w;obtain⟨z,C,r⟩:=Bo q;rw[h.MS j r] at C;have F:flat (lr b d++S) (d:Int)=(lr b d).flatten:=by unfold flat;rw[lS,j.sh.take]
 have hd:=JU (b:=b) (d:=d) j.sh.qU.n1;rw[C,F] at B;rcases B with⟨m,_⟩|⟨_,m,_⟩|⟨_,_,m,E⟩
 .exact absurd rfl m
 .omega
 .rw[m,lS];exact⟨hd.1,E⟩
theorem oY.lost(h:oY L O U)(m:Laid b g d s S L)(C:s<U.length){R:List UInt8}{e:Int}(o:kN O g (d:Int) R e):R=[]/\e=10:=by
 classical
 have B:=h.there m;unfold kN at o;rw[gC (fun k=>k (h.code m)),gC (fun k=>k (h.ON m))] at o;obtain⟨X,f,r,w⟩:=o;obtain⟨rfl,rfl⟩:=yj m.sh (h.left m) (by omega) r;rcases w with⟨_,j,q⟩|⟨j,_⟩|⟨j,_⟩
 .exact⟨j,q⟩
 .exact absurd j (by decide)
 .exact absurd j (by decide)
end
end Go.Proofs.YthhcdfjijagalaaGreat.gW
namespace Go.Proofs.YthhcdfjijagalaaGreat.gJ
open Qz Go.Proofs.Tryz
theorem step_to{n:Nat}{a:M}(hi:I0 n a):∀c,c<=n->∃e out,Step n a e out (fun j=>j<c)
 |0,_=>⟨a,one,(Step.start n a).congr (fun _ _ _ _=>rfl) (fun _ _ _ _=>rfl) (fun j C=>absurd C (by omega))⟩
 |c+1,hc=>by
  classical
  obtain⟨e,out,h⟩:=step_to hi c (by omega);have o:¬c<c:=by omega
  have m:∃k,k<n/\¬k<c/\e k c≠0:=mU fun I=>h.stuck (show c<n by omega) o (fun i q r=>mU fun w=>I ⟨i,q,r,w⟩) hi;obtain⟨k,G,B,f⟩:=m;have q:=h.swap (show c<n by omega) G o B;have E:nM c k e c c=e k c:=by unfold nM;rw[gG rfl]
  have r:=q.scale (show c<n by omega) o (vs (a:=e k c) f);have F:lX c (mD (e k c)) (nM c k e) c c=1:=by unfold lX;rw[gG rfl,E];exact od f
  have w:=r.elim (show c<n by omega) o F;exact⟨_,_,w.congr (fun _ _ _ _=>rfl) (fun _ _ _ _=>rfl) (fun j C=>⟨by omega,by omega⟩)⟩
theorem G3{n:Nat}{a:M}(hi:I0 n a):∃b,rU n a b:=by
 obtain⟨e,out,h⟩:=step_to hi n gM;exact⟨out,h.done fun j f=>f⟩
theorem Gd(l:List (List UInt8))(d:Int):∃L e,lm l d L e:=by
 classical
 by_cases hc:gT d ((l.length:Int)-d)=0
 .by_cases m:((there l).length:Int)<d;·exact⟨_,_,wY hc m⟩
  by_cases o:rP l;·exact⟨_,_,ru hc (by omega) o⟩
  have hd:=kv hc;obtain⟨D,rfl⟩:=jD (a:=d) (by omega);have h:((there l).take D).length=D:=by rw[jh];omega
  have j:∀u∈(there l).take D,u<256:=fun u r=>by have:=(qs (ry r)).1;omega
  obtain⟨f,q⟩:=G3 (vD ((there l).take D) h ((ug l).take) j);refine⟨EI l.length (wid l ((there l).getD 0 0)) (wV l D f),0,?_⟩;unfold lm;rw[gC (fun e=>e hc),gC m,gC o];exact⟨f,by simpa using q,by simpa using Jz _ _ _,rfl⟩
 .exact⟨_,_,yk hc⟩
theorem EB(l:List (List UInt8))(s:Int):∃L e,j8 l s L e:=by
 unfold j8;by_cases f:gT l.length s≠0;·exact⟨[],_,by rw[gG f];exact⟨rfl,rfl⟩⟩
 by_cases h:ir l≠0;·exact⟨[],_,by rw[gC f,gG h];exact⟨rfl,rfl⟩⟩
 .exact⟨_,_,by rw[gC f,gC h];exact⟨Jz _ _ _,rfl⟩⟩
end Go.Proofs.YthhcdfjijagalaaGreat.gJ
namespace Go.Proofs.YthhcdfjijagalaaGreat.gW
open Qz Go.Proofs.Tryz
open gJ
theorem tW(l:List (List UInt8))(g d:Int):∃R e,kN l g d R e:=by
 classical
 by_cases hc:gT d ((l.length:Int)-d)=0
 .by_cases h:mS l g l.length
  .obtain⟨X,f,j⟩:=Gd (jP l g l.length) d;by_cases m:f=0
   .subst m;by_cases o:((flat X d).length:Int)<th (lk l g l.length);·exact⟨_,_,IG hc h j o⟩
    .exact⟨_,_,IH hc h j (by omega)⟩
   .exact⟨_,_,IF hc h j m⟩
  .exact⟨_,_,IE hc h⟩
 .exact⟨_,_,ID hc⟩
theorem vu(b:List UInt8)(g d s:Int):∃L e,mv b g d s L e:=by
 by_cases f:gT d s=0
 .by_cases h:g<0∨39<g;·exact⟨_,_,F4 f h⟩
  by_cases m:400*d<(b.length:Int);·exact⟨_,_,LX f h m⟩
  have hc:=kv f;obtain⟨d',rfl⟩:=jD (a:=d) (by omega);obtain⟨q,rfl⟩:=jD (a:=s) (by omega);obtain⟨r,rfl⟩:=jD (a:=g) (by omega);obtain⟨S,e,j⟩:=EB (lr b d') (q:Int);have o:=sK (b:=b) (d:=d') (by omega) (by omega) (by omega);obtain⟨_,rfl⟩:=j8.ok o (by omega) (by omega) j;exact⟨_,_,LY f (by omega) (by omega) j⟩
 .exact⟨_,_,LW f⟩
end Go.Proofs.YthhcdfjijagalaaGreat.gW

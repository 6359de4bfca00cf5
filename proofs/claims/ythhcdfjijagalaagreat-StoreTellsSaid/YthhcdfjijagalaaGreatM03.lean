set_option linter.all false
namespace Go.Proofs.YthhcdfjijagalaaGreat.kM
def xt(a:Nat):Nat:=if 255<2*a then(2*a)^^^285 else 2*a
def pw:Nat->Nat
 |0=>1
 |n+1=>xt (pw n)
def L4:Nat->Nat->Nat->Nat->Nat
 |0,_,_,_=>0
 |f+1,x,i,a=>if x=a then i else L4 f (xt x) (i+1) a
def lg(a:Nat):Nat:=L4 255 1 0 a
def mul(a b:Nat):Nat:=if a=0∨b=0 then 0 else pw (lg a+lg b)
def inv(a:Nat):Nat:=if a=0 then 0 else pw (255-lg a)
theorem xm:∀n,pw n<256
 |0=>by decide
 |n+1=>by
  have e:=xm n;have h:∀a,a<256->xt a<256:=by decide +kernel
  exact h _ e
theorem Qs:∀a,a<256->a≠0->xt a≠0:=by decide +kernel
theorem CU:∀n,pw n≠0
 |0=>by decide
 |n+1=>Qs _ (xm n) (CU n)
theorem Jm:∀i,i<255->lg (pw i)=i:=by decide +kernel
theorem Mu:∀a,a<256->a≠0->pw (lg a)=a/\lg a<255:=by decide +kernel
theorem Mt:pw 255=1:=by decide +kernel
theorem CT:∀n,pw (n+255)=pw n
 |0=>Mt
 |n+1=>by show xt (pw (n+255))=xt (pw n);rw[CT n]
theorem yr(n:Nat):pw (n%255)=pw n:=by
 have h:∀k m,pw (m+255*k)=pw m:=by
  intro k;induction k with
  |zero=>intro m;simp
  |succ k e=>intro m;rw[show m+255*(k+1)=(m+255*k)+255 by omega,CT,e]
 have:=h (n/255) (n%255);rw[show n%255+255*(n/255)=n by omega] at this;exact this.symm
theorem mul_lt(a b:Nat):mul a b<256:=by
 unfold mul;split;·omega
 .exact xm _
theorem tu(i j:Nat):mul (pw i) (pw j)=pw (i+j):=by
 unfold mul;rw[if_neg (by have:=CU i;have:=CU j;omega)];rw[<-yr i,<-yr j,Jm _ (by omega),Jm _ (by omega),<-yr,<-yr (i+j)];congr 1;omega
theorem mul_zero(a:Nat):mul a 0=0:=by simp[mul]
theorem zero_mul(a:Nat):mul 0 a=0:=by simp[mul]
theorem pW(a:Nat)(h:a<256):a=0∨∃i,i<255/\a=pw i:=by
 by_cases e:a=0;·exact .inl e
 .exact .inr ⟨lg a,(Mu a h e).2,(Mu a h e).1.symm⟩
theorem mul_comm(a b:Nat):mul a b=mul b a:=by
 unfold mul;rw[Nat.add_comm];simp only[Or.comm]
theorem mul_assoc(a b c:Nat)(e:a<256)(hb:b<256)(hc:c<256):mul (mul a b) c=mul a (mul b c):=by
 rcases pW a e with rfl|⟨i,_,rfl⟩
 .simp[zero_mul]
 rcases pW b hb with rfl|⟨j,_,rfl⟩
 .simp[zero_mul,mul_zero]
 rcases pW c hc with rfl|⟨k,_,rfl⟩
 .simp[mul_zero]
 rw[tu,tu,tu,tu,Nat.add_assoc]
theorem mul_one(a:Nat)(e:a<256):mul a 1=a:=by
 rcases pW a e with rfl|⟨i,_,rfl⟩
 .simp[zero_mul]
 .exact tu i 0
theorem mul_eq_zero(a b:Nat):mul a b=0↔a=0∨b=0:=by
 unfold mul;split;·simp[*]
 .rename_i h;simp[h,CU]
theorem PB(i:Nat)(h:i<255):inv (pw i)=pw (255-i):=by
 unfold inv;rw[if_neg (CU i),Jm i h]
theorem od(a:Nat)(f:a<256)(e:a≠0):mul a (inv a)=1:=by
 rcases pW a f with rfl|⟨i,hi,rfl⟩
 .exact absurd rfl e
 .rw[PB i hi,tu,show i+(255-i)=255 by omega,Mt]
theorem yg(a:Nat):inv a<256:=by
 unfold inv;split;·omega
 .exact xm _
theorem vs(a:Nat)(e:a≠0):inv a≠0:=by unfold inv;rw[if_neg e];exact CU _
def Nz(x b:Nat):Nat:=(List.range 8).foldl (fun n k=>if b >>> k &&& 1=1 then n^^^x <<< k else n) 0
def Qu(n:Nat):Nat:=[14,13,12,11,10,9,8].foldl (fun n k=>if n >>> k &&& 1=1 then n^^^285 <<< (k-8) else n) n
def pB(a b:Nat):Nat:=Qu (Nz a b)%256
theorem Dq(n k:Nat):(n >>> k &&& 1=1)↔n.testBit k=true:=by
 rw[Nat.testBit,Nat.and_comm];have h:(1 &&& n >>> k)<2:=Nat.lt_of_le_of_lt Nat.and_le_left (by omega);simp only[bne_iff_ne];omega
def IN(n k:Nat):Nat:=if n >>> k &&& 1=1 then n^^^285 <<< (k-8) else n
theorem Qr(a b c d:Nat):(a^^^b)^^^(c^^^d)=(a^^^c)^^^(b^^^d):=by
 rw[Nat.xor_assoc,Nat.xor_assoc,<-Nat.xor_assoc b,Nat.xor_comm b c,Nat.xor_assoc c]
theorem Jx(n m k:Nat):IN (n^^^m) k=IN n k^^^IN m k:=by
 unfold IN;simp only[Dq,Nat.testBit_xor];generalize 285 <<< (k-8)=p;cases n.testBit k<;>cases m.testBit k<;>simp;·rw[Nat.xor_assoc]
 .rw[Nat.xor_assoc,Nat.xor_comm m p,Nat.xor_assoc]
 .rw[Qr];simp
theorem fold_add(l:List Nat):∀n m,l.foldl IN (n^^^m)=l.foldl IN n^^^l.foldl IN m:=by
 induction l with
 |nil=>intro n m;rfl
 |cons k l e=>intro n m;simp only[List.foldl_cons,Jx,e]
theorem Jw(n m:Nat):Qu (n^^^m)=Qu n^^^Qu m:=fold_add _ n m
def xs:List Nat->(Nat->Nat)->Nat
 |[],_=>0
 |k::l,f=>f k^^^xs l f
theorem NE(b:Nat)(f:Nat->Nat)(l:List Nat):∀n,l.foldl (fun n k=>if b >>> k &&& 1=1 then n^^^f k else n) n=n^^^xs l (fun k=>if b.testBit k then f k else 0):=by
 induction l with
 |nil=>intro n;simp[xs]
 |cons k l e=>
  intro n;simp only[List.foldl_cons,xs,Dq];simp only[Dq] at e;split;·rw[e];simp[*,Nat.xor_assoc]
  .rw[e];simp[*]
theorem Nh(l:List Nat)(f g:Nat->Nat):xs l (fun k=>f k^^^g k)=xs l f^^^xs l g:=by
 induction l with
 |nil=>simp[xs]
 |cons k l e=>simp only[xs,e];rw[Qr]
theorem xS(x b:Nat):Nz x b=xs (List.range 8) (fun k=>if b.testBit k then x <<< k else 0):=by
 unfold Nz;rw[NE b (fun k=>x <<< k)];simp
theorem Lv(x y b:Nat):Nz (x^^^y) b=Nz x b^^^Nz y b:=by
 rw[xS,xS,xS,<-Nh];congr 1;funext k;cases b.testBit k<;>simp[Nat.shiftLeft_xor_distrib]
theorem Lw(x b c:Nat):Nz x (b^^^c)=Nz x b^^^Nz x c:=by
 rw[xS,xS,xS,<-Nh];congr 1;funext k;rw[Nat.testBit_xor];cases b.testBit k<;>cases c.testBit k<;>simp
theorem Jo(a b:Nat):(a^^^b)%256=a%256^^^b%256:=by
 rw[show(256:Nat)=2 ^ 8 from rfl];exact Nat.xor_mod_two_pow
theorem yO(a b c:Nat):pB (a^^^b) c=pB a c^^^pB b c:=by
 unfold pB;rw[Lv,Jw,Jo]
theorem uB(a b c:Nat):pB a (b^^^c)=pB a b^^^pB a c:=by
 unfold pB;rw[Lw,Jw,Jo]
theorem IX:∀a b,a<256->b<256->xt (a^^^b)=xt a^^^xt b:=by
 have e:∀a,a<256->xt a=IN (2*a) 8:=by decide +kernel
 intro a b h hb;have f:a^^^b<256:=Nat.xor_lt_two_pow (n:=8) h hb;rw[e _ h,e _ hb,e _ f,<-Jx];congr 1;have:=Nat.shiftLeft_xor_distrib (i:=1) (a:=a) (b:=b);simpa[Nat.shiftLeft_eq,Nat.mul_comm] using this
def Dr(a:Nat)(f:Nat->Nat):Nat:=(List.range 8).foldl (fun s k=>if a >>> k &&& 1=1 then s^^^f k else s) 0
theorem J6:∀a,a<256->Dr a (fun k=>1 <<< k)=a:=by decide +kernel
theorem uO(f:Nat->Nat)(h:∀a b,a<256->b<256->f (a^^^b)=f a^^^f b)(a:Nat)(C:a<256):f a=Dr a fun k=>f (1 <<< k):=by
 have B:f 0=0:=by have:=h 0 0 (by omega) (by omega);simpa using this
 have key:∀(l:List Nat),(∀k∈l,k<8)->∀s,s<256->
   f (l.foldl (fun s k=>if a >>> k &&& 1=1 then s^^^1 <<< k else s) s)=l.foldl (fun s k=>if a >>> k &&& 1=1 then s^^^f (1 <<< k) else s) (f s):=by
  intro l;induction l with
  |nil=>intro _ s _;rfl
  |cons k l w=>
   intro o s q;have E:=o k (by simp);have r:(1:Nat) <<< k<256:=by
    have:∀k,k<8->(1:Nat) <<< k<256:=by decide
    exact this k E
   simp only[List.foldl_cons];split;·rw[w (fun j m=>o j (by simp[m])) _ (Nat.xor_lt_two_pow (n:=8) q r),h _ _ q r]
   .exact w (fun j m=>o j (by simp[m])) _ q
 have:=key (List.range 8) (by simp) 0 (by omega);rw[B] at this;have e:=J6 a C;unfold Dr at e⊢;rw[e] at this;exact this
theorem yY(f g:Nat->Nat)(o:∀a b,a<256->b<256->f (a^^^b)=f a^^^f b)(q:∀a b,a<256->b<256->g (a^^^b)=g a^^^g b)
  (m:∀k,k<8->f (1 <<< k)=g (1 <<< k)) (a:Nat) (e:a<256):f a=g a:=by
 rw[uO f o a e,uO g q a e];unfold Dr;have key:∀(l:List Nat),(∀k∈l,k<8)->∀s,l.foldl (fun s k=>if a >>> k &&& 1=1 then s^^^f (1 <<< k) else s) s=l.foldl (fun s k=>if a >>> k &&& 1=1 then s^^^g (1 <<< k) else s) s:=by
  intro l;induction l with
  |nil=>intro _ s;rfl
  |cons k l w=>intro h s;simp only[List.foldl_cons];rw[m k (h k (by simp))];exact w (fun j r=>h j (by simp[r])) _
 exact key _ (by simp) 0
theorem zS(a b:Nat):pB a b<256:=Nat.mod_lt _ (by omega)
theorem Of(a b:Nat)(e:a<256)(hb:b<256):pB a (xt b)=xt (pB a b):=by
 refine yY (fun b=>pB a (xt b)) (fun b=>xt (pB a b)) ?_ ?_ ?_ b hb;·intro x y o q;simp only[IX x y o q,uB]
 .intro x y _ _;simp only[uB];rw[IX _ _ (zS _ _) (zS _ _)]
 .intro k m;refine yY (fun a=>pB a (xt (1 <<< k))) (fun a=>xt (pB a (1 <<< k))) ?_ ?_ ?_ a e;·intro x y _ _;simp only[yO]
  .intro x y _ _;simp only[yO];rw[IX _ _ (zS _ _) (zS _ _)]
  .have h:∀k,k<8->∀j,j<8->pB (1 <<< j) (xt (1 <<< k))=xt (pB (1 <<< j) (1 <<< k)):=by decide +kernel
   exact fun j f=>h k m j f
theorem MH:∀a,a<256->pB a 1=a:=by decide +kernel
theorem Od(i j:Nat):pB (pw i) (pw j)=pw (i+j):=by
 induction j with
 |zero=>exact MH _ (xm i)
 |succ j e=>show pB (pw i) (xt (pw j))=xt (pw (i+j));rw[Of _ _ (xm i) (xm j),e]
theorem Ku(a:Nat):pB a 0=0:=by
 have:=uB a 0 0;simpa using this
theorem KS(a:Nat):pB 0 a=0:=by
 have:=yO 0 0 a;simpa using this
theorem uC(a b:Nat)(e:a<256)(hb:b<256):pB a b=mul a b:=by
 rcases pW a e with rfl|⟨i,_,rfl⟩
 .rw[KS,zero_mul]
 rcases pW b hb with rfl|⟨j,_,rfl⟩
 .rw[Ku,mul_zero]
 rw[Od,tu]
theorem Mf(a b c:Nat)(e:a<256)(hb:b<256)(hc:c<256):mul a (b^^^c)=mul a b^^^mul a c:=by
 rw[<-uC a b e hb,<-uC a c e hc,<-uC a _ e (Nat.xor_lt_two_pow (n:=8) hb hc),uB]
def pq(a:Nat):Nat->Nat->Nat
 |0,_=>0
 |f+1,b=>if pB a b=1 then b else pq a f (b+1)
def QK(a:Nat):Nat:=pq a 255 1
theorem LU(a b:Nat)(e:a<256)(hb:b<256)(h:mul a b=1):b=inv a:=by
 have j:a≠0:=by rintro rfl;rw[zero_mul] at h;cases h
 have f:=od a e j;have:mul (inv a) (mul a b)=mul (inv a) (mul a (inv a)):=by rw[h,f]
 rw[<-mul_assoc _ _ _ (yg a) e hb,<-mul_assoc _ _ _ (yg a) e (yg a),mul_comm (inv a) a,f,mul_comm 1 b,mul_comm 1 _,mul_one _ hb,mul_one _ (yg a)] at this;exact this
theorem GA(a:Nat)(o:a<256):∀f b,b+f=256->1<=b->(a≠0->b<=inv a)->pq a f b=inv a:=by
 intro f;induction f with
 |zero=>
  intro b hb q h;unfold pq;by_cases j:a=0;·subst j;rfl
  .have:=h j;have:=yg a;omega
 |succ f r=>
  intro b hb q h;unfold pq;rw[uC a b o (by omega)];split;·rename_i m;exact LU a b o (by omega) m
  .rename_i m;refine r (b+1) (by omega) (by omega) fun j=>?_;have:=h j;by_cases e:b=inv a;·rw[e,od a o j] at m;exact absurd rfl m
   .omega
theorem Ob(a:Nat)(f:a<256):QK a=inv a:=GA a f 255 1 rfl (Nat.le_refl _) fun e=>by have:=vs a e;omega
def pow(a:Nat)(n:Int):Nat:=if n=0 then 1 else if a=0 then 0 else pw ((lg a*n)%255).toNat
theorem pow_add(a:Nat)(m n:Int)(j:a<256)(f:a≠0):pow a (m+n)=mul (pow a m) (pow a n):=by
 have e:∀n,pow a n=pw ((lg a*n)%255).toNat:=by
  intro n;unfold pow;rw[if_neg f];split;·rename_i h;subst h;simp[pw]
  .rfl
 rw[e,e,e,tu];rw[<-yr (((lg a*m)%255).toNat+_)];congr 1;rw[Int.mul_add];generalize (lg a:Int)*m=x;generalize (lg a:Int)*n=y;omega
end Go.Proofs.YthhcdfjijagalaaGreat.kM
namespace Go.Proofs.YthhcdfjijagalaaGreat.gJ
def iG(a b:UInt8):UInt8:=a^^^b
def iZ(a b:UInt8):UInt8:=UInt8.ofNat (kM.mul a.toNat b.toNat)
def mD(a:UInt8):UInt8:=UInt8.ofNat (kM.inv a.toNat)
theorem toNat_mul(a b:UInt8):(iZ a b).toNat=kM.mul a.toNat b.toNat:=by
 unfold iZ;rw[UInt8.toNat_ofNat'];exact Nat.mod_eq_of_lt (kM.mul_lt _ _)
theorem uF(a:UInt8):(mD a).toNat=kM.inv a.toNat:=by
 unfold mD;rw[UInt8.toNat_ofNat'];exact Nat.mod_eq_of_lt (kM.yg _)
theorem toNat_add(a b:UInt8):(iG a b).toNat=a.toNat^^^b.toNat:=UInt8.toNat_xor a b
theorem lt(a:UInt8):a.toNat<256:=UInt8.toNat_lt a
theorem add_comm(a b:UInt8):iG a b=iG b a:=UInt8.toNat_inj.1 (by rw[toNat_add,toNat_add,Nat.xor_comm])
theorem add_assoc(a b c:UInt8):iG (iG a b) c=iG a (iG b c):=UInt8.toNat_inj.1 (by simp only[toNat_add,Nat.xor_assoc])
theorem add_zero(a:UInt8):iG a 0=a:=UInt8.toNat_inj.1 (by rw[toNat_add];exact Nat.xor_zero _)
theorem zero_add(a:UInt8):iG 0 a=a:=by rw[add_comm,add_zero]
theorem nP(a:UInt8):iG a a=0:=UInt8.toNat_inj.1 (by rw[toNat_add,Nat.xor_self];rfl)
theorem add_eq_zero{a b:UInt8}(h:iG a b=0):a=b:=by
 have:iG (iG a b) b=iG 0 b:=by rw[h]
 rwa[add_assoc,nP,add_zero,zero_add] at this
theorem mul_comm(a b:UInt8):iZ a b=iZ b a:=UInt8.toNat_inj.1 (by rw[toNat_mul,toNat_mul,kM.mul_comm])
theorem mul_assoc(a b c:UInt8):iZ (iZ a b) c=iZ a (iZ b c):=UInt8.toNat_inj.1 (by simp only[toNat_mul];exact kM.mul_assoc _ _ _ (lt a) (lt b) (lt c))
theorem mul_one(a:UInt8):iZ a 1=a:=UInt8.toNat_inj.1 (by rw[toNat_mul];exact kM.mul_one _ (lt a))
theorem one_mul(a:UInt8):iZ 1 a=a:=by rw[mul_comm,mul_one]
theorem mul_zero(a:UInt8):iZ a 0=0:=UInt8.toNat_inj.1 (by rw[toNat_mul];exact kM.mul_zero _)
theorem zero_mul(a:UInt8):iZ 0 a=0:=by rw[mul_comm,mul_zero]
theorem mul_add(a b c:UInt8):iZ a (iG b c)=iG (iZ a b) (iZ a c):=UInt8.toNat_inj.1 (by simp only[toNat_mul,toNat_add];exact kM.Mf _ _ _ (lt a) (lt b) (lt c))
theorem add_mul(a b c:UInt8):iZ (iG a b) c=iG (iZ a c) (iZ b c):=by rw[mul_comm,mul_add,mul_comm c a,mul_comm c b]
theorem NR{a:UInt8}(h:a≠0):a.toNat≠0:=fun e=>h (UInt8.toNat_inj.1 e)
theorem od{a:UInt8}(h:a≠0):iZ a (mD a)=1:=UInt8.toNat_inj.1 (by rw[toNat_mul,uF];exact kM.od _ (lt a) (NR h))
theorem inv_mul{a:UInt8}(h:a≠0):iZ (mD a) a=1:=by rw[mul_comm,od h]
theorem vs{a:UInt8}(h:a≠0):mD a≠0:=fun e=>by have:=od h;rw[e,mul_zero] at this;exact absurd this (by decide)
theorem mul_eq_zero{a b:UInt8}(h:iZ a b=0):a=0∨b=0:=by
 by_cases e:a=0;·exact .inl e
 .right;have:iZ (mD a) (iZ a b)=iZ (mD a) 0:=by rw[h]
  rwa[<-mul_assoc,inv_mul e,one_mul,mul_zero] at this
def sum:Nat->(Nat->UInt8)->UInt8
 |0,_=>0
 |n+1,f=>iG (sum n f) (f n)
theorem uf(n:Nat)(f:Nat->UInt8):sum (n+1) f=iG (sum n f) (f n):=rfl
theorem kj{n:Nat}{f g:Nat->UInt8}(h:∀i,i<n->f i=g i):sum n f=sum n g:=by
 induction n with
 |zero=>rfl
 |succ n e=>unfold sum;rw[e fun i hi=>h i (by omega),h n (by omega)]
theorem xE{n:Nat}{f:Nat->UInt8}(h:∀i,i<n->f i=0):sum n f=0:=by
 induction n with
 |zero=>rfl
 |succ n e=>unfold sum;rw[e fun i hi=>h i (by omega),h n (by omega)];rfl
theorem P0(a b c d:UInt8):iG (iG a b) (iG c d)=iG (iG a c) (iG b d):=by
 rw[add_assoc,add_assoc,<-add_assoc b,<-add_assoc c,add_comm b c]
theorem sum_add(n:Nat)(f g:Nat->UInt8):sum n (fun i=>iG (f i) (g i))=iG (sum n f) (sum n g):=by
 induction n with
 |zero=>exact(nP 0).symm
 |succ n e=>rw[uf,uf,uf,e,P0]
theorem Jp(n:Nat)(a:UInt8)(f:Nat->UInt8):iZ a (sum n f)=sum n fun i=>iZ a (f i):=by
 induction n with
 |zero=>exact mul_zero a
 |succ n e=>unfold sum;rw[mul_add,e]
theorem EG(n:Nat)(a:UInt8)(f:Nat->UInt8):iZ (sum n f) a=sum n fun i=>iZ (f i) a:=by
 rw[mul_comm,Jp];exact kj fun i _=>mul_comm _ _
theorem MY(n m:Nat)(f:Nat->Nat->UInt8):(sum n fun i=>sum m fun j=>f i j)=sum m fun j=>sum n fun i=>f i j:=by
 induction n with
 |zero=>exact(xE fun j _=>rfl).symm
 |succ n e=>
  rw[uf,e,<-sum_add];exact kj fun j _=>rfl
theorem zV{n k:Nat}(o:k<n)(f:Nat->UInt8)(h:∀i,i<n->i≠k->f i=0):sum n f=f k:=by
 induction n with
 |zero=>omega
 |succ n m=>
  unfold sum;by_cases e:k=n
  .subst e;rw[xE fun i hi=>h i (by omega) (by omega),zero_add]
  .rw[m (by omega) fun i hi j=>h i (by omega) j,h n (by omega) (fun e'=>e e'.symm),add_zero]
abbrev M:=Nat->Nat->UInt8
def one:M:=fun i j=>if i=j then 1 else 0
def mul(n:Nat)(a b:M):M:=fun i j=>sum n fun k=>iZ (a i k) (b k j)
def nn(n:Nat)(a:M)(x:Nat->UInt8):Nat->UInt8:=fun i=>sum n fun k=>iZ (a i k) (x k)
theorem vC(n m:Nat)(a b c:M)(i j:Nat):mul m (mul n a b) c i j=mul n a (mul m b c) i j:=by
 unfold mul;rw[show(sum m fun k=>iZ (sum n fun l=>iZ (a i l) (b l k)) (c k j))=sum m fun k=>sum n fun l=>iZ (iZ (a i l) (b l k)) (c k j) from kj fun k _=>EG n _ _,
  MY]
 refine kj fun l _=>?_;rw[Jp];exact kj fun k _=>mul_assoc _ _ _
theorem Dg(n m:Nat)(a b:M)(x:Nat->UInt8)(i:Nat):nn m (mul n a b) x i=nn n a (nn m b x) i:=vC n m a b (fun k _=>x k) i 0
theorem zR(n:Nat)(x:Nat->UInt8){i:Nat}(h:i<n):nn n one x i=x i:=by
 unfold nn one;rw[zV h _ fun k _ f=>by rw[if_neg (fun e=>f e.symm),zero_mul],if_pos rfl,one_mul]
theorem pK(n:Nat)(a:M){i:Nat}(h:i<n)(j:Nat):mul n one a i j=a i j:=zR n (fun k=>a k j) h
theorem qV(n:Nat)(a:M)(i:Nat){j:Nat}(h:j<n):mul n a one i j=a i j:=by
 unfold mul one;rw[zV h _ fun k _ e=>by rw[if_neg e,mul_zero],if_pos rfl,mul_one]
def I0(n:Nat)(a:M):Prop:=∀x:Nat->UInt8,(∀i,i<n->nn n a x i=0)->∀i,i<n->x i=0
def rU(n:Nat)(a b:M):Prop:=(∀i j,i<n->j<n->mul n b a i j=one i j)/\∀i j,i<n->j<n->mul n a b i j=one i j
theorem pO{n:Nat}{a b:M}{x y:Nat->UInt8}{i:Nat}(h:∀k,k<n->a i k=b i k)(f:∀k,k<n->x k=y k):nn n a x i=nn n b y i:=kj fun k e=>by rw[h k e,f k e]
theorem I5(n:Nat)(a:M)(x y:Nat->UInt8)(i:Nat):nn n a (fun k=>iG (x k) (y k)) i=iG (nn n a x i) (nn n a y i):=by
 unfold nn;rw[<-sum_add];exact kj fun k _=>mul_add _ _ _
theorem EK{n:Nat}{a b:M}(h:∀i j,i<n->j<n->mul n b a i j=one i j)(hb:I0 n b):rU n a b:=by
 refine⟨h,fun i j hi o=>?_⟩;have r:=hb (fun k=>iG (mul n a b k j) (one k j)) (fun i hi=>by rw[I5];have e:nn n b (fun k=>mul n a b k j) i=nn n (mul n b a) (fun k=>b k j) i:=(Dg n n b a (fun k=>b k j) i).symm;have f:nn n (mul n b a) (fun k=>b k j) i=nn n one (fun k=>b k j) i:=pO (fun k q=>h i k hi q) fun _ _=>rfl;have m:nn n b (fun k=>one k j) i=b i j:=qV n b i o;rw[e,f,zR n _ hi,m,nP]) i hi
 exact add_eq_zero r
theorem FU{n:Nat}{a b:M}(h:∀i j,i<n->j<n->mul n b a i j=one i j):I0 n a:=by
 intro x m i hi;have e:nn n (mul n b a) x i=x i:=by rw[show nn n (mul n b a) x i=nn n one x i from pO (fun k f=>h i k hi f) fun _ _=>rfl,zR n x hi]
 rw[<-e,Dg];exact xE fun k f=>by rw[m k f,mul_zero]
theorem rU.symm{n:Nat}{a b:M}(h:rU n a b):rU n b a:=⟨h.2,h.1⟩
theorem rU.ou{n:Nat}{a b c:M}(h:rU n a b)(k:rU n a c):∀i j,i<n->j<n->b i j=c i j:=by
 intro i j hi f;have m:mul n (mul n b a) c i j=c i j:=by rw[show mul n (mul n b a) c i j=mul n one c i j from kj fun l e=>by rw[h.1 i l hi e],pK n c hi]
 have o:mul n b (mul n a c) i j=b i j:=by rw[show mul n b (mul n a c) i j=mul n b one i j from kj fun l e=>by rw[k.2 l j e f],qV n b i f]
 rw[<-m,vC,o]
structure Step (n:Nat) (a Qq out:M) (P:Nat->Prop):Prop where
 eq:∀i j,i<n->j<n->mul n out a i j=Qq i j
 inj:I0 n out
 lP:∀i j,i<n->P j->Qq i j=one i j
theorem Step.start(n:Nat)(a:M):Step n a a one (fun _=>False):=
 ⟨fun i j hi _=>pK n a hi j,fun x e i hi=>by have:=e i hi;rwa[zR n x hi] at this,fun i j _ h=>h.elim⟩
theorem Step.zero{n:Nat}{a f out:M}{P:Nat->Prop}(h:Step n a f out P){i j:Nat}(hi:i<n)(o:¬P i)(m:P j):f i j=0:=by
 rw[h.lP i j hi m];unfold one;rw[if_neg (show¬i=j from fun e=>o (e▸m))]
theorem Step.stuck{n c:Nat}{a f out:M}{P:Nat->Prop}(h:Step n a f out P)(hc:c<n)(w:¬P c)(G:∀i,i<n->¬P i->f i c=0):¬I0 n a:=by
 classical
 intro F;have q:=F (fun j=>iG (if P j then f j c else 0) (one j c)) (fun i hi=>by
  refine h.inj _ (fun i hi=>?_) i hi;rw[<-Dg,show nn n (mul n out a) _ i=nn n f _ i from pO (fun k B=>h.eq i k hi B) fun _ _=>rfl,I5];have E:nn n f (fun k=>one k c) i=f i c:=qV n f i hc;rw[E];by_cases o:P i
  .have r:nn n f (fun j=>if P j then f j c else 0) i=f i c:=by
    unfold nn;rw[zV hi _ fun k B C=>?_]
    .show iZ (f i i) (if P i then f i c else 0)=_;rw[if_pos o,h.lP i i hi o];unfold one;rw[if_pos rfl,one_mul]
    .show iZ (f i k) (if P k then f k c else 0)=_;by_cases m:P k;·rw[if_pos m,h.lP i k hi m];unfold one;rw[if_neg (fun e=>C e.symm),zero_mul]
     .rw[if_neg m,mul_zero]
   rw[r,nP]
  .have r:nn n f (fun j=>if P j then f j c else 0) i=0:=by
    refine xE fun k B=>?_;show iZ (f i k) (if P k then f k c else 0)=_;by_cases m:P k;·rw[h.zero hi o m,zero_mul]
    .rw[if_neg m,mul_zero]
   rw[r,G i hi o,add_zero]) c hc
 simp only[if_neg w,zero_add] at q;unfold one at q;rw[if_pos rfl] at q;exact absurd q (by decide)
theorem Step.done{n:Nat}{a e out:M}{P:Nat->Prop}(h:Step n a e out P)(m:∀j,j<n->P j):rU n a out:=EK (fun i j hi f=>(h.eq i j hi f).trans (h.lP i j hi (m j f))) h.inj
def nM(c k:Nat)(a:M):M:=fun i j=>if i=c then a k j else if i=k then a c j else a i j
def lX(c:Nat)(x:UInt8)(a:M):M:=fun i j=>if i=c then iZ (a c j) x else a i j
def elimM(c:Nat)(y:Nat->UInt8)(a:M):M:=fun i j=>if i=c then a c j else iG (a i j) (iZ (a c j) (y i))
theorem Gh(n c k:Nat)(a b:M)(i j:Nat):mul n (nM c k a) b i j=nM c k (mul n a b) i j:=by
 unfold mul nM;split;·rfl
 .split<;>rfl
theorem CO(n c:Nat)(x:UInt8)(a b:M)(i j:Nat):mul n (lX c x a) b i j=lX c x (mul n a b) i j:=by
 unfold mul lX;split;·rw[EG];exact kj fun k _=>by rw[mul_assoc,mul_comm x,<-mul_assoc]
 .rfl
theorem Gf(n c:Nat)(y:Nat->UInt8)(a b:M)(i j:Nat):mul n (elimM c y a) b i j=elimM c y (mul n a b) i j:=by
 unfold mul elimM;split;·rfl
 .rw[EG,<-sum_add];exact kj fun k _=>by rw[add_mul,mul_assoc,mul_comm (y i),<-mul_assoc]
theorem Step.swap{n c k:Nat}{a m out:M}{P:Nat->Prop}(h:Step n a m out P)(hc:c<n)(w:k<n)(o:¬P c)(q:¬P k):Step n a (nM c k m) (nM c k out) P:=by
 refine⟨fun i j hi f=>?_,fun x B=>h.inj x fun i hi=>?_,fun i j hi f=>?_⟩
 .rw[Gh];unfold nM;split;·exact h.eq k j w f
  .split;·exact h.eq c j hc f
   .exact h.eq i j hi f
 .have e:∀i,nn n (nM c k out) x i=nM c k (fun i _=>nn n out x i) i 0:=fun i=>Gh n c k out (fun k _=>x k) i 0;by_cases r:i=k
  .have:=B c hc;rw[e] at this;unfold nM at this;rw[if_pos rfl] at this;rw[r];exact this
  .by_cases C:i=c
   .have:=B k w;rw[e] at this;unfold nM at this;subst C;rw[if_neg (fun e=>r e.symm),if_pos rfl] at this;exact this
   .have:=B i hi;rw[e] at this;unfold nM at this;rw[if_neg C,if_neg r] at this;exact this
 .unfold nM;split
  .rename_i e;subst e;rw[h.zero w q f];unfold one;rw[if_neg (show¬i=j from fun e=>o (e▸f))]
  .split
   .rename_i e;subst e;rw[h.zero hc o f];unfold one;rw[if_neg (show¬i=j from fun e=>q (e▸f))]
   .exact h.lP i j hi f
theorem Step.scale{n c:Nat}{a f out:M}{P:Nat->Prop}(h:Step n a f out P)(hc:c<n)(o:¬P c){x:UInt8}(q:x≠0):Step n a (lX c x f) (lX c x out) P:=by
 refine⟨fun i j hi m=>?_,fun v w=>h.inj v fun i hi=>?_,fun i j hi m=>?_⟩
 .rw[CO];unfold lX;split;·rw[h.eq c j hc m]
  .exact h.eq i j hi m
 .have:=w i hi;have e:nn n (lX c x out) v i=lX c x (fun i _=>nn n out v i) i 0:=CO n c x out (fun k _=>v k) i 0;rw[e] at this;unfold lX at this;split at this
  .rename_i r;subst r;exact(mul_eq_zero this).resolve_right q
  .exact this
 .unfold lX;split
  .rename_i e;subst e;rw[h.zero hc o m,zero_mul];unfold one;rw[if_neg (show¬i=j from fun e=>o (e▸m))]
  .exact h.lP i j hi m
theorem Step.elim{n c:Nat}{a f out:M}{P:Nat->Prop}(h:Step n a f out P)(hc:c<n)(o:¬P c)(w:f c c=1):Step n a (elimM c (fun i=>f i c) f) (elimM c (fun i=>f i c) out) (fun j=>P j∨j=c):=by
 refine⟨fun i j hi m=>?_,fun v C=>h.inj v fun i hi=>?_,fun i j hi m=>?_⟩
 .rw[Gf];unfold elimM;split;·exact h.eq c j hc m
  .rw[h.eq i j hi m,h.eq c j hc m]
 .have e:∀i,nn n (elimM c (fun i=>f i c) out) v i=elimM c (fun i=>f i c) (fun i _=>nn n out v i) i 0:=fun i=>Gf n c _ out (fun k _=>v k) i 0;have q:nn n out v c=0:=by have:=C c hc;rw[e] at this;unfold elimM at this;rwa[if_pos rfl] at this
  by_cases B:i=c;·rw[B];exact q
  .have:=C i hi;rw[e] at this;unfold elimM at this;rw[if_neg B] at this;dsimp only at this;rw[q,zero_mul,add_zero] at this;exact this
 .unfold elimM;rcases m with m|rfl
  .have r:c≠j:=fun e=>o (e▸m);split
   .rename_i e;subst e;rw[h.zero hc o m];unfold one;rw[if_neg r]
   .rw[h.zero hc o m,zero_mul,add_zero];exact h.lP i j hi m
  .split
   .rename_i e;subst e;rw[w];unfold one;rw[if_pos rfl]
   .rename_i e;rw[w,one_mul,nP];unfold one;rw[if_neg e]
end Go.Proofs.YthhcdfjijagalaaGreat.gJ
namespace Go.Proofs.YthhcdfjijagalaaGreat.gJ
def ja(L:List (List UInt8))(i j:Nat):UInt8:=(L.getD i []).getD j 0
def wid(L:List (List UInt8))(i:Nat):Nat:=(L.getD i []).length
def EI(n m:Nat)(f:M):List (List UInt8):=(List.range n).map fun i=>(List.range m).map fun j=>f i j
structure pG (L:List (List UInt8)) (n m:Nat) (f:M):Prop where
 rows:L.length=n
 lP:∀r∈L,r.length=m
 eq:∀i j,i<n->j<m->ja L i j=f i j
theorem DJ{L:List (List UInt8)}{i j:Nat}(hi:i<L.length)(e:j<L[i].length):ja L i j=L[i][j]:=by
 unfold ja;simp[List.getD,hi,e]
theorem OD{L:List (List UInt8)}{i:Nat}(hi:i<L.length):wid L i=L[i].length:=by
 unfold wid;simp[List.getD,hi]
theorem GV(n m:Nat)(f:M):(EI n m f).length=n:=by simp[EI]
theorem Jz(n m:Nat)(f:M):pG (EI n m f) n m f:=by
 refine⟨GV n m f,fun r e=>?_,fun i j hi h=>?_⟩
 .unfold EI at e;obtain⟨i,_,rfl⟩:=List.mem_map.1 e;simp
 .rw[DJ (by rw[GV];exact hi) (by simp[EI];exact h)];simp[EI]
theorem pG.ou{L K:List (List UInt8)}{n m:Nat}{f g:M}(h:pG L n m f)(k:pG K n m g)(e:∀i j,i<n->j<m->f i j=g i j):L=K:=by
 refine List.ext_getElem (by rw[h.rows,k.rows]) fun i o w=>?_;have hi:i<n:=by rw[<-h.rows];exact o
 have c1:=h.lP _ (List.getElem_mem o);have c2:=k.lP _ (List.getElem_mem w);refine List.ext_getElem (by rw[c1,c2]) fun j r B=>?_;have q:j<m:=by rw[<-c1];exact r
 rw[<-DJ o r,<-DJ w B,h.eq i j hi q,k.eq i j hi q,e i j hi q]
theorem pG.congr{L:List (List UInt8)}{n m:Nat}{f g:M}(h:pG L n m f)(e:∀i j,i<n->j<m->f i j=g i j):pG L n m g:=
 ⟨h.rows,h.lP,fun i j hi o=>(h.eq i j hi o).trans (e i j hi o)⟩
theorem pG.self{L:List (List UInt8)}{n m:Nat}(e:L.length=n)(f:∀r∈L,r.length=m):pG L n m (ja L):=⟨e,f,fun _ _ _ _=>rfl⟩
theorem pG.set{L:List (List UInt8)}{n m:Nat}{f:M}(h:pG L n m f)(i:Nat)(r:List UInt8)(E:r.length=m)(hi:i<n):pG (L.set i r) n m (fun a j=>if a=i then r.getD j 0 else f a j):=by
 refine⟨by rw[List.length_set];exact h.rows,fun q C=>?_,fun a j o B=>?_⟩
 .rcases List.mem_or_eq_of_mem_set C with w|rfl
  .exact h.lP _ w
  .exact E
 .unfold ja;by_cases e:a=i
  .subst e;rw[if_pos rfl];congr 1;simp[List.getD,h.rows,o]
  .rw[if_neg e,<-h.eq a j o B];unfold ja;congr 1;simp[List.getD,List.getElem?_set_ne (Ne.symm e)]
def ir(L:List (List UInt8)):Int:=if L.length<1∨12<L.length∨wid L 0<1∨400<wid L 0 then 5 else if ∃r∈L,r.length≠wid L 0 then 2 else 0
structure lD (L:List (List UInt8)) (n m:Nat):Prop where
 rows:L.length=n
 lP:∀r∈L,r.length=m
 n1:1<=n
 n2:n<=12
 m1:1<=m
 m2:m<=400
theorem mM{L:List (List UInt8)}(h:ir L=0):lD L L.length (wid L 0):=by
 unfold ir at h;split at h;·cases h
 .split at h;·cases h
  .rename_i m f;exact⟨rfl,fun r j=>Classical.byContradiction fun e=>f ⟨r,j,e⟩,by omega,by omega,by omega,by omega⟩
theorem lD.Ci{L:List (List UInt8)}{n m:Nat}(h:lD L n m):wid L 0=m:=by
 have f:=h.n1;have e:0<L.length:=by rw[h.rows];omega
 rw[OD e];exact h.lP _ (List.getElem_mem _)
theorem lD.jN{L:List (List UInt8)}{n m:Nat}(h:lD L n m):ir L=0:=by
 unfold ir;rw[if_neg,if_neg]
 .rintro⟨r,f,e⟩;exact e (by rw[h.Ci];exact h.lP r f)
 .rw[h.Ci,h.rows];have:=h.n1;have:=h.n2;have:=h.m1;have:=h.m2;omega
theorem lD.PT{L:List (List UInt8)}{n m:Nat}(h:lD L n m):pG L n m (ja L):=.self h.rows h.lP
theorem pG.qU{L:List (List UInt8)}{n m:Nat}{f:M}(h:pG L n m f)(n1:1<=n)(n2:n<=12)(m1:1<=m)(m2:m<=400):lD L n m:=⟨h.rows,h.lP,n1,n2,m1,m2⟩
def Ha(n:Int)(L:List (List UInt8))(e:Int):Prop:=if n<1∨12<n then L=[]/\e=5 else pG L n.toNat n.toNat one/\e=0
def rS(A B:List (List UInt8))(L:List (List UInt8))(e:Int):Prop:=
 if ir A≠0 then L=[]/\e=ir A else if ir B≠0 then L=[]/\e=ir B else if wid A 0≠B.length then L=[]/\e=8
 else pG L A.length (wid B 0) (mul B.length (ja A) (ja B))/\e=0
def rQ(A:List (List UInt8))(L:List (List UInt8))(e:Int):Prop:=
 if ir A≠0 then L=[]/\e=ir A else if wid A 0≠A.length then L=[]/\e=8
 else(L=[]/\e=6/\¬I0 A.length (ja A))∨(∃f,pG L A.length A.length f/\rU A.length (ja A) f/\e=0)
theorem Ha.ou{n:Int}{L K:List (List UInt8)}{e g:Int}(h:Ha n L e)(k:Ha n K g):L=K/\e=g:=by
 unfold Ha at h k;split at h;·rw[if_pos (by assumption)] at k;exact⟨h.1.trans k.1.symm,h.2.trans k.2.symm⟩
 .rw[if_neg (by assumption)] at k;exact⟨h.1.ou k.1 (fun _ _ _ _=>rfl),h.2.trans k.2.symm⟩
theorem rS.ou{A B:List (List UInt8)}{L K:List (List UInt8)}{e g:Int}(h:rS A B L e)(k:rS A B K g):L=K/\e=g:=by
 unfold rS at h k;split at h;·rw[if_pos (by assumption)] at k;exact⟨h.1.trans k.1.symm,h.2.trans k.2.symm⟩
 .rw[if_neg (by assumption)] at k;split at h;·rw[if_pos (by assumption)] at k;exact⟨h.1.trans k.1.symm,h.2.trans k.2.symm⟩
  .rw[if_neg (by assumption)] at k;split at h;·rw[if_pos (by assumption)] at k;exact⟨h.1.trans k.1.symm,h.2.trans k.2.symm⟩
   .rw[if_neg (by assumption)] at k;exact⟨h.1.ou k.1 (fun _ _ _ _=>rfl),h.2.trans k.2.symm⟩
theorem rU.inj{n:Nat}{a b:M}(h:rU n a b):I0 n a:=FU h.1
theorem rQ.ou{A:List (List UInt8)}{L K:List (List UInt8)}{e g:Int}(h:rQ A L e)(k:rQ A K g):L=K/\e=g:=by
 unfold rQ at h k;split at h;·rw[if_pos (by assumption)] at k;exact⟨h.1.trans k.1.symm,h.2.trans k.2.symm⟩
 .rw[if_neg (by assumption)] at k;split at h;·rw[if_pos (by assumption)] at k;exact⟨h.1.trans k.1.symm,h.2.trans k.2.symm⟩
  .rw[if_neg (by assumption)] at k;rcases h with⟨r,q,w⟩|⟨f,r,q,w⟩
   .rcases k with⟨m,j,o⟩|⟨B,m,j,o⟩
    .exact⟨r.trans m.symm,q.trans j.symm⟩
    .exact absurd j.inj w
   .rcases k with⟨m,j,o⟩|⟨B,m,j,o⟩
    .exact absurd q.inj o
    .exact⟨r.ou m (q.ou j),w.trans o.symm⟩
theorem Ha.ok{n:Nat}(f:1<=n)(j:n<=12){L:List (List UInt8)}{e:Int}(h:Ha (n:Int) L e):pG L n n one/\e=0:=by
 unfold Ha at h;rw[if_neg (by omega)] at h;simpa using h
theorem rS.ok{A B:List (List UInt8)}{n m k:Nat}(j:lD A n m)(f:lD B m k){L:List (List UInt8)}{e:Int}(h:rS A B L e):pG L n k (mul m (ja A) (ja B))/\e=0:=by
 unfold rS at h;rw[if_neg (by rw[j.jN];simp),if_neg (by rw[f.jN];simp),if_neg (by rw[j.Ci,f.rows];simp),j.rows,f.rows,f.Ci] at h;exact h
theorem rQ.ok{A:List (List UInt8)}{n:Nat}(j:lD A n n){L:List (List UInt8)}{e:Int}(h:rQ A L e):(L=[]/\e=6/\¬I0 n (ja A))∨(∃f,pG L n n f/\rU n (ja A) f/\e=0):=by
 unfold rQ at h;rw[if_neg (by rw[j.jN];simp),if_neg (by rw[j.Ci,j.rows];simp),j.rows] at h;exact h
end Go.Proofs.YthhcdfjijagalaaGreat.gJ
namespace Go.Proofs.YthhcdfjijagalaaGreat.gJ
def nx{α:Type}:List α->(α->UInt8)->UInt8
 |[],_=>0
 |x::l,f=>iG (f x) (nx l f)
theorem si{α:Type}{l:List α}{f g:α->UInt8}(h:∀x∈l,f x=g x):nx l f=nx l g:=by
 induction l with
 |nil=>rfl
 |cons x l j=>show iG _ _=iG _ _;rw[h x (List.mem_cons_self ..),j fun y e=>h y (List.mem_cons_of_mem _ e)]
theorem F7{α:Type}(l:List α)(f g:α->UInt8):nx l (fun x=>iG (f x) (g x))=iG (nx l f) (nx l g):=by
 induction l with
 |nil=>exact(nP 0).symm
 |cons x l e=>show iG _ (nx l _)=iG (iG _ _) (iG _ _);rw[e,P0]
theorem Gg{α:Type}(l:List α)(a:UInt8)(f:α->UInt8):iZ a (nx l f)=nx l fun x=>iZ a (f x):=by
 induction l with
 |nil=>exact mul_zero a
 |cons x l e=>show iZ a (iG _ _)=iG _ _;rw[mul_add,e]
theorem Ga{α β:Type}(l:List α)(m:α->β)(f:β->UInt8):nx (l.map m) f=nx l fun x=>f (m x):=by
 induction l with
 |nil=>rfl
 |cons x l e=>show iG _ _=iG _ _;rw[e]
theorem Ka{α:Type}{l:List α}{f:α->UInt8}(h:∀x∈l,f x=0):nx l f=0:=by
 rw[si (g:=fun _=>0) h];induction l with
 |nil=>rfl
 |cons x l j=>show iG 0 _=0;rw[zero_add];exact j fun y e=>h y (List.mem_cons_of_mem _ e)
theorem vj{a b:UInt8}(h:a≠b):iG a b≠0:=fun e=>h (add_eq_zero e)
theorem Ag(a b c:UInt8):iG (iG a b) (iG b c)=iG a c:=by
 rw[add_assoc,<-add_assoc b,nP,zero_add]
theorem NL{u v:UInt8}(e:u≠0)(f:v≠0):iG (mD u) (mD v)=iZ (iG u v) (iZ (mD u) (mD v)):=by
 rw[add_mul,<-mul_assoc u,od e,one_mul,mul_comm (mD u) (mD v),<-mul_assoc v,od f,one_mul,add_comm]
theorem QD{i b p:UInt8}(h:i≠p):iZ (iG i b) (mD (iG i p))=iG 1 (iZ (iG p b) (mD (iG i p))):=by
 rw[<-Ag i p b,add_mul,od (vj h)]
theorem GD{i b:UInt8}{x:UInt8}{l:List (UInt8×UInt8)}(hi:∀p∈(b,x)::l,i≠p.1)(h:nx ((b,x)::l) (fun p=>iZ p.2 (mD (iG i p.1)))=0):
  nx l (fun p=>iZ (iZ p.2 (iG p.1 b)) (mD (iG i p.1)))=nx ((b,x)::l) (fun p=>p.2):=by
 have e:iZ (iG i b) (nx ((b,x)::l) (fun p=>iZ p.2 (mD (iG i p.1))))=iG (nx ((b,x)::l) (fun p=>p.2)) (nx ((b,x)::l) (fun p=>iZ (iZ p.2 (iG p.1 b)) (mD (iG i p.1)))):=by rw[Gg,<-F7];refine si fun p j=>?_;rw[<-mul_assoc,mul_comm (iG i b),mul_assoc,QD (hi p j),mul_add,mul_one,<-mul_assoc]
 rw[h,mul_zero] at e;have f:=add_eq_zero e.symm;rw[f];show _=iG (iZ (iZ x (iG b b)) _) _;rw[nP,mul_zero,zero_mul,zero_add]
theorem Po:∀(l:List (UInt8×UInt8)) (as:List UInt8),as.length=l.length->as.Nodup->(l.map (·.1)).Nodup->(∀a∈as,∀p∈l,a≠p.1)->
  (∀a∈as,nx l (fun p=>iZ p.2 (mD (iG a p.1)))=0)->∀p∈l,p.2=0:=by
 intro l;induction E:l.length generalizing l with
 |zero=>intro as _ _ _ _ _ p hp;rw[List.eq_nil_of_length_eq_zero E] at hp;cases hp
 |succ n V=>
  intro as f j o m h
  match l,E,as,f with
  |(b,x)::l',E,a::as',f=>
   simp only[List.length_cons] at E f;rw[List.nodup_cons] at j;rw[List.map_cons,List.nodup_cons] at o;have C:=m a (List.mem_cons_self ..);have L:=GD C (h a (List.mem_cons_self ..));have r:∀q∈l'.map (fun p:UInt8×UInt8=>(p.1,iZ (iZ p.2 (iG p.1 b)) (mD (iG a p.1)))),q.2=0:=by
    refine V _ (by rw[List.length_map];omega) as' (by omega) j.2 (by rw[List.map_map];exact o.2) (fun i hi q Q=>?_) (fun i hi=>?_)
    .obtain⟨p,hp,rfl⟩:=List.mem_map.1 Q;exact m i (List.mem_cons_of_mem _ hi) p (List.mem_cons_of_mem _ hp)
    .have w:=m i (List.mem_cons_of_mem _ hi);have I:=GD w (h i (List.mem_cons_of_mem _ hi));rw[<-L] at I;have U:iZ (iG i a) (nx (l'.map (fun p:UInt8×UInt8=>(p.1,iZ (iZ p.2 (iG p.1 b)) (mD (iG a p.1))))) (fun p=>iZ p.2 (mD (iG i p.1))))=0:=by
      rw[Ga,Gg];have e:iG (nx l' (fun p=>iZ (iZ p.2 (iG p.1 b)) (mD (iG i p.1)))) (nx l' (fun p=>iZ (iZ p.2 (iG p.1 b)) (mD (iG a p.1))))=0:=by rw[I,nP]
      rw[<-F7] at e;rw[<-e];refine si fun p hp=>?_;have O:=vj (w p (List.mem_cons_of_mem _ hp));have F:=vj (C p (List.mem_cons_of_mem _ hp));rw[<-mul_add,NL O F];have N:iG (iG i p.1) (iG a p.1)=iG i a:=by rw[add_comm a,Ag]
      rw[N];generalize iZ p.2 (iG p.1 b)=y;rw[mul_assoc y,mul_comm (mD (iG a p.1)),<-mul_assoc (iG i a),mul_comm (iG i a) y,mul_assoc y]
     have G:i≠a:=fun e=>j.1 (e▸hi);exact(mul_eq_zero U).resolve_left (vj G)
   have K:∀p∈l',p.2=0:=by intro p hp;have:=r _ (List.mem_map.2 ⟨p,hp,rfl⟩);have F:=vj (C p (List.mem_cons_of_mem _ hp));have hb:p.1≠b:=fun e=>o.1 (e▸List.mem_map.2 ⟨p,hp,rfl⟩);have P:=(mul_eq_zero this).resolve_right (vs F);exact(mul_eq_zero P).resolve_right (vj hb)
   have S:x=0:=by
    have B:=h a (List.mem_cons_self ..);have e:nx l' (fun p=>iZ p.2 (mD (iG a p.1)))=0:=Ka fun p hp=>by rw[K p hp,zero_mul]
    have B:iG (iZ x (mD (iG a b))) (nx l' (fun p=>iZ p.2 (mD (iG a p.1))))=0:=B;rw[e,add_zero] at B;exact(mul_eq_zero B).resolve_right (vs (vj (C (b,x) (List.mem_cons_self ..))))
   intro p hp;rcases List.mem_cons.1 hp with rfl|hp
   .exact S
   .exact K p hp
end Go.Proofs.YthhcdfjijagalaaGreat.gJ
namespace Go.Proofs.YthhcdfjijagalaaGreat.gJ
def gT(d s:Int):Int:=if d<1∨8<d∨s<0∨4<s then 5 else 0
theorem kv{d s:Int}(h:gT d s=0):1<=d/\d<=8/\0<=s/\s<=4:=by
 unfold gT at h;split at h;·cases h
 .omega
theorem kl{d s:Int}(h:1<=d/\d<=8/\0<=s/\s<=4):gT d s=0:=by
 unfold gT;rw[if_neg (by omega)]
def mf(d:Nat):M:=fun i j=>if i<d then one i j else mD (iG (UInt8.ofNat i) (UInt8.ofNat j))
def Ae(d s:Int)(L:List (List UInt8))(e:Int):Prop:=if gT d s≠0 then L=[]/\e=gT d s else pG L (d+s).toNat d.toNat (mf d.toNat)/\e=0
def ot(d:Nat)(a:M):M:=mul d (fun i j=>mf d (d+i) j) a
def j8(l:List (List UInt8))(s:Int)(L:List (List UInt8))(e:Int):Prop:=
 if gT l.length s≠0 then L=[]/\e=gT l.length s else if ir l≠0 then L=[]/\e=ir l else pG L s.toNat (wid l 0) (ot l.length (ja l))/\e=0
theorem Ae.ou{d s:Int}{L K:List (List UInt8)}{e g:Int}(h:Ae d s L e)(k:Ae d s K g):L=K/\e=g:=by
 unfold Ae at h k;split at h;·rw[if_pos (by assumption)] at k;exact⟨h.1.trans k.1.symm,h.2.trans k.2.symm⟩
 .rw[if_neg (by assumption)] at k;exact⟨h.1.ou k.1 (fun _ _ _ _=>rfl),h.2.trans k.2.symm⟩
theorem j8.ou{l:List (List UInt8)}{s:Int}{L K:List (List UInt8)}{e g:Int}(h:j8 l s L e)(k:j8 l s K g):L=K/\e=g:=by
 unfold j8 at h k;split at h;·rw[if_pos (by assumption)] at k;exact⟨h.1.trans k.1.symm,h.2.trans k.2.symm⟩
 .rw[if_neg (by assumption)] at k;split at h;·rw[if_pos (by assumption)] at k;exact⟨h.1.trans k.1.symm,h.2.trans k.2.symm⟩
  .rw[if_neg (by assumption)] at k;exact⟨h.1.ou k.1 (fun _ _ _ _=>rfl),h.2.trans k.2.symm⟩
theorem Ae.ok{d s:Nat}{L:List (List UInt8)}{e:Int}(m:1<=d)(o:d<=8)(q:s<=4)(h:Ae (d:Int) (s:Int) L e):pG L (d+s) d (mf d)/\e=0:=by
 unfold Ae at h;rw[if_neg (fun j=>j (kl (by omega)))] at h;have f:((d:Int)+(s:Int)).toNat=d+s:=by omega
 rwa[f,Int.toNat_natCast] at h
theorem j8.ok{l:List (List UInt8)}{d m s:Nat}{L:List (List UInt8)}{e:Int}(f:lD l d m)(o:d<=8)(q:s<=4)(h:j8 l (s:Int) L e):pG L s m (ot d (ja l))/\e=0:=by
 unfold j8 at h;rw[f.rows] at h;have:=f.n1;rw[if_neg (fun j=>j (kl (by omega))),if_neg (fun j=>j f.jN),f.Ci,Int.toNat_natCast] at h;exact h
theorem j8.fit{l:List (List UInt8)}{s:Int}{L:List (List UInt8)}{e:Int}(h:j8 l s L e)(r:e=0):∃d m o:Nat,s=o/\lD l d m/\d<=8/\o<=4/\pG L o m (ot d (ja l)):=by
 subst r;unfold j8 at h;split at h;·rename_i f;exact absurd h.2.symm f
 .rename_i f;split at h;·rename_i j;exact absurd h.2.symm j
  .rename_i j;have q:=mM (Classical.not_not.1 j);have hc:=kv (Classical.not_not.1 f);exact⟨_,_,s.toNat,by omega,q,by omega,by omega,h.1⟩
theorem j8.bad{l:List (List UInt8)}{s:Int}{L:List (List UInt8)}{e:Int}(h:j8 l s L e)(f:e≠0):L=[]:=by
 unfold j8 at h;split at h;·exact h.1
 .split at h;·exact h.1
  .exact absurd h.2 f
theorem AN{l:List Nat}:∀{m:List Nat},l.Nodup->(∀x∈l,x∈m)->l.length<=m.length:=by
 induction l with
 |nil=>intro m _ _;exact Nat.zero_le _
 |cons a l r=>
  intro m f j;rw[List.nodup_cons] at f;have h:=j a (List.mem_cons_self ..);have q:=r (m:=m.erase a) f.2 fun x o=>(List.mem_erase_of_ne (show x≠a from fun e=>f.1 (by rw[<-e];exact o))).2 (j x (List.mem_cons_of_mem _ o));rw[List.length_erase_of_mem h] at q;have w:0<m.length:=List.length_pos_of_mem h;simp only[List.length_cons];omega
theorem zg{α:Type}(l:List α)(p:α->Bool):(l.filter p).length+(l.filter fun x=>!p x).length=l.length:=by
 induction l with
 |nil=>rfl
 |cons a l e=>
  by_cases h:p a=true;·simp[h];omega
  .simp[h];omega
theorem F8{α:Type}(l m:List α)(f:α->UInt8):nx (l++m) f=iG (nx l f) (nx m f):=by
 induction l with
 |nil=>exact(zero_add _).symm
 |cons x l e=>show iG _ (nx (l++m) f)=iG (iG _ _) _;rw[e,add_assoc]
theorem MX(n:Nat)(f:Nat->UInt8):sum n f=nx (List.range n) f:=by
 induction n with
 |zero=>rfl
 |succ n e=>
  rw[List.range_succ,F8,uf,e];show _=iG _ (iG (f n) 0);rw[add_zero]
theorem F9{α:Type}(l:List α)(p:α->Bool)(f:α->UInt8)(h:∀x∈l,p x=false->f x=0):nx (l.filter p) f=nx l f:=by
 induction l with
 |nil=>rfl
 |cons x l e=>
  have e:=e fun y m=>h y (List.mem_cons_of_mem _ m);cases j:p x with
  |true=>rw[List.filter_cons_of_pos j];show iG _ _=iG _ _;rw[e]
  |false=>
   rw[List.filter_cons_of_neg (by simp[j]),e];show _=iG (f x) _;rw[h x (List.mem_cons_self ..) j,zero_add]
theorem ofNat_inj{a b:Nat}(e:a<256)(hb:b<256)(h:UInt8.ofNat a=UInt8.ofNat b):a=b:=by
 have:=congrArg UInt8.toNat h;rwa[UInt8.toNat_ofNat',UInt8.toNat_ofNat',Nat.mod_eq_of_lt e,Nat.mod_eq_of_lt hb] at this
theorem sW{l:List Nat}(h:l.Nodup)(j:∀x∈l,x<256):(l.map UInt8.ofNat).Nodup:=by
 induction l with
 |nil=>exact List.nodup_nil
 |cons a l o=>
  rw[List.nodup_cons] at h;rw[List.map_cons,List.nodup_cons];refine⟨fun m=>?_,o h.2 fun x f=>j x (List.mem_cons_of_mem _ f)⟩;obtain⟨x,f,e⟩:=List.mem_map.1 m;have:=ofNat_inj (j x (List.mem_cons_of_mem _ f)) (j a (List.mem_cons_self ..)) e;exact h.1 (this▸f)
def tC(d:Nat)(U:List Nat):M:=fun i j=>mf d (U.getD i 0) j
theorem vD{d:Nat}(U:List Nat)(O:U.length=d)(q:U.Nodup)(h:∀u∈U,u<256):I0 d (tC d U):=by
 intro x X;have row:∀u∈U,(sum d fun k=>iZ (mf d u k) (x k))=0:=fun u f=>by obtain⟨i,hi,rfl⟩:=List.getElem_of_mem f;have:=X i (by omega);unfold nn tC at this;rw[show U.getD i 0=U[i] by simp[List.getD,hi]] at this;exact this
 have data:∀u∈U,u<d->x u=0:=fun u f r=>by have:=row u f;rw[zV r _ fun k N K=>by unfold mf one;rw[if_pos r,if_neg (fun e=>K e.symm),zero_mul]] at this;unfold mf one at this;rwa[if_pos r,if_pos rfl,one_mul] at this
 let T:=(List.range d).filter fun j=>!decide (j∈U)
 let H:=U.filter fun u=>!decide (u<d)
 have F:∀j,j∈T↔j<d/\j∉U:=fun j=>by simp[T]
 have G:∀u,u∈H↔u∈U/\d<=u:=fun u=>by simp[H]
 have V:T.length<=H.length:=by
  have w:=zg U (fun u=>decide (u<d));have B:=zg (List.range d) (fun j=>decide (j∈U));have S:(U.filter fun u=>decide (u<d)).length<=((List.range d).filter fun j=>decide (j∈U)).length:=
   AN (q.filter _) fun y L=>by simp only[List.mem_filter,List.mem_range,decide_eq_true_eq] at L⊢;exact⟨L.2,L.1⟩
  have P:(U.filter fun x=>!decide (x<d)).length=H.length:=rfl;have Q:((List.range d).filter fun x=>!decide (x∈U)).length=T.length:=rfl;rw[P] at w;rw[Q,List.length_range] at B;omega
 have key:=Po (T.map fun j=>(UInt8.ofNat j,x j)) ((H.take T.length).map UInt8.ofNat) (by simp;omega)
  (sW ((q.filter _).sublist (List.take_sublist _ _)) fun u f=>h u ((G u).1 (List.mem_of_mem_take f)).1)
  (by
   rw[List.map_map];have:((fun p:UInt8×UInt8=>p.1) ∘ fun j=>(UInt8.ofNat j,x j))=UInt8.ofNat:=rfl;rw[this];by_cases hd:d<=256;·exact sW (List.nodup_range.filter _) fun j E=>by have:=((F j).1 E).1;omega
   .
    have:=AN (l:=U) (m:=List.range 256) q fun u f=>List.mem_range.2 (h u f);rw[List.length_range] at this;omega)
  (fun a I p W e=>by obtain⟨u,f,rfl⟩:=List.mem_map.1 I;obtain⟨j,E,rfl⟩:=List.mem_map.1 W;have w:=(G u).1 (List.mem_of_mem_take f);have B:=(F j).1 E;have:=ofNat_inj (h u w.1) (by have:=h u w.1;omega) e;omega)
  (fun a I=>by
   obtain⟨u,f,rfl⟩:=List.mem_map.1 I;have w:=(G u).1 (List.mem_of_mem_take f);have B:=row u w.1;rw[MX,<-F9 (List.range d) (fun j=>!decide (j∈U)) _ (fun k N o=>by
    have o:k∈U:=by simpa using o
    rw[data k o (List.mem_range.1 N),mul_zero])] at B
   rw[Ga,<-B];refine si fun j E=>?_;have S:=(F j).1 E;unfold mf;rw[if_neg (by omega),mul_comm])
 intro i hi;by_cases C:i∈U;·exact data i C hi
 .exact key (UInt8.ofNat i,x i) (List.mem_map.2 ⟨i,(F i).2 ⟨hi,C⟩,rfl⟩)
theorem rQ.inj{A L:List (List UInt8)}{n:Nat}{e:Int}(j:lD A n n)(hi:I0 n (ja A))(h:rQ A L e):∃f,pG L n n f/\rU n (ja A) f/\e=0:=by
 rcases h.ok j with⟨_,_,h⟩|h
 .exact absurd hi h
 .exact h
def there(l:List (List UInt8)):List Nat:=(List.range l.length).filter fun i=>decide (0<(l.getD i []).length)
def rP(l:List (List UInt8)):Prop:=∃s∈l,400<s.length∨(0<s.length/\s.length≠wid l ((there l).getD 0 0))
def wV(l:List (List UInt8))(d:Nat)(f:M):M:=mul d (mf d) (mul d f (fun p k=>ja l ((there l).getD p 0) k))
open Classical in
def lm (l:List (List UInt8)) (d:Int) (L:List (List UInt8)) (e:Int):Prop:=
 if gT d ((l.length:Int)-d)≠0 then L=[]/\e=gT d ((l.length:Int)-d) else if ((there l).length:Int)<d then L=[]/\e=10 else if rP l then L=[]/\e=2
 else∃f,rU d.toNat (tC d.toNat ((there l).take d.toNat)) f/\pG L l.length (wid l ((there l).getD 0 0)) (wV l d.toNat f)/\e=0
theorem mul_congr{n:Nat}{a a' b b':M}{i j:Nat}(f:∀k,k<n->a i k=a' i k)(h:∀k,k<n->b k j=b' k j):mul n a b i j=mul n a' b' i j:=kj fun k e=>by rw[f k e,h k e]
theorem lm.ou{l:List (List UInt8)}{d:Int}{L K:List (List UInt8)}{e g:Int}(h:lm l d L e)(k:lm l d K g):L=K/\e=g:=by
 classical
 unfold lm at h k;split at h;·rw[if_pos (by assumption)] at k;exact⟨h.1.trans k.1.symm,h.2.trans k.2.symm⟩
 .rw[if_neg (by assumption)] at k;split at h;·rw[if_pos (by assumption)] at k;exact⟨h.1.trans k.1.symm,h.2.trans k.2.symm⟩
  .rw[if_neg (by assumption)] at k;split at h;·rw[if_pos (by assumption)] at k;exact⟨h.1.trans k.1.symm,h.2.trans k.2.symm⟩
   .rw[if_neg (by assumption)] at k;obtain⟨f,m,o,r⟩:=h;obtain⟨G,C,E,F⟩:=k;exact⟨o.ou E (fun i j hi I=>mul_congr (fun _ _=>rfl) fun p w=>mul_congr (fun q B=>m.ou C p q w B) fun _ _=>rfl),r.trans F.symm⟩
end Go.Proofs.YthhcdfjijagalaaGreat.gJ
namespace Go.Proofs.YthhcdfjijagalaaGreat.gJ
def lM(l:List (List UInt8))(i:Nat):Bool:=decide (0<(l.getD i []).length)
def jg(l:List (List UInt8))(d k:Nat):List Nat:=((List.range k).filter (lM l)).take d
theorem zh(l:List (List UInt8))(d:Nat):jg l d 0=[]:=by simp[jg]
theorem oJ(l:List (List UInt8))(d:Nat):jg l d l.length=(there l).take d:=rfl
theorem JT{l:List (List UInt8)}{d k:Nat}(h:lM l k=false):jg l d (k+1)=jg l d k:=by
 unfold jg;rw[List.range_succ,List.filter_append,List.filter_cons_of_neg (by simp[h]),List.filter_nil,List.append_nil]
theorem FH{l:List (List UInt8)}{d k:Nat}(h:d<=(jg l d k).length):jg l d (k+1)=jg l d k:=by
 unfold jg at h⊢;rw[List.length_take] at h;rw[List.range_succ,List.filter_append,List.take_append,Nat.sub_eq_zero_of_le (by omega),List.take_zero,List.append_nil]
theorem H9{l:List (List UInt8)}{d k:Nat}(h:lM l k=true)(hd:(jg l d k).length<d):jg l d (k+1)=jg l d k++[k]:=by
 unfold jg at hd⊢;rw[List.length_take] at hd;rw[List.range_succ,List.filter_append,List.filter_cons_of_pos h,List.filter_nil,List.take_append,List.take_of_length_le (l:=[k]) (by simp;omega)]
theorem JS(l:List (List UInt8))(d k:Nat):(jg l d k).length<=d:=by unfold jg;rw[List.length_take];omega
theorem H7(l:List (List UInt8))(d:Nat):(jg l d l.length).length=min d (there l).length:=by rw[oJ,List.length_take]
theorem qs{l:List (List UInt8)}{u:Nat}(h:u∈there l):u<l.length/\lM l u=true:=by
 unfold there at h;rw[List.mem_filter,List.mem_range] at h;exact h
theorem ug(l:List (List UInt8)):(there l).Nodup:=List.nodup_range.filter _
theorem H6{l:List (List UInt8)}{d i:Nat}(h:i<d)(e:d<=(there l).length):(jg l d l.length).getD i 0=(there l).getD i 0:=by
 rw[oJ];simp[List.getD,h]
theorem yk{l:List (List UInt8)}{d:Int}(h:gT d ((l.length:Int)-d)≠0):lm l d [] (gT d ((l.length:Int)-d)):=by unfold lm;rw[if_pos h];exact⟨rfl,rfl⟩
theorem wY{l:List (List UInt8)}{d:Int}(h:gT d ((l.length:Int)-d)=0)(f:((there l).length:Int)<d):lm l d [] 10:=by unfold lm;rw[if_neg (fun e=>e h),if_pos f];exact⟨rfl,rfl⟩
theorem ru{l:List (List UInt8)}{d:Int}(h:gT d ((l.length:Int)-d)=0)(j:d<=((there l).length:Int))(f:rP l):lm l d [] 2:=by
 unfold lm;rw[if_neg (fun e=>e h),if_neg (by omega),if_pos f];exact⟨rfl,rfl⟩
theorem zQ{l:List (List UInt8)}{d:Nat}{n:Nat}{f:M}{L:List (List UInt8)}(h:gT (d:Int) ((l.length:Int)-d)=0)(r:d<=(there l).length)(j:¬rP l)(o:rU d (tC d (jg l d l.length)) f)(q:wid l ((there l).getD 0 0)=n)(m:pG L l.length n (wV l d f)):lm l (d:Int) L 0:=by
 unfold lm;rw[if_neg (fun e=>e h),if_neg (by omega),if_neg j,Int.toNat_natCast];exact⟨f,o,by rw[q];exact m,rfl⟩
theorem Jc{l:List (List UInt8)}(h:¬rP l){u:Nat}(r:u∈there l):(l.getD u []).length=wid l ((there l).getD 0 0)/\(l.getD u []).length<=400:=by
 obtain⟨m,f⟩:=qs r;have f:0<(l.getD u []).length:=by simpa[lM] using f
 have q:l.getD u []∈l:=by rw[show l.getD u []=l[u] by simp[List.getD,m]];exact List.getElem_mem _
 refine Classical.byContradiction fun o=>h ⟨_,q,?_⟩;by_cases e:400<(l.getD u []).length;·exact .inl e
 .exact .inr ⟨f,fun j=>o ⟨j,by omega⟩⟩
theorem Hx{A B:List (List UInt8)}(i j:Nat):ja (A++B) i j=if i<A.length then ja A i j else ja B (i-A.length) j:=by
 unfold ja;by_cases h:i<A.length;·rw[if_pos h];simp[List.getD,List.getElem?_append_left h]
 .rw[if_neg h];simp[List.getD,List.getElem?_append_right (Nat.le_of_not_lt h)]
theorem EZ{L K:List (List UInt8)}{d s n:Nat}{a:M}(e:pG L d n a)(f:pG K s n (ot d a)):pG (L++K) (d+s) n (mul d (mf d) a):=by
 refine⟨by rw[List.length_append,e.rows,f.rows],fun r o=>?_,fun i j hi m=>?_⟩
 .rcases List.mem_append.1 o with h|h
  .exact e.lP r h
  .exact f.lP r h
 .rw[Hx,e.rows];by_cases h:i<d
  .rw[if_pos h,e.eq i j h m,<-pK d a h j];exact mul_congr (fun k _=>by unfold mf;rw[if_pos h]) fun _ _=>rfl
  .rw[if_neg h,f.eq (i-d) j (by omega) m];unfold ot;refine kj fun k _=>?_;show iZ (mf d (d+(i-d)) k) (a k j)=_;rw[show d+(i-d)=i by omega]
end Go.Proofs.YthhcdfjijagalaaGreat.gJ

import Derived.Test.YthhcdfjijagalaaGreatM04
import Derived.Test.YthhcdfjijagalaaGreatM03
set_option linter.all false
set_option maxHeartbeats 1000000
set_option maxRecDepth 100000
namespace Go.Proofs.YthhcdfjijagalaaGreat
open Qz Go.Proofs.Tryz Go.RowKit
structure Rw where
 a:Option Addr
 n:Nat
 cap:Nat
 l:List UInt8
def Rw.v(r:Rw):Value:=.slice r.a r.n r.cap
def iv(R:List Rw):List Value:=R.map Rw.v
def gz(R:List Rw):List (List UInt8):=R.map Rw.l
theorem oq(R:List Rw):(iv R).length=R.length:=by simp[iv]
theorem gY(R:List Rw):(gz R).length=R.length:=by simp[gz]
theorem qO(R:List Rw)(i:Nat)(h:i<R.length):(iv R)[i]?=some (.slice R[i].a R[i].n R[i].cap):=by simp[iv,h,Rw.v]
theorem qP(R:List Rw):∀u∈iv R,u.oneCell'=true:=by
 intro u e;obtain⟨r,_,rfl⟩:=iu.1 e;rfl
structure Ms (w:World) (a:Option Addr) (n cap:Nat) (R:List Rw):Prop where
 sl:Sl w 1 a n cap (iv R)
 row:∀r∈R,Bt w r.a r.n r.cap r.l
section
variable {w w' : World} {a : Option Addr} {n cap : Nat} {R : List Rw}
theorem Ms.jO(h:Ms w a n cap R):R.length=n:=by
 have:=h.sl.len;rw[oq] at this;omega
theorem Ms.dn(h:Ms w a n cap R):(gz R).length=n:=by rw[gY];exact h.jO
theorem Ms.below(h:Ms w a n cap R)(hb:Below w w w'):Ms w' a n cap R:=⟨h.sl.below hb,fun r e=>(h.row r e).below hb⟩
theorem Ms.alloc(h:Ms w a n cap R)(o:Obj):Ms (w.alloc o) a n cap R:=h.below (gZ.alloc gM o)
theorem Ms.drewN(h:Ms w a n cap R)(k:Nat):Ms (w.drewN k) a n cap R:=h.below ⟨rfl,rfl,rfl,jb _,fun _ _=>rfl⟩
theorem Ms.drew(h:Ms w a n cap R):Ms w.drew a n cap R:=h.drewN 1
theorem Ms.nil(w:World):Ms w none 0 0 []:=⟨Sl.none w 1,fun r e=>by cases e⟩
theorem Ms.at{b off:Nat}(h:Ms w (some (b,off)) n cap R)(i:Nat)(hi:i<R.length):w.cell? (b,off+i)=some (.slice R[i].a R[i].n R[i].cap)/\Bt w R[i].a R[i].n R[i].cap R[i].l:=
 ⟨h.sl.cell (by have:=h.jO;omega) (qO R i hi),h.row _ (iE _)⟩
theorem Ms.slice(h:Ms w a n cap R){lo hi:Nat}(f:lo<=hi)(j:hi<=n):Ms w (if cap=lo then a else a.map (·.add (lo*1))) (hi-lo) (cap-lo) ((R.drop lo).take (hi-lo)):=by
 refine⟨?_,fun r m=>h.row r (tD (ry m))⟩;have:=h.sl.slice f j;have e:iv ((R.drop lo).take (hi-lo))=((iv R).drop (lo*1)).take ((hi-lo)*1):=by simp[iv,List.map_drop,vP]
 rw[e];exact this
theorem Ms.drop(h:Ms w a n cap R){lo:Nat}(e:lo<=n):Ms w (if cap=lo then a else a.map (·.add (lo*1))) (n-lo) (cap-lo) (R.drop lo):=by
 have:=h.slice e (jb n);rwa[ld (by rw[kG,h.jO];exact jb _)] at this
theorem Ms.take(h:Ms w a n cap R){k:Nat}(f:k<=n):Ms w a k cap (R.take k):=by
 refine⟨?_,fun r j=>h.row r (ry j)⟩;have:=h.sl.take f;have e:iv (R.take k)=(iv R).take (k*1):=by simp[iv,vP]
 rw[e];exact this
end
def rR(P:List (List UInt8)->Int->Prop)(w:World)(e:Ending)(w':World):Prop:=
 ∃a n cap R err,e=.returned (.tuple #[.slice a n cap,.int .i64 err])/\Ms w' a n cap R/\P (gz R) err/\Below w w w'
structure Wr where
 g:Nat
 cap:Nat
 l:List UInt8
def Wr.v(r:Wr):Value:=.slice (some (r.g,gy)) r.l.length r.cap
def Wr.rw(r:Wr):Rw:=⟨some (r.g,gy),r.l.length,r.cap,r.l⟩
def gQ(R:List Wr):List (List UInt8):=R.map Wr.l
theorem yV(R:List Wr):gz (R.map Wr.rw)=gQ R:=by simp[gz,gQ,Wr.rw]
theorem vT(R:List Wr):iv (R.map Wr.rw)=R.map Wr.v:=by simp[iv,Wr.rw,Wr.v,Rw.v]
structure Mo (w:World) (base g n cap:Nat) (R:List Wr):Prop where
 le:R.length<=n
 own:w.ownsRow base 64 1 (some (g,gy),n,cap) n (R.map Wr.v++List.replicate (n-R.length) (.slice none 0 0))
 row:∀r∈R,w.ownsRow base 5 1 r.v r.l.length (cb r.l)
 nodup:(R.map Wr.g).Nodup
section
variable {w w' : World} {base g n cap : Nat} {R : List Wr}
theorem Mo.jJ(h:Mo w base g n cap R):∃cs,w.heap[g]?=some (.cells cs 64):=by
 obtain⟨e,f,_⟩:=sn h.own;exact⟨_,f⟩
theorem Mo.PI(h:Mo w base g n cap R){r:Wr}(j:r∈R):∃cs,w.heap[r.g]?=some (.cells cs 5):=by
 obtain⟨e,f,_⟩:=sn (h.row r j);exact⟨_,f⟩
theorem Mo.lt(h:Mo w base g n cap R):base<=g/\g<w.heap.size:=h.own.lt g rfl
theorem Mo.Oc(h:Mo w base g n cap R){r:Wr}(e:r∈R):base<=r.g/\r.g<w.heap.size:=(h.row r e).lt _ rfl
theorem Mo.ne(h:Mo w base g n cap R){r:Wr}(j:r∈R):r.g≠g:=by
 obtain⟨_,e⟩:=h.jJ;obtain⟨_,f⟩:=h.PI j;exact km f e (by decide)
theorem Mo.only{S:List Nat}(h:Mo w base g n cap R)(m:gU w w' S)(o:g∉S)(q:∀r∈R,r.g∉S):Mo w' base g n cap R:=
 ⟨h.le,m.own h.own (fun x j e=>by cases e;exact o j),fun r f=>m.own (h.row r f) (fun x j e=>by cases e;exact q r f j),h.nodup⟩
theorem Mo.below(h:Mo w base g n cap R)(hb:Below w w w'):Mo w' base g n cap R:=h.only (S:=[]) ((gU.refl w []).below hb) (by simp) (by simp)
theorem Mo.alloc(h:Mo w base g n cap R)(o:Obj):Mo (w.alloc o) base g n cap R:=h.below (gZ.alloc gM o)
theorem Mo.drewN(h:Mo w base g n cap R)(k:Nat):Mo (w.drewN k) base g n cap R:=h.below ⟨rfl,rfl,rfl,jb _,fun _ _=>rfl⟩
theorem Mo.at(h:Mo w base g n cap R)(i:Nat)(hi:i<R.length):w.cell? (g,i)=some (.slice (some ⟨R[i].g,0,none⟩) R[i].l.length R[i].cap):=by
 rw[h.own.cellAt i (by have:=h.le;omega),List.getElem?_append_left (by simpa using hi)];simp[hi,Wr.v]
theorem Mo.Lj(h:Mo w base g n cap R)(i:Nat)(hi:R.length<=i)(e:i<n):w.cell? (g,i)=some (.slice none 0 0):=by
 rw[h.own.cellAt i (by omega),sY (by simpa using hi),List.getElem?_replicate,gG (by simp;omega)]
theorem Mo.free(h:Mo w base g n cap R)(i:Nat):w.frozen? (g,i)=false:=h.own.frozenAt i
theorem Mo.byte(h:Mo w base g n cap R)(i j:Nat)(hi:i<R.length)(e:j<R[i].l.length):w.cell? ⟨R[i].g,j,none⟩=some (.int .u8 (iB R[i].l j)):=by
 have:=h.row R[i] (iE _);unfold Wr.v at this;rw[this.cellAt j (by omega)];exact Ar _ _ e
theorem Mo.MG(h:Mo w base g n cap R)(i j:Nat)(hi:i<R.length):w.frozen? ⟨R[i].g,j,none⟩=false:=by
 have:=h.row R[i] (iE _);unfold Wr.v at this;exact this.frozenAt j
theorem Mo.rw(h:Mo w base g n cap R){r:Wr}(f:r∈R):Bt w (some (r.g,gy)) r.l.length r.cap r.l:=by
 obtain⟨a,c,e,j⟩:=gK (h.row r f);unfold Wr.v at e;cases e;exact j
theorem Mo.ms(h:Mo w base g n cap R)(m:R.length=n):Ms w (some (g,gy)) n cap (R.map Wr.rw):=by
 subst m;refine⟨?_,fun r o=>?_⟩
 .have j:=h.own;rw[lU,List.replicate_zero,mY,<-vT] at j;obtain⟨a,c,e,q⟩:=gK j;cases e;exact q
 .obtain⟨B,f,rfl⟩:=iu.1 o;exact h.rw f
theorem CP{l:List Nat}(h:l.Nodup){i j:Nat}(hi:i<l.length)(f:j<l.length)(e:l[i]=l[j]):i=j:=(List.getElem_inj h).1 e
theorem Mo.QF(h:Mo w base g n cap R){i j:Nat}(hi:i<R.length)(m:j<R.length)(f:i≠j):R[i].g≠R[j].g:=fun e=>
 f (CP h.nodup (by simpa using hi) (by simpa using m) (by simpa using e))
theorem Mo.setRow(h:Mo w base g n cap R)(i:Nat)(hi:i<R.length){j:List UInt8}(F:j.length=R[i].l.length)(E:gU w w' [R[i].g])(N:w'.ownsRow base 5 1 R[i].v R[i].l.length (cb j)):
  Mo w' base g n cap (R.set i ⟨R[i].g,R[i].cap,j⟩):=by
 have B:=h.ne (iE hi);have G:(Wr.v ⟨R[i].g,R[i].cap,j⟩)=R[i].v:=by simp[Wr.v,F]
 have e:(R.set i ⟨R[i].g,R[i].cap,j⟩).map Wr.v=R.map Wr.v:=by rw[nz,G];exact mW (by simp) (fun k K L=>by simp[yE];intro o;subst o;rfl)
 have I:(R.set i ⟨R[i].g,R[i].cap,j⟩).map Wr.g=R.map Wr.g:=by rw[nz];exact mW (by simp) (fun k K L=>by simp[yE];intro o;subst o;rfl)
 refine⟨by simpa using h.le,?_,fun r O=>?_,by rw[I];exact h.nodup⟩
 .rw[e,kH];exact E.own h.own (fun x C m=>by cases m;exact B (iA.1 C).symm)
 .obtain⟨k,o,rfl⟩:=rA O;have q:k<R.length:=by simpa using o
  by_cases f:i=k
  .subst f;rw[List.getElem_set_self,G];simp only[F];exact N
  .rw[List.getElem_set_ne f];exact E.own (h.row _ (iE _)) (fun x C m=>by have m:some R[k].g=some x:=m;cases m;exact h.QF q hi (lE f) (by simpa using C))
theorem Mo.Ez(h:Mo w base g n cap R)(i j:Nat)(hi:i<R.length)(y:UInt8):Mo (w.setCell ⟨R[i].g,j,none⟩ (.int .u8 (y.toNat:Int))) base g n cap (R.set i ⟨R[i].g,R[i].cap,R[i].l.set j y⟩):=by
 have e:=h.row R[i] (iE _);refine h.setRow i hi (by simp) ((gU.refl w _).setCell (.inl (by simp)) _) ?_;rw[Dw];exact(yx e j _).1
theorem Mo.swap(h:Mo w base g n cap R)(i k:Nat)(hi:i<R.length)(F:k<R.length):
  Mo ((w.setCell (g,i) R[k].v).setCell (g,k) R[i].v) base g n cap ((R.set i R[k]).set k R[i]):=by
 have K:gU w ((w.setCell (g,i) R[k].v).setCell (g,k) R[i].v) [g]:=((gU.refl w _).setCell (.inl (by simp)) _).setCell (.inl (by simp)) _;have j:∀r∈(R.set i R[k]).set k R[i],r∈R:=fun r o=>by
  rcases lH o with m|rfl
  .rcases lH m with I|rfl
   .exact I
   .exact iE _
  .exact iE _
 refine⟨by simpa using h.le,?_,fun r o=>K.own (h.row r (j r o)) (fun x B C=>?_),?_⟩
 .have m:=(yx (yx h.own i R[k].v).1 k R[i].v).1;have e:((R.map Wr.v++List.replicate (n-R.length) (Value.slice none 0 0)).set i R[k].v).set k R[i].v=((R.set i R[k]).set k R[i]).map Wr.v++List.replicate (n-((R.set i R[k]).set k R[i]).length) (Value.slice none 0 0):=by rw[List.set_append_left _ _ (by simpa using hi),List.set_append_left _ _ (by simpa using F),nz,nz];simp
  rw[e] at m;exact m
 .obtain rfl:x=g:=by simpa using B
  have C:some r.g=some x:=C;cases C;exact h.ne (j r o) rfl
 .have E:((R.map Wr.g).set i ((R.map Wr.g)[k]'(by simpa using F))).set k ((R.map Wr.g)[i]'(by simpa using hi))=((R.set i R[k]).set k R[i]).map Wr.g:=by simp[nz]
  rw[<-E];refine List.pairwise_iff_getElem.2 fun x y B G L f=>?_;simp only[kH] at B G;have O:x<(R.map Wr.g).length:=by simpa using B
  have P:y<(R.map Wr.g).length:=by simpa using G
  have key:=fun(p q:Nat) (E:p<(R.map Wr.g).length) (N:q<(R.map Wr.g).length) (e:(R.map Wr.g)[p]=(R.map Wr.g)[q])=>CP h.nodup E N e;simp only[yE] at f;have:x=y:=by split at f<;>split at f<;>(try split at f)<;>(try split at f)<;>have:=key _ _ _ _ f<;>omega
  omega
theorem Mo.push(h:Mo w base g n cap R)(G:R.length<n)(r:Wr)(F:w.ownsRow base 5 1 r.v r.l.length (cb r.l))(o:∀q∈R,q.g≠r.g):Mo (w.setCell (g,R.length) r.v) base g n cap (R++[r]):=by
 have E:gU w (w.setCell (g,R.length) r.v) [g]:=(gU.refl w _).setCell (.inl (by simp)) _;obtain⟨_,hb⟩:=h.jJ;have j:∀q:Wr,w.ownsRow base 5 1 q.v q.l.length (cb q.l)->∀x∈[g],q.v.ownBlock≠some x:=fun q f x B=>by
  obtain rfl:x=g:=by simpa using B
  exact gP f hb (by decide)
 refine⟨by simp;omega,?_,fun q f=>?_,?_⟩
 .have C:=(yx h.own R.length r.v).1;have e:(R.map Wr.v++List.replicate (n-R.length) (Value.slice none 0 0)).set R.length r.v=(R++[r]).map Wr.v++List.replicate (n-(R++[r]).length) (.slice none 0 0):=by obtain⟨m,I⟩:∃m,n-R.length=m+1:=⟨n-R.length-1,by omega⟩;rw[I,xp _ _ (by simp),List.replicate_succ];simp only[iz,lU,iN,li,lI,nj,ky,List.singleton_append,iH,l8,qZ];rw[show n-(R.length+(0+1))=m by omega]
  rw[e] at C;exact C
 .rcases kd.1 f with f|f
  .exact E.own (h.row q f) (j q (h.row q f))
  .obtain rfl:=iA.1 f;exact E.own F (j q F)
 .rw[li,List.nodup_append];refine⟨h.nodup,by simp,fun x B y K=>?_⟩;obtain⟨q,f,rfl⟩:=iu.1 B;obtain rfl:y=r.g:=by simpa using K
  exact o q f
end
theorem uI{R:List Rw}{n:Nat}(e:(gz R).length=n)(h:n<1∨12<n):gJ.ir (gz R)=5:=by
 unfold gJ.ir;rw[gG (by omega)]
theorem uJ{R:List Rw}{k:Nat}(e:gJ.wid (gz R) 0=k)(h:k<1∨400<k):gJ.ir (gz R)=5:=by
 unfold gJ.ir;rw[gG (by omega)]
theorem BC{R:List Rw}{n k i:Nat}(q:(gz R).length=n)(h:1<=n)(j:n<=12)(f:gJ.wid (gz R) 0=k)(m:1<=k)(o:k<=400)(hi:i<R.length)(e:R[i].l.length≠k):gJ.ir (gz R)=2:=by
 unfold gJ.ir;rw[gC (by omega),gG ⟨R[i].l,iu.2 ⟨_,iE _,rfl⟩,by rw[f];exact e⟩]
theorem BE{R:List Rw}{n k:Nat}(E:(gz R).length=n)(o:1<=n)(w:n<=12)(f:gJ.wid (gz R) 0=k)(B:1<=k)(C:k<=400)(h:∀i (hi:i<R.length),R[i].l.length=k):gJ.ir (gz R)=0:=by
 unfold gJ.ir;rw[gC (by omega),gC];rintro⟨r,m,e⟩;obtain⟨q,j,rfl⟩:=iu.1 m;obtain⟨i,hi,rfl⟩:=rA j;exact e (by rw[f];exact h i hi)
theorem zY{R:List Rw}{i:Nat}(hi:i<R.length):gJ.wid (gz R) i=R[i].l.length:=by
 unfold gJ.wid gz;simp[List.getD,hi]
theorem kw(a:Option Addr)(n cap:Nat)(R:List Rw)(w:World)(h:Ms w a n cap R):Calls prog 117 #[(a,n,cap)] w (Same (gJ.ir (gz R)) w):=by
 have Z:=h.sl.le;have F:=h.sl.max;unfold maxLen at F;have G:=gx h.dn;by_cases O:n<1
 .have m:=gx (uI G (.inl O));obtain rfl:n=0:=by omega
  clear O;go_enter func117,ntmps117;go_wp2;go_ret;exact⟨kY m.symm,rfl⟩
 by_cases W:12<n
 .have m:=gx (uI G (.inr W));go_enter func117,ntmps117;go_wp2;go_ret;exact⟨kY m.symm,rfl⟩
 obtain⟨b,off,rfl,_⟩:=h.sl.addr (by omega);have C:0<R.length:=by have:=h.jO;omega
 have V:=(h.at 0 C).1;have N:=gx (zY C);have B:=gx (Bt.n (h.at 0 C).2);generalize R[0]=r0 at *;obtain⟨a0,q,p0,l0⟩:=r0;simp only[mH] at V N B;have I:Hid (gJ.wid (gz R) 0=q):=gx (N.trans B);clear N B;by_cases P:q<1
 .have m:=gx (uJ I (.inl P));obtain rfl:q=0:=by omega
  clear P;go_enter func117,ntmps117;go_wp2;go_ret;exact⟨kY m.symm,rfl⟩
 by_cases X:400<q
 .have m:=gx (uJ I (.inr X));go_enter func117,ntmps117;go_wp2;go_ret;exact⟨kY m.symm,rfl⟩
 go_enter func117,ntmps117;go_wp2;go_loopg[4,29] n (fun g s4 i wr=>∃k:Nat,g=n-k/\k<=n/\i=.int .i64 (k:Int)/\w=wr/\∀j (K:j<R.length),j<k->R[j].l.length=q);case atStart=>exact⟨0,rfl,by omega,rfl,rfl,fun j _ K=>absurd K (by omega)⟩
 case round=>
  obtain⟨k,rfl,hk,rfl,rfl,f⟩:=hrel;replace f:=gx f;by_cases ab:k<n
  .have E:k<R.length:=by have:=h.jO;omega
   have c1:=(h.at k E).1;have L:=gx (Bt.n (h.at k E).2);have Q:=gx (fun o=>BC G (by omega) (by omega) I (by omega) (by omega) E o);generalize S:R[k]=r at *;obtain⟨a1,n1,p1,l1⟩:=r;simp only at c1 L Q;have U:=gx S;clear S;by_cases o:n1=q
   .subst o;go_wp2;go_roundg (n-(k+1));case measure=>omega
    case rel=>
     refine⟨k+1,rfl,by omega,by go_num,rfl,fun j K Y=>?_⟩;by_cases e:j=k;·subst e;rw[U.out];exact L
     .exact f j K (by omega)
   .have m:=gx (Q (by rw[L.out];exact o));have t0:((n1:Int) !=(q:Int))=true:=by rw[ij];omega
    have t1:(n1 !=q)=true:=by rw[ij];exact o
    go_wp2;go_ret;exact⟨kY m.symm,rfl⟩
  .obtain rfl:k=n:=by omega
   have m:=gx (BE G (by omega) (by omega) I (by omega) (by omega) (fun i hi=>f i hi (by have:=h.jO;omega)));go_wp2;go_ret;exact⟨kY m.symm,rfl⟩
theorem ly(a:Option Addr)(n cap:Nat)(R:List Rw)(w:World)(h:Ms w a n cap R):Calls prog 108 #[(a,n,cap)] w (JG (gJ.ir (gz R)) w):=by
 have ab:=h.sl.le;have G:=h.sl.max;unfold maxLen at G;have I:=gx h.dn;by_cases P:n<1
 .have m:=gx (uI I (.inl P));obtain rfl:n=0:=by omega
  clear P;go_enter func108,ntmps108;go_wp2;go_ret;exact⟨kY m.symm,0,rfl⟩
 have e1:((n:Int)==0)=false:=by rw[jB];omega
 have e2:(n==0)=false:=by rw[jB];omega
 by_cases X:12<n
 .have m:=gx (uI I (.inr X));go_enter func108,ntmps108;go_wp2;go_ret;exact⟨kY m.symm,0,rfl⟩
 obtain⟨b,off,rfl,_⟩:=h.sl.addr (by omega);have E:0<R.length:=by have:=h.jO;omega
 have W:=(h.at 0 E).1;have O:=gx (zY E);have C:=gx (Bt.n (h.at 0 E).2);generalize R[0]=r0 at *;obtain⟨a0,B,p0,l0⟩:=r0;simp only[mH] at W O C;have K:Hid (gJ.wid (gz R) 0=B):=gx (O.trans C);clear O C;by_cases Q:B<1
 .have m:=gx (uJ K (.inl Q));obtain rfl:B=0:=by omega
  clear Q;go_enter func108,ntmps108;go_wp2;go_ret;exact⟨kY m.symm,0,rfl⟩
 have e3:((B:Int)==0)=false:=by rw[jB];omega
 have e4:(B==0)=false:=by rw[jB];omega
 by_cases Y:400<B
 .have m:=gx (uJ K (.inr Y));go_enter func108,ntmps108;go_wp2;go_ret;exact⟨kY m.symm,0,rfl⟩
 go_enter func108,ntmps108;go_wp2;go_loopg[3,28] n (fun g s4 i wr=>∃k q:Nat,g=n-k/\k<=n/\i=.int .i64 (k:Int)/\wr=w.drewN q/\∀j (L:j<R.length),j<k->R[j].l.length=B);case atStart=>exact⟨0,0,rfl,by omega,rfl,rfl,fun j _ L=>absurd L (by omega)⟩
 case round=>
  obtain⟨k,q,rfl,hk,rfl,rfl,f⟩:=hrel;replace f:=gx f;by_cases ad:k<n
  .have F:k<R.length:=by have:=h.jO;omega
   have c1:=(h.at k F).1;have N:=gx (Bt.n (h.at k F).2);have S:=gx (fun o=>BC I (by omega) (by omega) K (by omega) (by omega) F o);generalize U:R[k]=r at *;obtain⟨a1,n1,p1,l1⟩:=r;simp only at c1 N S;have V:=gx U;clear U;have i0:(0:Int)<=(k:Int):=yB _;have i1:(k:Int)<(n:Int):=by omega
   have i2:(0:Int)<(n:Int):=by omega
   by_cases o:n1=B
   .subst o;go_wp2_with fail;go_quiet (fail);go_wp2_with fail;go_roundg (n-(k+1));case measure=>omega
    case rel=>
     refine⟨k+1,_,rfl,by omega,by go_num,rfl,fun j L Z=>?_⟩;by_cases e:j=k;·subst e;rw[V.out];exact N
     .exact f j L (by omega)
   .have m:=gx (S (by rw[N.out];exact o));have t0:((n1:Int) !=(B:Int))=true:=by rw[ij];omega
    have t1:(n1 !=B)=true:=by rw[ij];exact o
    go_wp2_with fail;go_quiet (fail);go_wp2_with fail;go_ret;exact⟨kY m.symm,_,World.drewN_drewN _ _ _⟩
  .obtain rfl:k=n:=by omega
   have m:=gx (BE I (by omega) (by omega) K (by omega) (by omega) (fun i hi=>f i hi (by have:=h.jO;omega)));go_wp2;go_ret;exact⟨kY m.symm,_,rfl⟩
theorem l3:(Tryz.prog.info? 64).map (fun i=>(i.zero,i.size,i.bytes))=some (some (.slice none 0 0),1,24):=by kernel_rfl
theorem ku:Tryz.prog.underlying 150=some (.slice 64):=underlying150
theorem jt:Tryz.prog.underlying 81=some (.slice 64):=underlying81
theorem Cb(n:Nat):(madeCells (Value.cells ()) (n*1)).toList=List.replicate n (.slice none 0 0):=by
 simp only[madeCells,Value.cells,me];apply mW;·simp
 .intro i e f;simp[Nat.mod_one]
theorem wpList_make_mat{e:Array Oper}{rest:List Oper}{o:Oper}{a:Act}{Q:Exit->Act->World->Prop}{w:World}(G:o.guard=none)(l c:Operand)(B:TypeId)(q:Tryz.prog.underlying B=some (.slice 64))(m:o.op=Op.makeSlice B l c)
  (n:Nat) (K:a.eval l=.int .i64 (n:Int)) (hc:a.eval c=.int .i64 (n:Int)) (O:n<=65536)
  (F:∀w',Mo w' w.heap.size w.heap.size n n []->Below w w w'->w.heap.size<w'.heap.size->wpList prog e Q rest (a.put o.dst (some (w,gy),n,n)) w'):
  wpList prog e Q (o::rest) a w:=by
 obtain⟨i,hi,N,C,E⟩:=jW l3;refine wpList_make_full w G l c B m w.heap.size 64 i () 1 q hi N C .i64 .i64 n n n K hc rfl rfl (by rw[E];omega) (by unfold maxLen;omega) gM ?_;intro w' j f;have h:=(j.lt _ rfl).2;refine F w' ⟨Nat.zero_le _,?_,(fun r L=>by cases L),vM⟩ (Below.grown gZ f gM (by intro k I;cases I)) h;rw[Cb] at j;simpa using j
def sS(v:Value)(r:Rw):Prop:=0<r.n->∀b off,r.a=some ⟨b,off,none⟩->v.ownBlock≠some b
structure Mb (w0 w:World) (row:Option Nat) (base:Nat) (v:Value) (R:List Rw):Prop where
 own:OT w0 w row base 64 1 v R.length (iv R)
 bt:∀r∈R,Bt w r.a r.n r.cap r.l
 apart:∀r∈R,sS v r
theorem Bt.Qt{w:World}{b off n cap:Nat}{l:List UInt8}(h:Bt w (some (b,off)) n cap l)(e:0<n):b<w.heap.size:=Sl.lt h e (by decide)
theorem Sl.grown{w w':World}{sz:Nat}{a:Option Addr}{n cap:Nat}{cs:List Value}(h:Sl w sz a n cap cs){q:Option Nat}(C:w.grownBy w' q)(m:0<n->∀b off,a=some ⟨b,off,Option.none⟩->q≠some b):Sl w' sz a n cap cs:=
 ⟨h.le,h.max,h.len,h.nil,fun r=>by obtain⟨b,off,e,hc⟩:=h.addr r;refine⟨b,off,e,fun j u E=>?_⟩;have o:=hc j u E;have f:=iM _ _ o;rw[yw (w:=w) (C.block b f (fun B=>m r b off e B.symm))];exact o⟩
theorem Mb.nil(w0 w:World)(hb:Below w0 w0 w)(base:Nat)(e:w0.heap.size<=base):Mb w0 w none base () []:=⟨OT.fresh (iY _ _ _ _) hb e,(fun r f=>by cases f),(fun r f=>by cases f)⟩
theorem Mb.below{w0 w w':World}{row:Option Nat}{base:Nat}{v:Value}{R:List Rw}(h:Mb w0 w row base v R)(hb:Below w w w'):Mb w0 w' row base v R:=⟨h.own.below hb,fun r e=>(h.bt r e).below hb,h.apart⟩
theorem Mb.alloc{w0 w:World}{row:Option Nat}{base:Nat}{v:Value}{R:List Rw}(h:Mb w0 w row base v R)(o:Obj):Mb w0 (w.alloc o) row base v R:=h.below (gZ.alloc gM o)
theorem Mb.ms{w0 w:World}{row:Option Nat}{base:Nat}{v:Value}{R:List Rw}(h:Mb w0 w row base v R):∃a cap,v=.slice a R.length cap/\Ms w a R.length cap R:=by
 obtain⟨a,cap,e,f⟩:=gK h.own.own;exact⟨a,cap,e,f,h.bt⟩
theorem Mb.grown{w0 w w':World}{row q:Option Nat}{base:Nat}{v:Value}{R:List Rw}(h:Mb w0 w row base v R)(j:w.grownBy w' q)(f:∀x,q=some x->w0.heap.size<=x/\v.ownBlock≠some x/\∀r∈R,0<r.n->∀b off,r.a=some ⟨b,off,none⟩->b≠x):Mb w0 w' row base v R:=
 ⟨h.own.step j (.inr fun x o=>⟨(f x o).1,(f x o).2.1⟩),fun r m=>(h.bt r m).grown j (fun C b off e B=>(f b B).2.2 r m C b off e rfl),h.apart⟩
theorem xQ{w:World}{base n:Nat}{v:Value}{xs:List Value}{t:TypeId}(h:w.ownsRow base t 1 v n xs){r:Rw}(m:0<r.n->∀b off,r.a=some ⟨b,off,none⟩->b<base):sS v r:=fun j b off e f=>by
 have o:=m j b off e;have q:=(h.lt b f).1;omega
theorem mg{w:World}{base f n m g cap:Nat}{v:Value}{xs r:List Value}(h:w.ownsRow base 64 1 v n xs)(q:w.ownsRow f 5 1 (some (g,gy),m,cap) m r)(l:List UInt8):sS v ⟨some (g,gy),m,cap,l⟩:=fun B b off e=>by
 cases e;obtain⟨j,o,_⟩:=sn q;exact gP h o (by decide)
theorem Mb.more{w0 w w':World}{row:Option Nat}{base:Nat}{v v':Value}{R:List Rw}{r:Rw}(h:Mb w0 w row base v R)(F:OT w0 w' row base 64 1 v' (R.length+1) (iv R++[r.v]))(E:w.grownBy w' v.ownBlock)(m:v'.ownBlock=v.ownBlock∨∀k,v'.ownBlock=some k->w.heap.size<=k)
  (hb:Bt w r.a r.n r.cap r.l) (C:sS v r):Mb w0 w' row base v' (R++[r]):=by
 have j:∀q∈R++[r],Bt w q.a q.n q.cap q.l/\sS v q:=fun q f=>by
  rcases kd.1 f with f|f
  .exact⟨h.bt q f,h.apart q f⟩
  .obtain rfl:=iA.1 f;exact⟨hb,C⟩
 refine⟨?_,fun q f=>(j q f).1.grown E (j q f).2,fun q f=>?_⟩
 .have e:iv (R++[r])=iv R++[r.v]:=by simp[iv]
  rw[e,iH];exact F
 .rcases m with m|m
  .intro o b off e;rw[m];exact(j q f).2 o b off e
  .intro o b off e B;have G:=m b B;have I:=Bt.Qt (e▸(j q f).1) o;omega
theorem wpList_append_row{q:Array Oper}{rest:List Oper}{o:Oper}{a:Act}{Q:Exit->Act->World->Prop}{W:World}(F:o.guard=none)(s N:Operand)(e:TypeId)(m:Tryz.prog.underlying e=some (.slice 64))
  (X:o.op=.call {callee:=.builtin .append,args:=#[s,N],argTypes:=#[e,e]})
  {w0:World} {row:Option Nat} (base:Nat) (v:Value) (R:List Rw) (Z:a.eval s=v) (h:Mb w0 W row base v R) (r:Rw) (b:Nat) (E:W.heap.size=b) (G:a.eval N=.slice (some (b,gy)) 1 1)
  (hb:Bt W r.a r.n r.cap r.l) (V:sS v r) (L:R.length<=65536) (C:base<=W.heap.size)
  (K:∀v' w',Mb w0 w' row base v' (R++[r])->(W.alloc (.cells #[(r.a,r.n,r.cap)] 64)).grownBy w' v.ownBlock->wpList prog q Q rest (a.put o.dst v') w'):wpList prog q Q (o::rest) a (W.alloc (.cells #[(r.a,r.n,r.cap)] 64)):=by
 subst E;have w:=h.alloc (.cells #[(r.a,r.n,r.cap)] 64);obtain⟨i,hi,hz,O,S⟩:=jW l3;have j:Src prog 1 e (some (W,gy),ia,ia) 1 [.slice r.a r.n r.cap] (W.alloc (.cells #[(r.a,r.n,r.cap)] 64)):=Src.mr W #[.slice r.a r.n r.cap] 64 1 1 m rfl (by simp[Value.oneCell']);obtain⟨v',w',Y,U,B,h5⟩:=lN (P:=prog) (W.alloc (.cells #[(r.a,r.n,r.cap)] 64)) base e e o.type 64 i () 1 24 m hi hz O S rfl (by decide) v R.length (iv R) w.own.own _ 1 _ j (by unfold maxLen;omega) (by omega) (by simp;omega);have f:v'.ownBlock=v.ownBlock∨∀k,v'.ownBlock=some k->(W.alloc (.cells #[(r.a,r.n,r.cap)] 64)).heap.size<=k:=by
  rcases h5 with h5|h5
  .exact .inl h5
  .exact .inr fun k I=>by rw[h5] at I;cases I;exact jb _
 refine wpList_value F ?_ (K v' w' (w.more (w.own.more U B f) B f (hb.alloc _) V) B);unfold execOp;simp only[X,resolve,invoke,builtin,tO,tP,tH,tI,lI,nj,Z,G,Y]
theorem lp{w:World}{base g n cap:Nat}{m:List UInt8}(h:w.ownsRow base 5 1 (some (g,gy),n,cap) n (cb m)):m.length=n:=by
 have:=h.1;simpa[cb] using this
theorem qX{w:World}{base g n cap:Nat}{m:List UInt8}(h:w.ownsRow base 5 1 (some (g,gy),n,cap) n (cb m)):Bt w (some (g,gy)) n cap m:=by
 obtain⟨a,c,e,f⟩:=gK h;cases e;exact f
theorem nS{w:World}{base g n cap:Nat}{m:List UInt8}(h:w.ownsRow base 5 1 (some (g,gy),n,cap) n (cb m))(k:Nat)(e:k<n):w.cell? (g,k)=some (.int .u8 (iB m k)):=by
 rw[h.cellAt k (by omega)];exact Ar m k (by rw[lp h];exact e)
theorem nD{w:World}{base g n cap:Nat}{m:List UInt8}(h:w.ownsRow base 5 1 (some (g,gy),n,cap) n (cb m))(k:Nat):w.frozen? (g,k)=false:=h.frozenAt k
theorem oZ{w:World}{base g n cap:Nat}{m:List UInt8}(h:w.ownsRow base 5 1 (some (g,gy),n,cap) n (cb m))(k v:Nat)(y:UInt8)(e:y.toNat=v):
  (w.setCell (g,k) (.int .u8 (v:Int))).ownsRow base 5 1 (some (g,gy),n,cap) n (cb (m.set k y)):=by
 rw[Dw,e];exact(yx h k _).1
theorem nW{m:List UInt8}{k:Nat}(f:k<m.length)(y:UInt8)(j:Nat):(m.set k y).getD j 0=if j=k then y else m.getD j 0:=by
 by_cases e:j=k;·subst e;simp[List.getD,f]
 .rw[gC e];simp[List.getD,tR (lE e)]
theorem FL(l m:List UInt8){j:Nat}(h:j<l.length):(l++m).getD j 0=l.getD j 0:=by simp[List.getD,List.getElem?_append_left h]
theorem LI(l:List UInt8)(y:UInt8){j:Nat}(h:l.length=j):(l++[y]).getD j 0=y:=by subst h;simp[List.getD]
theorem oT{R:List Rw}{i:Nat}(hi:i<(gz R).length):(gz R)[i]=(R[i]'(by simpa[gz] using hi)).l:=by simp[gz]
def Lf(base g n cap:Nat)(f:Nat->UInt8)(w:World)(e:Ending)(w':World):Prop:=
 e=.returned (.tuple #[])/\∃m,w'.ownsRow base 5 1 (some (g,gy),n,cap) n (cb m)/\(∀j,j<n->m.getD j 0=f j)/\gU w w' [g]
theorem Jl(a:Nat)(h:a<256):kM.lg a<255:=by
 have e:∀a,a<256->kM.lg a<255:=by decide +kernel
 exact e a h
def IQ(k i:Nat):Value:=if i<510 then .int .u8 ((if i%255<k then kM.pw (i%255) else 0:Nat):Int) else .int .i64 ((if kM.lg (i-510)<k then kM.lg (i-510) else 0:Nat):Int)
def uL(w:World)(b:Nat):Prop:=w.rowIs b 179 766 (IQ 255)
theorem uL.pow{w:World}{b:Nat}(h:uL w b)(i:Nat)(hi:i<510):w.cell? (b,i)=some (.int .u8 (kM.pw i)):=by
 rw[World.rowIs.cell h (by omega)];unfold IQ;rw[gG hi,gG (by omega),kM.yr]
theorem uL.log{w:World}{b:Nat}(h:uL w b)(a:Nat)(e:a<256):w.cell? (b,510+a)=some (.int .i64 (kM.lg a)):=by
 rw[World.rowIs.cell h (by omega)];unfold IQ;rw[gC (by omega),show 510+a-510=a by omega,gG (Jl a e)]
theorem uL.td{w w':World}{b B:Nat}(h:uL w b)(hb:Below B w w')(e:b<B):uL w' b:=World.rowIs.of_block h (hb.block b e)
theorem uL.drewN{w:World}{b:Nat}(h:uL w b)(n:Nat):uL (w.drewN n) b:=h
def C0:Array Value:=(Array.replicate 510 (.int .u8 0))++(Array.replicate 256 (.int .i64 0))
theorem JI{ρ:Operand->Value}{o:Oper}(w:World)(e:o.op=.build 179 #[]):(execOp ρ o).run prog w=.ok (.value (.agg C0)) w:=by
 unfold execOp;rw[e];kernel_rfl
structure Df (w:World) (k:Nat) (x i:Value) (wr:World):Prop where
 le:k<=255
 i:i=.int .i64 k
 x:x=.int .i64 (kM.pw k)
 below:Below w w wr
 size:wr.heap.size=w.heap.size+1
 row:wr.rowIs w.heap.size 179 766 (IQ k)
theorem Eg(w:World):Df w 0 ia gy (w.alloc (.cells C0 179)):=by
 refine⟨by omega,rfl,rfl,gZ.alloc gM _,by simp,?_⟩;have e:C0.size=766:=by simp[C0]
 have:=World.rowIs_alloc w C0 179 (IQ 0) ?_;·rwa[e] at this
 .intro i hi;rw[e] at hi;unfold C0 IQ;simp only[Nat.not_lt_zero,if_false];by_cases h:i<510
  .rw[gG h,Array.getElem?_append_left (by simpa using h)];simp[h]
  .rw[gC h,Array.getElem?_append_right (by simpa using Nat.le_of_not_lt h)];simp only[Array.size_replicate];rw[Array.getElem?_replicate,gG (by omega)];rfl
theorem zm{w wr:World}{k:Nat}{x i:Value}(h:Df w k x i wr)(E:k<255)(y:Int)(G:y=kM.xt (kM.pw k)):
  Df w (k+1) y (.int .i64 ((k:Int)+1)) ((((wr.setCell (w,k) (.int .u8 (kM.pw k))).setCell (w,k+255) (.int .u8 (kM.pw k))).setCell ⟨w.heap.size,510+kM.pw k,none⟩ k).drew):=by
 have L:=kM.xm k;refine⟨by omega,by simp,by rw[G];rfl,(((h.below.setCell gM _).setCell gM _).setCell gM _).drew,by simp[h.size],?_⟩;refine World.rowIs.drew ((((h.row.set k _).set (k+255) _).set (510+kM.pw k) _).congr ?_);intro j K;unfold IQ;by_cases q:j=510+kM.pw k
 .subst q;rw[gG rfl,gC (by omega),show 510+kM.pw k-510=kM.pw k by omega,kM.Jm k E,gG (by omega)]
 rw[gC q];by_cases r:j=k+255
 .subst r;rw[gG rfl,gG (by omega),gG (by omega),show(k+255)%255=k by omega]
 rw[gC r];by_cases B:j=k
 .subst B;rw[gG rfl,gG (by omega),gG (by omega),show j%255=j by omega]
 rw[gC B];by_cases m:j<510
 .rw[gG m,gG m];by_cases f:j%255<k;·rw[gG f,gG (by omega)]
  .rw[gC f,gC (by omega)]
 .rw[gC m,gC m];have F:∀a,a<256->kM.lg a=k->a=kM.pw k∨k=0:=by
   intro a C e;by_cases o:a=0
   .right;subst o;have:kM.lg 0=0:=by decide +kernel
    omega
   .exact .inl (by rw[<-e];exact(kM.Mu a C o).1.symm)
  by_cases f:kM.lg (j-510)<k;·rw[gG f,gG (by omega)]
  .rw[gC f];split
   .rename_i I;rcases F (j-510) (by omega) (by omega) with e|e
    .omega
    .subst e;simp;omega
   .rfl
theorem xL(w:World):
  Calls prog 130 #[] w fun e w'=>m7 (w,gy) w e w'/\uL w' w.heap.size/\w'.heap.size=w.heap.size+1:=by
 go_enter func130,ntmps130;go_wp2_with (refine wpList_value rfl (JI _ rfl) ?_);go_loopg[2,6] 255 (fun g x i wr=>∃k:Nat,g=255-k/\Df w k x i wr);case atStart=>exact⟨0,rfl,Eg w⟩
 case round=>
  obtain⟨k,rfl,f⟩:=hrel;obtain rfl:=f.i;obtain rfl:=f.x;have q:=f.le;by_cases h:k<255
  .have r:=kM.xm k;have o:∀j,wr.frozen? ⟨w.heap.size,j,none⟩=false:=f.row.frozen;have c1:=f.row.cell (i:=k) (by omega);have c2:=f.row.cell (i:=k+255) (by omega);have m:=f.row.cell (i:=510+kM.pw k) (by omega);go_wp2;go_region;go_wp2;all_goals go_roundg (255-(k+1))
   all_goals first|omega|skip
   .refine⟨k+1,rfl,zm f h _ ?_⟩;have:=qD (2*kM.pw k) 285 (by omega) (by omega);unfold kM.xt;rw[gG (by omega),<-this];congr 1;omega
   .refine⟨k+1,rfl,zm f h _ ?_⟩;unfold kM.xt;rw[gC (by omega)];omega
  .obtain rfl:k=255:=by omega
   go_wp2;go_ret;exact⟨⟨rfl,f.below⟩,f.row,f.size⟩
theorem xN(b x y:Nat)(e:x<256)(f:y<256)(w:World)(h:uL w b):
  Calls prog 131 #[(b,gy),.int .u8 x,.int .u8 y] w (JG (.int .u8 (kM.mul x y)) w):=by
 have m:=h.log x e;have o:=h.log y f;have r:=Jl x e;have B:=Jl y f;have q:=h.pow (kM.lg x+kM.lg y) (by omega);by_cases c1:x=0
 .subst c1;go_enter func131,ntmps131;go_wp2;go_ret;exact⟨by rw[kM.zero_mul];rfl,0,rfl⟩
 have d1:((x:Int)==0)=false:=by simpa using c1
 by_cases c2:y=0
 .subst c2;go_enter func131,ntmps131;go_wp2;go_ret;exact⟨by rw[kM.mul_zero];rfl,0,rfl⟩
 have d2:((y:Int)==0)=false:=by simpa using c2
 have j:=gx (show kM.mul x y=kM.pw (kM.lg x+kM.lg y) by unfold kM.mul;rw[gC (by omega)]);go_enter func131,ntmps131;go_wp2;go_quiet (fail);go_wp2;go_ret;exact⟨by rw[j.out];rfl,nq,rfl⟩
theorem Cm(b x:Nat)(e:x<256)(w:World)(h:uL w b):
  Calls prog 134 #[(b,gy),.int .u8 x] w (JG (.int .u8 (kM.inv x)) w):=by
 have j:=h.log x e;have o:=Jl x e;have m:=h.pow (255-kM.lg x) (by omega);by_cases c1:x=0
 .subst c1;go_enter func134,ntmps134;go_wp2;go_ret;exact⟨rfl,0,rfl⟩
 have d1:((x:Int)==0)=false:=by simpa using c1
 have f:=gx (show kM.inv x=kM.pw (255-kM.lg x) by unfold kM.inv;rw[gC (by omega)]);go_enter func134,ntmps134;go_wp2;go_quiet (fail);go_wp2;go_ret;exact⟨by rw[f.out];rfl,nq,rfl⟩
theorem JQ(x:Nat)(h:x<256)(w:World):
  Calls prog 129 #[.int .u8 x] w (m7 (.int .u8 (kM.inv x)) w):=by
 go_enter func129,ntmps129;go_wp2_with (first
  |(go_at_call 130;refine(xL _).mono ?_;rintro e m⟨⟨rfl,hb⟩,f,j⟩)
  |(go_at_call 134;refine(Cm _ _ h _ f).mono ?_;rintro e o⟨rfl,n,rfl⟩))
 go_ret;exact⟨rfl,below_drewN hb n⟩
def rp(x b k:Nat):Nat:=(List.range k).foldl (fun n k=>if b >>> k &&& 1=1 then n^^^x <<< k else n) 0
theorem vo(x b k:Nat):rp x b (k+1)=if b >>> k &&& 1=1 then rp x b k^^^x <<< k else rp x b k:=by
 unfold rp;rw[sr,List.foldl_append];rfl
theorem At(x b:Nat)(f:x<256):∀k,k<=8->rp x b k<2 ^ 15
 |0,_=>by show 0<2 ^ 15;decide
 |k+1,h=>by
  have e:=At x b f k (by omega);rw[vo];split
  .refine qk e ?_;rw[vK];have:2 ^ k<=2 ^ 7:=yy (by decide) (by omega);have:=Nat.mul_le_mul (show x<=255 by omega) this;omega
  .exact e
def xw(n:Nat):Nat->Nat
 |0=>n
 |k+1=>kM.IN (xw n k) (14-k)
theorem Gy(n:Nat)(h:n<2 ^ 15):∀k,k<=7->xw n k<2 ^ 15
 |0,_=>h
 |k+1,hk=>by
  have e:=Gy n h k (by omega);show kM.IN (xw n k) (14-k)<_;unfold kM.IN;split
  .refine qk e ?_;rw[vK];have:2 ^ (14-k-8)<=2 ^ 6:=yy (by decide) (by omega);have:=Nat.mul_le_mul (show 285<=285 by omega) this;omega
  .exact e
theorem Oe(x y:Nat):xw (rp x y 8) 7%256=kM.pB x y:=rfl
theorem I3(n:Nat):n &&& 1=0∨n &&& 1=1:=by rw[Nat.and_one_is_mod];omega
theorem PL(y k:Nat)(f:y<256):bits .and .u8 ((y:Int)/2 ^ k) 1=((y >>> k &&& 1:Nat):Int):=by
 have e:(y:Int)/2 ^ k=((y >>> k:Nat):Int):=by rw[qH];simp
 have h:y >>> k<256:=by rw[qH];exact Nat.lt_of_le_of_lt (Nat.div_le_self _ _) f
 rw[e];exact u8_and_nat _ 1 h (by decide)
theorem NI(y k:Nat)(f:y<2 ^ 62):bits .and .i64 ((y:Int)/2 ^ k) 1=((y >>> k &&& 1:Nat):Int):=by
 have e:(y:Int)/2 ^ k=((y >>> k:Nat):Int):=by rw[qH];simp
 have h:y >>> k<2 ^ 62:=by rw[qH];exact Nat.lt_of_le_of_lt (Nat.div_le_self _ _) f
 rw[e];exact FQ _ 1 h (by decide)
theorem Jh(x k b:Nat)(j:x<2 ^ b)(f:b+k<=62):wrap64 ((x:Int)*2 ^ k)=((x <<< k:Nat):Int)/\x <<< k<2 ^ 62:=by
 have h:x <<< k<2 ^ 62:=by rw[vK];have e:x*2 ^ k<2 ^ b*2 ^ k:=Nat.mul_lt_mul_of_pos_right j (Nat.two_pow_pos k);rw[<-Nat.pow_add] at e;exact qK e (yy (by decide) f)
 refine⟨?_,h⟩;rw[vK] at h⊢;rw[show(x:Int)*2 ^ k=((x*2 ^ k:Nat):Int) by simp];exact IntWalk.wrap64_in _ (by omega)
theorem oQ(x y:Nat)(f:x<256)(B:y<256)(w:World):
  Calls prog 109 #[.int .u8 x,.int .u8 y] w (Same (.int .u8 (kM.mul x y)) w):=by
 have C:=gx (kM.uC x y f B);go_enter func109,ntmps109;go_wp2;go_loopg[6,7] 8 (fun g n i wr=>w=wr/\∃k:Nat,g=8-k/\k<=8/\i=.int .i64 k/\n=.int .i64 (rp x y k));case atStart=>exact⟨rfl,0,rfl,by omega,rfl,rfl⟩
 case round=>
  obtain⟨rfl,k,rfl,q,rfl,rfl⟩:=hrel;by_cases m:k<8
  .have hb:=PL y k B;have j:=gx (Jh x k 8 f (by omega));have o:=gx (At x y f k q);rcases I3 (y >>> k) with e|e
   all_goals
    rw[e] at hb;have h:=gx e;clear e;go_wp2;go_roundg (8-(k+1));case measure=>omega
   case rel=>
    refine⟨rfl,k+1,rfl,by omega,by go_num,?_⟩;rw[vo,h.out];rfl
   case rel=>
    refine⟨rfl,k+1,rfl,by omega,by go_num,?_⟩;have:=o.out;rw[vo,h.out,j.out.1,gG rfl,qD _ _ (by omega) j.out.2]
  .obtain rfl:k=8:=by omega
   have o:=gx (At x y f 8 (by omega));clear m;go_wp2;go_loopg[6,8] 7 (fun g n i wr=>w=wr/\∃k:Nat,g=7-k/\k<=7/\i=.int .i64 (14-k)/\n=.int .i64 (xw (rp x y 8) k));case atStart=>exact⟨rfl,0,rfl,by omega,rfl,rfl⟩
   case round=>
    obtain⟨rfl,k,rfl,q,rfl,rfl⟩:=hrel;have r:=gx (Gy (rp x y 8) o k q);by_cases m:k<7
    .have hb:=NI (xw (rp x y 8) k) (14-k) (by have:=r.out;omega);have j:=gx (Jh 285 (14-k-8) 9 (by decide) (by omega));rcases I3 (xw (rp x y 8) k >>> (14-k)) with e|e
     all_goals
      rw[e] at hb;have h:=gx e;clear e;go_wp2;go_roundg (7-(k+1));case measure=>omega
     case rel=>
      refine⟨rfl,k+1,rfl,by omega,by go_num,?_⟩;show _=Value.int .i64 (kM.IN (xw (rp x y 8) k) (14-k));unfold kM.IN;rw[h.out];rfl
     case rel=>
      refine⟨rfl,k+1,rfl,by omega,by go_num,?_⟩;have f:=j.1;rw[show((285:Nat):Int)=285 from rfl] at f;show _=Value.int .i64 (kM.IN (xw (rp x y 8) k) (14-k));unfold kM.IN;rw[h.out,f,gG rfl,qD _ _ (by have:=r.out;omega) j.out.2]
    .obtain rfl:k=7:=by omega
     go_wp2;go_ret;exact⟨by show _=Ending.returned (.int .u8 (kM.mul x y));rw[<-C.out,<-Oe];rfl,rfl⟩
theorem CV(x:Nat)(o:x<256)(w:World):
  Calls prog 126 #[.int .u8 x] w (Same (.int .u8 (kM.inv x)) w):=by
 have r:=gx (kM.Ob x o);go_enter func126,ntmps126;go_wp2;go_loopg[3] 255 (fun g b wr=>w=wr/\∃k:Nat,g=256-k/\1<=k/\k<=256/\b=.int .i64 k/\Hid (kM.pq x (256-k) k=kM.inv x));case atStart=>exact⟨rfl,1,rfl,by omega,by omega,rfl,r⟩
 case round=>
  obtain⟨rfl,k,rfl,C,E,rfl,j⟩:=hrel;by_cases f:k<256
  .have q:=gx (show kM.pq x (256-k) k=if kM.mul x k=1 then k else kM.pq x (256-(k+1)) (k+1) by rw[<-kM.uC x k o (by omega),show 256-k=256-(k+1)+1 by omega];rfl)
   by_cases m:kM.mul x k=1
   .have h:=gx m;clear m;go_wp2_with (go_at_call 109;refine(oQ _ _ o f _).mono ?_;rintro e w'⟨rfl,rfl⟩;rw[h.out]);go_ret;exact⟨by rw[<-j.out,q.out,gG h.out];rfl,rfl⟩
   .have B:(((kM.mul x k:Nat):Int)==1)=false:=by rw[jB];omega
    have h:=gx m;clear m;go_wp2_with (go_at_call 109;refine(oQ _ _ o f _).mono ?_;rintro e w'⟨rfl,rfl⟩);go_roundg (256-(k+1));case measure=>omega
    case rel=>exact⟨rfl,k+1,rfl,by omega,by omega,by go_num,by rw[q.out,gC h.out] at j;exact j⟩
  .obtain rfl:k=256:=by omega
   go_wp2;go_ret;exact⟨by rw[<-j.out];rfl,rfl⟩
end Go.Proofs.YthhcdfjijagalaaGreat

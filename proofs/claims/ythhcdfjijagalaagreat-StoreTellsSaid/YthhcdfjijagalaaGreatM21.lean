import Derived.Test.YthhcdfjijagalaaGreatM16
import Derived.Test.YthhcdfjijagalaaGreatM20
set_option linter.all false
set_option maxHeartbeats 2000000
set_option maxRecDepth 100000
namespace Go.Proofs.YthhcdfjijagalaaGreat
open Qz Go.Proofs.Tryz Go.RowKit
def wK(h:Hm):Value:=.agg #[h.s,(h.a,h.b,h.cap)]
def La(H:List Hm)(k:Int)(w:World)(e:Ending)(w':World):Prop:=
 Below w w w'/\((∃(i:Nat) (h:i<H.length),e=.returned i/\H[i].s=k/\∀j (h:j<H.length),j<i->H[j].s≠k)∨(e=.returned (.int .i64 (-1))/\∀j (h:j<H.length),H[j].s≠k))
theorem qA{w:World}{b off n cap:Nat}{H:List Hm}(h:Sl w 2 (some (b,off)) n cap (rows jE H))(i:Nat)(hi:i<H.length):w.cell? (b,off+i*2)=some (.int .i64 H[i].s)/\w.cell? ⟨b,off+i*2+1,none⟩=some (.slice H[i].a H[i].b.length H[i].cap):=by
 have j:=h.len;rw[lz mq] at j;have e:(rows jE H)[i*2+0]?=some (.int .i64 H[i].s):=qp mq H i 0 hi (by decide);have f:(rows jE H)[i*2+1]?=some (.slice H[i].a H[i].b.length H[i].cap):=qp mq H i 1 hi (by decide);exact⟨h.cell (by omega) e,h.cell (by omega) f⟩
theorem Bm(h:Hm)(B:Nat)(k:Int)(w:World)(hc:w.cell? (B,gy)=some (.int .i64 k)):Calls prog 77 #[wK h,(B,gy)] w (m7 (.bool (h.s==k)) w):=by
 obtain⟨s,a,cap,b⟩:=h;unfold wK;simp only;have e:=iM _ _ hc;have q:=(ik (o:=.cells #[s,(a,b,cap)] 66) e).trans hc;go_enter func77,ntmps77;go_wp2_with fail;go_ret;exact⟨rfl,gZ.alloc gM _⟩
theorem B7(a:Option Addr)(n cap:Nat)(H:List Hm)(B:Nat)(k:Int)(w:World)(h:Sl w 2 a n cap (rows jE H))(hc:w.cell? (B,gy)=some (.int .i64 k)):Calls prog 48 #[(a,n,cap),.func (Fn.func 77) #[] #[.pointer (some (B,gy))]] w (La H k w):=by
 have N:=gx (show H.length=n from by have:=h.len;rw[lz mq] at this;omega);have U:=h.le;have C:=h.max;unfold maxLen at C;have O:=iM _ _ hc;have Q:=gx hc;go_enter func48,ntmps48;go_wp2_with fail;go_loopg[8] n (fun g V wr=>∃m:Nat,g=n-m/\m<=n/\V=.int .i64 (m:Int)/\Below w w wr/\Hid (∀j (h:j<H.length),j<m->H[j].s≠k));case atStart=>exact⟨0,rfl,by omega,rfl,iU _ _,gx (fun j _ q=>absurd q (by omega))⟩
 case round=>
  obtain⟨m,rfl,hm,rfl,hb,F⟩:=hrel;by_cases K:m<n
  .have r:m<H.length:=by rw[N.out];exact K
   obtain⟨b,o,rfl,-⟩:=h.addr (by omega);obtain⟨G,I⟩:=qA (h.below hb) m r;have D:=gx (fun W (P:Below w w W)=>Bm H[m] B k W ((P.cell (p:=(B,gy)) O).trans hc));have i0:(0:Int)<=(m:Int):=by omega
   have i1:(m:Int)<(n:Int):=by omega
   obtain⟨z,E⟩:∃z,H[m]=z:=⟨_,rfl⟩;rw[E] at G I D;replace E:=gx E;unfold wK at D;clear hc;by_cases f:z.s=k
   .have L:(z.s==k)=true:=by simpa using f
    rw[L] at D;replace f:=gx f;obtain⟨zs,Y,zc,Z⟩:=z;simp only at G I D;go_wp2_with fail;go_at_call 77;refine(D _ hb).mono ?_;rintro e X⟨rfl,b1⟩;go_wp2_with fail;go_ret;exact⟨gH hb b1,.inl ⟨m,r,rfl,by rw[E.out];exact f,F⟩⟩
   .have L:(z.s==k)=false:=by simpa using f
    rw[L] at D;replace f:=gx f;obtain⟨zs,Y,zc,Z⟩:=z;simp only at G I D;go_wp2_with fail;go_at_call 77;refine(D _ hb).mono ?_;rintro e X⟨rfl,b1⟩;go_wp2_with fail;go_roundg (n-(m+1));case measure=>omega
    case rel=>
     refine⟨m+1,rfl,by omega,by go_num,gH hb b1,gx (fun j q S=>?_)⟩;by_cases e:j=m;·subst e;rw[E.out];exact f
     .exact F j q (by omega)
  .obtain rfl:m=n:=by omega
   go_wp2_with fail;go_ret;exact⟨hb,.inr ⟨rfl,fun j q=>F j q (by rw[<-N.out];exact q)⟩⟩
theorem Cf(h:Hm)(B:Nat)(k:Int)(w:World)(hc:w.cell? (B,gy)=some (.int .i64 k)):Calls prog 79 #[wK h,(B,gy)] w (m7 (.bool (h.s==k)) w):=by
 obtain⟨s,a,cap,b⟩:=h;unfold wK;simp only;have e:=iM _ _ hc;have q:=(ik (o:=.cells #[s,(a,b,cap)] 66) e).trans hc;go_enter func79,ntmps79;go_wp2_with fail;go_ret;exact⟨rfl,gZ.alloc gM _⟩
theorem Eb(a:Option Addr)(n cap:Nat)(H:List Hm)(B:Nat)(k:Int)(w:World)(h:Sl w 2 a n cap (rows jE H))(hc:w.cell? (B,gy)=some (.int .i64 k)):Calls prog 48 #[(a,n,cap),.func (Fn.func 79) #[] #[.pointer (some (B,gy))]] w (La H k w):=by
 have N:=gx (show H.length=n from by have:=h.len;rw[lz mq] at this;omega);have U:=h.le;have C:=h.max;unfold maxLen at C;have O:=iM _ _ hc;have Q:=gx hc;go_enter func48,ntmps48;go_wp2_with fail;go_loopg[8] n (fun g V wr=>∃m:Nat,g=n-m/\m<=n/\V=.int .i64 (m:Int)/\Below w w wr/\Hid (∀j (h:j<H.length),j<m->H[j].s≠k));case atStart=>exact⟨0,rfl,by omega,rfl,iU _ _,gx (fun j _ q=>absurd q (by omega))⟩
 case round=>
  obtain⟨m,rfl,hm,rfl,hb,F⟩:=hrel;by_cases K:m<n
  .have r:m<H.length:=by rw[N.out];exact K
   obtain⟨b,o,rfl,-⟩:=h.addr (by omega);obtain⟨G,I⟩:=qA (h.below hb) m r;have D:=gx (fun W (P:Below w w W)=>Cf H[m] B k W ((P.cell (p:=(B,gy)) O).trans hc));have i0:(0:Int)<=(m:Int):=by omega
   have i1:(m:Int)<(n:Int):=by omega
   obtain⟨z,E⟩:∃z,H[m]=z:=⟨_,rfl⟩;rw[E] at G I D;replace E:=gx E;unfold wK at D;clear hc;by_cases f:z.s=k
   .have L:(z.s==k)=true:=by simpa using f
    rw[L] at D;replace f:=gx f;obtain⟨zs,Y,zc,Z⟩:=z;simp only at G I D;go_wp2_with fail;go_at_call 79;refine(D _ hb).mono ?_;rintro e X⟨rfl,b1⟩;go_wp2_with fail;go_ret;exact⟨gH hb b1,.inl ⟨m,r,rfl,by rw[E.out];exact f,F⟩⟩
   .have L:(z.s==k)=false:=by simpa using f
    rw[L] at D;replace f:=gx f;obtain⟨zs,Y,zc,Z⟩:=z;simp only at G I D;go_wp2_with fail;go_at_call 79;refine(D _ hb).mono ?_;rintro e X⟨rfl,b1⟩;go_wp2_with fail;go_roundg (n-(m+1));case measure=>omega
    case rel=>
     refine⟨m+1,rfl,by omega,by go_num,gH hb b1,gx (fun j q S=>?_)⟩;by_cases e:j=m;·subst e;rw[E.out];exact f
     .exact F j q (by omega)
  .obtain rfl:m=n:=by omega
   go_wp2_with fail;go_ret;exact⟨hb,.inr ⟨rfl,fun j q=>F j q (by rw[<-N.out];exact q)⟩⟩
theorem EC(h:Hm)(B f off:Nat)(k:Int)(w:World)(hc:w.cell? (B,gy)=some (.pointer (some (f,off))))(hd:w.cell? (f,off+2)=some (.int .i64 k)):Calls prog 49 #[wK h,(B,gy)] w (m7 (.bool (h.s==k)) w):=by
 obtain⟨s,a,cap,b⟩:=h;unfold wK;simp only;have j:=iM _ _ hc;have e:=iM _ _ hd;have q:=(ik (o:=.cells #[s,(a,b,cap)] 66) j).trans hc;have m:=(ik (o:=.cells #[s,(a,b,cap)] 66) e).trans hd;go_enter func49,ntmps49;go_wp2_with fail;go_quiet (fail);go_wp2_with fail;go_ret;exact⟨rfl,below_drewN (gZ.alloc gM _) _⟩
theorem FR(a:Option Addr)(n cap:Nat)(H:List Hm)(B F off:Nat)(k:Int)(w:World)(h:Sl w 2 a n cap (rows jE H))(hc:w.cell? (B,gy)=some (.pointer (some (F,off))))(hd:w.cell? (F,off+2)=some (.int .i64 k)):Calls prog 48 #[(a,n,cap),.func (Fn.func 49) #[] #[.pointer (some (B,gy))]] w (La H k w):=by
 have P:=gx (show H.length=n from by have:=h.len;rw[lz mq] at this;omega);have X:=h.le;have C:=h.max;unfold maxLen at C;have S:=iM _ _ hc;have L:=iM _ _ hd;have U:=gx hc;go_enter func48,ntmps48;go_wp2_with fail;go_loopg[8] n (fun g Y wr=>∃m:Nat,g=n-m/\m<=n/\Y=.int .i64 (m:Int)/\Below w w wr/\Hid (∀j (h:j<H.length),j<m->H[j].s≠k));case atStart=>exact⟨0,rfl,by omega,rfl,iU _ _,gx (fun j _ q=>absurd q (by omega))⟩
 case round=>
  obtain⟨m,rfl,hm,rfl,hb,G⟩:=hrel;by_cases N:m<n
  .have r:m<H.length:=by rw[P.out];exact N
   obtain⟨b,o,rfl,-⟩:=h.addr (by omega);obtain⟨I,K⟩:=qA (h.below hb) m r;have D:=gx (fun W (Q:Below w w W)=>EC H[m] B F off k W ((Q.cell (p:=(B,gy)) S).trans hc) ((Q.cell (p:=(F,off+2)) L).trans hd));have i0:(0:Int)<=(m:Int):=by omega
   have i1:(m:Int)<(n:Int):=by omega
   obtain⟨z,E⟩:∃z,H[m]=z:=⟨_,rfl⟩;rw[E] at I K D;replace E:=gx E;unfold wK at D;clear hc;by_cases f:z.s=k
   .have O:(z.s==k)=true:=by simpa using f
    rw[O] at D;replace f:=gx f;obtain⟨zs,za,zc,zb⟩:=z;simp only at I K D;go_wp2_with fail;go_at_call 49;refine(D _ hb).mono ?_;rintro e Z⟨rfl,b1⟩;go_wp2_with fail;go_ret;exact⟨gH hb b1,.inl ⟨m,r,rfl,by rw[E.out];exact f,G⟩⟩
   .have O:(z.s==k)=false:=by simpa using f
    rw[O] at D;replace f:=gx f;obtain⟨zs,za,zc,zb⟩:=z;simp only at I K D;go_wp2_with fail;go_at_call 49;refine(D _ hb).mono ?_;rintro e Z⟨rfl,b1⟩;go_wp2_with fail;go_roundg (n-(m+1));case measure=>omega
    case rel=>
     refine⟨m+1,rfl,by omega,by go_num,gH hb b1,gx (fun j q V=>?_)⟩;by_cases e:j=m;·subst e;rw[E.out];exact f
     .exact G j q (by omega)
  .obtain rfl:m=n:=by omega
   go_wp2_with fail;go_ret;exact⟨hb,.inr ⟨rfl,fun j q=>G j q (by rw[<-P.out];exact q)⟩⟩
theorem Gi(x:Int)(w:World):Calls prog 67 #[x] w (Same (.bool false) w):=by
 have e:(x !=x)=false:=by simp
 go_enter func67,ntmps67;go_wp2_with fail;go_ret;exact⟨rfl,rfl⟩
theorem Ei(x:Int)(w:World):Calls prog 91 #[x] w (Same (.bool false) w):=by
 have e:(x !=x)=false:=by simp
 go_enter func91,ntmps91;go_wp2_with fail;go_ret;exact⟨rfl,rfl⟩
theorem Ef(x y:Int)(w:World):Calls prog 66 #[x,y] w (Same (.bool (decide (x<y))) w):=by
 go_enter func66,ntmps66;go_wp2_with fail;go_at_call 91;refine(Ei _ _).mono ?_;rintro e f⟨rfl,rfl⟩;go_wp2_with fail;go_ret;exact⟨rfl,rfl⟩
def Pd(l:List Int)(c:Int)(w:World)(e:Ending)(w':World):Prop:=
 w'=w/\∃i:Nat,i<=l.length/\e=.returned (.tuple #[i,.bool (decide (l[i]?=some c))])/\(∀j (h:j<l.length),j<i->l[j]<c)/\(∀j (h:j<l.length),i<=j->c<=l[j])
theorem Bh(a:Option Addr)(n cap:Nat)(l:List Int)(c:Int)(w:World)(h:Sl w 1 a n cap (l.map (Value.int .i64)))(X:∀i j (hi:i<l.length) (hj:j<l.length),i<j->l[i]<l[j])(hn:n<=1000):Calls prog 35 #[(a,n,cap),c] w (Pd l c w):=by
 have C:=gx (show l.length=n from by have:=h.len;simpa using this);have U:=gx X;clear X;go_enter func35,ntmps35;go_wp2_with fail;go_loopg[7,8] n (fun g s9 S wr=>∃i j:Nat,g=j-i/\i<=j/\j<=n/\s9=.int .i64 (i:Int)/\S=.int .i64 (j:Int)/\w=wr/\Hid (∀k (q:k<l.length),k<i->l[k]<c)/\Hid (∀k (q:k<l.length),j<=k->c<=l[k]));case atStart=>exact⟨0,n,rfl,by omega,by omega,rfl,rfl,rfl,gx (fun k _ q=>absurd q (by omega)),gx (fun k q ae=>absurd q (by rw[C.out];omega))⟩
 case round=>
  obtain⟨i,j,rfl,L,ad,rfl,rfl,rfl,I,K⟩:=hrel;by_cases P:i<j
  .obtain⟨b,off,rfl,-⟩:=h.addr (by omega);obtain⟨m,V⟩:∃m,m=(i+j)/2:=⟨_,rfl⟩;have af:m<j:=by omega
   have ab:i<=m:=by omega
   have B:m<l.length:=by rw[C.out];omega
   have Q:w.cell? (b,off+m)=some (.int .i64 l[m]):=h.cell (by omega) (by simp[B]);have D:=gx (fun W=>Ef l[m] c W);have s1:IntKind.i64.wrap ((i:Int)+(j:Int))=(i:Int)+(j:Int):=iO _ (by omega);have s2:IntKind.u64.wrap ((i:Int)+(j:Int))=(i:Int)+(j:Int):=IntWalk.u64_in _ (by omega);have s3:((i:Int)+(j:Int))/2=(m:Int):=by omega
   have i0:(0:Int)<=(m:Int):=by omega
   have i1:(m:Int)<(n:Int):=by omega
   replace V:=gx V;obtain⟨x,o⟩:∃x,l[m]=x:=⟨_,rfl⟩;rw[o] at Q D;replace o:=gx o;by_cases f:x<c
   .have G:decide (x<c)=true:=kr f;rw[G] at D;replace f:=gx f;go_wp2_with fail;go_at_call 66;refine(D _).mono ?_;rintro e Y⟨rfl,rfl⟩;go_wp2_with fail;go_roundg (j-(m+1));case measure=>omega
    case rel=>
     refine⟨m+1,j,rfl,by omega,by omega,by go_num,rfl,rfl,gx (fun k q O=>?_),K⟩;by_cases e:k=m;·subst e;rw[o.out];exact f
     .exact Int.lt_trans (U k m q B (by omega)) (by rw[o.out];exact f)
   .have G:decide (x<c)=false:=ju f;rw[G] at D;replace f:=gx (Int.not_lt.1 f);go_wp2_with fail;go_at_call 66;refine(D _).mono ?_;rintro e Y⟨rfl,rfl⟩;go_wp2_with fail;go_roundg (m-i);case measure=>omega
    case rel=>
     refine⟨i,m,rfl,by omega,by omega,rfl,by go_num,rfl,I,gx (fun k q O=>?_)⟩;by_cases e:k=m;·subst e;rw[o.out];exact f
     .have:=U m k B q (by omega);rw[o.out] at this;exact Int.le_of_lt (Int.lt_of_le_of_lt f this)
  .obtain rfl:i=j:=by omega
   clear P L;by_cases N:i<n
   .have r:i<l.length:=by rw[C.out];exact N
    obtain⟨b,off,rfl,-⟩:=h.addr (by omega);have Q:w.cell? (b,off+i)=some (.int .i64 l[i]):=h.cell (by omega) (by simp[r]);obtain⟨x,o⟩:∃x,l[i]=x:=⟨_,rfl⟩;rw[o] at Q;have i0:(0:Int)<=(i:Int):=by omega
    have u0:(i:Int)<(n:Int):=by omega
    replace o:=gx o;by_cases F:x=c
    .subst F;have G:(x==x)=true:=by simp
     go_wp2_with fail;go_ret2;exact⟨rfl,i,by omega,by rw[kr (show l[i]?=some x by rw[jz r,o.out])];rfl,I,K⟩
    .have G:(x==c)=false:=jB.2 F;replace F:=gx F;go_wp2_with fail;go_at_call 67;refine(Gi _ _).mono ?_;rintro e Y⟨rfl,rfl⟩;go_wp2_with fail;go_ret2;exact⟨rfl,i,by omega,by rw[ju (show¬l[i]?=some c by rw[jz r,o.out];exact fun Z=>F.out (kO Z))];rfl,I,K⟩
   .obtain rfl:n=i:=by omega
    have E:=gx (ju (p:=l[n]?=some c) (fun e=>by rw[rz (by rw[C.out];exact jb _)] at e;cases e));go_wp2_with fail;go_ret2;exact⟨rfl,n,by rw[C.out];exact jb _,by rw[E.out];rfl,I,K⟩
end Go.Proofs.YthhcdfjijagalaaGreat

import Derived.Test.YthhcdfjijagalaaGreatM06
import Derived.Laws.IdiomStrings
import Derived.Lib.BufferRead
import Derived.WalkSpells
set_option linter.all false
set_option maxHeartbeats 1000000
namespace Go.Proofs.YthhcdfjijagalaaGreat
open Qz Go.Proofs.Tryz Go.RowKit
theorem Bt.str{w:World}{a:Option Addr}{n cap:Nat}{l:List UInt8}(h:Bt w a n cap l):(convert 64 9 (a,n,cap)).run prog w=.ok (.string ⟨l.toArray⟩) w:=by
 have m:=Bt.n h;cases a with
 |none=>
  have q:=h.nil rfl;have o:=h.le;obtain rfl:n=0:=by omega
  obtain rfl:l=[]:=qj m;exact Lib.run_convert_nil_bytes w 64 9 5 cap underlying64 underlying5 underlying9
 |some p=>
  subst m;refine run_convert_bytes_back w 64 9 5 p cap l underlying64 underlying5 underlying9 ?_;intro j f;obtain⟨b,off,e,hc⟩:=h.addr (by omega);cases e;rw[je,hc j _ (Ar l j f)];simp[iB,List.getD,f]
structure Gx (w W:World) (t Gw Go n cw co:Nat) (A B:List Wr):Prop where
 mw:Mo W w.heap.size Gw n cw A
 mo:Mo W w.heap.size Go n co B
 lw:A.length=n
 lo:B.length=n
 ww:∀r∈A,r.l.length=n
 wo:∀r∈B,r.l.length=n
 gg:Gw≠Go
 rr:∀r∈A,∀q∈B,r.g≠q.g
 EI:uL W t
 below:Below w w W
section
variable {w W W' : World} {t Gw Go n cw co : Nat} {A B : List Wr}
theorem Gx.td(h:Gx w W t Gw Go n cw co A B)(hb:Below W W W'):Gx w W' t Gw Go n cw co A B:=
 ⟨h.mw.below hb,h.mo.below hb,h.lw,h.lo,h.ww,h.wo,h.gg,h.rr,h.EI.below hb,h.below.trans (hb.mono h.below.size)⟩
theorem Gx.alloc(h:Gx w W t Gw Go n cw co A B)(o:Obj):Gx w (W.alloc o) t Gw Go n cw co A B:=h.td (gZ.alloc gM o)
theorem Gx.drewN(h:Gx w W t Gw Go n cw co A B)(k:Nat):Gx w (W.drewN k) t Gw Go n cw co A B:=h.td (below_drewN gZ k)
theorem Gx.symm(h:Gx w W t Gw Go n cw co A B):Gx w W t Go Gw n co cw B A:=⟨h.mo,h.mw,h.lo,h.lw,h.wo,h.ww,lE h.gg,fun r f q e=>lE (h.rr q e r f),h.EI,h.below⟩
theorem Mo.Pt{base e G G' n C c f:Nat}{A B:List Wr}(h:Mo W base G n c A)(j:Mo W e G' C f B){r:Wr}(q:r∈A):r.g≠G':=by
 obtain⟨_,m⟩:=h.PI q;obtain⟨_,o⟩:=j.jJ;exact km m o (by decide)
theorem Gx.swap(h:Gx w W t Gw Go n cw co A B)(i k:Nat)(hi:i<A.length)(q:k<A.length):
  Gx w ((W.setCell (Gw,i) A[k].v).setCell (Gw,k) A[i].v) t Gw Go n cw co ((A.set i A[k]).set k A[i]) B:=by
 have j:gU W ((W.setCell (Gw,i) A[k].v).setCell (Gw,k) A[i].v) [Gw]:=((gU.refl W _).setCell (.inl (by simp)) _).setCell (.inl (by simp)) _;have e:∀r∈(A.set i A[k]).set k A[i],r∈A:=fun r f=>by
  rcases lH f with m|rfl
  .rcases lH m with o|rfl
   .exact o
   .exact iE _
  .exact iE _
 refine⟨h.mw.swap i k hi q,h.mo.only j (by simpa using lE h.gg) (fun r f=>by simpa using h.mo.Pt h.mw f),by simpa using h.lw,h.lo,fun r f=>h.ww r (e r f),h.wo,h.gg,fun r f=>h.rr r (e r f),h.EI.only j (by simpa using h.mw.IR h.EI),?_⟩;exact(h.below.setCell h.mw.lt.1 _).setCell h.mw.lt.1 _
theorem Gx.row(h:Gx w W t Gw Go n cw co A B)(i:Nat)(hi:i<A.length){C:List UInt8}(G:C.length=n)(o:gU W W' [A[i].g])(I:W'.ownsRow w.heap.size 5 1 A[i].v A[i].l.length (cb C)):
  Gx w W' t Gw Go n cw co (A.set i ⟨A[i].g,A[i].cap,C⟩) B:=by
 have m:A[i]∈A:=iE _;have f:∀r∈A.set i ⟨A[i].g,A[i].cap,C⟩,r.l.length=n/\∃q∈A,r.g=q.g:=fun r j=>by
  rcases lH j with F|rfl
  .exact⟨h.ww r F,r,F,rfl⟩
  .exact⟨G,A[i],m,rfl⟩
 refine⟨h.mw.setRow i hi (by rw[G,h.ww _ m]) o I,h.mo.only o (by simpa using lE (h.mw.Pt h.mo m)) (fun r j=>by simpa using lE (h.rr _ m r j)),by simpa using h.lw,h.lo,fun r j=>(f r j).1,h.wo,h.gg,fun r j q K=>?_,h.EI.only o (by simpa using h.mw.JA h.EI m),h.below.trans (o.nZ h.below.size (by simpa using(h.mw.Oc m).1))⟩;obtain⟨_,L,E,e⟩:=f r j;rw[e];exact h.rr L E q K
theorem Gx.Ct(h:Gx w W t Gw Go n cw co A B)(i k:Nat)(hi:i<A.length)(e:k<A.length):gQ ((A.set i A[k]).set k A[i])=((gQ A).set i ((gQ A)[k]'(by simpa[gQ] using e))).set k ((gQ A)[i]'(by simpa[gQ] using hi)):=by
 simp[gQ,nz]
theorem Gx.box(h:Gx w W t Gw Go n cw co A B){b:Nat}{cs:Array Value}(hb:W.heap[b]?=some (.cells cs 3)){r:Wr}(j:r∈A)(f:gU W W' [r.g]):W'.heap[b]?=some (.cells cs 3):=by
 obtain⟨_,e⟩:=h.mw.PI j;exact f.jJ hb (by simpa using km hb e (by decide))
theorem Ct(A:List Wr)(i k:Nat)(hi:i<A.length)(e:k<A.length):gQ ((A.set i A[k]).set k A[i])=((gQ A).set i ((gQ A)[k]'(by simpa[gQ] using e))).set k ((gQ A)[i]'(by simpa[gQ] using hi)):=by
 simp[gQ,nz]
theorem pP(A:List Wr)(c k:Nat)(hc:c<A.length)(e:k<A.length)(i j:Nat):gJ.ja (gQ ((A.set c A[k]).set k A[c])) i j=gJ.nM c k (gJ.ja (gQ A)) i j:=by
 rw[Ct A c k hc e,gJ.LA]
theorem mh(A:List Wr):(gQ A).length=A.length:=by simp[gQ]
theorem data_set(A:List Wr)(i:Nat)(r:Wr):gQ (A.set i r)=(gQ A).set i r.l:=by simp[gQ,nz]
end
theorem BZ(b off m cap bx c:Nat)(l:List UInt8)(w:World)(h:Bt w (some (b,off)) m cap l)(hc:c<m)(o:w.heap[bx]?=some (.cells #[c] 3)):
  Calls prog 133 #[(some (b,off),m,cap),(bx,gy)] w (Same (.bool (decide (l.getD c 0≠0))) w):=by
 have r:=h.le;have e:=h.max;unfold maxLen at e;have C:w.cell? (bx,gy)=some (.int .i64 (c:Int)):=gw o;have c1:=Bt.at h c hc;have q:=gx (show decide (l.getD c 0≠0)=((iB l c:Int) !=0) by
  rw[Bool.eq_iff_iff];simp only[yz,ij,ne_eq];unfold iB;constructor
  .intro f j;exact f (UInt8.toNat_inj.1 (by simpa using j))
  .intro f j;exact f (by rw[j];rfl))
 rw[q.out];generalize iB l c=x at *;go_enter func133,ntmps133;go_wp2;go_ret;exact⟨rfl,rfl⟩
def IZ(n c:Nat)(R:List Rw)(w:World)(e:Ending)(w':World):Prop:=
 w=w'/\((∃k,k<n/\e=.returned (.int .i64 (k:Int))/\∃h:k<R.length,R[k].l.getD c 0≠0)∨(e=.returned (.int .i64 (-1))/\∀k (h:k<R.length),R[k].l.getD c 0=0))
theorem zC(a:Option Addr)(n cap bx c m:Nat)(R:List Rw)(w:World)(h:Ms w a n cap R)(X:∀r∈R,r.l.length=m)(hc:c<m)(K:w.heap[bx]?=some (.cells #[c] 3)):
  Calls prog 132 #[(a,n,cap),.func (Fn.func 133) #[] #[.pointer (some (bx,gy))]] w (IZ n c R w):=by
 have V:=h.sl.le;have E:=h.sl.max;unfold maxLen at E;have O:=gx h.jO;go_enter func132,ntmps132;go_wp2;go_loopg[8] n (fun g i wr=>∃k:Nat,g=n-k/\k<=n/\i=.int .i64 (k:Int)/\w=wr/\Hid (∀j (h:j<R.length),j<k->R[j].l.getD c 0=0));case atStart=>exact⟨0,rfl,by omega,rfl,rfl,gx (fun j _ q=>absurd q (by omega))⟩
 case round=>
  obtain⟨k,rfl,hk,rfl,rfl,N⟩:=hrel;by_cases C:k<n
  .have f:k<R.length:=by rw[O.out];exact C
   obtain⟨b,off,rfl,_⟩:=h.sl.addr (by omega);obtain⟨P,hb⟩:=h.at k f;have S:=X _ (iE f);have F:R[k].n=m:=(Bt.n hb).symm.trans S;rw[F] at P hb;obtain⟨b1,G,Q,_⟩:=hb.addr (by omega);rw[Q] at P hb;have D:=gx (BZ b1 G m _ bx c _ w hb hc K);have Z:=gx (show R[k].l.getD c 0=R[k].l.getD c 0 from rfl);generalize I:R[k].l.getD c 0=z at D;replace I:=gx I;clear F Q S;by_cases o:z=0
   .subst o;have L:decide ((0:UInt8)≠0)=false:=by decide
    rw[L] at D;go_wp2_with fail;go_at_call 133;refine(D).mono ?_;rintro e Y⟨rfl,rfl⟩;go_wp2_with fail;go_roundg (n-(k+1));case measure=>omega
    case rel=>
     refine⟨k+1,rfl,by omega,by go_num,rfl,gx (fun j q U=>?_)⟩;by_cases e:j=k;·subst e;exact I
     .exact N j q (by omega)
   .have L:decide (z≠0)=true:=by simpa using o
    rw[L] at D;go_wp2_with fail;go_at_call 133;refine(D).mono ?_;rintro e Y⟨rfl,rfl⟩;go_wp2_with fail;go_ret;exact⟨rfl,.inl ⟨k,C,rfl,f,by rw[I.out];exact o⟩⟩
  .obtain rfl:k=n:=by omega
   go_wp2_with fail;go_ret;exact⟨rfl,.inr ⟨rfl,fun j q=>N j q (by rw[<-O.out];exact q)⟩⟩
theorem ma(a:Option Addr)(n cap:Nat)(l:List UInt8)(w:World)(h:Bt w a n cap l)(f:n<=140737488355328):
  Calls prog 81 #[(a,n,cap)] w fun e w'=>∃v,e=.returned v/\Below w w w'/\w'.ownsRow w.heap.size 5 1 v n (cb l):=by
 cases a with
 |none=>
  have r:=h.nil rfl;have C:=h.le;obtain rfl:n=0:=by omega
  obtain rfl:cap=0:=r;have B:=fun o=>uV (P:=prog) o 64 5 none 0 0 0 0 underlying64;go_enter func81,ntmps81;go_wp2;go_ret;exact⟨_,rfl,iU _ _,by have:=h.len;simp at this;rw[this];exact iY _ _ _ _⟩
 |some p=>
  have B:=fun o=>uV (P:=prog) o 64 5 (some p) n cap 0 0 underlying64;have q:=gx (Bt.n h);have E:l.length<=140737488355328:=by rw[q.out];exact f
  go_enter func81,ntmps81;go_wp2_with (at_builtin;(refine wpList_append_bytes rfl (.tmp 5) (.tmp 6) rfl w.heap.size (some (w,gy),gy,gy) [] l rfl (xh w w.heap.size gM _ [] (by decide) rfl) (some p) n cap rfl (h.alloc _) ?d1 ?d2 ?_);(case d1=>simp;omega);(case d2=>simp);intro v2 F j m);go_ret;refine⟨v2,rfl,rX (gZ.alloc gM _) (by simp) m gM,?_⟩;rw[mZ,q.out] at j;exact j
end Go.Proofs.YthhcdfjijagalaaGreat

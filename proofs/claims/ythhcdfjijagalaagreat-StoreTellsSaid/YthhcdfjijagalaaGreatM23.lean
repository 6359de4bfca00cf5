import Derived.Test.YthhcdfjijagalaaGreatM21
import Derived.Test.YthhcdfjijagalaaGreatM22
set_option linter.all false
set_option maxHeartbeats 4000000
set_option maxRecDepth 100000
namespace Go.Proofs.YthhcdfjijagalaaGreat
open Qz Go.Proofs.Tryz Go.RowKit
theorem pd{w:World}{b off n cap:Nat}{D:List Dm}(h:Sl w 2 (some (b,off)) n cap (rows mT D))(i:Nat)(hi:i<D.length):w.cell? (b,off+i*2)=some (.bool D[i].g)/\w.cell? ⟨b,off+i*2+1,none⟩=some (.slice D[i].a D[i].H.length D[i].cap):=by
 have j:=h.len;rw[lz lJ] at j;have e:(rows mT D)[i*2+0]?=some (.bool D[i].g):=qp lJ D i 0 hi (by decide);have f:(rows mT D)[i*2+1]?=some (.slice D[i].a D[i].H.length D[i].cap):=qp lJ D i 1 hi (by decide);exact⟨h.cell (by omega) e,h.cell (by omega) f⟩
theorem ur{H:List Hm}{k:Int}{i:Nat}(hi:i<H.length)(e:H[i].s=k)(f:∀j (h:j<H.length),j<i->H[j].s≠k):gE.find (H.map Hm.hd) k=some H[i].b:=by
 induction H generalizing i with
 |nil=>exact absurd hi (by simp)
 |cons x H q=>
  rw[lI];unfold gE.find;cases i with
  |zero=>rw[gG (by exact e)];rfl
  |succ i=>
   rw[gC (by exact f 0 (by simp) (by omega))];exact q (by simpa using hi) e (fun j m o=>f (j+1) (by simpa using m) (by omega))
theorem uq{H:List Hm}{k:Int}(e:∀j (h:j<H.length),H[j].s≠k):gE.find (H.map Hm.hd) k=none:=by
 induction H with
 |nil=>rfl
 |cons x H m=>
  rw[lI];unfold gE.find;rw[gC (by exact e 0 (by simp))];exact m (fun j f=>e (j+1) (by simpa using f))
theorem Fg{x:Dm}{k:Int}(h:x.g=true):gE.jx x.dk k=[]:=by unfold gE.jx;rw[gG (by exact h)]
theorem Lq{x:Dm}{k:Int}(h:x.g=false)(e:gE.find (x.H.map Hm.hd) k=none):gE.jx x.dk k=[]:=by
 unfold gE.jx;rw[gC (by show¬x.g=true;rw[h];decide)];show(gE.find (x.H.map Hm.hd) k).getD []=[];rw[e];rfl
theorem Lr{x:Dm}{k:Int}{b:List UInt8}(h:x.g=false)(e:gE.find (x.H.map Hm.hd) k=some b):gE.jx x.dk k=b:=by
 unfold gE.jx;rw[gC (by show¬x.g=true;rw[h];decide)];show(gE.find (x.H.map Hm.hd) k).getD []=b;rw[e];rfl
theorem zd(D:List Dm)(k:Int)(j:Nat)(f:j<D.length)(L:List (List UInt8))(h:L=(gE.blocks (D.map Dm.dk) k).take j)(b:List UInt8)(hb:gE.jx D[j].dk k=b):L++[b]=(gE.blocks (D.map Dm.dk) k).take (j+1):=by
 have e:(gE.blocks (D.map Dm.dk) k)[j]?=some b:=by simp[gE.blocks,f,hb]
 rw[h,qg,e];rfl
theorem rj(base p:Nat)(m:ig)(k:Int)(w:World)(h:nN w base p m)(ab:m.D.length<=1000):
  Calls prog 50 #[(p,gy),k] w fun e w'=>∃a cap R,e=.returned (.slice a m.D.length cap)/\Ms w' a m.D.length cap R/\gz R=gE.blocks (m.D.map Dm.dk) k/\Below w w w':=by
 obtain⟨da,dc,Z,hd⟩:=gK h.ng;have ap:=h.lt;have C:=gw (i:=3) (gF (o':=.cells #[k] 3) h.box);change _=some m.dv at C;rw[Z] at C;have hH:=h.held;have hY:=h.bytes;clear h Z;generalize m.D=D at *;obtain⟨n,hn⟩:∃n,n=D.length:=⟨_,rfl⟩;rw[<-hn] at hd ab C⊢;have q3:(w.alloc (.cells #[k] 3)).cell? (p,jF)=some (.slice da n dc):=by exact C
 have HD:=gx (hd.alloc (.cells #[k] 3));have HB:=gx (gO w (.cells #[k] 3));have HH:=gx (fun x (S:x∈D)=>gL (hH x S) ((iU w.heap.size w).alloc gM (.cells #[k] 3)));have HY:=gx (fun x (S:x∈D) y (hy:y∈x.H)=>gL (hY x S y hy) ((iU w.heap.size w).alloc gM (.cells #[k] 3)));have HW:=gx ((iU w.heap.size w).alloc gM (.cells #[k] 3));replace hn:=gx hn;clear hd hH hY C;go_enter func50,ntmps50;go_wp2_with fail;obtain⟨I,af⟩:∃I,I=w.alloc (.cells #[k] 3):=⟨_,rfl⟩;rw[<-af] at HD HB HH HY HW q3⊢;obtain⟨B,hB⟩:∃B,B=w.heap.size:=⟨_,rfl⟩;rw[<-hB] at HB⊢;replace hB:=gx hB;clear af;go_wp2_with fail;go_loopg[5,15] n (fun gg s5 aj wr=>∃(j:Nat) (R:List Rw),gg=n-j/\j<=n/\aj=.int .i64 (j:Int)/\Hid (R.length=j)/\Mb I wr none I.heap.size s5 R/\Hid (gz R=(gE.blocks (D.map Dm.dk) k).take j));case atStart=>exact⟨0,[],rfl,by omega,rfl,gx rfl,Mb.nil _ _ gZ _ gM,gx (by simp[gz])⟩
 case round=>
  obtain⟨j,R,rfl,hj,rfl,E,hM,HR⟩:=hrel;obtain⟨wo,rfl⟩:∃wo:World,wo=wr:=⟨_,rfl⟩;have q:=hM.own.im gM (fun k e=>by cases e);have al:=q.size;by_cases ad:j<n
  .have P:j<D.length:=by rw[<-hn.out];exact ad
   obtain⟨db,ak,rfl,-⟩:=HD.addr (by omega);obtain⟨U,V⟩:=pd (HD.below q) j P;have ag:D[j]∈D:=iE P;have HX:=gx (gL (HH _ ag) q);have F:=gx (fun y hy=>gL (HY _ ag y hy) q);have r:=gx (fun b hb=>zd D k j P (gz R) HR b hb);have i0:(0:Int)<=(j:Int):=by omega
   have i1:(j:Int)<(n:Int):=by omega
   have ah:=gx (gB HB q);obtain⟨x,S⟩:∃x,D[j]=x:=⟨_,rfl⟩;rw[S] at U V HX F r;replace S:=gx S;obtain⟨g,xa,xc,H⟩:=x;simp only at U V F;obtain⟨a',X,e',W⟩:=gK HX;simp only[Dm.v,kx,kI] at e';obtain⟨rfl,rfl⟩:=e';simp only at W;replace W:=gx W;go_wp2_with fail;go_at_call 48;refine(B7 xa H.length xc H B k _ (W.alloc _) (gw (gF ah))).mono ?_;rintro e w1⟨b1,hf⟩;have v1:=gB (gO wo (.cells #[.bool g,(xa,H,xc)] 63)) b1;have M1:=gx ((hM.alloc (.cells #[.bool g,(xa,H,xc)] 63)).below b1);have S1:=gx ((W.alloc (.cells #[.bool g,(xa,H,xc)] 63)).below b1);have B1:=gx (fun y hy=>gL (gL (F y hy) (gZ.alloc gM (.cells #[.bool g,(xa,H,xc)] 63))) b1);obtain⟨c0,c1⟩:=lv v1;have ae:=b1.size;simp only[jH] at ae;have G:I.heap.size<=w1.heap.size:=by omega
   clear b1 v1 U V F hM W;rcases hf with⟨i,hi,rfl,N,O⟩|⟨rfl,Q⟩
   .obtain⟨hb,ho,rfl,-⟩:=S1.addr (by omega);obtain⟨U,V⟩:=qA S1 i hi;have BY:=gx (B1 _ (iE hi));have HF:=gx (ur hi N O);have aq:(0:Int)<=(i:Int):=by omega
    have ar:(i:Int)<(H.length:Int):=by omega
    replace N:=gx N;replace O:=gx O;generalize H[i]=y at *;obtain⟨ys,ya,yc,yb⟩:=y;unfold Hm.v at BY;simp only at U V BY HF;cases g with
    |true=>
     have f:=gx (r.out [] (Fg rfl));clear U V;go_wp2_with (refine wpList_append_row rfl (.tmp 29) (.tmp 30) 81 jt rfl I.heap.size _ R rfl M1.out ⟨none,0,0,[]⟩ _ rfl rfl (Sl.none _ _) (fun h=>absurd h (oP _)) (by rw[E.out];omega) G ?_;intro v5 w5 K g5);go_roundg (n-(j+1));case measure=>omega
     case rel=>exact⟨j+1,R++[⟨none,0,0,[]⟩],rfl,by omega,by go_num,gx (by simp[E.out]),K,gx (by rw[<-f.out];simp[gz])⟩
    |false=>
     have f:=gx (r.out yb (Lr rfl HF.out));obtain⟨ao,ai,e',L⟩:=gK BY.out;simp only[kx,kI] at e';obtain⟨rfl,rfl⟩:=e';replace L:=gx L;go_wp2_with (refine wpList_append_row rfl (.tmp 32) (.tmp 39) 81 jt rfl I.heap.size _ R rfl M1.out ⟨ya,yb.length,yc,yb⟩ _ rfl rfl L.out (fun h b o e=>CQ M1.out.own.own BY.out (by decide) b (by have e:ya=_:=e;rw[e];rfl)) (by rw[E.out];omega) G ?_;intro v5 w5 K g5);go_roundg (n-(j+1));case measure=>omega
     case rel=>exact⟨j+1,R++[⟨ya,yb.length,yc,yb⟩],rfl,by omega,by go_num,gx (by simp[E.out]),K,gx (by rw[<-f.out];simp[gz])⟩
   .have HF:=gx (uq Q);replace Q:=gx Q;cases g with
    |true=>
     have f:=gx (r.out [] (Fg rfl));go_wp2_with (refine wpList_append_row rfl (.tmp 29) (.tmp 30) 81 jt rfl I.heap.size _ R rfl M1.out ⟨none,0,0,[]⟩ _ rfl rfl (Sl.none _ _) (fun h=>absurd h (oP _)) (by rw[E.out];omega) G ?_;intro v5 w5 K g5);go_roundg (n-(j+1));case measure=>omega
     case rel=>exact⟨j+1,R++[⟨none,0,0,[]⟩],rfl,by omega,by go_num,gx (by simp[E.out]),K,gx (by rw[<-f.out];simp[gz])⟩
    |false=>
     have f:=gx (r.out [] (Lq rfl HF.out));go_wp2_with (refine wpList_append_row rfl (.tmp 29) (.tmp 30) 81 jt rfl I.heap.size _ R rfl M1.out ⟨none,0,0,[]⟩ _ rfl rfl (Sl.none _ _) (fun h=>absurd h (oP _)) (by rw[E.out];omega) G ?_;intro v5 w5 K g5);go_roundg (n-(j+1));case measure=>omega
     case rel=>exact⟨j+1,R++[⟨none,0,0,[]⟩],rfl,by omega,by go_num,gx (by simp[E.out]),K,gx (by rw[<-f.out];simp[gz])⟩
  .obtain rfl:j=n:=by omega
   obtain⟨a',X,rfl,Y⟩:=hM.ms;rw[E.out] at Y⊢;go_wp2_with fail;go_ret;refine⟨_,_,R,rfl,Y,?_,?_⟩;·rw[HR.out,ld (by simp[gE.blocks,<-hn.out])]
   .exact gH HW q
structure Rd (w0 w:World) (r:Nat) (t:gD.St):Prop where
 cells:∃a n cap,w.heap[r]?=some (.cells #[.slice a n cap,.bool t.ok] 146)/\Bt w0 a n cap t.l
 old:w0.heap.size<=r
 below:Below w0 w0 w
theorem Rd.td{w0 w w':World}{r:Nat}{t:gD.St}{S:List Nat}(h:Rd w0 w r t)(e:gU w w' S)(m:r∉S)(f:∀x∈S,w0.heap.size<=x):Rd w0 w' r t:=by
 obtain⟨a,n,cap,hb,j⟩:=h.cells;exact⟨⟨a,n,cap,e.jJ hb m,j⟩,h.old,h.below.trans (e.nZ h.below.size f)⟩
theorem CH{w:World}{b:Nat}{x y v:Value}{t:TypeId}(h:w.heap[b]?=some (.cells #[x,y] t)):(w.setCell (b,gy) v).heap[b]?=some (.cells #[v,y] t):=by
 rw[yC w b 0 #[x,y] t v h];rfl
theorem xZ{w:World}{b:Nat}{x y v:Value}{t:TypeId}(h:w.heap[b]?=some (.cells #[x,y] t)):(w.setCell (b,ia) v).heap[b]?=some (.cells #[x,v] t):=by
 rw[yC w b 1 #[x,y] t v h];rfl
def Nq(w0:World)(r:Nat)(l:List UInt8)(t:gD.St)(w:World)(e:Ending)(w':World):Prop:=∃a n cap,e=.returned (.slice a n cap)/\Bt w' a n cap l/\Rd w0 w' r t/\gU w w' [r]
theorem zt(w0 w:World)(r k:Nat)(t:gD.St)(Y:k<=255)(h:Rd w0 w r t):Calls prog 124 #[(r,gy),k] w (Nq w0 r (gD.take k t).1 (gD.take k t).2 w):=by
 obtain⟨⟨a,n,cap,hb,o⟩,hold,e⟩:=h;obtain⟨l,ok⟩:=t;simp only at hb o;have E:=gx (Bt.n o);have B:=o.max;have N:=o.le;unfold maxLen at B;obtain⟨V,c1⟩:=lv hb;have W:w.frozen? (r,gy)=false:=gA hb;have X:w.frozen? (r,ia)=false:=gA hb;by_cases j:n<k
 .have C:=gx (show gD.take k ⟨l,ok⟩=(List.replicate k 0,⟨l,false⟩) by unfold gD.take;rw[gG (by simp only[E.out];exact j)]);have P:decide ((n:Int)<(k:Int))=true:=by simpa using j
  have Q:decide (n<k)=true:=by simpa using j
  rw[C.out];go_enter func124,ntmps124;go_wp2_with (refine wpList_make_bytes rfl (.tmp 16) (.tmp 16) rfl k rfl rfl (by omega) ?_;intro S O b3 Z);go_ret;obtain⟨U,K,L,I⟩:=gK O;cases L;have G:gU w S [r]:=((gU.refl w [r]).setCell (.inl (by simp)) _).below b3;have F:=gB (xZ (v:=.bool false) hb) b3;rw[pn] at I;exact⟨_,_,_,rfl,I,⟨⟨a,n,cap,F,o⟩,hold,e.trans (G.nZ e.size (by simpa using hold))⟩,G⟩
 .have C:=gx (show gD.take k ⟨l,ok⟩=(l.take k,⟨l.drop k,ok⟩) by unfold gD.take;rw[gC (by simp only[E.out];exact j)]);have P:decide ((n:Int)<(k:Int))=false:=by simpa using j
  have Q:decide (n<k)=false:=by simpa using j
  have q:k<=n:=by omega
  have m:=Bt.take o q;have f:=Bt.slice o q (jb n);rw[ld (by rw[kG,E.out];exact jb _)] at f;rw[C.out];by_cases hc:cap=k
  .obtain rfl:n=k:=by omega
   subst hc;rw[gG rfl] at f;have m:=gx m;have f:=gx f;go_enter func124,ntmps124;go_wp2;go_ret;exact⟨_,_,_,rfl,m.below (e.setCell hold _),⟨⟨_,_,_,CH hb,by simpa using f.out⟩,hold,e.setCell hold _⟩,(gU.refl w [r]).setCell (.inl (by simp)) _⟩
  .rw[gC hc] at f;have m:=gx m;have f:=gx f;go_enter func124,ntmps124;go_wp2;all_goals go_ret
   all_goals exact⟨_,_,_,rfl,m.below (e.setCell hold _),⟨⟨_,_,_,CH hb,by simpa using f.out⟩,hold,e.setCell hold _⟩,(gU.refl w [r]).setCell (.inl (by simp)) _⟩
theorem gD.Dp(l:List UInt8)(j:Nat)(h:j<l.length):gD.be (l.take (j+1))=256*gD.be (l.take j)+iB l j:=by
 unfold gD.be;rw[qG h,List.foldl_append];simp[iB,List.getD,h,Nat.mul_comm]
theorem gD.Fc(l:List UInt8)(j:Nat)(h:j<=l.length):gD.be (l.take j)<256 ^ j:=by
 induction j with
 |zero=>simp[gD.be]
 |succ j e=>
  rw[gD.Dp l j (by omega),Nat.pow_succ];have:=e (by omega);have:=iP l j;omega
theorem gD.take_length(k:Nat)(t:gD.St):(gD.take k t).1.length=k:=by
 unfold gD.take;split;·simp
 .rw[jh];omega
def Pg(w0:World)(r:Nat)(x:Nat)(t:gD.St)(w:World)(e:Ending)(w':World):Prop:=e=.returned x/\Rd w0 w' r t/\gU w w' [r]
theorem sI(w0 w:World)(r k:Nat)(t:gD.St)(V:k<=3)(h:Rd w0 w r t):Calls prog 102 #[(r,gy),k] w (Pg w0 r (gD.num k t).1 (gD.num k t).2 w):=by
 have D:=gx (zt w0 w r k t (by omega) h);have q:=gx (gD.take_length k t);have F:=gx (show(gD.num k t).1=gD.be (gD.take k t).1 from rfl);have f:=gx (show(gD.num k t).2=(gD.take k t).2 from rfl);rw[F.out,f.out];generalize (gD.take k t).1=l at *;generalize (gD.take k t).2=W at *;clear F f;go_enter func102,ntmps102;go_wp2_with fail;go_at_call 124;refine(D).mono ?_;rintro e S⟨a,n,cap,rfl,m,O,N⟩;have C:=gx ((Bt.n m).symm.trans q);have P:n<=3:=by have:=C.out;omega
 go_wp2_with fail;go_loopg[5,7,12] n (fun g x c i wr=>S=wr/\∃j:Nat,g=n-j/\j<=n/\i=.int .i64 j/\x=.int .i64 (gD.be (l.take j):Nat));case atStart=>exact⟨rfl,0,rfl,by omega,rfl,rfl⟩
 case round=>
  obtain⟨rfl,j,rfl,U,rfl,rfl⟩:=hrel;by_cases E:j<n
  .obtain⟨b,off,rfl,_⟩:=m.addr (by omega);have hc:=Bt.at m j E;have K:=iP l j;have I:=gx (gD.Dp l j (by rw[q.out];have:=C.out;omega));have G:=gD.Fc l j (by rw[q.out];have:=C.out;omega);have L:gD.be (l.take j)<65536:=qK G (yy (n:=256) (by decide) (show j<=2 by omega));clear G;generalize gD.be (l.take j)=B at *;have o:=AD (B*256) (iB l j) (by omega) (by omega);have Q:bits .or .i64 ((B:Int)*256) (iB l j:Int)=((256*B+iB l j:Nat):Int):=by rw[Nat.or_comm,tA (iB l j) B 8 K] at o;rw[show((B*256:Nat):Int)=(B:Int)*256 by simp] at o;rw[o];congr 1;omega
   clear o;go_wp2;go_roundg (n-(j+1));case measure=>omega
   case rel=>exact⟨rfl,j+1,rfl,by omega,by go_num,by rw[I.out];exact congrArg (Value.int .i64) (by omega)⟩
  .obtain rfl:j=n:=by omega
   go_wp2;go_ret;exact⟨kY (by rw[ld (by rw[Bt.n m];exact jb _)]),O,N⟩
def PV(w0:World)(r:Nat)(x:gD.Ev)(t:gD.St)(w:World)(e:Ending)(w':World):Prop:=e=.returned (jG x)/\Rd w0 w' r t/\gU w w' [r]/\x.s.size<=maxLen
theorem Ex(w0 w:World)(r:Nat)(t:gD.St)(h:Rd w0 w r t):Calls prog 103 #[(r,gy)] w (PV w0 r (gD.jK t).1 (gD.jK t).2 w):=by
 have hr:=h.old;have ab:r<w.heap.size:=by obtain⟨⟨a,n,cap,hb,_⟩,_,_⟩:=h;exact iq hb
 have I:=fun W t (h:Rd w0 W r t)=>sI w0 W r 1 t (by omega) h;have V:=fun W t (h:Rd w0 W r t)=>sI w0 W r 3 t (by omega) h;have U:=fun W k t (hk:k<=255) (h:Rd w0 W r t)=>zt w0 W r k t hk h;have C:gD.jK t=(⟨⟨(gD.take (gD.num 1 t).1 (gD.num 1 t).2).1.toArray⟩,(gD.num 1 (gD.take (gD.num 1 t).1 (gD.num 1 t).2).2).1,(gD.num 3 (gD.num 1 (gD.take (gD.num 1 t).1 (gD.num 1 t).2).2).2).1⟩,(gD.num 3 (gD.num 1 (gD.take (gD.num 1 t).1 (gD.num 1 t).2).2).2).2):=rfl;have d1:=I (w.alloc (.cells #[.string ⟨#[]⟩,gy,gy] 78)) t;have N:(gD.num 1 t).1<256:=by have:=gD.Fc (gD.take 1 t).1 1 (by rw[gD.take_length];exact jb _);rw[ld (by rw[gD.take_length];exact jb _)] at this;exact this
 generalize gD.num 1 t=n1 at *;obtain⟨P,O⟩:=n1;simp only at C d1 N;have d2:=fun W=>U W P O (by omega);have B:=gD.take_length P O;generalize gD.take P O=n2 at *;obtain⟨G,t2⟩:=n2;simp only at C d2 B;have d3:=fun W=>I W t2;generalize gD.num 1 t2=n3 at *;obtain⟨Q,t3⟩:=n3;simp only at C d3;have F:=fun W=>V W t3;generalize gD.num 3 t3=n4 at *;obtain⟨S,t4⟩:=n4;simp only at C F;have HE:=gx C;clear C I U V;rw[HE.out];have K:=gx B;have d1:=gx d1;have d2:=gx d2;have d3:=gx d3;have F:=gx F;clear B;have R0:=gx (h.td ((gU.refl w []).alloc (.cells #[.string ⟨#[]⟩,gy,gy] 78)) (by simp) (by simp));go_enter func103,ntmps103;go_wp2_with fail;go_at_call 102;refine(d1 R0).mono ?_;rintro e w1⟨rfl,R1,X⟩;go_wp2_with fail;go_at_call 124;refine(d2 _ R1).mono ?_;rintro e w2⟨a,n,cap,rfl,hl,R2,Y⟩;have ad:=Bt.str hl;have HN:=gx (Bt.n hl);go_wp2_with fail;go_at_call 102;refine(d3 _ R2).mono ?_;rintro e w3⟨rfl,R3,Z⟩;go_wp2_with fail;go_at_call 102;refine(F _ R3).mono ?_;rintro e m⟨rfl,R4,O4⟩;have f:w.heap.size≠r:=by omega
 have L:=gO w (.cells #[.string ⟨#[]⟩,gy,gy] 78);have j:=O4.jJ (Z.jJ (Y.jJ (X.jJ L (by simpa using f)) (by simpa using f)) (by simpa using f)) (by simpa using f);obtain⟨r0,r1,r2⟩:=PP j;have f0:m.frozen? (w,gy)=false:=gA j;have f1:m.frozen? (w,ia)=false:=gA j;have f2:m.frozen? (w,j6)=false:=gA j;have OO:gU w m [r]:=(((((gU.refl w [r]).alloc (.cells #[.string ⟨#[]⟩,gy,gy] 78)).more X.grown (by simp)).more Y.grown (by simp)).more Z.grown (by simp)).more O4.grown (by simp);have hK:gU m (((m.setCell (w,gy) (.string ⟨G.toArray⟩)).setCell (w,ia) Q).setCell (w,j6) S) [w.heap.size]:=(((gU.refl m _).setCell (.inl (by simp)) _).setCell (.inl (by simp)) _).setCell (.inl (by simp)) _;have E:=h.below.size;have q:=R4.td hK (by simpa using lE f) (by simpa using E);have o:gU w (((m.setCell (w,gy) (.string ⟨G.toArray⟩)).setCell (w,ia) Q).setCell (w,j6) S) [r]:=((OO.setCell (.inr gM) _).setCell (.inr gM) _).setCell (.inr gM) _;clear hK;have q:=gx q;have o:=gx o;go_wp2_with fail;exact gS (v:=.agg #[.string ⟨G.toArray⟩,Q,S]) (by simp[results,results103,go_sem,r0,r1,r2]) rfl ⟨rfl,q,o,by show G.toArray.size<=maxLen;simp[maxLen];have:=K.out;omega⟩
theorem gD.Kk(x:Nat)(h:x<16777216):[UInt8.ofNat (x/65536)].map (fun c=>(c.toNat:Int))=[(x:Int)/65536]/\[UInt8.ofNat (x/256)].map (fun c=>(c.toNat:Int))=[(x:Int)/256%256]/\[UInt8.ofNat x].map (fun c=>(c.toNat:Int))=[(x:Int)%256]:=by
 simp only[lI,nj,uU,List.cons.injEq,and_true];omega
theorem xX(w0 w:World)(row:Option Nat)(base:Nat)(v:Value)(l:List UInt8)(x:Nat)(F:OB w0 w row base v l)(hb:base<=w.heap.size)(P:x<16777216)(S:l.length+3<=140737488355328):
  Calls prog 97 #[v,x,jF] w fun e w'=>∃v',e=.returned v'/\OB w0 w' row base v' (l++gD.three x)/\w.grownBy w' v.ownBlock:=by
 have m:=gx (gD.Kk x P);obtain⟨I,K,rfl,_⟩:=F.sl;go_enter func97,ntmps97;go_wp2;go_loopg[0,7] 3 (fun g o i wr=>∃(L:List UInt8) (j:Nat) (q:Int),g=3-j/\j<=3/\q=2-(j:Int)/\i=.int .i64 q/\Hid (L=l++(gD.three x).take j)/\L.length<=l.length+j/\OB w wr (Value.slice I l.length K).ownBlock base o L);case atStart=>exact⟨l,0,2,rfl,by omega,rfl,rfl,gx (by simp),by omega,OT.start F.own⟩
 case round=>
  obtain⟨L,j,q,rfl,Q,C,rfl,B,N,h⟩:=hrel;have O:=h.grown.size;have E:j=0∨j=1∨j=2∨j=3:=by omega
  rcases E with rfl|rfl|rfl|rfl
  .obtain rfl:q=2:=by omega
   clear C;go_wp2_with (refine wpList_append_ob rfl (.tmp 14) (.tmp 20) rfl base _ L [UInt8.ofNat (x/65536)] rfl (h.alloc _) (some (wr,gy)) 1 1 rfl (p8 wr _ [UInt8.ofNat (x/65536)] (by simp[maxLen]) (qy _ m.1).symm) (by simp;omega) (by simp;omega) ?_;intro v1 G f r);go_roundg 2;case measure=>omega
   case rel=>exact⟨L++[UInt8.ofNat (x/65536)],1,1,rfl,by omega,rfl,rfl,gx (by rw[B.out];unfold gD.three;simp),by simp;omega,f⟩
  .obtain rfl:q=1:=by omega
   clear C;go_wp2_with (refine wpList_append_ob rfl (.tmp 14) (.tmp 20) rfl base _ L [UInt8.ofNat (x/256)] rfl (h.alloc _) (some (wr,gy)) 1 1 rfl (p8 wr _ [UInt8.ofNat (x/256)] (by simp[maxLen]) (qy _ m.2.1).symm) (by simp;omega) (by simp;omega) ?_;intro v1 G f r);go_roundg 1;case measure=>omega
   case rel=>exact⟨L++[UInt8.ofNat (x/256)],2,0,rfl,by omega,rfl,rfl,gx (by rw[B.out];unfold gD.three;simp),by simp;omega,f⟩
  .obtain rfl:q=0:=by omega
   clear C;go_wp2_with (refine wpList_append_ob rfl (.tmp 14) (.tmp 20) rfl base _ L [UInt8.ofNat x] rfl (h.alloc _) (some (wr,gy)) 1 1 rfl (p8 wr _ [UInt8.ofNat x] (by simp[maxLen]) (qy _ m.2.2).symm) (by simp;omega) (by simp;omega) ?_;intro v1 G f r);go_roundg 0;case measure=>omega
   case rel=>exact⟨L++[UInt8.ofNat x],3,-1,rfl,by omega,rfl,rfl,gx (by rw[B.out];unfold gD.three;simp),by simp;omega,f⟩
  .obtain rfl:q=-1:=by omega
   clear C;go_wp2;go_ret;have e:L=l++gD.three x:=by rw[B.out];rfl
   exact⟨_,rfl,by rw[<-e];exact F.more h.own h.grown h.F6,h.grown⟩
theorem gD.Aq(bs:List gD.Ba)(f k:Int)(h:¬150<bs.length)(e:gD.fb bs 0=(f,k))(j:f≠0):gD.iy bs=⟨[],f,k⟩:=by
 unfold gD.iy;rw[gC h,e,gG j]
theorem gD.Cq(bs:List gD.Ba)(h:¬150<bs.length)(e:gD.fb bs 0=(0,0)):gD.iy bs=⟨gD.bytes bs,0,0⟩:=by
 unfold gD.iy;rw[gC h,e,gC (by simp)]
theorem gD.um(bs:List gD.Ba)(k:Nat)(b:gD.Ba)(h:bs[k]?=some b):gD.fb (bs.drop k) k=if (gD.iI b).1≠0 then((gD.iI b).1,(k:Int)) else gD.fb (bs.drop (k+1)) (k+1):=by
 obtain⟨e,rfl⟩:=nH.1 h;rw[rv e];rfl
theorem gD.CD(bs:List gD.Ba)(k:Nat)(b:gD.Ba)(h:bs[k]?=some b):(bs.take (k+1)).flatMap gD.nQ=(bs.take k).flatMap gD.nQ++gD.nQ b:=by
 obtain⟨e,rfl⟩:=nH.1 h;rw[qG e,List.flatMap_append];simp
theorem gD.zf(es:List gD.Ev)(k:Nat)(h:k<es.length):(es.take (k+1)).flatMap gD.nU=(es.take k).flatMap gD.nU++gD.nU es[k]:=by
 rw[qG h,List.flatMap_append];simp
theorem J9{w w':World}{base:Nat}{e:TypeId}{sz n:Nat}{v:Value}{xs:List Value}(E:w.ownsRow base e sz v n xs)(cs:Array Value)(l:List UInt8)(B:l.length<=maxLen)(h:cs.toList=cb l)(q:(w.alloc (.cells cs 5)).grownBy w' v.ownBlock):
  Bt w' (some (w,gy)) l.length l.length l:=by
 have f:=p8 w cs l B h;refine⟨f.le,f.max,f.len,f.nil,fun C=>⟨w.heap.size,0,rfl,fun j u r=>?_⟩⟩;obtain⟨b,off,m,hc⟩:=f.addr C;cases m;have:=hc j u r;exact q.cell this (fun o=>by have:=(E.lt _ o.symm).2;simp at this)
def K7(R:gD.R)(w:World)(e:Ending)(w':World):Prop:=
 ∃v,e=.returned (.tuple #[v,.agg #[R.err,R.at_]])/\Below w w w'/\w'.ownsRow w.heap.size 5 1 v R.l.length (cb R.l)
theorem Ft(a:Option Addr)(n cap:Nat)(l:List Rb)(w:World)(h:Bs w a n cap l):Calls prog 70 #[(a,n,cap)] w (K7 (gD.iy (l.map Rb.ba)) w):=by
 have aB:=h.sl.max;have a5:=h.sl.le;unfold maxLen at aB;have HN:=gx h.n;by_cases hc:150<n
 .have HC:=gx (show gD.iy (l.map Rb.ba)=⟨[],5,0⟩ by unfold gD.iy;rw[gG (by rw[iz,HN.out];exact hc)]);rw[HC.out];go_enter func70,ntmps70;go_wp2;exact gS (v:=.tuple #[(),.agg #[nk,gy]]) (by simp[results,results70,go_sem]) rfl ⟨_,rfl,gZ.alloc gM _,iY _ _ _ _⟩
 .go_enter func70,ntmps70;go_wp2;go_loopg[4,5,6,7,9,20] n (fun g o s5 s6 s7 s9 i wr=>∃(L:List UInt8) (k:Nat),g=n-k/\k<=n/\i=.int .i64 k/\Hid (L=UInt8.ofNat n::((l.map Rb.ba).take k).flatMap gD.nQ)/\L.length<=1+160*k/\OB w wr none w.heap.size o L/\wr.heap[w.heap.size]?=some (.cells #[gy,gy] 73)/\Hid (gD.fb (l.map Rb.ba) 0=gD.fb ((l.map Rb.ba).drop k) k));case atStart=>
   have e:=OB.lit ((iU w.heap.size w).alloc gM (.cells #[gy,gy] 73)) #[.int .u8 (n:Int)] [UInt8.ofNat n] (by simp[maxLen]) (by simp[cb];omega);rw[jH] at e;exact⟨[UInt8.ofNat n],0,rfl,by omega,rfl,gx (by simp),by simp,e,gF (gO w _),gx (by simp)⟩
  case round=>
   obtain⟨L,k,rfl,hk,rfl,HL,hL,hO,hF,HB⟩:=hrel;have X:Below w w wr:=hO.im gM (fun k h=>by cases h);have a6:=X.size;by_cases aW:k<n
   .have P:k<l.length:=by rw[HN.out];exact aW
    obtain⟨b,off,rfl,_⟩:=h.sl.addr (by omega);obtain⟨q0,q1,hE⟩:=(h.below X).at k P;have ad:=(h.at k P).2.2;generalize hr:l[k]=r at *;obtain⟨c,ea,f,ec,il⟩:=r;simp only at q0 q1 hE ad;have ao:=gx ad;clear ad;have HR:=gx hr;clear hr;have D:=gx (fun W (hE:Es W ea f ec il)=>oI c ea f ec il W hE);go_wp2_with fail;go_at_call 34;refine(D _ (hE.alloc _)).mono ?_;rintro e w1⟨rfl,b1⟩;have G:=(hO.alloc (.cells #[c,(ea,f,ec)] 50)).below b1;have C:=gB (gF (o':=.cells #[c,(ea,f,ec)] 50) hF) b1;have N:=gB (gO wr (.cells #[c,(ea,f,ec)] 50)) b1;have aR:=(hE.alloc (.cells #[c,(ea,f,ec)] 50)).below b1;have ab:=G.im gM (fun k h=>by cases h);have aH:=iq C;have a8:=iq N;clear b1 hO hF hE X D q0 q1;unfold zE;obtain⟨F,O⟩:∃F,(gD.iI ⟨c,il⟩).1=F:=⟨_,rfl⟩;rw[O];generalize (gD.iI ⟨c,il⟩).2=f2;by_cases hz:F=0
    .have HF:=gx (O.trans hz);subst hz;clear O;obtain⟨x0,x1⟩:=lv N;have HV:=gx (gD.lh HF);obtain⟨aX,aY,aE,aF,ak⟩:=gD.lh HF;have HE:=gx aR.n;simp only at aX aY aE aF ak;rw[HE.out] at aE aF;obtain⟨c,rfl⟩:=jD (a:=c) (by omega);have aw:c<16777216:=by omega
     have a3:L.length<=24001:=by omega
     have aQ:=gx ak;clear ak;have ai:=gF (o':=.cells #[gy,f2] 73) N;have af:=gF (o':=.cells #[gy,f2] 73) C;have E:=G.alloc (.cells #[gy,f2] 73);have ax:=gx (show(#[Value.int .u8 (f:Int)]:Array Value).toList=cb [UInt8.ofNat f] by simp[cb];omega);go_wp2_with fail;have al:IntKind.u8.wrap (f:Int)=(f:Int):=IntWalk.u8_in _ (by omega);go_cut[4] (fun o wc=>OB w wc none w.heap.size o (L++gD.three c++[UInt8.ofNat f])/\wc.heap[wr.heap.size]?=some (.cells #[c,(ea,f,ec)] 50)/\wc.heap[w.heap.size]?=some (.cells #[gy,gy] 73));case first=>
      go_region_held3 (fun w'=>w'.cell? (wr,gy)=some (.int .i64 (c:Int))/\w'.cell? (wr,ia)=some (.slice ea f ec)) (first|exact⟨aK,aL⟩|exact⟨aI,aJ⟩|go_keep)
       (first
        |(go_at_call 97;refine(xX w _ none w.heap.size _ L c E.drew ?_ aw (by omega)).mono ?_;(simp;omega);rintro e Y⟨v4,rfl,I,S⟩;have m:=ie E.drew.own S ai (by decide);have K:=ie E.drew.own S af (by decide);have aI:Y.cell? (wr,gy)=some (.int .i64 (c:Int)):=gw m;have aJ:Y.cell? (wr,ia)=some (.slice ea f ec):=gw m)
        |(go_at_call 97;refine(xX w _ none w.heap.size _ L c (E.alloc (.cells #[.int .u8 (f:Int)] 5)).drew ?_ aw (by omega)).mono ?_;(simp;omega);rintro e Y⟨v4,rfl,I,S⟩;have aA:=J9 E.drew.own #[.int .u8 (f:Int)] [UInt8.ofNat f] (by simp[maxLen]) ax S;have m:=ie (E.alloc (.cells #[.int .u8 (f:Int)] 5)).drew.own S (gF ai) (by decide);have K:=ie (E.alloc (.cells #[.int .u8 (f:Int)] 5)).drew.own S (gF af) (by decide);have aI:Y.cell? (wr,gy)=some (.int .i64 (c:Int)):=gw m;have aJ:Y.cell? (wr,ia)=some (.slice ea f ec):=gw m)
        |(refine step_append_ob rfl (.tmp 37) (.tmp 42) rfl w.heap.size _ (L++gD.three c) [UInt8.ofNat f] rfl (I.alloc (.cells #[.int .u8 (f:Int)] 5)) (some (Y,gy)) 1 1 rfl (p8 Y #[.int .u8 (f:Int)] [UInt8.ofNat f] (by simp[maxLen]) ax) (by simp[gD.three];omega) (by have:=I.grown.size;simp;omega) ?_;intro v5 w5 o5 Z;have q:=ie (I.alloc (.cells #[.int .u8 (f:Int)] 5)).own Z (gF m) (by decide);have U:=ie (I.alloc (.cells #[.int .u8 (f:Int)] 5)).own Z (gF K) (by decide);have aK:w5.cell? (wr,gy)=some (.int .i64 (c:Int)):=gw q;have aL:w5.cell? (wr,ia)=some (.slice ea f ec):=gw q)
        |(refine step_append_ob rfl (.tmp 37) (.tmp 42) rfl w.heap.size _ (L++gD.three c) [UInt8.ofNat f] rfl I (some (w1.heap.size+1,gy)) 1 1 rfl (by simpa using aA) (by simp[gD.three];omega) (by have:=I.grown.size;omega) ?_;intro v5 w5 o5 Z;have q:=ie I.own Z m (by decide);have U:=ie I.own Z K (by decide);have aK:w5.cell? (wr,gy)=some (.int .i64 (c:Int)):=gw q;have aL:w5.cell? (wr,ia)=some (.slice ea f ec):=gw q))
      all_goals (go_wp2_with fail;go_meet)
      all_goals exact⟨o5,q,U⟩
     case rest=>
      clear al E ai af G N C x0 x1 ab;obtain⟨ah,au,aq⟩:=hcut;have y1:wc.cell? (wr,ia)=some (.slice ea f ec):=gw au;have a9:=ah.grown.size;go_wp2;go_loopg[4,9,47] f (fun g o s9 i W=>∃(M:List UInt8) (j:Nat),g=f-j/\j<=f/\i=.int .i64 j/\Hid (M=L++gD.three c++[UInt8.ofNat f]++(il.take j).flatMap gD.nU)/\M.length<=L.length+4+15*j/\OB w W none w.heap.size o M/\W.heap[w.heap.size]?=some (.cells #[gy,gy] 73));case atStart=>exact⟨_,0,rfl,by omega,rfl,gx (by simp),by simp[gD.three],ah,aq⟩
      case round=>
       obtain⟨M,j,rfl,hj,rfl,HM,hM,ag,ae⟩:=hrel;clear ah au aq y1;rename_i W;have aT:=ag.im gM (fun k h=>by cases h);have a7:=iq ae;by_cases aU:j<f
       .have aj:j<il.length:=by rw[HE.out];exact aU
        obtain⟨bb,a2,rfl,_⟩:=ao.sl.addr (by omega);obtain⟨q0,q1,q2⟩:=(ao.below aT).at j aj;have aG:=aQ _ (iE aj);obtain⟨u1,u2,u3,u4,u5⟩:=gD.lC aG;have u6:=gD.ym u1;rw[gD.se] at u6;have HS:=gx (gD.zf il j aj);generalize il[j]=ev at *;clear u1 aG;obtain⟨s,B,ne⟩:=ev;simp only at u2 u3 u4 u5 u6 q0 q1 q2;obtain⟨B,rfl⟩:=jD (a:=B) (by omega);obtain⟨ne,rfl⟩:=jD (a:=ne) (by omega);have G:=ag.alloc (.cells #[s,B,ne] 78);have C:=gF (o':=.cells #[s,B,ne] 78) ae;have N:=gO wr (.cells #[s,B,ne] 78);have ay:=gx (show(#[Value.int .u8 (s.size:Int)]:Array Value).toList=cb [UInt8.ofNat s.size] by simp[cb];omega);have aV:Bt ((wr.alloc (.cells #[s,B,ne] 78)).alloc (.cells #[.int .u8 (s.size:Int)] 5)) (some (wr.heap.size+1,gy)) 1 1 [UInt8.ofNat s.size]:=by have:=p8 (wr.alloc (.cells #[s,B,ne] 78)) #[.int .u8 (s.size:Int)] [UInt8.ofNat s.size] (by simp[maxLen]) ay;rw[jH] at this;exact this
        have al:IntKind.u8.wrap (s.size:Int)=(s.size:Int):=IntWalk.u8_in _ (by omega);have aZ:IntKind.u8.wrap (B:Int)=(B:Int):=IntWalk.u8_in _ (by omega);have a4:M.length<=25000:=by omega
        have aD:s.data.toList.length=s.size:=by simp
        have Q:=gx aD;clear aD;go_wp2_with fail;go_region_held3 (fun w'=>w'.cell? (wr,gy)=some (.string s)) (first|exact k5|exact k4|go_keep)
         (first
          |(refine step_append_ob rfl (.tmp 51) (.tmp 56) rfl w.heap.size _ M [UInt8.ofNat s.size] rfl (G.alloc (.cells #[.int .u8 (s.size:Int)] 5)).drew (some (wr.heap.size+1,gy)) 1 1 rfl (Sl.drewN aV 1) (by simp;omega) (by simp;omega) ?_;intro v4 Y I S;have m:=ie (G.alloc (.cells #[.int .u8 (s.size:Int)] 5)).drew.own S (gF N) (by decide);have K:=ie (G.alloc (.cells #[.int .u8 (s.size:Int)] 5)).drew.own S (gF C) (by decide);have k4:Y.cell? (wr,gy)=some (.string s):=gw m)
          |(refine step_append_os rfl (.tmp 57) (.tmp 59) rfl w.heap.size _ (M++[UInt8.ofNat s.size]) rfl I s rfl (by simp;omega) (by have:=I.grown.size;omega) ?_;intro v5 w5 o5 Z;have q:=ie I.own Z m (by decide);have U:=ie I.own Z K (by decide);have k5:w5.cell? (wr,gy)=some (.string s):=gw q))
        have x1:w5.cell? (wr,ia)=some (.int .i64 (B:Int)):=gw q;have x2:w5.cell? (wr,j6)=some (.int .i64 (ne:Int)):=gw q;clear m K k4 k5;have az:=gx (show(#[Value.int .u8 (B:Int)]:Array Value).toList=cb [UInt8.ofNat B] by simp[cb];omega);go_wp2_with fail;go_region_held3 (fun w'=>w'.cell? (wr,ia)=some (.int .i64 (B:Int))/\w'.cell? (wr,j6)=some (.int .i64 (ne:Int))) (first|exact⟨aO,aP⟩|exact⟨aM,aN⟩|go_keep)
         (first
          |(refine step_append_ob rfl (.tmp 61) (.tmp 65) rfl w.heap.size _ (M++[UInt8.ofNat s.size]++s.data.toList) [UInt8.ofNat B] rfl (o5.alloc (.cells #[.int .u8 (B:Int)] 5)).drew (some (w5,gy)) 1 1 rfl (Sl.drewN (p8 w5 #[.int .u8 (B:Int)] [UInt8.ofNat B] (by simp[maxLen]) az) 1) (by rw[iH,iH,Q.out];simp;omega) (by have:=o5.grown.size;simp;omega) ?_;intro v6 w6 o6 g6;have V:=ie (o5.alloc (.cells #[.int .u8 (B:Int)] 5)).drew.own g6 (gF q) (by decide);have ap:=ie (o5.alloc (.cells #[.int .u8 (B:Int)] 5)).drew.own g6 (gF U) (by decide);have aM:w6.cell? (wr,ia)=some (.int .i64 (B:Int)):=gw V;have aN:w6.cell? (wr,j6)=some (.int .i64 (ne:Int)):=gw V)
          |(go_at_call 97;refine(xX w _ none w.heap.size _ (M++[UInt8.ofNat s.size]++s.data.toList++[UInt8.ofNat B]) ne o6 ?_ (by omega) (by rw[iH,iH,iH,Q.out];simp;omega)).mono ?_;(have:=o6.grown.size;omega);rintro e w7⟨v7,rfl,o7,g7⟩;have ar:=ie o6.own g7 V (by decide);have aS:=ie o6.own g7 ap (by decide);have aO:w7.cell? (wr,ia)=some (.int .i64 (B:Int)):=gw ar;have aP:w7.cell? (wr,j6)=some (.int .i64 (ne:Int)):=gw ar))
        clear V ap aM aN aO aP x1 x2 al aZ;go_wp2_with fail;go_roundg (f-(j+1));case measure=>omega
        case rel=>
         refine⟨_,j+1,rfl,by omega,by go_num,gx ?_,?_,o7,aS⟩;·rw[HM.out,HS.out];unfold gD.nU gD.kP;simp[Q.out]
         .rw[iH,iH,iH,iH,Q.out];simp[gD.three];omega
       .obtain rfl:j=f:=by omega
        have HW:=gx (gD.CD (l.map Rb.ba) k ⟨c,il⟩ (by rw[nJ,jz P,HR.out];rfl));have HP:=gx (gD.um (l.map Rb.ba) k ⟨c,il⟩ (by rw[nJ,jz P,HR.out];rfl));go_wp2_with fail;go_roundg (n-(k+1));case measure=>omega
        case rel=>
         refine⟨M,k+1,rfl,by omega,by go_num,gx ?_,by omega,ag,ae,gx ?_⟩;·rw[HM.out,HW.out,HL.out,ld (l:=il) (by rw[HE.out];exact jb _)];unfold gD.nQ;simp[HE.out]
         .rw[HB.out,HP.out,gC (fun h=>h HF.out)]
    .have t0:(F !=0)=true:=by rw[ij];exact hz
     have hG:=gx (show gD.iy (l.map Rb.ba)=⟨[],F,(k:Int)⟩ from by refine gD.Aq _ _ _ (by rw[iz,HN.out];exact hc) ?_ hz;have:=gD.um (l.map Rb.ba) k ⟨c,il⟩ (by rw[nJ,jz P,HR.out];rfl);rw[HB.out,this,O,gG hz])
     clear hz O HB HL;obtain⟨r0,r1⟩:=lv C;have a0:w1.frozen? (w,gy)=false:=gA C;have a1:w1.frozen? (w,ia)=false:=gA C;go_wp2_with fail;go_region_held3 (fun w'=>w'.cell? (w1,gy)=some (.int .i64 F)) (first|exact Fk (by simp) _ _ _|go_keep) (first|fail);go_wp2;have e0:(((w1.setCell (w,gy) F).setCell (w,ia) k).alloc (.cells #[F,f2] 73)).cell? (w,gy)=some (.int .i64 F):=by
      have e:((w1.setCell (w,gy) F).setCell (w,ia) k).cell? (w,gy)=some (.int .i64 F):=by simp[go_sem,r0]
      refine Eq.trans (ik ?_) e;simp only[pn];exact aH
     have e1:(((w1.setCell (w,gy) F).setCell (w,ia) k).alloc (.cells #[F,f2] 73)).cell? (w,ia)=some (.int .i64 (k:Int)):=by
      have e:((w1.setCell (w,gy) F).setCell (w,ia) k).cell? (w,ia)=some (.int .i64 (k:Int)):=by simp[go_sem,r1]
      refine Eq.trans (ik ?_) e;simp only[pn];exact aH
     refine gS (v:=.tuple #[(),.agg #[F,k]]) (by simp[results,results70,go_sem,e0,e1]) rfl ⟨_,by rw[hG.out],(((ab.setCell (by simp) _).setCell (by simp) _).alloc (by simp;omega) _).drew,?_⟩;rw[hG.out];exact iY _ _ _ _
   .obtain rfl:k=n:=by omega
    have hR:=gx (show gD.iy (l.map Rb.ba)=⟨gD.bytes (l.map Rb.ba),0,0⟩ from gD.Cq _ (by rw[iz,HN.out];exact hc) (by rw[HB.out,mV (by rw[iz,HN.out];exact jb _)];rfl));obtain⟨r0,r1⟩:=lv hF;have a0:wr.frozen? (w,gy)=false:=gA hF;have a1:wr.frozen? (w,ia)=false:=gA hF;have aC:=gP hO.own hF (by decide);go_wp2_with fail;refine gS (v:=.tuple #[_,.agg #[gy,gy]]) (by simp[results,results70,go_sem,r0,r1];rfl) rfl ⟨_,by rw[hR.out],(X.setCell (by simp) _).setCell (by simp) _,?_⟩;rw[hR.out];have e:L=gD.bytes (l.map Rb.ba):=by rw[HL.out,ld (by rw[iz,HN.out];exact jb _)];unfold gD.bytes;rw[iz,HN.out]
    rw[<-e];exact ji (ji hO.own aC _) aC _
end Go.Proofs.YthhcdfjijagalaaGreat

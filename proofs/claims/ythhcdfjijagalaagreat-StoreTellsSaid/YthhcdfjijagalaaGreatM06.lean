import Derived.Test.YthhcdfjijagalaaGreatM05
set_option linter.all false
set_option maxHeartbeats 4000000
set_option maxRecDepth 100000
namespace Go.Proofs.YthhcdfjijagalaaGreat
open Qz Go.Proofs.Tryz Go.RowKit
theorem uL.lt{w:World}{b:Nat}(h:uL w b):b<w.heap.size:=iM _ _ (h.pow 0 (by omega))
theorem uL.only{w w':World}{b:Nat}{S:List Nat}(h:uL w b)(e:gU w w' S)(f:b∉S):uL w' b:=World.rowIs.of_block h (e.block b h.lt f)
theorem uL.below{w w':World}{b:Nat}(h:uL w b)(hb:Below w w w'):uL w' b:=h.only ((gU.refl w []).below hb) (by simp)
theorem uL.ne{w:World}{b g base n cap:Nat}{xs:List Value}{t:TypeId}(h:uL w b)(m:w.ownsRow base t 1 (some (g,gy),n,cap) n xs)(e:179≠t):b≠g:=by
 obtain⟨c,hc,_⟩:=h;obtain⟨f,j,_⟩:=sn m;exact km hc j e
theorem gU.drewN{w0 w:World}{S:List Nat}(h:gU w0 w S)(j:Nat):gU w0 (w.drewN j) S:=⟨h.os,h.tape,h.output,h.size,h.block⟩
theorem mO{w:World}{base:Nat}{e:TypeId}{sz:Nat}{v:Value}{n:Nat}{xs:List Value}(h:w.ownsRow base e sz v n xs)(j:Nat):(w.drewN j).ownsRow base e sz v n xs:=h
theorem Jg(m:List UInt8)(k:Nat)(x:UInt8):(gJ.iZ (m.getD k 0) x).toNat=kM.mul (iB m k) x.toNat:=gJ.toNat_mul _ _
theorem zi(t base g n cap:Nat)(l:List UInt8)(x:UInt8)(w:World)(N:uL w t)(h:w.ownsRow base 5 1 (some (g,gy),n,cap) n (cb l))(X:n<=65536):
  Calls prog 135 #[(t,gy),(some (g,gy),n,cap),.int .u8 (x.toNat:Int)] w (Lf base g n cap (fun j=>gJ.iZ (l.getD j 0) x) w):=by
 have G:=N.ne h (by decide);have S:=gJ.lt x;go_enter func135,ntmps135;go_wp2_with fail;go_loopg[6,9] n (fun P Y i wr=>∃(k:Nat) (m:List UInt8),P=n-k/\k<=n/\i=.int .i64 (k:Int)/\wr.ownsRow base 5 1 (some (g,gy),n,cap) n (cb m)/\(∀j,j<n->m.getD j 0=if j<k then gJ.iZ (l.getD j 0) x else l.getD j 0)/\gU w wr [g]);case atStart=>exact⟨0,l,rfl,by omega,rfl,h,fun j _=>by simp,gU.refl _ _⟩
 case round=>
  obtain⟨k,m,rfl,W,rfl,r,L,E⟩:=hrel;have B:=gx L;clear L;have I:=N.only E (by simpa using G);by_cases q:k<n
  .have U:=nS r k q;have V:=nD r k;have Q:=iP m k;have F:=oZ r k _ _ (Jg m k x);have f:=E.setCell (a:=(g,k)) (.inl (by simp)) (.int .u8 ((kM.mul (iB m k) x.toNat:Nat):Int));have C:=gx (lp r);have D:=gx (xN t (iB m k) x.toNat Q S wr I);generalize iB m k=c at *;generalize kM.mul c x.toNat=v at *;have F:=gx F;have f:=gx f;go_wp2_with fail;go_at_call 131;refine(D).mono ?_;rintro e Z⟨rfl,O,rfl⟩;go_wp2_with fail;go_roundg (n-(k+1));case measure=>omega
   case rel=>
    refine⟨k+1,_,rfl,by omega,by go_num,mO F O,fun j o=>?_,f.drewN O⟩;rw[nW (by rw[C.out];exact q)];by_cases e:j=k
    .subst e;rw[gG rfl,gG (by omega),B.out j o,gC (by omega)]
    .rw[gC e,B.out j o];by_cases K:j<k;·rw[gG K,gG (by omega)]
     .rw[gC K,gC (by omega)]
  .obtain rfl:k=n:=by omega
   go_wp2_with fail;go_end0;exact⟨rfl,m,r,fun j o=>by rw[B.out j o,gG o],E⟩
theorem CE(t base g n cap r L o:Nat)(l f:List UInt8)(x:UInt8)(w:World)(X:uL w t)(h:w.ownsRow base 5 1 (some (g,gy),n,cap) n (cb l))
  (Z:w.ownsRow r 5 1 (some (L,gy),n,o) n (cb f)) (N:L≠g) (hn:n<=65536):
  Calls prog 136 #[(t,gy),(some (g,gy),n,cap),(some (L,gy),n,o),.int .u8 (x.toNat:Int)] w (Lf base g n cap (fun j=>gJ.iG (l.getD j 0) (gJ.iZ (f.getD j 0) x)) w):=by
 have Q:=X.ne h (by decide);have hx:=gJ.lt x;go_enter func136,ntmps136;go_wp2_with fail;go_loopg[8,11] n (fun gg s8 i wr=>∃(k:Nat) (m:List UInt8),gg=n-k/\k<=n/\i=.int .i64 (k:Int)/\wr.ownsRow base 5 1 (some (g,gy),n,cap) n (cb m)/\(∀j,j<n->m.getD j 0=if j<k then gJ.iG (l.getD j 0) (gJ.iZ (f.getD j 0) x) else l.getD j 0)/\gU w wr [g]);case atStart=>exact⟨0,l,rfl,by omega,rfl,h,fun j _=>by simp,gU.refl _ _⟩
 case round=>
  obtain⟨k,m,rfl,hk,rfl,F,W,G⟩:=hrel;have I:=gx W;clear W;have S:=X.only G (by simpa using Q);have O:=G.own Z (fun y hy e=>by cases e;exact N (by simpa using hy));by_cases C:k<n
  .have c0:=nS F k C;have c1:=nS O k C;have f0:=nD F k;have h8:=iP m k;have h9:=iP f k;have V:(gJ.iG (m.getD k 0) (gJ.iZ (f.getD k 0) x)).toNat=iB m k^^^kM.mul (iB f k) x.toNat:=by rw[gJ.toNat_add,Jg];rfl
   have P:=fun q=>oZ (mO F q) k _ _ V;have B:=fun q=>(G.drewN q).setCell (a:=(g,k)) (.inl (by simp)) (.int .u8 ((iB m k^^^kM.mul (iB f k) x.toNat:Nat):Int));have K:=gx (lp F);have D:=gx (fun q=>xN t (iB f k) x.toNat h9 hx (wr.drewN q) (S.drewN q));have hv:=kM.mul_lt (iB f k) x.toNat;have ab:=sG (iB m k) (kM.mul (iB f k) x.toNat) h8 hv;have i0:(0:Int)<=(k:Int):=yB _;have i1:(k:Int)<(n:Int):=by omega
   clear V;generalize iB m k=c at *;generalize iB f k=Y at *;generalize kM.mul Y x.toNat=v at *;generalize c^^^v=y at *;have P:=gx P;have B:=gx B;go_wp2_with fail;go_region_law (first|(go_simp;go_at_call 131;refine(D _).mono ?_;rintro e w1⟨rfl,j1,rfl⟩));all_goals go_wp2_with fail
   all_goals
    go_roundg (n-(k+1));case measure=>omega
    case rel=>
     refine⟨k+1,_,rfl,by omega,by go_num,P _,fun j E=>?_,B _⟩;rw[nW (by rw[K.out];exact C)];by_cases e:j=k
     .subst e;rw[gG rfl,gG (by omega),I.out j E,gC (by omega)]
     .rw[gC e,I.out j E];by_cases U:j<k;·rw[gG U,gG (by omega)]
      .rw[gC U,gC (by omega)]
  .obtain rfl:k=n:=by omega
   go_wp2_with fail;go_end0;exact⟨rfl,m,F,fun j E=>by rw[I.out j E,gG E],G⟩
def p9(n i:Nat):List UInt8:=(List.replicate n 0).set i 1
theorem uT(n i:Nat):(p9 n i).length=n:=by simp[p9]
theorem AR{n i j:Nat}(hi:i<n)(f:j<n):(p9 n i).getD j 0=gJ.one i j:=by
 unfold p9;rw[nW (by simpa using hi)];unfold gJ.one;by_cases e:j=i;·rw[gG e,gG e.symm]
 .rw[gC e,gC (fun h=>e h.symm)];simp[List.getD,f]
theorem mI{n m:Nat}{f:gJ.M}{L:List (List UInt8)}(o:L.length=n)(h:∀i (hi:i<L.length),L[i].length=m/\∀j,j<m->L[i].getD j 0=f i j):gJ.pG L n m f:=by
 refine⟨o,fun r w=>?_,fun i j hi q=>?_⟩
 .obtain⟨i,hi,rfl⟩:=rA w;exact(h i hi).1
 .have e:i<L.length:=by omega
  have:=(h i e).2 j q;unfold gJ.ja;rw[show L.getD i []=L[i] by simp[List.getD,e]];exact this
theorem NU{n:Nat}{L:List (List UInt8)}(e:L.length=n)(h:∀i (hi:i<L.length),L[i]=p9 n i):gJ.pG L n n gJ.one:=mI e fun i hi=>by
 rw[h i hi];exact⟨uT n i,fun j f=>AR (by omega) f⟩
theorem sO{R:List Wr}{i:Nat}(hi:i<(gQ R).length):(gQ R)[i]=(R[i]'(by simpa[gQ] using hi)).l:=by simp[gQ]
def Cl(P:List (List UInt8)->Prop)(n:Nat)(w:World)(e:Ending)(w':World):Prop:=
 ∃g R,e=.returned (.tuple #[.slice (some ⟨g,0,none⟩) n n,gy])/\R.length=n/\Mo w' w.heap.size g n n R/\P (gQ R)/\Below w w w'
theorem Cl.A9{P:List (List UInt8)->Prop}{n:Nat}{w:World}{e:Ending}{w':World}{Q:List (List UInt8)->Int->Prop}(h:Cl P n w e w')(q:∀L,P L->Q L 0):rR Q w e w':=by
 obtain⟨g,R,m,o,f,j,hb⟩:=h;exact⟨_,_,_,_,_,m,f.ms o,by rw[yV];exact q _ j,hb⟩
theorem Je(n:Nat)(w:World)(W:1<=n)(X:n<=12):Calls prog 128 #[n] w (Cl (fun L=>gJ.pG L n n gJ.one) n w):=by
 go_enter func128,ntmps128;go_wp2_with (refine wpList_make_mat rfl (.tmp 12) (.tmp 12) 150 ku rfl n rfl rfl (by omega) ?_;intro w1 M1 b1 V);go_loopg[5,16] n (fun g s5 i wr=>∃(k:Nat) (R:List Wr),g=n-k/\k<=n/\i=.int .i64 (k:Int)/\R.length=k/\Mo wr w.heap.size w.heap.size n n R/\(∀i (hi:i<R.length),R[i].l=p9 n i)/\Below w w wr);case atStart=>exact⟨0,[],rfl,by omega,rfl,rfl,M1,(fun i hi=>absurd hi (by simp)),b1⟩
 case round=>
  obtain⟨k,R,rfl,Z,rfl,m,E,O,hb⟩:=hrel;have K:=gx O;have f:=gx m;clear O m;have G:=hb.size;have Q:=E.lt;by_cases j:k<n
  .have M2:=fun w' (h:Below wr wr w')=>E.below h;have Y:w.heap.size≠wr.heap.size:=by omega
   replace M2:=gx M2;clear M1 b1 V;go_wp2_with (refine wpList_make_bytes rfl (.tmp 21) (.tmp 21) rfl n rfl rfl (by omega) ?_;intro C I b2 z2;have k0:C.cell? (w,k)=some (.slice none 0 0):=(M2 C b2).Lj k (by rw[f.out];exact jb _) j;have k1:C.frozen? (w,k)=false:=(M2 C b2).free k;have k2:=nS I k j;have k3:=nD I k);have N:=(M2 C b2).push (by rw[f.out];exact j) ⟨wr.heap.size,n,List.replicate n 0⟩ (by simpa[Wr.v] using hJ I G) (fun q U e=>by have:=(E.Oc U).2;simp at e;omega);rw[f.out] at N;have F:=N.Ez k k (by simp;have:=f.out;omega) 1;have r:k<(R++[(⟨wr.heap.size,n,List.replicate n 0⟩:Wr)]).length:=by simp;have:=f.out;omega
   have o:(R++[(⟨wr.heap.size,n,List.replicate n 0⟩:Wr)])[k]'r=⟨wr.heap.size,n,List.replicate n 0⟩:=by rw[nI (by rw[f.out];exact jb _)];simp
   simp only[o] at F;have B:(R++[(⟨wr.heap.size,n,List.replicate n 0⟩:Wr)]).set k ⟨wr.heap.size,n,(List.replicate n 0).set k 1⟩=R++[⟨wr.heap.size,n,p9 n k⟩]:=by rw[xp _ _ (by rw[f.out];exact jb _),f.out];simp[p9]
   rw[B] at F;go_roundg (n-(k+1));case measure=>omega
   case rel=>
    refine⟨k+1,R++[⟨wr.heap.size,n,p9 n k⟩],rfl,by omega,by go_num,by simp;exact f,by simpa[Wr.v] using F,fun i hi=>?_,?_⟩
    .by_cases e:i<R.length;·rw[oC e];exact K i e
     .have S:i<R.length+1:=by simpa using hi
      have P:i=k:=by have:=f.out;omega
      subst P;rw[nI (by omega)];simp
    .exact(((gH hb b2)).setCell (by show w.heap.size<=w.heap.size;omega) _).setCell (by show w.heap.size<=wr.heap.size;omega) _
  .obtain rfl:k=n:=by omega
   go_wp2_with fail;go_ret2;exact⟨_,R,rfl,f,E,NU (by rw[gQ];simpa using f.out) (fun i hi=>by rw[sO hi];exact K i (by simpa[gQ] using hi)),hb⟩
theorem rR.none(P:List (List UInt8)->Int->Prop)(w:World)(e:Ending)(w':World)(err:Int)(h:Same (.tuple #[(),err]) w e w')(f:P [] err):rR P w e w':=by
 obtain⟨rfl,rfl⟩:=h;exact⟨_,_,_,[],err,rfl,Ms.nil _,f,iU _ _⟩
theorem xW{R:List Rw}{i:Nat}(hi:i<R.length)(j:Nat):gJ.ja (gz R) i j=R[i].l.getD j 0:=by
 unfold gJ.ja gz;simp[List.getD,hi]
section
variable {w w' : World} {base G n cap g c : Nat} {R : List Wr} {l : List UInt8}
theorem AK(R:List Wr)(r:Wr)(h:R.length<(R++[r]).length):(R++[r])[R.length]'h=r:=by
 rw[nI gM];simp
theorem Mo.last(h:Mo w base G n cap (R++[⟨g,c,l⟩])):w.cell? (G,R.length)=some (.slice (some (g,gy)) l.length c)/\(∀j,j<l.length->w.cell? ⟨g,j,none⟩=some (.int .u8 (iB l j)))/\(∀j,w.frozen? ⟨g,j,none⟩=false):=by
 have m:R.length<(R++[(⟨g,c,l⟩:Wr)]).length:=by simp
 have e:=AK R ⟨g,c,l⟩ m;have o:=h.at R.length m;rw[e] at o;refine⟨o,fun j q=>?_,fun j=>?_⟩
 .have f:=h.byte R.length j m (by rw[e];exact q);rw[e] at f;exact f
 .have f:=h.MG R.length j m;rw[e] at f;exact f
theorem Mo.setLast(h:Mo w base G n cap (R++[⟨g,c,l⟩]))(j v:Nat)(y:UInt8)(o:y.toNat=v):Mo (w.setCell (g,j) (.int .u8 (v:Int))) base G n cap (R++[⟨g,c,l.set j y⟩]):=by
 have m:R.length<(R++[(⟨g,c,l⟩:Wr)]).length:=by simp
 have e:=AK R ⟨g,c,l⟩ m;have f:=h.Ez R.length j m y;simp only[e,o] at f;rw[xp _ _ gM] at f;simpa using f
end
def AP(k:Nat)(A B:List (List UInt8))(i j:Nat):UInt8:=gJ.sum k fun p=>gJ.iZ (gJ.ja A i p) (gJ.ja B p j)
theorem r9(a b:Option Addr)(n ac m j:Nat)(A B:List Rw)(w:World)(Q:Ms w a n ac A)(S:Ms w b m j B)(e:Int)(L:e≠0)(K:Nat)(I:K=0/\gJ.ir (gz A)=e∨K=1/\gJ.ir (gz A)=0/\gJ.ir (gz B)=e):
  Calls prog 118 #[(a,n,ac),(b,m,j)] w (fun e' w'=>e'=.returned (.tuple #[(),e])/\Below w w w'):=by
 have E:=gx (fun W (h:Below w w W)=>kw a n ac A W (Q.below h));have O:=gx (fun W (h:Below w w W)=>kw b m j B W (S.below h));have f:Below w w (w.alloc (.cells #[(a,n,ac),(b,m,j)] 150)):=gZ.alloc gM _;have U:(w.alloc (.cells #[(a,n,ac),(b,m,j)] 150)).cell? (w,gy)=some (.slice a n ac):=by simp
 have c1:(w.alloc (.cells #[(a,n,ac),(b,m,j)] 150)).cell? (w,ia)=some (.slice b m j):=by simp
 have Z:(e !=0)=true:=by rw[ij];exact L
 generalize gJ.ir (gz A)=V at *;generalize gJ.ir (gz B)=X at *;have P:=gx I;clear I L;go_enter func118,ntmps118;go_wp2_with fail;generalize (w.alloc (.cells #[(a,n,ac),(b,m,j)] 150))=W at *;go_loopg[21] 2 (fun g i wr=>∃k:Nat,g=2-k/\k<=K/\i=.int .i64 (k:Int)/\W=wr);case atStart=>exact⟨0,rfl,by omega,rfl,rfl⟩
 case round=>
  obtain⟨k,rfl,Y,rfl,rfl⟩:=hrel;rcases P.out with⟨r,o⟩|⟨C,o,q⟩
  .subst r;subst o;obtain rfl:k=0:=by omega
   go_wp2_with fail;go_at_call 117;refine(E _ f).mono ?_;rintro e' N⟨rfl,rfl⟩;go_wp2_with fail;go_ret2;exact⟨rfl,f⟩
  .subst C;subst o;subst q;rcases pD k with F|F
   .subst F;go_wp2_with fail;go_at_call 117;refine(E _ f).mono ?_;rintro e' N⟨rfl,rfl⟩;go_wp2_with fail;go_roundg 1;case measure=>omega
    case rel=>exact⟨1,rfl,by omega,by go_num,rfl⟩
   .obtain rfl:k=1:=by omega
    go_wp2_with fail;go_at_call 117;refine(O _ f).mono ?_;rintro e' N⟨rfl,rfl⟩;go_wp2_with fail;go_ret2;exact⟨rfl,f⟩
theorem FK(a b:Option Addr)(n ac m f:Nat)(A B:List Rw)(w:World)(C:Ms w a n ac A)(X:Ms w b m f B)(F:gJ.ir (gz A)=0)(N:gJ.ir (gz B)=0)(O:gJ.wid (gz A) 0≠m):
  Calls prog 118 #[(a,n,ac),(b,m,f)] w (fun e' w'=>e'=.returned (.tuple #[(),pt])/\Below w w w'):=by
 have S:=gx (fun W (h:Below w w W)=>F▸kw a n ac A W (C.below h));have U:=gx (fun W (h:Below w w W)=>N▸kw b m f B W (X.below h));have e:Below w w (w.alloc (.cells #[(a,n,ac),(b,m,f)] 150)):=gZ.alloc gM _;have c0:(w.alloc (.cells #[(a,n,ac),(b,m,f)] 150)).cell? (w,gy)=some (.slice a n ac):=by simp
 have c1:(w.alloc (.cells #[(a,n,ac),(b,m,f)] 150)).cell? (w,ia)=some (.slice b m f):=by simp
 have E:=gJ.mM F;have Q:=C.jO;have Y:1<=n:=by have:=E.n1;rw[gY] at this;omega
 obtain⟨V,r,rfl,_⟩:=C.sl.addr (by omega);have j:0<A.length:=by omega
 have Z:=((C.below e).at 0 j).1;have q:=zY j;have o:=Bt.n ((C.below e).at 0 j).2;clear F N E;generalize A[0]=r0 at *;obtain⟨a0,K,p0,l0⟩:=r0;simp only[mH] at Z q o;have P:K≠m:=by rw[<-o,<-q];exact O
 have t0:((K:Int) !=(m:Int))=true:=by rw[ij];omega
 have t1:(K !=m)=true:=by rw[ij];exact P
 have Q:=gx Q;clear O P q o;go_enter func118,ntmps118;go_wp2_with fail;generalize (w.alloc (.cells #[(some (V,r),n,ac),(b,m,f)] 150))=W at *;go_loopg[21] 2 (fun g i wr=>∃k:Nat,g=2-k/\k<=2/\i=.int .i64 (k:Int)/\W=wr);case atStart=>exact⟨0,rfl,by omega,rfl,rfl⟩
 case round=>
  obtain⟨k,rfl,hk,rfl,rfl⟩:=hrel;rcases qi k 2 with I|I
  .rcases pD k with L|L
   .subst L;go_wp2_with fail;go_at_call 117;refine(S _ e).mono ?_;rintro e' w1⟨rfl,rfl⟩;go_wp2_with fail;go_roundg 1;case measure=>omega
    case rel=>exact⟨1,rfl,by omega,by go_num,rfl⟩
   .obtain rfl:k=1:=by omega
    go_wp2_with fail;go_at_call 117;refine(U _ e).mono ?_;rintro e' w1⟨rfl,rfl⟩;go_wp2_with fail;go_roundg 0;case measure=>omega
    case rel=>exact⟨2,rfl,by omega,by go_num,rfl⟩
  .obtain rfl:k=2:=by omega
   go_wp2_with fail;go_ret2;exact⟨rfl,e⟩
theorem Mo.mono{w:World}{base e G n cap:Nat}{R:List Wr}(h:Mo w base G n cap R)(hb:e<=base):Mo w e G n cap R:=⟨h.le,hJ h.own hb,fun r f=>hJ (h.row r f) hb,h.nodup⟩
theorem Mo.IR{w:World}{base G n cap t:Nat}{R:List Wr}(h:Mo w base G n cap R)(e:uL w t):t≠G:=e.ne h.own (by decide)
theorem Mo.JA{w:World}{base G n cap t:Nat}{R:List Wr}(h:Mo w base G n cap R)(f:uL w t){r:Wr}(e:r∈R):t≠r.g:=f.ne (h.row r e) (by decide)
theorem Ij(k:Nat)(A B:List (List UInt8))(i j:Nat):AP (k+1) A B i j=gJ.iG (AP k A B i j) (gJ.iZ (gJ.ja A i k) (gJ.ja B k j)):=rfl
theorem Ms.uQ{w:World}{b off n cap m:Nat}{R:List Rw}(h:Ms w (some ⟨b,off,Option.none⟩) n cap R)(hc:∀r∈gz R,r.length=m):∀i (hi:i<R.length),∃o q,Bt w o m q R[i].l/\∀W,Below w w W->W.cell? ⟨b,off+i,Option.none⟩=some (.slice o m q):=fun i hi=>by
 have e:=(h.at i hi).2;have j:R[i].n=m:=(Bt.n e).symm.trans (hc _ (iu.2 ⟨_,iE hi,rfl⟩));rw[j] at e;refine⟨_,_,e,fun W B=>?_⟩;have f:=((h.below B).at i hi).1;rw[j] at f;exact f
def pH(q:Nat)(f:gJ.M)(R:List Wr):Prop:=∀i (hi:i<R.length),R[i].l.length=q/\∀j,j<q->R[i].l.getD j 0=f i j
theorem pH.nil(q:Nat)(f:gJ.M):pH q f []:=fun i hi=>absurd hi (by simp)
theorem pH.snoc{q:Nat}{f:gJ.M}{R:List Wr}(h:pH q f R){r:Wr}{k:Nat}(E:R.length=k)(o:r.l.length=q)(B:∀j,j<q->r.l.getD j 0=f k j):pH q f (R++[r]):=fun i hi=>by
 by_cases e:i<R.length;·rw[oC e];exact h i e
 .have C:i<R.length+1:=by simpa using hi
  have m:i=R.length:=by omega
  subst m;rw[AK R r hi,E];exact⟨o,B⟩
theorem pH.PT{q n:Nat}{f:gJ.M}{R:List Wr}(h:pH q f R)(j:R.length=n):gJ.pG (gQ R) n q f:=mI (by simpa[gQ] using j) fun i hi=>by
 have e:i<R.length:=by simpa[gQ] using hi
 rw[sO hi];exact h i e
theorem Jd(a b:Option Addr)(n ac m bc q:Nat)(A B:List Rw)(w:World)(hA:Ms w a n ac A)(hB:Ms w b m bc B)(P:gJ.lD (gz A) n m)(E:gJ.lD (gz B) m q):
  Calls prog 118 #[(a,n,ac),(b,m,bc)] w (Cl (fun L=>gJ.pG L n q (gJ.mul m (gJ.ja (gz A)) (gJ.ja (gz B)))) n w):=by
 have CA:=gx (fun W (h:Below w w W)=>P.jN▸kw a n ac A W (hA.below h));have CB:=gx (fun W (h:Below w w W)=>E.jN▸kw b m bc B W (hB.below h));have S:Below w w (w.alloc (.cells #[(a,n,ac),(b,m,bc)] 150)):=gZ.alloc gM _;have c0:(w.alloc (.cells #[(a,n,ac),(b,m,bc)] 150)).cell? (w,gy)=some (.slice a n ac):=by simp
 have c1:(w.alloc (.cells #[(a,n,ac),(b,m,bc)] 150)).cell? (w,ia)=some (.slice b m bc):=by simp
 have HA:=gx hA.jO;have HB:=gx hB.jO;have aQ:=P.n1;have aR:=P.n2;have aP:=E.n1;have jE:=E.n2;have aS:=E.m1;have aT:=E.m2;obtain⟨ab,ap,rfl,_⟩:=hA.sl.addr (by omega);obtain⟨bb,aq,rfl,_⟩:=hB.sl.addr (by omega);have aF:0<A.length:=by rw[HA.out];omega
 have aG:0<B.length:=by rw[HB.out];omega
 have XA:=gx (hA.uQ P.lP);have XB:=gx (hB.uQ E.lP);clear P E hA hB;go_enter func118,ntmps118;go_wp2_with fail;generalize (w.alloc (.cells #[(some (ab,ap),n,ac),(some (bb,aq),m,bc)] 150))=W at *;go_loopg[21] 2 (fun g i wr=>∃k:Nat,g=2-k/\k<=2/\i=.int .i64 (k:Int)/\W=wr);case atStart=>exact⟨0,rfl,by omega,rfl,rfl⟩
 case round=>
  obtain⟨k,rfl,hk,rfl,rfl⟩:=hrel;rcases qi k 2 with aI|aI
  .rcases pD k with h0|h0
   .subst h0;go_wp2_with fail;go_at_call 117;refine(CA _ S).mono ?_;rintro e' w1⟨rfl,rfl⟩;go_wp2_with fail;go_roundg 1;case measure=>omega
    case rel=>exact⟨1,rfl,by omega,by go_num,rfl⟩
   .obtain rfl:k=1:=by omega
    go_wp2_with fail;go_at_call 117;refine(CB _ S).mono ?_;rintro e' w1⟨rfl,rfl⟩;go_wp2_with fail;go_roundg 0;case measure=>omega
    case rel=>exact⟨2,rfl,by omega,by go_num,rfl⟩
  .obtain rfl:k=2:=by omega
   obtain⟨aV,aW,_,q0⟩:=XA 0 aF;have q0:=q0 W S;simp only[mH] at q0;clear c0 c1 CA CB;go_wp2_with fail;go_at_call 130;refine(xL _).mono ?_;rintro e w2⟨⟨rfl,ar⟩,aC,-⟩;have Q:=S.trans (ar.mono S.size);have aE:=Q.size;go_wp2_with (refine wpList_make_mat rfl (.tmp 40) (.tmp 40) 150 ku rfl n rfl rfl (by omega) ?_;intro w3 M3 b3 z3);have ad:=gH Q b3;have ak:=aC.below b3;replace M3:=M3.mono aE;obtain⟨t,ht⟩:∃t,W.heap.size=t:=⟨_,rfl⟩;rw[ht] at ak⊢;obtain⟨G,hG⟩:∃G,w2.heap.size=G:=⟨_,rfl⟩;rw[hG] at M3⊢;clear aC ar b3 z3 Q q0 ht hG aE;go_loopg[44] n (fun g i wr=>∃(k:Nat) (R:List Wr),g=n-k/\k<=n/\i=.int .i64 (k:Int)/\Hid (R.length=k)/\Mo wr w.heap.size G n n R/\uL wr t/\Below w w wr/\Hid (pH q (AP m (gz A) (gz B)) R));case atStart=>exact⟨0,[],rfl,by omega,rfl,gx rfl,M3,ak,ad,gx (pH.nil _ _)⟩
   case round=>
    clear M3 ak ad;obtain⟨k,R,rfl,hk,rfl,HK,Y,F,U,HR⟩:=hrel;obtain⟨wo,rfl⟩:∃wo:World,wo=wr:=⟨_,rfl⟩;have af:=U.size;by_cases aj:k<n
    .have ax:k<A.length:=by rw[HA.out];exact aj
     obtain⟨ra,rc,aA,e0⟩:=XA k ax;have e0:=e0 wo U;obtain⟨rb,aL,_,e1⟩:=XB 0 aG;have e1:=e1 wo U;simp only[mH] at e1;obtain⟨pa,aM,rfl,_⟩:=aA.addr (by omega);have M2:=gx (fun w' (h:Below wo wo w')=>Y.below h);go_wp2_with (refine wpList_make_bytes rfl (.tmp 54) (.tmp 54) rfl q rfl rfl (by omega) ?_;intro w4 o4 b4 z4;have k0:w4.cell? (G,k)=some (.slice none 0 0):=(M2 w4 b4).Lj k (by rw[HK.out];exact jb _) aj;have k1:w4.frozen? (G,k)=false:=(M2 w4 b4).free k);have P1:=(M2 w4 b4).push (by rw[HK.out];exact aj) ⟨wo.heap.size,q,List.replicate q 0⟩ (by simpa[Wr.v] using hJ o4 af) (fun r hr e=>by have:=(Y.Oc hr).2;simp at e;omega);rw[HK.out] at P1;have az:(List.replicate q (0:UInt8)).length=q:=by simp
     unfold Wr.v at P1;simp only[az] at P1;have ai:Below w w (w4.setCell (G,k) (some (wo,gy),q,q)):=(gH U b4).setCell Y.lt.1 _;have al:uL (w4.setCell (G,k) (some (wo,gy),q,q)) t:=(F.below b4).only ((gU.refl w4 [G]).setCell (.inl (by simp)) _) (by simpa using Y.IR F);obtain⟨K,au⟩:∃K,wo.heap.size=K:=⟨_,rfl⟩;have aw:w.heap.size<=K:=by omega
     rw[au] at P1 ai al⊢;generalize w4.setCell (G,k) (some (K,gy),q,q)=w5 at *;clear M2 Y F au e0 e1 b4 z4 o4 k0 k1 af;go_loopg[59] m (fun g i wr=>∃(o:Nat) (l:List UInt8),g=m-o/\o<=m/\i=.int .i64 (o:Int)/\Hid (l.length=q)/\Mo wr w.heap.size G n n (R++[⟨K,q,l⟩])/\uL wr t/\Below w w wr/\Hid (∀j,j<q->l.getD j 0=AP o (gz A) (gz B) k j));case atStart=>exact⟨0,_,rfl,by omega,rfl,gx az,P1,al,ai,gx (fun j hj=>by simp[List.getD,hj,AP,gJ.sum])⟩
     case round=>
      clear P1 al ai;obtain⟨o,l,rfl,aO,rfl,HL,Y,F,C,ag⟩:=hrel;obtain⟨wp,rfl⟩:∃wp:World,wp=wr:=⟨_,rfl⟩;by_cases ae:o<m
      .have ay:o<B.length:=by rw[HB.out];exact ae
       have hx:=Bt.at (aA.below C) o ae;obtain⟨rb,aL,aB,e1⟩:=XB o ay;have e1:=e1 wp C;obtain⟨pb,aK,rfl,_⟩:=aB.addr (by omega);go_wp2_with fail;clear hx e1;go_loopg[69] q (fun g i wr=>∃(f:Nat) (N:List UInt8),g=q-f/\f<=q/\i=.int .i64 (f:Int)/\Hid (N.length=q)/\Mo wr w.heap.size G n n (R++[⟨K,q,N⟩])/\uL wr t/\Below w w wr/\Hid (∀j,j<q->N.getD j 0=if j<f then AP (o+1) (gz A) (gz B) k j else AP o (gz A) (gz B) k j));case atStart=>exact⟨0,l,rfl,by omega,rfl,HL,Y,F,C,gx (fun j hj=>by rw[gC (by omega)];exact ag j hj)⟩
       case round=>
        clear Y F C ag HL;obtain⟨f,N,rfl,aN,rfl,O,Z,I,V,ah⟩:=hrel;by_cases X:f<q
        .have hy:=Bt.at (aB.below V) f X;obtain⟨m0,m1,m2⟩:=Z.last;rw[HK.out,O.out] at m0;have m1:=m1 f (by rw[O.out];exact X);have m2:=m2 f;have aD:t≠K:=Z.JA I (r:=⟨K,q,N⟩) (by simp);have h8:=iP A[k].l o;have h9:=iP B[o].l f;have h7:=iP N f;obtain⟨y,ao⟩:∃y,y=gJ.iG (N.getD f 0) (gJ.iZ (A[k].l.getD o 0) (B[o].l.getD f 0)):=⟨_,rfl⟩;have e8:y.toNat=iB N f^^^kM.mul (iB A[k].l o) (iB B[o].l f):=by rw[ao,gJ.toNat_add,gJ.toNat_mul];rfl
         have hs:=gx (fun s=>(Z.drewN s).setLast f _ _ e8);have D:=gx (fun s=>xN t (iB A[k].l o) (iB B[o].l f) h8 h9 (wr.drewN s) (I.drewN s));have aJ:=gx (fun s v=>(I.drewN s).only ((gU.refl (wr.drewN s) [K]).setCell (a:=(K,f)) (.inl (by simp)) v) (by simpa using aD));have aH:=gx (fun s v=>(below_drewN V s).setCell (p:=(K,f)) aw v);have aU:=sG (iB N f) (kM.mul (iB A[k].l o) (iB B[o].l f)) h7 (kM.mul_lt _ _);have HY:=gx ao;clear e8 ao;have i0:(0:Int)<=(k:Int):=yB _;have i1:(k:Int)<(n:Int):=by omega
         have i2:(0:Int)<=(f:Int):=yB _;have i3:(f:Int)<(q:Int):=by omega
         generalize iB A[k].l o=xa at *;generalize iB B[o].l f=xb at *;generalize iB N f=xl at *;generalize kM.mul xa xb=v at *;generalize xl^^^v=z at *;go_wp2_with fail;go_region_law (first|(go_simp;go_at_call 131;refine(D _).mono ?_;rintro e w6⟨rfl,j1,rfl⟩));all_goals go_wp2_with fail
         all_goals
          go_roundg (q-(f+1));case measure=>omega
          case rel=>
           refine⟨f+1,N.set f y,rfl,by omega,by go_num,gx (by rw[kH];exact O),hs _,aJ _ _,aH _ _,gx (fun j hj=>?_)⟩;rw[nW (by rw[O.out];exact X)];by_cases e:j=f
           .subst e;have:=ah j hj;rw[gC (by omega)] at this;rw[gG rfl,gG (by omega),HY.out,this,Ij,xW ax,xW ay]
           .rw[gC e,ah.out j hj];by_cases e2:j<f;·rw[gG e2,gG (by omega)]
            .rw[gC e2,gC (by omega)]
        .obtain rfl:f=q:=by omega
         go_wp2_with fail;go_roundg (m-(o+1));case measure=>omega
         case rel=>exact⟨o+1,N,rfl,by omega,by go_num,O,Z,I,V,gx (fun j hj=>by have:=ah j hj;rwa[gG hj] at this)⟩
      .obtain rfl:o=m:=by omega
       go_wp2_with fail;go_roundg (n-(k+1));case measure=>omega
       case rel=>exact⟨k+1,R++[⟨K,q,l⟩],rfl,by omega,by go_num,gx (by simp;exact HK.out),Y,F,C,gx (HR.out.snoc HK.out HL.out ag.out)⟩
    .obtain rfl:k=n:=by omega
     go_wp2_with fail;go_ret2;exact⟨G,R,rfl,HK,Y,HR.PT HK,U⟩
def oy(err:Int)(w:World)(e:Ending)(w':World):Prop:=e=.returned (.tuple #[(),err])/\Below w w w'
theorem oy.A9{P:List (List UInt8)->Int->Prop}{w:World}{e:Ending}{w':World}{err:Int}(h:oy err w e w')(f:P [] err):rR P w e w':=by
 obtain⟨rfl,hb⟩:=h;exact⟨_,_,_,[],err,rfl,Ms.nil _,f,hb⟩
theorem CN{A B:List (List UInt8)}{P:Prop}(j:gJ.ir A≠0->P)(o:gJ.ir A=0->gJ.ir B≠0->P)(r:gJ.ir A=0->gJ.ir B=0->gJ.wid A 0≠B.length->P)
  (w:∀n m q,A.length=n->B.length=m->gJ.lD A n m->gJ.lD B m q->P):P:=by
 by_cases e:gJ.ir A=0
 .by_cases f:gJ.ir B=0
  .by_cases h:gJ.wid A 0=B.length;·exact w _ _ _ rfl rfl (h▸gJ.mM e) (gJ.mM f)
   .exact r e f h
  .exact o e f
 .exact j e
theorem Ma{A B:List (List UInt8)}(h:gJ.ir A≠0):gJ.rS A B [] (gJ.ir A):=by unfold gJ.rS;rw[gG h];exact⟨rfl,rfl⟩
theorem Mc{A B:List (List UInt8)}(h:gJ.ir A=0)(f:gJ.ir B≠0):gJ.rS A B [] (gJ.ir B):=by unfold gJ.rS;rw[gC (fun e=>e h),gG f];exact⟨rfl,rfl⟩
theorem Md{A B:List (List UInt8)}(h:gJ.ir A=0)(f:gJ.ir B=0)(j:gJ.wid A 0≠B.length):gJ.rS A B [] 8:=by unfold gJ.rS;rw[gC (fun e=>e h),gC (fun e=>e f),gG j];exact⟨rfl,rfl⟩
theorem Me{A B:List (List UInt8)}{n m q:Nat}(j:gJ.lD A n m)(f:gJ.lD B m q){L:List (List UInt8)}(h:gJ.pG L n q (gJ.mul m (gJ.ja A) (gJ.ja B))):gJ.rS A B L 0:=by
 unfold gJ.rS;rw[gC (fun e=>e j.jN),gC (fun e=>e f.jN),gC (by rw[j.Ci,f.rows];exact fun e=>e rfl),j.rows,f.rows,f.Ci];exact⟨h,rfl⟩
theorem JY(a b:Option Addr)(n ac m j:Nat)(A B:List Rw)(w:World)(C:Ms w a n ac A)(o:Ms w b m j B):Calls prog 118 #[(a,n,ac),(b,m,j)] w (rR (gJ.rS (gz A) (gz B)) w):=by
 refine CN (A:=gz A) (B:=gz B) (fun h=>?_) (fun h r=>?_) (fun h r G=>?_) (fun I m' q K N E F=>?_);·exact(r9 a b n ac m j A B w C o _ h 0 (.inl ⟨rfl,rfl⟩)).mono fun e w' f=>oy.A9 f (Ma h)
 .exact(r9 a b n ac m j A B w C o _ r 1 (.inr ⟨rfl,h,rfl⟩)).mono fun e w' f=>oy.A9 f (Mc h r)
 .exact(FK a b n ac m j A B w C o h r (by rw[o.dn] at G;exact G)).mono fun e w' f=>oy.A9 f (Md h r G)
 .obtain rfl:I=n:=K.symm.trans C.dn;obtain rfl:m'=m:=N.symm.trans o.dn;exact(Jd a b I ac m' j q A B w C o E F).mono fun e w' f=>f.A9 fun L O=>Me E F O
end Go.Proofs.YthhcdfjijagalaaGreat
namespace Go.Proofs.YthhcdfjijagalaaGreat.gJ
theorem Step.congr{n:Nat}{a e out work' out':M}{P P':Nat->Prop}(h:Step n a e out P)(r:∀i j,i<n->j<n->work' i j=e i j)(q:∀i j,i<n->j<n->out' i j=out i j)(o:∀j,P' j->P j/\j<n):Step n a work' out' P':=by
 refine⟨fun i j hi f=>?_,fun x w=>h.inj x fun i hi=>?_,fun i j hi f=>?_⟩
 .rw[r i j hi f,<-h.eq i j hi f];exact kj fun k m=>by rw[q i k hi m]
 .rw[<-w i hi];exact pO (fun k m=>(q i k hi m).symm) (fun _ _=>rfl)
 .rw[r i j hi (o j f).2];exact h.lP i j hi (o j f).1
theorem wF{L:List (List UInt8)}{i:Nat}(hi:i<L.length)(r:List UInt8)(a j:Nat):ja (L.set i r) a j=if a=i then r.getD j 0 else ja L a j:=by
 unfold ja;by_cases e:a=i;·subst e;simp[List.getD,hi]
 .rw[if_neg e];simp[List.getD,List.getElem?_set_ne (Ne.symm e)]
theorem xU{L:List (List UInt8)}{i:Nat}(hi:i<L.length)(j:Nat):ja L i j=L[i].getD j 0:=by
 unfold ja;simp[List.getD,hi]
theorem LA{L:List (List UInt8)}{c k:Nat}(hc:c<L.length)(h:k<L.length)(i j:Nat):ja ((L.set c L[k]).set k L[c]) i j=nM c k (ja L) i j:=by
 rw[wF (by simpa using h),wF hc];unfold nM;rw[xU hc,xU h];by_cases f:i=k
 .subst f;rw[if_pos rfl];by_cases e:i=c;·subst e;rw[if_pos rfl]
  .rw[if_neg e,if_pos rfl]
 .rw[if_neg f];by_cases e:i=c;·rw[if_pos e,if_pos e]
  .rw[if_neg e,if_neg e,if_neg f]
theorem Cw{L:List (List UInt8)}{n c:Nat}{x:UInt8}(hc:c<L.length){r:List UInt8}(h:∀j,j<n->r.getD j 0=iZ (L[c].getD j 0) x)(i j:Nat)(f:j<n):ja (L.set c r) i j=lX c x (ja L) i j:=by
 rw[wF hc];unfold lX;by_cases e:i=c;·rw[if_pos e,if_pos e,h j f,xU hc]
 .rw[if_neg e,if_neg e]
def kT(c:Nat)(y:Nat->UInt8)(i:Nat)(a:M):M:=fun r j=>if r<i then elimM c y a r j else a r j
theorem tp(c:Nat)(y:Nat->UInt8)(a:M)(r j:Nat):kT c y 0 a r j=a r j:=by unfold kT;rw[if_neg (by omega)]
theorem rY{c n:Nat}{y:Nat->UInt8}{a:M}{r j:Nat}(h:r<n):kT c y n a r j=elimM c y a r j:=by unfold kT;rw[if_pos h]
theorem tm{c i:Nat}{y:Nat->UInt8}{a:M}(h:i=c∨y i=0)(r j:Nat):kT c y (i+1) a r j=kT c y i a r j:=by
 unfold kT;by_cases e:r=i
 .subst e;rw[if_pos (by omega),if_neg (by omega)];unfold elimM;rcases h with h|h
  .rw[if_pos h,h]
  .split;·rename_i e;rw[e]
   .rw[h,mul_zero,add_zero]
 .by_cases f:r<i;·rw[if_pos f,if_pos (by omega)]
  .rw[if_neg f,if_neg (by omega)]
theorem Fw{L:List (List UInt8)}{n c i:Nat}{y:Nat->UInt8}{a:M}(hi:i<L.length)(h:∀r j,r<n->j<n->ja L r j=kT c y i a r j)(C:i<n)(o:c<n)(q:i≠c){m:List UInt8}
  (E:∀j,j<n->m.getD j 0=iG (L[i].getD j 0) (iZ (ja L c j) (y i))) (r j:Nat) (B:r<n) (f:j<n):ja (L.set i m) r j=kT c y (i+1) a r j:=by
 have hc:ja L c j=a c j:=by
  rw[h c j o f];unfold kT elimM;split;·rw[if_pos rfl]
  .rfl
 rw[wF hi];by_cases e:r=i
 .subst e;rw[if_pos rfl,E j f,hc,<-xU hi,h r j B f];unfold kT;rw[if_neg (by omega),if_pos (by omega)];unfold elimM;rw[if_neg q]
 .rw[if_neg e,h r j B f];unfold kT;by_cases w:r<i;·rw[if_pos w,if_pos (by omega)]
  .rw[if_neg w,if_neg (by omega)]
theorem C5{c:Nat}{a:M}(h:a c c≠0):lX c (mD (a c c)) a c c=1:=by
 unfold lX;rw[if_pos rfl];exact od h
end Go.Proofs.YthhcdfjijagalaaGreat.gJ
namespace Go.Proofs.YthhcdfjijagalaaGreat
open Qz Go.Proofs.Tryz Go.RowKit
theorem xI{P:Prop}(d s:Int)(m:d<1->P)(o:¬d<1->8<d->P)(q:¬d<1->¬8<d->s<0->P)(r:¬d<1->¬8<d->¬s<0->4<s->P)(w:¬d<1->¬8<d->¬s<0->¬4<s->P):P:=by
 by_cases e:d<1;·exact m e
 .by_cases f:8<d;·exact o e f
  .by_cases h:s<0;·exact q e f h
   .by_cases j:4<s;·exact r e f h j
    .exact w e f h j
theorem nm{d s:Int}(h:d<1∨8<d∨s<0∨4<s):gJ.gT d s=5:=by unfold gJ.gT;rw[gG h]
theorem lZ(d s:Int)(w:World):Calls prog 13 #[d,s] w (Same (gJ.gT d s) w):=by
 refine xI d s (fun e=>?_) (fun e f=>?_) (fun e f h=>?_) (fun e f h j=>?_) (fun e f h j=>?_)
 .rw[nm (.inl e)];go_enter func13,ntmps13;go_wp2_with fail;go_ret;exact⟨rfl,rfl⟩
 .rw[nm (.inr (.inl f))];go_enter func13,ntmps13;go_wp2_with fail;go_ret;exact⟨rfl,rfl⟩
 .rw[nm (.inr (.inr (.inl h)))];go_enter func13,ntmps13;go_wp2_with fail;go_ret;exact⟨rfl,rfl⟩
 .rw[nm (.inr (.inr (.inr j)))];go_enter func13,ntmps13;go_wp2_with fail;go_ret;exact⟨rfl,rfl⟩
 .rw[gJ.kl (by omega)];go_enter func13,ntmps13;go_wp2_with fail;go_ret;exact⟨rfl,rfl⟩
theorem kz(d s:Int)(w:World):Calls prog 14 #[d,s] w (Same (gJ.gT d s) w):=by
 refine xI d s (fun e=>?_) (fun e f=>?_) (fun e f h=>?_) (fun e f h j=>?_) (fun e f h j=>?_)
 .rw[nm (.inl e)];go_enter func14,ntmps14;go_wp2_with fail;go_ret;exact⟨rfl,rfl⟩
 .rw[nm (.inr (.inl f))];go_enter func14,ntmps14;go_wp2_with fail;go_ret;exact⟨rfl,rfl⟩
 .rw[nm (.inr (.inr (.inl h)))];go_enter func14,ntmps14;go_wp2_with fail;go_ret;exact⟨rfl,rfl⟩
 .rw[nm (.inr (.inr (.inr j)))];go_enter func14,ntmps14;go_wp2_with fail;go_ret;exact⟨rfl,rfl⟩
 .rw[gJ.kl (by omega)];go_enter func14,ntmps14;go_wp2_with fail;go_ret;exact⟨rfl,rfl⟩
theorem Mo.mb{w W:World}{g n cap:Nat}{R:List Wr}(h:Mo W w.heap.size g n cap R)(B:R.length=n)(hb:Below w w W):Mb w W none w.heap.size (some (g,gy),n,cap) (R.map Wr.rw):=by
 subst B;refine⟨?_,fun r m=>?_,fun r m=>?_⟩
 .have q:=h.own;rw[lU,List.replicate_zero,mY,<-vT] at q;rw[iz];exact OT.fresh q hb gM
 .obtain⟨o,f,rfl⟩:=iu.1 m;exact h.rw f
 .obtain⟨o,f,rfl⟩:=iu.1 m;intro _ b off e j;have e:some ((o.g,gy):Addr)=some (b,off):=e;cases e;have j:some g=some o.g:=j;cases j;exact h.ne f rfl
theorem GB{d i j:Nat}(hi:d<=i)(e:i<256)(f:j<256):(gJ.mf d i j).toNat=kM.inv (i^^^j):=by
 unfold gJ.mf;rw[gC (by omega),gJ.uF,gJ.toNat_add,uU,uU,Nat.mod_eq_of_lt e,Nat.mod_eq_of_lt f]
theorem Cr(d s:Int)(w:World)(h:gJ.gT d s≠0):Calls prog 116 #[d,s] w (oy (gJ.gT d s) w):=by
 have C:=gx (lZ d s w);have f:(gJ.gT d s !=0)=true:=by rw[ij];exact h
 clear h;generalize gJ.gT d s=e at *;go_enter func116,ntmps116;go_wp2_with fail;go_at_call 13;refine(C).mono ?_;rintro e' j⟨rfl,rfl⟩;go_wp2_with fail;go_ret2;exact⟨rfl,iU _ _⟩
theorem wj(d s:Nat)(w:World)(h1:1<=d)(h2:d<=8)(h3:s<=4):Calls prog 116 #[d,s] w (rR (fun L e=>gJ.pG L (d+s) d (gJ.mf d)/\e=0) w):=by
 have C:=gx (lZ d s w);rw[gJ.kl (by omega)] at C;go_enter func116,ntmps116;go_wp2_with fail;go_at_call 13;refine(C).mono ?_;rintro e' w1⟨rfl,rfl⟩;go_wp2_with fail;go_at_call 128;refine(Je d w h1 (by omega)).mono ?_;rintro e w2⟨Go,Ro,rfl,r,K,f,O⟩;have I:=K.mb r O;have F:=gx (show∀i (hi:i<(Ro.map Wr.rw).length),(Ro.map Wr.rw)[i].l.length=d/\∀j,j<d->(Ro.map Wr.rw)[i].l.getD j 0=gJ.mf d i j from fun i hi=>by
  have Q:i<Ro.length:=by simpa using hi
  have S:i<(gQ Ro).length:=by simpa[gQ] using Q
  have e1:=f.lP _ (iE S);rw[sO S] at e1;refine⟨by simpa[Wr.rw] using e1,fun j hj=>?_⟩;have E:=f.eq i j (by omega) hj;rw[gJ.xU S,sO S] at E;unfold gJ.mf;rw[gG (by omega),<-E];simp[Wr.rw])
 have q:=gx (show(Ro.map Wr.rw).length=d+0 by rw[iz,r];rfl);generalize Ro.map Wr.rw=R0 at *;clear K f r;go_wp2_with fail;go_loopg[7,24] s (fun g s7 af wr=>∃(k:Nat) (R:List Rw),g=s-k/\k<=s/\af=.int .i64 (k:Int)/\Hid (R.length=d+k)/\Mb w wr none w.heap.size s7 R/\Hid (∀i (hi:i<R.length),R[i].l.length=d/\∀j,j<d->R[i].l.getD j 0=gJ.mf d i j));case atStart=>exact⟨0,R0,rfl,by omega,rfl,q,I,F⟩
 case round=>
  clear I F q O;obtain⟨k,R,rfl,hk,rfl,q,U,F⟩:=hrel;obtain⟨wo,rfl⟩:∃wo:World,wo=wr:=⟨_,rfl⟩;by_cases aw:k<s
  .obtain⟨dk,B⟩:∃dk,dk=d+k:=⟨_,rfl⟩;have s1:IntKind.i64.wrap ((d:Int)+(k:Int))=(d:Int)+(k:Int):=iO _ (by omega);have s2:IntKind.u8.wrap ((d:Int)+(k:Int))=(dk:Int):=by rw[IntKind.wrap_u8];omega
   have Z:dk<12:=by omega
   have Y:d<=dk:=by omega
   replace B:=gx B;have aj:=(U.own.im gM (fun k e=>by cases e)).size;go_wp2_with fail;go_loopg[10,28] d (fun g ae ag wr=>∃(j:Nat) (l:List UInt8),g=d-j/\j<=d/\ag=.int .i64 (j:Int)/\Hid (l.length=j)/\OB wo wr none wo.heap.size ae l/\Hid (∀t,t<j->l.getD t 0=gJ.mf d dk t));case atStart=>exact⟨0,[],rfl,by omega,rfl,gx rfl,OT.fresh (iY _ _ _ _) gZ gM,gx (fun t ht=>absurd ht (by omega))⟩
   case round=>
    obtain⟨j,l,rfl,hj,rfl,o,W,G⟩:=hrel;obtain⟨wp,rfl⟩:∃wp:World,wp=wr:=⟨_,rfl⟩;have P:=W.im gM (fun k e=>by cases e);have ak:=P.size;by_cases ar:j<d
    .have s3:IntKind.u8.wrap (j:Int)=(j:Int):=by rw[IntKind.wrap_u8];omega
     have hx:=sG dk j (by omega) (by omega);have hy:=GB (d:=d) (i:=dk) (j:=j) Y (by omega) (by omega);have ad:dk^^^j<256:=qk (n:=8) (by omega) (by omega);obtain⟨y,m⟩:∃y,gJ.mf d dk j=y:=⟨_,rfl⟩;rw[m] at hy;replace m:=gx m;have D:=gx (JQ (dk^^^j) ad wp);rw[<-hy] at D;generalize dk^^^j=x at *;clear hy;go_wp2_with fail;go_at_call 129;refine(D).mono ?_;rintro e w5⟨rfl,b5⟩;have X:=W.below b5;have ai:=b5.size;have au:l.length<=8:=by rw[o.out];omega
     go_wp2_with (refine wpList_append_ob rfl (.tmp 31) (.tmp 40) rfl wo.heap.size _ l [y] rfl (X.alloc _) (some (w5,gy)) 1 1 rfl (p8 w5 _ [y] (by simp[maxLen]) rfl) (by simp;omega) (by simp;omega) ?_;intro v2 w4 ab ap);go_roundg (d-(j+1));case measure=>omega
     case rel=>
      refine⟨j+1,l++[y],rfl,by omega,by go_num,gx (by simp;exact o),ab,gx (fun t ht=>?_)⟩;by_cases e:t<l.length;·rw[FL _ _ e];exact G t (by rw[<-o.out];exact e)
      .have E:t=j:=by have:=o.out;omega
       subst E;rw[LI _ _ o.out];exact m.symm
    .obtain rfl:d=j:=by omega
     have M2:=U.below P;have h:=W.own;rw[o.out] at h;obtain⟨g,cap,rfl,al,aq,ax,ao⟩:=jR h h1;have N:R.length<=65536:=by rw[q.out];omega
     go_wp2_with (refine wpList_append_row rfl (.tmp 43) (.tmp 45) 150 ku rfl w.heap.size _ R rfl M2 ⟨some (g,gy),d,cap,l⟩ _ rfl rfl (qX h) (mg M2.own.own h _) N (by omega) ?_;intro v5 w5 M5 g5);go_roundg (s-(k+1));case measure=>omega
     case rel=>
      refine⟨k+1,R++[⟨some (g,gy),d,cap,l⟩],rfl,by omega,by go_num,gx (by simp[q.out];omega),M5,gx (fun i hi=>?_)⟩;by_cases e:i<R.length;·rw[oC e];exact F i e
      .have Q:i<R.length+1:=by simpa using hi
       have E:i=dk:=by have:=q.out;have:=B.out;omega
       rw[nI (by omega)];have e3:i-R.length=0:=by omega
       simp only[e3,jr];rw[E];exact⟨o,G⟩
  .obtain rfl:s=k:=by omega
   obtain⟨a',ah,rfl,V⟩:=U.ms;have hb:=U.own.im gM (fun k e=>by cases e);go_wp2_with fail;go_ret2;refine⟨_,_,_,R,0,rfl,V,⟨mI (by rw[gY];exact q) (fun i hi=>?_),rfl⟩,hb⟩;rw[oT hi];exact F i (by simpa[gz] using hi)
end Go.Proofs.YthhcdfjijagalaaGreat

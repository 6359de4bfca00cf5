import Derived.Test.YthhcdfjijagalaaGreatM08
set_option linter.all false
set_option maxHeartbeats 2000000
set_option maxRecDepth 100000
namespace Go.Proofs.YthhcdfjijagalaaGreat
open Qz Go.Proofs.Tryz Go.RowKit
theorem Ms.QL{w:World}{a:Option Addr}{n cap m:Nat}{A:List Rw}(h:Ms w a n cap A)(f:gJ.lD (gz A) n m):
  ∃b off r q,a=some ⟨b,off,none⟩/\∀w',Below w w w'->w'.cell? ⟨b,off,none⟩=some (.slice r m q):=by
 have B:=f.n1;obtain⟨b,off,rfl,_⟩:=h.sl.addr (by omega);have e:0<A.length:=by rw[h.jO];omega
 have j:=Bt.n (h.at 0 e).2;have o:A[0].n=m:=by rw[<-j];exact f.lP _ (iu.2 ⟨_,iE e,rfl⟩)
 refine⟨b,off,A[0].a,A[0].cap,rfl,fun w' hb=>?_⟩;have:=((h.below hb).at 0 e).1;rw[o] at this;simpa using this
theorem Ms.wid{w:World}{a:Option Addr}{n cap:Nat}{A:List Rw}(h:Ms w a n cap A)(e:gJ.ir (gz A)=0):gJ.lD (gz A) n (gJ.wid (gz A) 0):=by
 have:=gJ.mM e;rwa[h.dn] at this
theorem Bj{l:List (List UInt8)}{s:Int}(h:gJ.gT l.length s≠0):gJ.j8 l s [] (gJ.gT l.length s):=by unfold gJ.j8;rw[gG h];exact⟨rfl,rfl⟩
theorem zx{l:List (List UInt8)}{s:Int}(h:gJ.gT l.length s=0)(f:gJ.ir l≠0):gJ.j8 l s [] (gJ.ir l):=by unfold gJ.j8;rw[gC (fun e=>e h),gG f];exact⟨rfl,rfl⟩
theorem vR{l:List (List UInt8)}{d m s:Nat}(e:gJ.lD l d m)(j:d<=8)(o:s<=4){L:List (List UInt8)}(h:gJ.pG L s m (gJ.ot d (gJ.ja l))):gJ.j8 l (s:Int) L 0:=by
 have:=e.n1;unfold gJ.j8;rw[e.rows,gC (fun f=>f (gJ.kl (by omega))),gC (fun f=>f e.jN),e.Ci,lS];exact⟨h,rfl⟩
theorem Lz(R:List Rw)(d i j:Nat):gJ.ja (gz (R.drop d)) i j=gJ.ja (gz R) (d+i) j:=by
 unfold gJ.ja gz;simp[List.getD]
def xM(B:Nat)(R:List Rw):Prop:=∀r∈R,0<r.n->∀b off,r.a=some ⟨b,off,none⟩->B<=b
theorem xM.nil(B:Nat):xM B []:=fun r e=>by cases e
theorem xM.mono{B C:Nat}{R:List Rw}(h:xM B R)(hc:C<=B):xM C R:=fun r j f b off e=>jY hc (h r j f b off e)
def yW(P:List (List UInt8)->Int->Prop)(w:World)(e:Ending)(w':World):Prop:=
 ∃a n cap R err,e=.returned (.tuple #[.slice a n cap,.int .i64 err])/\Ms w' a n cap R/\P (gz R) err/\Below w w w'/\xM w.heap.size R
theorem yW.A9{P:List (List UInt8)->Int->Prop}{w:World}{e:Ending}{w':World}(h:yW P w e w'):rR P w e w':=by
 obtain⟨a,n,cap,R,err,f,j,m,o,_⟩:=h;exact⟨a,n,cap,R,err,f,j,m,o⟩
theorem oy.II{P:List (List UInt8)->Int->Prop}{w:World}{e:Ending}{w':World}{err:Int}(h:oy err w e w')(f:P [] err):yW P w e w':=by
 obtain⟨rfl,hb⟩:=h;exact⟨_,_,_,[],err,rfl,Ms.nil _,f,hb,xM.nil _⟩
theorem Cl.II{P:List (List UInt8)->Prop}{n:Nat}{w:World}{e:Ending}{w':World}{Q:List (List UInt8)->Int->Prop}(h:Cl P n w e w')(B:∀L,P L->Q L 0):yW Q w e w':=by
 obtain⟨g,R,o,q,j,m,hb⟩:=h;refine⟨_,_,_,_,_,o,j.ms q,by rw[yV];exact B _ m,hb,fun r C _ b off e=>?_⟩;obtain⟨E,f,rfl⟩:=iu.1 C;cases e;exact(j.Oc f).1
theorem Ib(a b:Option Addr)(n ac m j:Nat)(A B:List Rw)(w:World)(C:Ms w a n ac A)(o:Ms w b m j B):Calls prog 118 #[(a,n,ac),(b,m,j)] w (yW (gJ.rS (gz A) (gz B)) w):=by
 refine CN (A:=gz A) (B:=gz B) (fun h=>?_) (fun h r=>?_) (fun h r G=>?_) (fun I m' q K N E F=>?_);·exact(r9 a b n ac m j A B w C o _ h 0 (.inl ⟨rfl,rfl⟩)).mono fun e w' f=>oy.II f (Ma h)
 .exact(r9 a b n ac m j A B w C o _ r 1 (.inr ⟨rfl,h,rfl⟩)).mono fun e w' f=>oy.II f (Mc h r)
 .exact(FK a b n ac m j A B w C o h r (by rw[o.dn] at G;exact G)).mono fun e w' f=>oy.II f (Md h r G)
 .obtain rfl:I=n:=K.symm.trans C.dn;obtain rfl:m'=m:=N.symm.trans o.dn;exact(Jd a b I ac m' j q A B w C o E F).mono fun e w' f=>f.II fun L O=>Me E F O
theorem wm(a:Option Addr)(n ac:Nat)(A:List Rw)(s:Int)(w:World)(N:Ms w a n ac A):Calls prog 98 #[(a,n,ac),s] w (yW (gJ.j8 (gz A) s) w):=by
 have V:=gx N.dn;by_cases hc:gJ.gT (n:Int) s=0
 .have Z:=gJ.kv hc;obtain⟨s,rfl⟩:=jD (a:=s) (by omega);have F:1<=n:=by omega
  have h:n<=8:=by omega
  have o:s<=4:=by omega
  have HC:=gx hc;clear hc Z;by_cases I:gJ.ir (gz A)=0
  .have Y:=N.wid I;generalize gJ.wid (gz A) 0=m at Y;have U:=gx Y;have HW:=gx I;clear Y I;by_cases Q:s=0
   .subst Q;go_enter func98,ntmps98;go_wp2_with fail;go_at_call 116;refine(wj n 0 w F h o).mono ?_;rintro e w1⟨a1,n1,c1,X,e1,rfl,B,⟨f,rfl⟩,b1⟩;have L:=N.below b1;replace f:=gx f;go_wp2_with fail;go_at_call 117;refine(kw _ _ _ _ _ L).mono ?_;rintro e S⟨rfl,rfl⟩;rw[HW.out];go_wp2_with fail;go_ret2;exact⟨_,_,_,[],0,rfl,Ms.nil _,vR U h o ⟨rfl,(fun r hr=>by cases hr),fun i j hi=>absurd hi (by omega)⟩,b1,xM.nil _⟩
   .have u0:((s:Int)==0)=false:=jB.2 (by omega);have u1:(s==0)=false:=jB.2 Q;have u2:¬(s:Int)=0:=by omega
    go_enter func98,ntmps98;go_wp2_with fail;go_at_call 116;refine(wj n s w F h o).mono ?_;rintro e w1⟨a1,n1,c1,X,e1,rfl,B,⟨f,rfl⟩,b1⟩;have L:=N.below b1;have E:=B.dn;rw[f.rows] at E;have ae:=B.sl.le;have af:n<n1:=by omega
    have ag:n<c1:=by omega
    have ab:¬c1=n:=by omega
    obtain⟨bb,ad,rfl,_⟩:=B.sl.addr (by omega);have h2:=B.drop (lo:=n) (by omega);rw[gC ab,re,je,me] at h2;have C:gJ.lD (gz (X.drop n)) s n:=⟨by rw[gY,kG];have:=B.jO;omega,fun r hr=>by obtain⟨q,hq,rfl⟩:=iu.1 hr;exact f.lP _ (iu.2 ⟨q,tD hq,rfl⟩),by omega,by omega,by omega,by omega⟩
    replace f:=gx f;replace C:=gx C;replace E:=gx E;go_wp2_with fail;go_at_call 117;refine(kw _ _ _ _ _ L).mono ?_;rintro e S⟨rfl,rfl⟩;rw[HW.out];go_wp2_with fail;go_at_call 118;refine(Ib _ _ _ _ _ _ _ _ _ h2 L).mono ?_;rintro e w3⟨a3,n3,c3,R3,e3,rfl,h3,P,b3,K⟩;replace K:=gx (K.mono b1.size);obtain⟨G,rfl⟩:=gJ.rS.ok C U P;replace b3:=gH b1 b3;replace G:=gx G;clear P;go_wp2_with fail;go_ret2;exact⟨_,_,_,R3,0,rfl,h3,vR U h o (G.congr fun i j hi hj=>gJ.mul_congr (fun k hk=>by rw[Lz];exact f.eq (n+i) k (by omega) hk) fun _ _=>rfl),b3,K⟩
  .have u0:(gJ.ir (gz A) !=0)=true:=ij.2 I;generalize O:gJ.ir (gz A)=W at *;go_enter func98,ntmps98;go_wp2_with fail;go_at_call 116;refine(wj n s w F h o).mono ?_;rintro e w1⟨a1,n1,c1,X,e1,rfl,B,⟨f,rfl⟩,b1⟩;have L:=N.below b1;replace f:=gx f;go_wp2_with fail;go_at_call 117;refine(kw _ _ _ _ _ L).mono ?_;rintro e S⟨rfl,rfl⟩;rw[O];replace O:=gx O;replace I:=gx I;go_wp2_with fail;go_ret2;exact⟨_,_,_,[],_,rfl,Ms.nil _,by have:=zx (l:=gz A) (s:=(s:Int)) (by rw[V.out];exact HC) (by rw[O.out];exact I);rw[O.out] at this;exact this,b1,xM.nil _⟩
 .have u0:(gJ.gT (n:Int) s !=0)=true:=ij.2 hc;have D:=gx (Cr (n:Int) s w hc);have HS:=gx (Bj (l:=gz A) (s:=s) (by rw[V.out];exact hc));rw[V.out] at HS;generalize gJ.gT (n:Int) s=e at *;replace hc:=gx hc;go_enter func98,ntmps98;go_wp2_with fail;go_at_call 116;refine(D).mono ?_;rintro e' w1⟨rfl,b1⟩;go_wp2_with fail;go_ret2;exact⟨_,_,_,[],_,rfl,Ms.nil _,HS,b1,xM.nil _⟩
theorem Fj(a:Option Addr)(n ac:Nat)(A:List Rw)(s:Int)(w:World)(e:Ms w a n ac A):Calls prog 98 #[(a,n,ac),s] w (rR (gJ.j8 (gz A) s) w):=(wm a n ac A s w e).mono fun _ _ h=>h.A9
theorem xJ(m:Nat):(Builtin.zeroCells (Value.cells (.int .u8 0)) m).toList=cb (List.replicate m 0):=by
 simp only[Builtin.zeroCells,Value.cells,cb];apply mW;·simp
 .intro i e f;simp[Nat.mod_one]
section
variable {P : Program} (w : World)
theorem rL(base:Nat)(t tn ty e:TypeId)(i:TypeInfo)(z:Value)(kn:IntKind)(bytes:Nat)(ht:P.underlying t=some (.slice e))(ae:P.underlying tn=some (.int kn))(hi:P.info? e=some i)(hz:i.zero=some z)
  (I:i.size=1) (ai:i.bytes=bytes) (af:z.cells.size=1)
  (v:Value) (n:Nat) (xs:List Value) (q:w.ownsRow base e 1 v n xs) (m:Nat) (hm:0<m) (h1:∀u∈(Builtin.zeroCells z.cells m).toList,u.oneCell'=true)
  (Y:n+m<=maxLen) (r:(n+m)*bytes<=140737488355328) (Q:base<=w.heap.size):
  ∃v' w',(Builtin.append_ #[t,tn] ty #[v,.int .i64 (m:Int)]).run P w=.ok v' w'/\w'.ownsRow base e 1 v' (n+m) (xs++(Builtin.zeroCells z.cells m).toList)/\w.grownBy w' v.ownBlock/\(v'.ownBlock=v.ownBlock∨v'.ownBlock=some w.heap.size):=by
 subst ai;have ag:n+m<=9223372036854775807:=by simp only[maxLen] at Y;omega
 have hl:(Builtin.zeroCells z.cells m).toList.length=m:=by rw[uW,qh,af,me]
 have ab:m≠0:=by omega
 have hw:IntKind.i64.wrap (m:Int)=m:=by rw[IntKind.wrap_i64];omega
 have O:¬((m:Int)<0):=by omega
 have ap:m*i.bytes<=140737488355328:=jY (ss _ (by omega)) r;have L:¬(281474976710656<(m:Int)*(i.bytes:Int)):=by rw[<-Int.natCast_mul];omega
 generalize hN:Builtin.zeroCells z.cells m=N at *;have o:(xs++N.toList).length=(n+m)*1:=by rw[iH,q.1,hl];omega
 have grown:∀(old:Nat),old<n+m->∀(row:Option Nat),
   (w.drew.alloc (.cells ((xs++N.toList).toArray++Builtin.zeroCells z.cells (grownCap w (n+m) old e-(n+m))) e)).ownsRow base e 1
    (.slice (some (w,gy)) (n+m) (grownCap w (n+m) old e)) (n+m) (xs++N.toList)/\
   w.grownBy (w.drew.alloc (.cells ((xs++N.toList).toArray++Builtin.zeroCells z.cells (grownCap w (n+m) old e-(n+m))) e)) row:=by
  intro old ho row;have ak:=grownCap_ge w (n+m) old e;have S:grownCap w (n+m) old e<=maxLen:=vL w (n+m) old e Y;refine⟨⟨o,.inr ⟨w.heap.size,_,_,rfl,Q,vN w.drew _,ak,S,?_,?_⟩⟩,⟨rfl,rfl,rfl,by simp,fun k hk _=>vO w.drew _ hk⟩⟩
  .rw[sB,sC,qh,af,o,<-nB];congr 1;omega
  .rw[sx,<-o];exact tL
 have K:∀(ba:Option Addr) (f h:Nat) (B:List Value),f=n->B=xs->(Builtin.firstCells 1 f (ba,f,h)).run P w.drew=.ok B.toArray w.drew->h<f+m->
   (Builtin.append_ #[t,tn] ty #[.slice ba f h,.int .i64 (m:Int)]).run P w=
    .ok (some (w,gy),(f+m),(grownCap w (f+m) h e))
     (w.drew.alloc (.cells ((B++N.toList).toArray++Builtin.zeroCells z.cells (grownCap w (f+m) h e-(f+m))) e)):=by
  intro ba f h B e1 e2 hold hg;subst e1;subst e2;have hn:¬(f+m<=h):=by omega
  have Z:¬(9223372036854775807<((f:Int)+(m:Int))):=by omega
  have F:=tM (old:=h) (by omega) r;have X:¬(281474976710656<Builtin.nextslicecap (f+m) h*i.bytes):=by omega
  simp[Builtin.append_,oi ht,oi ae,sizeOf,typeInfo,zeroValue,hi,hz,asInt,asIntOf,I,hw,ab,O,L,hn,Z,X,Question.forced,hN,hold,newRow,grownCap];congr 2;apply Array.ext';simp[ky]
 rcases q.2 with⟨rfl,rfl⟩|⟨g,cap,C,rfl,ah,hg,aq,S,aj,V⟩
 .have ao:xs=[]:=qj (by simpa using q.1);subst ao;have W:=K none 0 0 [] rfl rfl (run_firstCells_none w.drew 1 0 0 0) (by omega);have E:=grown 0 (by omega) (Value.ownBlock ());simp only[jk,mZ] at E W⊢;exact⟨_,_,W,E.1,E.2,.inr rfl⟩
 .by_cases G:n+m<=cap
  .have F:n*1+N.toList.length<=C.size:=by rw[hl,aj];omega
   have ad:=run_storeCells_at P g (n*1) e N.toList 0 C w hg (by simpa using F) h1;simp only[mH,me] at ad;have W:(Builtin.append_ #[t,tn] ty #[.slice (some (g,gy)) n cap,.int .i64 (m:Int)]).run P w=.ok (some (g,gy),(n+m),cap) (w.setRow g (C.toList.take n++N.toList++C.toList.drop (n+N.toList.length)).toArray):=by simp[Builtin.append_,oi ht,oi ae,sizeOf,typeInfo,zeroValue,hi,hz,asInt,asIntOf,I,hw,ab,O,L,G,hN,Addr.add_lit,ad]
   refine⟨_,_,W,⟨o,.inr ⟨g,cap,_,rfl,ah,nC w g C _ e _ hg,G,S,?_,?_⟩⟩,⟨rfl,rfl,rfl,by simp,fun k _ hk=>oF w g k _ (fun e=>hk (by simp[Value.ownBlock,e]))⟩,.inl rfl⟩
   .simp only[sC,iH,jh,kG,uW];simp only[uW] at hl F;omega
   .have al:C.toList.take n=xs:=by rw[<-V,me]
    rw[al,<-o];exact tL
  .have U:∀j u,xs[j]?=some u->w.drew.cell? (((g,gy):Addr).add j)=some u:=fun j u hj=>q.cells (g:=g) rfl j u hj;have hold:=oD (P:=P) w.drew 1 n (g,gy) n cap xs q.1 U;have W:=K (some (g,gy)) n cap xs rfl rfl hold (by omega);have E:=grown cap (by omega) (Value.ownBlock (some (g,gy),n,cap));exact⟨_,_,W,E.1,E.2,.inr rfl⟩
end
theorem wpList_append_zeros{f:Array Oper}{rest:List Oper}{o:Oper}{a:Act}{Q:Exit->Act->World->Prop}{w:World}(q:o.guard=none)(s G:Operand)
  (S:o.op=.call {callee:=.builtin .append,args:=#[s,G],argTypes:=#[64,3]})
  {w0:World} {row:Option Nat} (base:Nat) (v:Value) (l:List UInt8) (V:a.eval s=v) (h:OB w0 w row base v l) (m:Nat) (r:a.eval G=.int .i64 (m:Int)) (O:0<m)
  (F:l.length+m<=65536) (e:base<=w.heap.size)
  (K:∀v' w',OB w0 w' row base v' (l++List.replicate m 0)->w.grownBy w' v.ownBlock->wpList prog f Q rest (a.put o.dst v') w'):wpList prog f Q (o::rest) a w:=by
 obtain⟨i,hi,W,I,L⟩:=jW sd;obtain⟨v',w',U,B,C,h5⟩:=rL (P:=prog) w base 64 3 o.type 5 i (.int .u8 0) .i64 1 underlying64 underlying3 hi W I L rfl v l.length (cb l) h.own m O (by rw[xJ];exact xR _) (by unfold maxLen;omega) (by omega) e;have j:v'.ownBlock=v.ownBlock∨∀k,v'.ownBlock=some k->w.heap.size<=k:=by
  rcases h5 with h5|h5
  .exact .inl h5
  .exact .inr fun k E=>by rw[h5] at E;cases E;exact jb _
 refine wpList_value q ?_ (K v' w' ?_ C)
 .unfold execOp;simp only[S,resolve,invoke,builtin,tO,tP,tH,tI,lI,nj,V,r,U]
 .rw[xJ,<-oG] at B;have N:=h.more B C j;unfold OB;rw[iH,vF];exact N
theorem Ke{w:World}{base:Nat}{e:TypeId}{g n cap:Nat}{xs:List Value}(h:w.ownsRow base e 1 (some (g,gy),n,cap) n xs):w.ownsRow base e 1 (some (g,gy),gy,cap) 0 []:=by
 obtain⟨f,j,m,r,o,q,B⟩:=sn h;exact AT j m (Nat.zero_le _) o q rfl
theorem wpList_grow{f:Array Oper}{rest:List Oper}{o:Oper}{a:Act}{Q:Exit->Act->World->Prop}{w:World}(j:o.guard=none)(s E:Operand)
  (O:o.op=.call {callee:=.builtin .append,args:=#[s,E],argTypes:=#[150,3]}) (m:Nat) (U:a.eval s=.slice none 0 0) (q:a.eval E=.int .i64 (m:Int)) (B:0<m) (I:m<=1000)
  (K:∀g cap w',m<=cap->w'.ownsRow w.heap.size 64 1 (.slice (some ⟨g,0,none⟩) 0 cap) 0 []->w.grownBy w' none->wpList prog f Q rest (a.put o.dst (.slice (some ⟨g,0,none⟩) m cap)) w'):wpList prog f Q (o::rest) a w:=by
 obtain⟨i,hi,V,F,G⟩:=jW l3;have r:(Builtin.zeroCells (Value.cells ()) m).toList=List.replicate m (.slice none 0 0):=by
  simp only[Builtin.zeroCells,Value.cells];apply mW;·simp
  .intro i B I;simp[Nat.mod_one]
 have e:∀u∈(Builtin.zeroCells (Value.cells ()) m).toList,u.oneCell'=true:=by intro u C;rw[r] at C;rw[(oE.1 C).2];rfl
 obtain⟨v',w',S,h,L,W⟩:=rL (P:=prog) w w.heap.size 150 3 o.type 64 i () .i64 24 ku underlying3 hi V F G rfl () 0 [] (iY _ _ _ _) m (by omega) e (by unfold maxLen;omega) (by omega) gM;rw[jk] at h;obtain⟨g,cap,rfl,_,_,N,_⟩:=jR h B;refine wpList_value j ?_ (K g cap w' N (Ke h) L);unfold execOp;simp only[O,resolve,invoke,builtin,tO,tP,tH,tI,lI,nj,U,q,S]
theorem G8(m:Nat)(w:World)(q:1<=m)(h:m<=1000):Calls prog 137 #[(),m] w (fun e w'=>∃g cap,e=.returned (.slice (some ⟨g,0,none⟩) 0 cap)/\OT w w' none w.heap.size 64 1 (.slice (some ⟨g,0,none⟩) 0 cap) 0 []):=by
 go_enter func137,ntmps137;go_wp2_with (refine wpList_grow rfl (.tmp 20) (.tmp 21) rfl m rfl rfl (by omega) h ?_;intro g cap r hc o f);go_ret;exact⟨g,cap,rfl,OT.fresh o (Below.grown gZ f gM (by intro k j;cases j)) gM⟩
theorem qq(A B:List Rw):iv (A++B)=iv A++iv B:=by simp[iv]
theorem De(b:Nat)(C:Option Addr)(n1 c1:Nat)(A:List Rw)(E:Option Addr)(n2 c2:Nat)(B:List Rw)(w:World)(F:Ms w C n1 c1 A)(K:Ms w E n2 c2 B)(V:w.cell? (b,gy)=some (.slice C n1 c1))(x1:w.cell? (b,ia)=some (.slice E n2 c2))
  (h1:1<=n1+n2) (h2:n1+n2<=1000):Calls prog 123 #[(some (b,gy),j6,j6)] w (fun e w'=>∃a n cap,e=.returned (.slice a n cap)/\Ms w' a n cap (A++B)/\Below w w w'):=by
 have hb:b<w.heap.size:=iM _ _ V;go_enter func123,ntmps123;go_wp2_with fail;go_loopg[3,11] 2 (fun g s3 Q wr=>∃k z:Nat,g=2-k/\k<=2/\Q=.int .i64 (k:Int)/\s3=.int .i64 (z:Int)/\w=wr/\Hid ((k=0/\z=0)∨(k=1/\z=n1)∨(k=2/\z=n1+n2)));case atStart=>exact⟨0,0,rfl,by omega,rfl,rfl,rfl,gx (.inl ⟨rfl,rfl⟩)⟩
 case round=>
  obtain⟨k,z,rfl,Y,rfl,rfl,rfl,o⟩:=hrel;rcases o.out with⟨rfl,rfl⟩|⟨rfl,rfl⟩|⟨rfl,rfl⟩
  .clear o;have u0:¬(n1:Int)<0:=by omega
   go_wp2_with fail;go_roundg 1;case measure=>omega
   case rel=>exact⟨1,n1,rfl,by omega,by go_num,by go_num,rfl,gx (.inr (.inl ⟨rfl,rfl⟩))⟩
  .clear o;have s1:IntKind.i64.wrap ((z:Int)+(n2:Int))=(z:Int)+(n2:Int):=iO _ (by omega);have u0:¬(z:Int)+(n2:Int)<0:=by omega
   go_wp2_with fail;go_roundg 0;case measure=>omega
   case rel=>exact⟨2,z+n2,rfl,by omega,by go_num,by go_num,rfl,gx (.inr (.inr ⟨rfl,rfl⟩))⟩
  .clear o;obtain⟨m,O⟩:∃m,m=n1+n2:=⟨_,rfl⟩;rw[<-O];have D:=gx (G8 m w (by omega) (by omega));replace O:=gx O;go_wp2_with fail;go_at_call 137;refine(D).mono ?_;rintro e w1⟨g,cap,rfl,U⟩;go_wp2_with fail;go_loopg[6,27] 2 (fun g s6 S wr=>∃(k:Nat) (R:List Rw),g=2-k/\k<=2/\S=.int .i64 (k:Int)/\OT w wr none w.heap.size 64 1 s6 R.length (iv R)/\Hid ((k=0/\R=[])∨(k=1/\R=A)∨(k=2/\R=A++B)));case atStart=>exact⟨0,[],rfl,by omega,rfl,U,gx (.inl ⟨rfl,rfl⟩)⟩
   case round=>
    clear U;obtain⟨k,R,rfl,Y,rfl,G,o⟩:=hrel;obtain⟨wo,rfl⟩:∃wo:World,wo=wr:=⟨_,rfl⟩;have f:=G.im gM (fun k e=>by cases e);have q:=f.size;have y0:wo.cell? (b,gy)=some (.slice C n1 c1):=(f.cell (p:=(b,gy)) hb).trans V;have y1:wo.cell? (b,ia)=some (.slice E n2 c2):=(f.cell (p:=(b,ia)) hb).trans x1;rcases o.out with⟨rfl,rfl⟩|⟨rfl,rfl⟩|⟨rfl,rfl⟩
    .clear o;have I:=F.below f;have W:=gx F.jO;go_wp2_with (refine wpList_append_t rfl (.tmp 31) (.tmp 32) 150 150 rfl w.heap.size 64 1 24 () ku l3 rfl (by decide) _ 0 [] rfl G (C,n1,c1) n1 (iv A) rfl (Sl.src I.sl ku (qP A)) (by unfold maxLen;omega) (by omega) q ?_;intro v2 w2 j N;rw[jk,mZ,<-W.out] at j);go_roundg 1;case measure=>omega
     case rel=>exact⟨1,A,rfl,by omega,by go_num,j,gx (.inr (.inl ⟨rfl,rfl⟩))⟩
    .clear o;have L:=K.below f;have X:=gx K.jO;have hR:=F.jO;go_wp2_with (refine wpList_append_t rfl (.tmp 31) (.tmp 32) 150 150 rfl w.heap.size 64 1 24 () ku l3 rfl (by decide) _ R.length (iv R) rfl G (E,n2,c2) n2 (iv B) rfl (Sl.src L.sl ku (qP B)) (by unfold maxLen;omega) (by omega) q ?_;intro v2 w2 j N;rw[<-X.out,<-iH,<-qq] at j);go_roundg 0;case measure=>omega
     case rel=>exact⟨2,R++B,rfl,by omega,by go_num,j,gx (.inr (.inr ⟨rfl,rfl⟩))⟩
    .clear o;obtain⟨a3,c3,rfl,P⟩:=gK G.own;go_wp2_with fail;go_ret;refine⟨_,_,_,rfl,⟨P,fun r Z=>?_⟩,f⟩;rcases kd.1 Z with h|h
     .exact(F.row r h).below f
     .exact(K.row r h).below f
namespace gJ
def Aa(l:List (List UInt8))(d:Int)(b:Bool):Prop:=
 if gT d ((l.length:Int)-d)≠0∨ir l≠0 then b=false else∃K,j8 (l.take d.toNat) ((l.length:Int)-d) K 0/\b=decide (K=l.drop d.toNat)
theorem Aa.ou{l:List (List UInt8)}{d:Int}{b c:Bool}(h:Aa l d b)(k:Aa l d c):b=c:=by
 unfold Aa at h k;split at h;·rw[gG (by assumption)] at k;exact h.trans k.symm
 .rw[gC (by assumption)] at k;obtain⟨K,e,rfl⟩:=h;obtain⟨j,f,rfl⟩:=k;rw[(e.ou f).1]
theorem lD.take{l:List (List UInt8)}{n m d:Nat}(h:lD l n m)(e:1<=d)(j:d<=n):lD (l.take d) d m:=
 ⟨by rw[jh,h.rows];omega,fun r f=>h.lP r (ry f),e,by have:=h.n2;omega,h.m1,h.m2⟩
end gJ
end Go.Proofs.YthhcdfjijagalaaGreat
namespace Go.Proofs.YthhcdfjijagalaaGreat.gJ
open Qz Go.Proofs.Tryz
structure m8 (l S:List (List UInt8)) (d s m:Nat):Prop where
 qU:lD l d m
 d8:d<=8
 s4:s<=4
 PT:pG S s m (ot d (ja l))
section
variable {l S : List (List UInt8)} {d s m : Nat}
theorem m8.rows(h:m8 l S d s m):pG (l++S) (d+s) m (mul d (mf d) (ja l)):=EZ h.qU.PT h.PT
theorem m8.whole(h:m8 l S d s m):lD (l++S) (d+s) m:=h.rows.qU (by have:=h.qU.n1;omega) (by have:=h.d8;have:=h.s4;omega) h.qU.m1 h.qU.m2
theorem m8.row(h:m8 l S d s m){i:Nat}(hi:i<d+s):((l++S).getD i []).length=m:=by
 have e:i<(l++S).length:=by rw[h.whole.rows];exact hi
 rw[show(l++S).getD i []=(l++S)[i] by simp only[List.getD,jz e,Option.getD_some]];exact h.whole.lP _ (iE _)
structure Left (l S X:List (List UInt8)) (d s:Nat):Prop where
 len:X.length=d+s
 row:∀i,i<d+s->X.getD i []=(l++S).getD i []∨X.getD i []=[]
theorem Left.there(h:m8 l S d s m){X:List (List UInt8)}(o:Left l S X d s){u:Nat}(q:u∈there X):u<d+s/\X.getD u []=(l++S).getD u []:=by
 obtain⟨f,j⟩:=qs q;rw[o.len] at f;refine⟨f,(o.row u f).resolve_right fun e=>?_⟩;unfold lM at j;rw[e] at j;exact absurd j (by decide)
theorem L9(h:m8 l S d s m){X:List (List UInt8)}(w:Left l S X d s)(hd:d<=(gJ.there X).length){L:List (List UInt8)}{e:Int}(G:lm X (d:Int) L e):L=l++S/\e=0:=by
 classical
 have W:=h.qU.n1;have C:((X.length:Int)-(d:Int))=(s:Int):=by rw[w.len];omega
 have N:∀p,p<d->(gJ.there X).getD p 0∈gJ.there X:=fun p I=>by rw[show(gJ.there X).getD p 0=(gJ.there X)[p]'(by omega) by simp only[List.getD,jz (show p<(gJ.there X).length by omega),Option.getD_some]];exact iE _
 have r:wid X ((gJ.there X).getD 0 0)=m:=by obtain⟨o,F⟩:=w.there h (N 0 (by omega));unfold wid;rw[F];exact h.row o
 unfold lm at G;rw[C,gC (fun Z=>Z (kl (by have:=h.d8;have:=h.s4;omega))),gC (by omega),gC (fun⟨q,K,hb⟩=>by
  obtain⟨i,hi,rfl⟩:=rA K;have B:i<d+s:=by rw[<-w.len];exact hi
  have E:X.getD i []=X[i]:=by simp only[List.getD,jz hi,Option.getD_some]
  rw[r] at hb;rcases w.row i B with o|o
  .rw[E] at o;rw[o,h.row B] at hb;have:=h.qU.m2;omega
  .rw[E] at o;rw[o] at hb;simp at hb),r,w.len,lS] at G
 obtain⟨f,V,U,Y⟩:=G;refine⟨U.ou h.rows fun i j hi hj=>?_,Y⟩;refine mul_congr (fun _ _=>rfl) fun k O=>?_;have E:mul d f (fun p k=>ja X ((gJ.there X).getD p 0) k) k j=mul d f (mul d (tC d ((gJ.there X).take d)) (ja l)) k j:=mul_congr (fun _ _=>rfl) fun p I=>by
  obtain⟨o,F⟩:=w.there h (N p I);have P:ja X ((gJ.there X).getD p 0) j=ja (l++S) ((gJ.there X).getD p 0) j:=by unfold ja;rw[F]
  rw[P,h.rows.eq _ j o hj];refine kj fun q _=>?_;show iZ (mf d ((gJ.there X).getD p 0) q) (ja l q j)=iZ (mf d (((gJ.there X).take d).getD p 0) q) (ja l q j);rw[show((gJ.there X).take d).getD p 0=(gJ.there X).getD p 0 by simp[List.getD,I]]
 rw[E,<-vC];have Q:mul d (mul d f (tC d ((gJ.there X).take d))) (ja l) k j=mul d one (ja l) k j:=mul_congr (fun q K=>V.1 k q O K) fun _ _=>rfl;rw[Q,pK d _ O]
theorem yj(h:m8 l S d s m){X:List (List UInt8)}(o:Left l S X d s)(hd:(gJ.there X).length<d){L:List (List UInt8)}{e:Int}(j:lm X (d:Int) L e):L=[]/\e=10:=by
 classical
 have q:=h.qU.n1;have f:((X.length:Int)-(d:Int))=(s:Int):=by rw[o.len];omega
 unfold lm at j;rw[f,gC (fun r=>r (kl (by have:=h.d8;have:=h.s4;omega))),gG (by omega)] at j;exact j
theorem m8.take(h:m8 l S d s m):(l++S).take d=l:=by rw[List.take_append,h.qU.rows,lU,oO,mY,ld (by rw[h.qU.rows];exact jb _)]
theorem m8.drop(h:m8 l S d s m):(l++S).drop d=S:=by rw[List.drop_append,h.qU.rows,lU,tK,mV (by rw[h.qU.rows];exact jb _),mZ]
theorem Aa.spare{Z:List (List UInt8)}{b:Bool}(h:lD Z (d+s) m)(j:1<=d)(o:d<=8)(q:s<=4)(hb:Aa Z (d:Int) b):∃K,pG K s m (ot d (ja (Z.take d)))/\b=decide (K=Z.drop d):=by
 unfold Aa at hb;have f:((Z.length:Int)-(d:Int))=(s:Int):=by rw[h.rows];omega
 rw[f,gC (fun e=>by
  rcases e with e|e
  .exact e (kl (by omega))
  .exact e h.jN),lS] at hb
 obtain⟨K,r,rfl⟩:=hb;exact⟨K,(r.ok (h.take j (by omega)) o q).1,rfl⟩
end
end Go.Proofs.YthhcdfjijagalaaGreat.gJ

import Derived.Test.YthhcdfjijagalaaGreatM38
set_option linter.all false
set_option maxHeartbeats 4000000
set_option maxRecDepth 100000
namespace Go.Proofs.YthhcdfjijagalaaGreat
open Qz Go.Proofs.Tryz Go.RowKit
def Ty(w:World)(a:Option Addr)(n:Nat)(t:TypeId):Prop:=0<n->∃b off cs,a=some ⟨b,off,none⟩/\w.heap[b]?=some (.cells cs t)
theorem Ty.zero(w:World)(a:Option Addr)(t:TypeId):Ty w a 0 t:=fun h=>absurd h (by omega)
theorem nb{w:World}{base:Nat}{e:TypeId}{sz n c:Nat}{a:Option Addr}{xs:List Value}(h:w.ownsRow base e sz (a,n,c) n xs):Ty w a n e:=fun r=>by
 rcases h.2 with⟨j,q⟩|⟨g,cap,f,j,_,o,_⟩
 .injection j with _ m;omega
 .injection j with m;exact⟨g,0,f,m,o⟩
theorem Ty.below{w w':World}{a:Option Addr}{n:Nat}{t:TypeId}(h:Ty w a n t)(hb:Below w w w'):Ty w' a n t:=fun j=>by
 obtain⟨b,off,cs,e,f⟩:=h j;exact⟨b,off,cs,e,gB f hb⟩
theorem Ty.alloc{w:World}{a:Option Addr}{n:Nat}{t:TypeId}(h:Ty w a n t)(o:Obj):Ty (w.alloc o) a n t:=h.below (gZ.alloc gM o)
theorem Ty.setCell{w:World}{a:Option Addr}{n:Nat}{t:TypeId}(h:Ty w a n t){g i:Nat}{cs:Array Value}{B:TypeId}(m:w.heap[g]?=some (.cells cs B))(v:Value):Ty (w.setCell (g,i) v) a n t:=fun r=>by
 obtain⟨b,off,f,e,hb⟩:=h r;by_cases j:b=g
 .subst j;rw[m] at hb;injection hb with hb;injection hb with C q;subst q;exact⟨b,off,_,e,jq m v⟩
 .exact⟨b,off,f,e,ic hb (fun o=>j o) v⟩
theorem Ty.grown{w w':World}{a:Option Addr}{n:Nat}{t e:TypeId}(h:Ty w a n t){base sz m:Nat}{o:Value}{xs:List Value}(B:w.ownsRow base e sz o m xs)(q:w.grownBy w' o.ownBlock)(f:e≠t):Ty w' a n t:=fun r=>by
 obtain⟨b,off,cs,j,hb⟩:=h r;exact⟨b,off,cs,j,ie B q hb f⟩
theorem Ty.only{w w':World}{a:Option Addr}{n:Nat}{t:TypeId}{S:List Nat}(h:Ty w a n t)(r:gU w w' S)(C:∀B∈S,∃(cs:Array Value) (m:TypeId),w.heap[B]?=some (.cells cs m)/\m≠t):Ty w' a n t:=fun F=>by
 obtain⟨b,off,cs,q,hb⟩:=h F;refine⟨b,off,cs,q,r.jJ hb (fun E=>?_)⟩;obtain⟨o,m,f,j⟩:=C b E;exact km hb f (fun e=>j e.symm) rfl
theorem Sl.lG{w w':World}{sz:Nat}{a:Option Addr}{n cap:Nat}{cs:List Value}{t:TypeId}{S:List Nat}(h:Sl w sz a n cap cs)(N:Ty w a n t)(K:gU w w' S)(L:∀B∈S,∃(cs:Array Value) (q:TypeId),w.heap[B]?=some (.cells cs q)/\q≠t):Sl w' sz a n cap cs:=
 ⟨h.le,h.max,h.len,h.nil,fun E=>by
  obtain⟨b,off,e,hc⟩:=h.addr E;obtain⟨b',F,G,r,hb⟩:=N E;rw[e] at r;cases r;refine⟨b,off,e,fun j u O=>?_⟩;have C:=hc j u O;have m:=iM _ _ C;rw[yw (w:=w) (K.block b m (fun P=>by obtain⟨I,q,f,o⟩:=L b P;exact km hb f (fun e=>o e.symm) rfl))]
  exact C⟩
end Go.Proofs.YthhcdfjijagalaaGreat
namespace Go.Proofs.YthhcdfjijagalaaGreat
open Qz Go.Proofs.Tryz Go.RowKit Go.Maps
theorem Mr{A:Vw.Acc}{e:gD.Ev}(f:Vw.may A e=true)(r:gD.iW e=0):Vw.plus A e=⟨A.s,A.sum+e.n*KL e.k,A.jO+1,(e.k !=4)⟩:=by
 obtain⟨_,h,j,_,_⟩:=gD.lC r;obtain⟨s,k,m⟩:=e;obtain⟨t,w,c,o⟩:=A;simp only at h j⊢;unfold Vw.may at f;unfold Vw.plus KL;simp only at f⊢;have q:k=1∨k=2∨k=3∨k=4:=by omega
 rcases q with rfl|rfl|rfl|rfl
 .simp
 .simp at f;simp[f]
 .simp at f;simp[f.1];omega
 .simp
theorem PK(k m:Int)(e:0<=m)(f:m<=1000000):-1000000<=m*KL k/\m*KL k<=1000000:=by
 unfold KL;split;·omega
 .split<;>omega
theorem nE{w w':World}{m b:Nat}{o:Obj}(h:w.grownBy w' (some m))(hb:w.heap[b]?=some o)(f:b≠m):w'.heap[b]?=some o:=by
 rw[h.block b (iq hb) (fun e=>f (by injection e))];exact hb
theorem xB(X:World)(x:Vw.Acc){b:Nat}(hb:X.heap.size=b):Src prog 4 28 (some (b,gy),ia,ia) 1 (oW x) (X.alloc (.cells #[x.s,x.sum,x.jO,.bool x.xe] 55)):=by
 subst hb;exact Src.mr (P:=prog) X #[.string x.s,.int .i64 x.sum,.int .i64 x.jO,.bool x.xe] 55 1 4 underlying28 rfl (by simp[Value.oneCell'])
section
variable {ops : Array Oper} {rest : List Oper} {o : Oper} {a : Act} {Q : Exit → Act → World → Prop}
theorem wpList_append_acc(j:o.guard=none)(s q:Operand)(E:o.op=.call {callee:=.builtin .append,args:=#[s,q],argTypes:=#[28,28]})
  {r X:World} (base:Nat) (v:Value) (L:List Vw.Acc) (x:Vw.Acc) (b:Nat) (F:a.eval s=v) (e:OT r X none base 55 4 v L.length (gR L))
  (m:a.eval q=.slice (some (b,gy)) 1 1) (G:Src prog 4 28 (some (b,gy),ia,ia) 1 (oW x) (X.alloc (.cells #[x.s,x.sum,x.jO,.bool x.xe] 55))) (w:L.length<=151) (f:base<=X.heap.size)
  (h:∀v' w',OT r w' none base 55 4 v' (L.length+1) (gR (L++[x]))->(X.alloc (.cells #[x.s,x.sum,x.jO,.bool x.xe] 55)).grownBy w' v.ownBlock->wpList prog ops Q rest (a.put o.dst v') w'):wpList prog ops Q (o::rest) a (X.alloc (.cells #[x.s,x.sum,x.jO,.bool x.xe] 55)):=by
 refine wpList_append_t j s q 28 28 E base 55 4 40 (.agg #[.string ⟨#[]⟩,gy,gy,.bool false]) underlying28 p7 rfl (by decide) v L.length (gR L) F (e.alloc _) (some (b,gy),ia,ia) 1 (oW x) m G (by unfold maxLen;omega) (by omega) (by simp;omega) ?_;intro v' w' B C;refine h v' w' ?_ C;rw[mx];have:gR [x]=oW x:=by unfold gR;simp
 rw[this];exact B
end
theorem FM(w:World)(b i:Nat)(v:Value):w.grownBy (w.setCell (b,i) v) (some b):=⟨rfl,rfl,rfl,by simp,fun j _ f=>mG w (b,i) v j (fun e=>f (by rw[e]))⟩
theorem vY{j X w5:World}{B f N C:Nat}{v v' h:Value}{L w:List Vw.Acc}{o:Obj}{r:Int}(G:OT j X none B 55 4 v N (gR L))(hb:X.heap[f]?=some (.cells #[r,v'] 30))(q:j.heap.size<=f)
  (E:OT j w5 none B 55 4 h C (gR w)) (F:(X.alloc o).grownBy w5 v.ownBlock):
  w5.heap[f]?=some (.cells #[r,v'] 30)/\(w5.setCell (f,ia) h).heap[f]?=some (.cells #[r,h] 30)/\OT j (w5.setCell (f,ia) h) none B 55 4 h C (gR w):=by
 have m:=ie (G.alloc o).own F (gF hb) (by decide);refine⟨m,jq (i:=1) m _,E.step (FM w5 f 1 h) (.inr fun x e=>?_)⟩;cases e;exact⟨q,gP E.own m (by decide)⟩
theorem uy{L:List Vw.Acc}{x:Vw.Acc}(h:∀e∈L,e.s.size<=maxLen)(j:x.s.size<=maxLen):∀e∈L++[x],e.s.size<=maxLen:=by
 intro e f;rcases kd.1 f with f|f
 .exact h e f
 .obtain rfl:e=x:=by simpa using f
  exact j
section
variable {ops : Array Oper} {rest : List Oper} {o : Oper} {a : Act} {Q : Exit → Act → World → Prop}
theorem wpList_append_acc2(j:o.guard=none)(s q:Operand)(E:o.op=.call {callee:=.builtin .append,args:=#[s,q],argTypes:=#[28,28]})
  {r X:World} (base:Nat) (v:Value) (L:List Vw.Acc) (x:Vw.Acc) (b N:Nat) (F:a.eval s=v) (e:OT r X none base 55 4 v N (gR L))
  (m:a.eval q=.slice (some (b,gy)) 1 1) (G:Src prog 4 28 (some (b,gy),ia,ia) 1 (oW x) (X.alloc (.cells #[x.s,x.sum,x.jO,.bool x.xe] 55))) (w:N<=152) (f:base<=X.heap.size)
  (h:∀v' w',OT r w' none base 55 4 v' (N+1) (gR (L++[x]))->(X.alloc (.cells #[x.s,x.sum,x.jO,.bool x.xe] 55)).grownBy w' v.ownBlock->wpList prog ops Q rest (a.put o.dst v') w'):wpList prog ops Q (o::rest) a (X.alloc (.cells #[x.s,x.sum,x.jO,.bool x.xe] 55)):=by
 refine wpList_append_t j s q 28 28 E base 55 4 40 (.agg #[.string ⟨#[]⟩,gy,gy,.bool false]) underlying28 p7 rfl (by decide) v N (gR L) F (e.alloc _) (some (b,gy),ia,ia) 1 (oW x) m G (by unfold maxLen;omega) (by omega) (by simp;omega) ?_;intro v' w' B C;refine h v' w' ?_ C;rw[mx];have:gR [x]=oW x:=by unfold gR;simp
 rw[this];exact B
end
def ET(r:Vw.St)(w:World)(e:Ending)(w':World):Prop:=∃a n cap,e=.returned (.tuple #[iJ r.v.upto a n cap,r.err])/\As w' a n cap r.v.ib/\Below w w w'/\Ty w' a n 55
theorem ET.A9{r:Vw.St}{w:World}{e:Ending}{w':World}(h:ET r w e w'):xO r w e w':=by
 obtain⟨a,n,cap,f,j,m,_⟩:=h;exact⟨a,n,cap,f,j,m⟩
theorem xO.none{E:Int}{w:World}{e:Ending}{w':World}(h:xO ⟨Vw.iL,E⟩ w e w'):ET ⟨Vw.iL,E⟩ w e w':=by
 obtain⟨a,n,cap,m,f,q⟩:=h;have:=f.jO;have j:n=0:=by rw[<-this];rfl
 subst j;exact⟨a,0,cap,m,f,q,Ty.zero _ _ _⟩
theorem MB(u:Int)(a:Option Addr)(n cap:Nat)(l:List Vw.Acc)(e:gD.Ev)(w:World)(h:As w a n cap l)(he:e.s.size<=maxLen)(h1:(Vw.iX ⟨u,l⟩).1=0)(h2:gD.iW e=0)(h3:u≠150)(h4:Vw.may (Vw.get l e.s) e=true):
  Calls Tryz.prog 63 #[iJ u a n cap,jG e] w (ET ⟨⟨u+1,Vw.ins (Vw.plus (Vw.get l e.s) e) l⟩,0⟩ w):=by
 have D:=gx (fun W (hW:As W a n cap l)=>kZ u a n cap l W hW);have D2:=gx (fun W=>lV e he W);have D3:=gx (fun W (hW:As W a n cap l)=>yJ u a n cap l e.s W hW);have D4:=gx (fun W=>CW (Vw.get l e.s) e W);rw[h2] at D2;rw[h4] at D4;have hG:=(Vw.l9 ⟨u,l⟩).1 h1;have uM:=gD.lC h2;have aw:=gx (hG.each.bounds e.s hG.lo);have hu:u<=150:=hG.hi;have bh:0<=u:=hG.lo;have aC:=hG.len;have ak:=h.jO;replace hG:=gx hG;have U:=Mr h4 h2;replace h2:=gx h2;replace h4:=gx h4;obtain⟨s,k,m⟩:=e;simp only at D3 D4 aw U;obtain⟨A,hA⟩:∃A,A=Vw.get l s:=⟨_,rfl⟩;rw[<-hA] at D3 D4 aw U;replace hA:=gx hA;obtain⟨f,Am,C,Ao⟩:=A;generalize Vw.iX ⟨u,l⟩=E at h1 D;obtain⟨E1,E2⟩:=E;have h1:E1=0:=h1;subst h1;unfold iJ jG;unfold iJ oB at D;unfold jG at D2 D4;unfold oA at D3 D4;unfold iJ at D3;simp only at D D2 D3 D4 U⊢;have aZ:¬150<=u:=by omega
 replace h3:=gx h3;obtain⟨g1,g2,g3,g4⟩:=aw.out;obtain⟨_,a7,a8,m0,m1⟩:=uM;replace U:=gx U;have hn:n<=150:=by have:(l.length:Int)<=u:=aC;omega
 replace ak:=gx ak;clear aC;have a9:=@run_makeMap prog;go_enter func63,ntmps63;go_wp2_with fail;go_at_call 62;refine(D _ (((h.alloc _).alloc _).alloc _)).mono ?_;rintro e w1⟨rfl,b1⟩;obtain⟨v1,v2,v3,bf,hb⟩:=kL w _ _ _ w1 b1;clear b1;have V:(w1.alloc (.cells #[gy,E2] 73)).cell? (w.heap.size+1,gy)=some (.string s):=gw (gF v2);have r1:(w1.alloc (.cells #[gy,E2] 73)).cell? (w.heap.size+1,ia)=some (.int .i64 k):=gw (gF v2);have r2:(w1.alloc (.cells #[gy,E2] 73)).cell? (w.heap.size+1,j6)=some (.int .i64 m):=gw (gF v2);go_wp2_with fail;go_at_call 82;refine(D2 _).mono ?_;rintro e w2⟨rfl,b2⟩;replace v1:=iT v1 b2;replace v2:=iT v2 b2;replace v3:=iT v3 b2;replace hb:=kg hb b2;clear b2 V r1 r2;obtain⟨p0,p1⟩:=lv v1;have p2:w2.cell? (w.heap.size+1,gy)=some (.string s):=gw v2;go_wp2_with fail;go_at_call 56;refine(D3 _ (h.below hb)).mono ?_;rintro e w3⟨rfl,b3⟩;replace v2:=gB v2 b3;replace v3:=gB v3 b3;replace hb:=gH hb b3;replace v1:=gB v1 b3;have bg:=iq v3;clear b3 p0 p1 p2;obtain⟨ba,ar⟩:∃ba,w3.heap.size=ba:=⟨_,rfl⟩;replace ar:=gx ar;have V:(w3.alloc (.cells #[f,Am,C,.bool Ao] 55)).cell? (w.heap.size+1,gy)=some (.string s):=gw (gF v2);have r1:(w3.alloc (.cells #[f,Am,C,.bool Ao] 55)).cell? (w.heap.size+1,ia)=some (.int .i64 k):=gw (gF v2);have r2:(w3.alloc (.cells #[f,Am,C,.bool Ao] 55)).cell? (w.heap.size+1,j6)=some (.int .i64 m):=gw (gF v2);go_wp2_with fail;go_at_call 90;refine(D4 _).mono ?_;rintro e w4⟨rfl,b4⟩;replace v1:=iT v1 b4;replace v2:=iT v2 b4;replace v3:=iT v3 b4;have v4:w4.heap[w3.heap.size]?=some (.cells #[f,Am,C,.bool Ao] 55):=gB (gO w3 _) b4;have aI:=hb;replace hb:=kg hb b4;clear b4 V r1 r2;rw[ar.out] at v4⊢;have p1:w4.cell? (w.heap.size+1,ia)=some (.int .i64 k):=gw v2;have p2:w4.cell? (w.heap.size+1,j6)=some (.int .i64 m):=gw v2;have a1:w4.cell? (ba,ia)=some (.int .i64 Am):=gw v4;have a3:w4.cell? (ba,jF)=some (.bool Ao):=gw v4;have f1:w4.frozen? (ba,ia)=false:=gA v4;have f3:w4.frozen? (ba,jF)=false:=gA v4;have au:w.heap.size<=ba:=by rw[<-ar.out];exact aI.size
 obtain⟨ax,aA,aB⟩:w.heap.size≠ba/\w.heap.size+1≠ba/\w.heap.size+1+1≠ba:=by rw[<-ar.out];omega
 have a2:w4.cell? (ba,j6)=some (.int .i64 C):=gw v4;have f2:w4.frozen? (ba,j6)=false:=gA v4;have s2:IntKind.i64.wrap (C+1)=C+1:=iO _ (by omega);go_upto_region 14 with(fail);obtain⟨X,ab⟩:∃X,(w4.setCell (ba,j6) (.int .i64 (C+1))).setCell (ba,jF) (.bool (k !=4))=X:=⟨_,rfl⟩;have d1:X.heap[w.heap.size]?=some (.cells #[u,(a,n,cap)] 30):=ab▸ic (ic v1 ax _) ax _;have d2:X.heap[w.heap.size+1]?=some (.cells #[s,k,m] 78):=ab▸ic (ic v2 aA _) aA _;have d3:X.heap[w.heap.size+1+1]?=some (.cells #[gy,()] 30):=ab▸ic (ic v3 aB _) aB _;have d4:X.heap[ba]?=some (.cells #[f,Am,.int .i64 (C+1),.bool (k !=4)] 55):=ab▸jq (i:=3) (jq (i:=2) v4 _) _;have hd:Below w w X:=ab▸(hb.setCell au _).setCell au _;rw[ab];generalize aF:(k !=4)=op at *;replace aF:=gx aF;clear ab v1 v2 v3 v4 hb p1 p2 a1 a3 f1 f3 a2 f2 s2 aI D D2 D3 D4;have p1:X.cell? (w.heap.size+1,j6)=some (.int .i64 m):=gw d2;have a1:X.cell? (ba,ia)=some (.int .i64 Am):=gw d4;have z1:w.heap.size<X.heap.size:=iq d1;have z2:w.heap.size+1<X.heap.size:=iq d2;have z3:w.heap.size+1+1<X.heap.size:=iq d3;have z4:ba<X.heap.size:=iq d4;have aw:=PK k m m0 m1;have aP:(Lit.int .i64 k).wf=true:=WalkArith.wf_i64 (by omega);have s5:IntKind.i64.wrap (m*KL k)=m*KL k:=iO _ (by omega);have s6:IntKind.i64.wrap (Am+m*KL k)=Am+m*KL k:=iO _ (by omega);have s7:IntKind.i64.wrap (u+1)=u+1:=iO _ (by omega);have LK:=gx (fun(W:World) (h:W.ownsMap prog 3 (plainElem (H:=Unit) prog 3) X.heap.size 2 (((DataW.map []).put (.int .i64 2) (.lit (.int .i64 1))).put (.int .i64 3) (.lit (.int .i64 (-1)))))=>MR h k aP);generalize KL k=sg at *;obtain⟨P,aN⟩:∃P,IntKind.i64.wrap (Am+m*sg)=P:=⟨_,rfl⟩;rw[<-s6,aN] at U;clear s6 aw;go_upto_region 15 with(first
  |(refine wpList_insert_own _ rfl (.tmp 52) (.const (.int .i64 2)) (.const (.int .i64 1)) 138 rfl 3 3 (int_keyed Tryz.underlying3) Tryz.underlying138 (plainElem (H:=Unit) Tryz.prog 3) X.heap.size 0 (.map []) rfl (World.ownsMap_made _ _ _ _) (by decide) _ _ (.int .i64 2) rfl rfl (Ed 2 (by decide)) (.lit (.int .i64 1)) [] (plainElem_int Tryz.underlying3 (by decide)) ?_;intro w5 aL al)
  |(refine wpList_insert_own _ rfl (.tmp 52) (.const (.int .i64 3)) (.const (.int .i64 (-1))) 138 rfl 3 3 (int_keyed Tryz.underlying3) Tryz.underlying138 (plainElem (H:=Unit) Tryz.prog 3) X.heap.size 1 _ rfl aL (by decide) _ _ (.int .i64 3) rfl rfl (Ed 3 (by decide)) (.lit (.int .i64 (-1))) [] (plainElem_int Tryz.underlying3 (by decide)) ?_;intro w6 aM ao;have aV:=LK.out _ aM;have e1:=nE ao (nE al (gF d1) (Nat.ne_of_lt z1)) (Nat.ne_of_lt z1);have e2:=nE ao (nE al (gF d2) (Nat.ne_of_lt z2)) (Nat.ne_of_lt z2);have e3:=nE ao (nE al (gF d3) (Nat.ne_of_lt z3)) (Nat.ne_of_lt z3);have e4:=nE ao (nE al (gF d4) (Nat.ne_of_lt z4)) (Nat.ne_of_lt z4);have g0:=gw (i:=1) e2;have g1:=gw (i:=1) e4;have g2:=gA (i:=1) e4;have g3:=gw (i:=0) e1;have g4:=gw (i:=1) e1;have g5:w.heap.size≠ba:=ax;have g6:=Ne.symm g5))
 obtain⟨q,Z⟩:∃q,w6.setCell (ba,ia) P=q:=⟨_,rfl⟩;have c1:q.heap[w.heap.size]?=some (.cells #[u,(a,n,cap)] 30):=Z▸ic e1 ax _;have c2:q.heap[w.heap.size+1]?=some (.cells #[s,k,m] 78):=Z▸ic e2 aA _;have c3:q.heap[w.heap.size+1+1]?=some (.cells #[gy,()] 30):=Z▸ic e3 aB _;have c4:q.heap[ba]?=some (.cells #[f,P,.int .i64 (C+1),.bool op] 55):=Z▸jq (i:=1) e4 _;have az:Below w w q:=by have q1:=hd.alloc hd.size (.map #[] 0);have q2:=q1.grown al q1.size (fun k e=>by cases e;exact hd.size);have q3:=q2.grown ao q2.size (fun k e=>by cases e;exact hd.size);exact Z▸q3.setCell au _
 rw[Z];have aY:f=s:=by have:=Vw.Jf l s;rw[<-hA.out] at this;exact this
 subst aY;have aq:=gx he;have ae:Vw.plus (Vw.get l f) ⟨f,k,m⟩=⟨f,P,C+1,op⟩:=by rw[<-hA.out];exact U
 replace ae:=gx ae;clear Z e1 e2 e3 e4 al ao aL aM aV LK hd g0 g1 g2 g3 g4 g5 g6 d1 d2 d3 d4 aP s5 aN U p1 a1 z1 z2 z3 z4 ax aA aB aF;obtain⟨k0,k1⟩:=lv c1;have z1:=iq c1;have z2:=iq c2;have z3:=iq c3;have z4:=iq c4;have c5:=gO q (.cells #[.int .i64 (u+1),()] 30);have aH:OT q (q.alloc (.cells #[.int .i64 (u+1),()] 30)) none q.heap.size 55 4 () 0 []:=OT.fresh (iY _ _ _ _) (gZ.alloc gM _) gM;have k2:(q.alloc (.cells #[.int .i64 (u+1),()] 30)).cell? (w,ia)=some (.slice a n cap):=gw (gF c1);go_upto_region 18 with(fail);go_loopg[10,67] n (fun g dn i wr=>∃(k:Nat) (done:Bool) (v:Value) (L:List Vw.Acc),g=n-k/\k<=n/\i=.int .i64 (k:Int)/\dn=.bool done/\wr.heap[q.heap.size]?=some (.cells #[.int .i64 (u+1),v] 30)/\
  OT q wr none q.heap.size 55 4 v L.length (gR L)/\(∀e∈L,e.s.size<=maxLen)/\Hid (Vw.Ri ⟨f,P,C+1,op⟩ l k done L))
 case atStart=>exact⟨0,false,_,[],rfl,by omega,rfl,rfl,c5,aH,(fun e h=>by cases h),gx (Vw.Ri.start _ _)⟩
 case round=>
  obtain⟨O,done,v,L,rfl,aU,rfl,rfl,x0,hO,K,G⟩:=hrel;clear k0 k1 k2 c5 aH;have hB:Below q q wr:=hO.im gM (fun k e=>by cases e);have a4:=hB.size;have b2:=gB c2 hB;have b4:=gB c4 hB;have hL:L.length<=151:=by have:=G.len (by rw[ak.out];exact aU);rw[ak.out] at this;omega
  have bc:=gP hO.own x0 (by decide);obtain⟨va,vc,rfl,aO⟩:=gK hO.own;by_cases N:O<n
  .have ap:O<l.length:=by rw[ak.out];exact N
   obtain⟨b,off,rfl,_⟩:=h.sl.addr (by omega);obtain⟨q0,q1,q2,q3⟩:=(h.below (gH az hB)).at O ap;have oz:=h.ok _ (iE ap);obtain⟨ac,aE⟩:∃ac,l[O]=ac:=⟨_,rfl⟩;have af:=gx (fun(R:Vw.Ri ⟨f,P,C+1,op⟩ l O true L)=>R.after ap);have ag:=gx (fun(R:Vw.Ri ⟨f,P,C+1,op⟩ l O false L)=>R.below ap);have ah:=gx (fun(R:Vw.Ri ⟨f,P,C+1,op⟩ l O false L)=>R.same ap hG.up);have ai:=gx (fun(R:Vw.Ri ⟨f,P,C+1,op⟩ l O false L)=>R.new ap hG.up);rw[aE] at q0 q1 q2 q3 af ag ah ai oz;replace aE:=gx aE;obtain⟨t,mm,cc,oo⟩:=ac;have i0:(0:Int)<=(O:Int):=by omega
   have i1:(O:Int)<(n:Int):=by omega
   have X0:=gF (o':=.cells #[t,mm,cc,.bool oo] 55) x0;have X2:=gF (o':=.cells #[t,mm,cc,.bool oo] 55) b2;have X4:=gF (o':=.cells #[t,mm,cc,.bool oo] 55) b4;have X5:=gO wr (.cells #[t,mm,cc,.bool oo] 55);have Y:=hO.alloc (.cells #[t,mm,cc,.bool oo] 55);have aW:(Value.slice va L.length vc).ownBlock≠some wr.heap.size:=fun e=>absurd (hO.own.lt _ e).2 (oP _);have aK:some wr.heap.size≠(Value.slice va L.length vc).ownBlock:=fun e=>aW e.symm;obtain⟨o0,o1⟩:=lv X0;have o2:=gw (i:=0) X2;obtain⟨o3,o4,o5,o6⟩:=Lm X4;have y1:w.heap.size+1<wr.heap.size:=by omega
   have y2:q.heap.size<wr.heap.size:=iq x0;have y3:ba<wr.heap.size:=by omega
   have y4:q.heap.size≠wr.heap.size:=by omega
   have y5:wr.heap.size≠q.heap.size:=by omega
   cases done with
   |true=>
    obtain⟨B,F⟩:=af G;replace F:=gx F;have e1:(t.toList==f.toList)=false:=by rw[lA,ju B]
    clear B af ag ah ai G;go_wp2_with (at_builtin;refine wpList_append_acc rfl (.tmp 92) (.tmp 94) rfl q.heap.size _ L ⟨t,mm,cc,oo⟩ (wr.heap.size+1) rfl Y rfl (xB _ ⟨t,mm,cc,oo⟩ (by simp)) hL (by simp;omega) ?_;intro v5 w5 r I;obtain⟨a5,c5,rfl,_⟩:=gK r.own;obtain⟨V,r1,r2⟩:=vY Y X0 gM r I;have r3:=gw (i:=1) V;have r4:=gA (i:=1) V);go_roundg (n-(O+1));case measure=>omega
    case rel=>exact⟨O+1,true,_,_,rfl,by omega,by go_num,rfl,r1,by rw[iH];exact r2,uy K oz,F⟩
   |false=>
    by_cases N:gD.kP t<gD.kP f
    .obtain⟨B,F⟩:=ag G N;replace F:=gx F;have e0:Op.bytesLess t.toList f.toList=true:=by rw[rq,kr N]
     have e1:(t.toList==f.toList)=false:=by rw[lA,ju B]
     clear B af ag ah ai G N;go_wp2_with (at_builtin;refine wpList_append_acc rfl (.tmp 92) (.tmp 94) rfl q.heap.size _ L ⟨t,mm,cc,oo⟩ (wr.heap.size+1) rfl Y rfl (xB _ ⟨t,mm,cc,oo⟩ (by simp)) hL (by simp;omega) ?_;intro v5 w5 r I;obtain⟨a5,c5,rfl,_⟩:=gK r.own;obtain⟨V,r1,r2⟩:=vY Y X0 gM r I;have r3:=gw (i:=1) V;have r4:=gA (i:=1) V);go_roundg (n-(O+1));case measure=>omega
     case rel=>exact⟨O+1,false,_,_,rfl,by omega,by go_num,rfl,r1,by rw[iH];exact r2,uy K oz,F⟩
    .have e0:Op.bytesLess t.toList f.toList=false:=by rw[rq,ju N]
     go_upto_region 23 with(at_builtin;refine wpList_append_acc rfl (.tmp 81) (.tmp 83) rfl q.heap.size _ L ⟨f,P,C+1,op⟩ (wr.heap.size+1) rfl Y rfl (xB _ ⟨f,P,C+1,op⟩ (by simp)) hL (by simp;omega) ?_;intro v5 w5 r I;obtain⟨a5,c5,rfl,_⟩:=gK r.own;obtain⟨V,r1,r2⟩:=vY Y X0 gM r I;have r3:=gw (i:=1) V;have r4:=gA (i:=1) V);have aj:Below q q w5:=r.im gM (fun k e=>by cases e);have m2:=ic (i:=1) (g:=q) (gB c2 aj) (by omega) (a5,(L.length+1),c5);have m5:w5.heap[wr.heap.size]?=some (.cells #[t,mm,cc,.bool oo] 55):=by rw[I.block wr.heap.size (by simp;omega) aK];exact gF X5
     replace m5:=ic (i:=1) (g:=q) m5 y5 (a5,(L.length+1),c5);generalize w5.setCell (q,ia) (a5,(L.length+1),c5)=W5 at *;clear I V r3 r4 o0 o1 o2 o3 o4 o5 o6 X0 X2 X4 X5 Y hO aO r aj q0 q1 q2 q3 b2 b4 x0;obtain⟨o0,o1⟩:=lv r1;have o2:=gw (i:=0) m2;obtain⟨o3,o4,o5,o6⟩:=Lm m5;by_cases B:t=f
     .have F:=gx (ah G B);have e1:(t.toList==f.toList)=true:=by rw[lA,kr B]
      clear af ag ah ai G N;replace B:=gx B;go_wp2_with fail;go_roundg (n-(O+1));case measure=>omega
      case rel=>exact⟨O+1,true,_,_,rfl,by omega,by go_num,rfl,r1,by rw[iH];exact r2,uy K aq.out,F⟩
     .have F:=gx (ai G N B);have e1:(t.toList==f.toList)=false:=by rw[lA,ju B]
      clear af ag ah ai G N B;have a0:=iq r1;go_wp2_with (at_builtin;refine wpList_append_acc2 rfl (.tmp 92) (.tmp 94) rfl q.heap.size _ (L++[⟨f,P,C+1,op⟩]) ⟨t,mm,cc,oo⟩ W5.heap.size (L.length+1) rfl r2 rfl (xB _ ⟨t,mm,cc,oo⟩ rfl) (by omega) (by omega) ?_;intro v6 w6 aQ aS;obtain⟨a6,c6,rfl,_⟩:=gK aQ.own;obtain⟨t0,t1,t2⟩:=vY r2 r1 gM aQ aS;have t3:=gw (i:=1) t0;have t4:=gA (i:=1) t0);go_roundg (n-(O+1));case measure=>omega
      case rel=>exact⟨O+1,true,_,_,rfl,by omega,by go_num,rfl,t1,by rw[iH,iH];exact t2,uy (uy K aq.out) oz,F⟩
  .obtain rfl:O=n:=by omega
   have aD:=ak.out;have aX:w.heap.size+1+1≠q.heap.size:=by omega
   have bd:q.heap.size≠w.heap.size+1+1:=by omega
   have b3:=gB c3 hB;have aT:=gH az hB;have aR:=c3;clear c1 c2 c3 b2;cases done with
   |true=>
    have ad:L=Vw.ins ⟨f,P,C+1,op⟩ l:=by have:=G.out;rw[<-aD] at this;exact this.stop
    have S:=gP hO.own b3 (by decide);obtain⟨t1,t2⟩:=lv b3;have t3:∀j,wr.frozen? ⟨w.heap.size+1+1,j,none⟩=false:=fun j=>gA b3;obtain⟨t4,t5⟩:=lv x0;replace ad:=gx ad;go_wp2_with fail;have ay:=ji (a:=(w.heap.size+1+1,ia)) (ji (a:=(w.heap.size+1+1,gy)) hO.own S (.int .i64 (u+1))) S (va,L,vc);obtain⟨a',aG,e,hs⟩:=gK ay;cases e;refine gS (v:=.tuple #[.agg #[.int .i64 (u+1),(va,L,vc)],gy]) (by simp[results,results63,go_sem,t1,t2]) rfl ⟨_,_,_,rfl,?_,(aT.setCell (by show w.heap.size<=w.heap.size+1+1;omega) _).setCell (by show w.heap.size<=w.heap.size+1+1;omega) _,nb ay⟩;show As _ _ _ _ (Vw.ins (Vw.plus (Vw.get l f) ⟨f,k,m⟩) l);rw[ae.out,<-ad.out];exact⟨hs,K⟩
   |false=>
    have ad:L++[⟨f,P,C+1,op⟩]=Vw.ins ⟨f,P,C+1,op⟩ l:=by have:=G.out;rw[<-aD] at this;exact this.last
    replace ad:=gx ad;obtain⟨o0,o1⟩:=lv x0;obtain⟨o3,o4,o5,o6⟩:=Lm b4;go_upto_region 28 with(at_builtin;refine wpList_append_acc rfl (.tmp 101) (.tmp 103) rfl q.heap.size _ L ⟨f,P,C+1,op⟩ wr.heap.size rfl hO rfl (xB _ ⟨f,P,C+1,op⟩ rfl) hL (by omega) ?_;intro v5 w5 r I;obtain⟨a5,c5,rfl,_⟩:=gK r.own;obtain⟨V,r1,r2⟩:=vY hO x0 gM r I;have r3:=gw (i:=1) V;have r4:=gA (i:=1) V);have aj:Below q q w5:=r.im gM (fun k e=>by cases e);have m3:=ic (i:=1) (g:=q) (gB aR aj) aX (a5,(L.length+1),c5);have aJ:=(gH az aj).setCell (p:=(q,ia)) az.size (a5,(L.length+1),c5);generalize w5.setCell (q,ia) (a5,(L.length+1),c5)=W5 at *;clear I V r3 r4 o0 o1 o3 o4 o5 o6 hO aO r aj x0 b3;have S:=gP r2.own m3 (by decide);obtain⟨t1,t2⟩:=lv m3;have t3:∀j,W5.frozen? ⟨w.heap.size+1+1,j,none⟩=false:=fun j=>gA m3;obtain⟨t4,t5⟩:=lv r1;go_wp2_with fail;have ay:=ji (a:=(w.heap.size+1+1,ia)) (ji (a:=(w.heap.size+1+1,gy)) r2.own S (.int .i64 (u+1))) S (a5,(L.length+1),c5);obtain⟨a',aG,e,hs⟩:=gK ay;cases e;refine gS (v:=.tuple #[.agg #[.int .i64 (u+1),(a5,(L.length+1),c5)],gy]) (by simp[results,results63,go_sem,t1,t2]) rfl ⟨_,_,_,rfl,?_,(aJ.setCell (by show w.heap.size<=w.heap.size+1+1;omega) _).setCell (by show w.heap.size<=w.heap.size+1+1;omega) _,nb ay⟩;show As _ _ _ _ (Vw.ins (Vw.plus (Vw.get l f) ⟨f,k,m⟩) l);rw[ae.out,<-ad.out];exact⟨hs,uy K aq⟩
theorem Em(u:Int)(a:Option Addr)(n cap:Nat)(l:List Vw.Acc)(e:gD.Ev)(w:World)(h:As w a n cap l)(r:e.s.size<=maxLen):
  Calls prog 63 #[iJ u a n cap,jG e] w (ET (Vw.apply ⟨u,l⟩ e) w):=by
 unfold Vw.apply;by_cases f:(Vw.iX ⟨u,l⟩).1≠0;·rw[gG f];exact(Mx u a n cap l e w h f).mono fun _ _ h=>xO.none h
 .rw[gC f];have f:(Vw.iX ⟨u,l⟩).1=0:=mU f;by_cases j:gD.iW e≠0;·rw[gG j];exact(My u a n cap l e w h r f j).mono fun _ _ h=>xO.none h
  .rw[gC j];have j:gD.iW e=0:=mU j;by_cases m:u=150
   .rw[gG m];subst m;exact(Mz a n cap l e w h r f j).mono fun _ _ h=>xO.none h
   .rw[gC m];by_cases q:Vw.may (Vw.get l e.s) e=false;·rw[gG q];exact(MA u a n cap l e w h r f j m q).mono fun _ _ h=>xO.none h
    .rw[gC q];exact MB u a n cap l e w h r f j m (by simpa using q)
end Go.Proofs.YthhcdfjijagalaaGreat
namespace Go.Proofs.YthhcdfjijagalaaGreat
open Qz Go.Proofs.Tryz Go.RowKit
theorem NV(u:Int)(a:Option Addr)(n cap:Nat)(l:List Vw.Acc)(ea:Option Addr)(K ec:Nat)(w:World)(h:As w a n cap l)(o:(Vw.iX ⟨u,l⟩).1≠0):
  Calls prog 27 #[iJ u a n cap,(ea,K,ec)] w (G7 ⟨Vw.iL,(Vw.iX ⟨u,l⟩).1,0⟩ w):=by
 have D:=gx (fun W (B:As W a n cap l)=>kZ u a n cap l W B);obtain⟨E,r⟩:∃E,E=Vw.iX ⟨u,l⟩:=⟨_,rfl⟩;rw[<-r] at o⊢;rw[<-r] at D;clear r;obtain⟨m,q⟩:=E;unfold iJ;unfold iJ oB at D;simp only at o D⊢;have t0:(m !=0)=true:=ij.2 o;replace o:=gx o;go_enter func27,ntmps27;go_wp2_with fail;go_at_call 62;refine(D _ (((h.alloc _).alloc _).alloc _)).mono ?_;rintro e f⟨rfl,b1⟩;obtain⟨v1,v2,C,L,hb⟩:=kL w _ _ _ f b1;have N:w.heap.size+1<f.heap.size:=by omega
 obtain⟨z1,z2,z3,z4⟩:w.heap.size+1+1≠f.heap.size/\f.heap.size≠w.heap.size+1+1/\w.heap.size+1≠f.heap.size/\f.heap.size≠w.heap.size+1:=by omega
 obtain⟨X,Y⟩:=lv v2;have U:∀j,f.frozen? ⟨w.heap.size+1,j,none⟩=false:=fun j=>gA v2;obtain⟨Z,r3⟩:=lv C;have V:∀j,f.frozen? ⟨w.heap.size+1+1,j,none⟩=false:=fun j=>gA C;clear b1;go_wp2_with fail;go_region;all_goals go_wp2_with fail
 obtain⟨W,B,F,G,I⟩:=rG hb (by omega) (by omega) (by omega) v2 C gy () m gy;rw[B];have O:=gw (i:=0) (gF (o':=.cells #[m,q] 73) F);have P:=gw (i:=1) (gF (o':=.cells #[m,q] 73) F);have Q:=gw (i:=0) (gF (o':=.cells #[m,q] 73) G);have S:=gw (i:=1) (gF (o':=.cells #[m,q] 73) G);exact gS (v:=.tuple #[.agg #[gy,()],.agg #[m,gy]]) (by simp[results,results27,go_sem,O,P,Q,S]) rfl (FC (below_drewN (I.alloc I.size _) 1))
def EQ(r:Vw.Fo)(w:World)(e:Ending)(w':World):Prop:=∃a n cap,e=.returned (.tuple #[iJ r.v.upto a n cap,.agg #[r.err,r.at_]])/\As w' a n cap r.v.ib/\Below w w w'/\Ty w' a n 55
theorem G7.none{E F:Int}{w:World}{e:Ending}{w':World}(h:G7 ⟨Vw.iL,E,F⟩ w e w'):EQ ⟨Vw.iL,E,F⟩ w e w':=by
 obtain⟨a,n,cap,m,f,o⟩:=h;have:=f.jO;have j:n=0:=by rw[<-this];rfl
 subst j;exact⟨a,0,cap,m,f,o,Ty.zero _ _ _⟩
theorem MC(u:Int)(a:Option Addr)(n cap:Nat)(l:List Vw.Acc)(ea:Option Addr)(L ec:Nat)(es:List gD.Ev)(w:World)(h:As w a n cap l)(hT:Ty w a n 55)(q:Es w ea L ec es)(X:(Vw.iX ⟨u,l⟩).1=0):
  Calls prog 27 #[iJ u a n cap,(ea,L,ec)] w (EQ (Vw.fo ⟨u,l⟩ es 0) w):=by
 have D:=gx (fun W (P:As W a n cap l)=>kZ u a n cap l W P);have hG:=(Vw.l9 ⟨u,l⟩).1 X;have hn:n<=150:=by have h2:=hG.len;have h3:=hG.hi;have:=h.jO;simp only at h2 h3;omega
 have af:=q.sl.max;have al:=q.sl.le;unfold maxLen at af;have HN:=gx q.n;replace hG:=gx hG;generalize Vw.iX ⟨u,l⟩=E at X D;obtain⟨E1,U⟩:=E;have X:E1=0:=X;subst X;unfold iJ;unfold iJ oB at D;simp only at D⊢;go_enter func27,ntmps27;go_wp2_with fail;go_at_call 62;refine(D _ (((h.alloc _).alloc _).alloc _)).mono ?_;rintro e w1⟨rfl,b1⟩;obtain⟨v1,v2,v3,ao,hb⟩:=kL w _ _ _ w1 b1;clear b1;have ap:w.heap.size<w1.heap.size:=by omega
 have ag:=gF (o':=.cells #[gy,U] 73) v1;have ah:=gF (o':=.cells #[gy,U] 73) v2;have ai:=gF (o':=.cells #[gy,U] 73) v3;have O:=(h.below hb).alloc (.cells #[gy,U] 73);have ad:=hb.alloc hb.size (.cells #[gy,U] 73);go_wp2_with fail;go_loopg[22] L (fun g i wr=>∃(k:Nat) (r:Int) (a':Option Addr) (G K:Nat) (N:List Vw.Acc),g=L-k/\k<=L/\i=.int .i64 (k:Int)/\wr.heap[w.heap.size]?=some (.cells #[r,(a',G,K)] 30)/\wr.heap[w.heap.size+1]?=some (.cells #[gy,()] 30)/\wr.heap[w.heap.size+1+1]?=some (.cells #[gy,gy] 73)/\As wr a' G K N/\Hid (Ty wr a' G 55)/\Below w w wr/\Hid (Vw.fo ⟨u,l⟩ es 0=Vw.fo ⟨r,N⟩ (es.drop k) k));case atStart=>exact⟨0,u,a,n,cap,l,rfl,by omega,rfl,ag,ah,ai,O,gx ((hT.below hb).alloc _),ad,gx rfl⟩
 case round=>
  obtain⟨k,r,a',G,K,N,rfl,hk,rfl,C,B,f,hA,HT,o,HF⟩:=hrel;clear v1 v2 v3 ag ah ai O ad;by_cases aj:k<L
  .have ae:k<es.length:=by rw[HN.out];exact aj
   obtain⟨eb,ak,rfl,_⟩:=q.sl.addr (by omega);obtain⟨q0,q1,q2⟩:=(q.below o).at k ae;have oz:=q.ok es[k] (iE _);have V:=gx (Ja (v:=⟨r,N⟩) ae);have D8:=gx (fun W (P:As W a' G K N)=>Em r a' G K N es[k] W P oz);generalize Vw.apply ⟨r,N⟩ es[k]=R at D8 V;generalize es[k]=ev at *;obtain⟨⟨S,l2⟩,er⟩:=R;obtain⟨s,kk,m⟩:=ev;unfold iJ jG at D8;simp only at q0 q1 q2 D8;have i0:(0:Int)<=(k:Int):=by omega
   have i1:(k:Int)<(L:Int):=by omega
   have r0:(wr.alloc (.cells #[s,kk,m] 78)).cell? (w,gy)=some (.int .i64 r):=gw (gF C);have r1:(wr.alloc (.cells #[s,kk,m] 78)).cell? (w,ia)=some (.slice a' G K):=gw (gF C);go_wp2_with fail;go_at_call 63;refine(D8 _ (hA.alloc _)).mono ?_;rintro e I⟨Q,n2,c2,rfl,Y,b3,T2⟩;replace T2:=gx T2;simp only at Y;unfold iJ;simp only;replace C:=iT C b3;replace B:=iT B b3;replace f:=iT f b3;replace o:=kg o b3;clear b3 r0 r1 q0 q1 q2;have s3:=iq f;have s2:w.heap.size+1<I.heap.size:=by omega
   have s1:w.heap.size<I.heap.size:=by omega
   by_cases F:er=0
   .subst F;have V:=gx (V.trans (gC (fun k=>k rfl)));obtain⟨p0,p1⟩:=lv C;have p2:∀j,I.frozen? ⟨w.heap.size,j,none⟩=false:=fun j=>gA C;have p3:w.heap.size≠I.heap.size:=by omega
    have p4:I.heap.size≠w.heap.size:=by omega
    go_wp2_with fail;go_roundg (L-(k+1));case measure=>omega
    case rel=>
     refine⟨k+1,S,Q,n2,c2,l2,rfl,by omega,by go_num,gF (pL C _ _),gF (ic (ic B (by omega) _) (by omega) _),gF (ic (ic f (by omega) _) (by omega) _),((Y.pC C _).pC (jq (i:=0) C _) _).alloc _,gx (((T2.setCell C _).setCell (jq (i:=0) C _) _).alloc _),?_,gx (HF.trans V)⟩;have:=(o.setCell (p:=(w,gy)) gM S).setCell (p:=(w,ia)) gM (Q,n2,c2);exact this.alloc this.size _
   .have HR:=gx (HF.trans (V.trans (gG F)));have t0:(er !=0)=true:=ij.2 F;replace F:=gx F;obtain⟨p0,p1⟩:=lv B;have p2:∀j,I.frozen? ⟨w.heap.size+1,j,none⟩=false:=fun j=>gA B;obtain⟨p3,p4⟩:=lv f;have p5:∀j,I.frozen? ⟨w.heap.size+1+1,j,none⟩=false:=fun j=>gA f;obtain⟨z1,z2,z3,z4⟩:w.heap.size+1+1≠I.heap.size/\I.heap.size≠w.heap.size+1+1/\w.heap.size+1≠I.heap.size/\I.heap.size≠w.heap.size+1:=by omega
    go_wp2_with fail;obtain⟨W,P,qb,qc,qd⟩:=rG o (by omega) (by omega) (by omega) B f gy () er k;rw[P];have g0:=gw (i:=0) (gF (o':=.cells #[S,(Q,n2,c2)] 30) qb);have g1:=gw (i:=1) (gF (o':=.cells #[S,(Q,n2,c2)] 30) qb);have g2:=gw (i:=0) (gF (o':=.cells #[S,(Q,n2,c2)] 30) qc);have g3:=gw (i:=1) (gF (o':=.cells #[S,(Q,n2,c2)] 30) qc);rw[HR.out];exact gS (v:=.tuple #[.agg #[gy,()],.agg #[er,k]]) (by simp[results,results27,go_sem,g0,g1,g2,g3]) rfl (G7.none (FC (qd.alloc qd.size _)))
  .obtain rfl:k=L:=by omega
   obtain⟨p0,p1⟩:=lv C;obtain⟨r0,r1⟩:=lv B;have r2:∀j,wr.frozen? ⟨w.heap.size+1,j,none⟩=false:=fun j=>gA B;obtain⟨r3,r4⟩:=lv f;have r5:∀j,wr.frozen? ⟨w.heap.size+1+1,j,none⟩=false:=fun j=>gA f;have HR:=gx (HF.trans (show Vw.fo ⟨r,N⟩ (es.drop k) k=⟨⟨r,N⟩,0,0⟩ by rw[mV (by rw[HN.out];exact jb _)];rfl));go_wp2_with fail;have Z:=(((hA.pC (i:=0) B r).pC (i:=1) (jq (i:=0) B _) (a',G,K)).pC (i:=0) (ic (ic f (b:=w.heap.size+1+1) (by omega) _) (by omega) _) gy).pC (i:=1) (jq (i:=0) (ic (ic f (b:=w.heap.size+1+1) (by omega) _) (by omega) _) _) gy;have ab:=(((HT.setCell (i:=0) B r).setCell (i:=1) (jq (i:=0) B _) (a',G,K)).setCell (i:=0) (ic (ic f (b:=w.heap.size+1+1) (by omega) _) (by omega) _) gy).setCell (i:=1) (jq (i:=0) (ic (ic f (b:=w.heap.size+1+1) (by omega) _) (by omega) _) _) gy;obtain⟨W,P,qb,qc,qd⟩:=rG o (by omega) (by omega) (by omega) B f r (a',G,K) gy gy;rw[P] at Z ab⊢;obtain⟨g0,g1⟩:=lv qb;obtain⟨g2,g3⟩:=lv qc;rw[HR.out];exact gS (v:=.tuple #[.agg #[r,(a',G,K)],.agg #[gy,gy]]) (by simp[results,results27,go_sem,g0,g1,g2,g3]) rfl ⟨_,_,_,rfl,Z,qd,ab⟩
theorem zp(u:Int)(a:Option Addr)(n cap:Nat)(l:List Vw.Acc)(ea:Option Addr)(e ec:Nat)(es:List gD.Ev)(w:World)(h:As w a n cap l)(m:Ty w a n 55)(j:Es w ea e ec es):
  Calls prog 27 #[iJ u a n cap,(ea,e,ec)] w (EQ (Vw.fold ⟨u,l⟩ es) w):=by
 unfold Vw.fold;by_cases f:(Vw.iX ⟨u,l⟩).1≠0;·rw[gG f];exact(NV u a n cap l ea e ec w h f).mono fun _ _ h=>G7.none h
 .rw[gC f];exact MC u a n cap l ea e ec es w h m j (mU f)
end Go.Proofs.YthhcdfjijagalaaGreat

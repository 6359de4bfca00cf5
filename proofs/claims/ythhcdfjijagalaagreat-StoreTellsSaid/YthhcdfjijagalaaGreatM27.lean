import Derived.Test.YthhcdfjijagalaaGreatM24
set_option linter.all false
set_option maxHeartbeats 4000000
set_option maxRecDepth 100000
namespace Go.Proofs.YthhcdfjijagalaaGreat
open Qz Go.Proofs.Tryz Go.RowKit
theorem wv(a:Option Addr)(n cap:Nat)(cs:List Value)(w:World)(h:Sl w 3 a n cap cs)(r:∀u∈cs,u.oneCell'=true)(o:n<=1000000):
  Calls prog 38 #[(a,n,cap)] w fun e w'=>∃v,e=.returned v/\Below w w w'/\w'.ownsRow w.heap.size 78 3 v n cs:=by
 cases a with
 |none=>
  have q:=h.nil rfl;have E:=h.le;obtain rfl:n=0:=by omega
  obtain rfl:cap=0:=q;have j:cs=[]:=qj (by have:=h.len;omega);subst j;have B:=fun m=>uV (P:=prog) m 40 78 none 0 0 0 0 underlying40;go_enter func38,ntmps38;go_wp2;go_ret;exact⟨_,rfl,iU _ _,iY _ _ _ _⟩
 |some p=>
  have B:=fun m=>uV (P:=prog) m 40 78 (some p) n cap 0 0 underlying40;go_enter func38,ntmps38;go_wp2_with (at_builtin;(refine wpList_append_t rfl (.tmp 5) (.tmp 6) 40 40 rfl w.heap.size 78 3 32 _ underlying40 qF rfl (by decide) (some (w,gy),gy,gy) 0 [] rfl (OT.fresh (sA w #[] 0 gM (by decide) rfl) (gZ.alloc gM _) gM) ((some p),n,cap) n cs rfl (Sl.src (h.alloc _) underlying40 r) ?d1 ?d2 ?d3 ?_);(case d1=>unfold maxLen;omega);(case d2=>omega);(case d3=>simp);intro v2 F f C);go_ret;refine⟨v2,rfl,f.im gM (fun k e=>by cases e),?_⟩;have:=f.own;rwa[mZ,jk] at this
theorem Dx(a:Option Addr)(n cap:Nat)(cs:List Value)(w:World)(h:Sl w 2 a n cap cs)(r:∀u∈cs,u.oneCell'=true)(o:n<=1000000):
  Calls prog 39 #[(a,n,cap)] w fun e w'=>∃v,e=.returned v/\Below w w w'/\w'.ownsRow w.heap.size 50 2 v n cs:=by
 cases a with
 |none=>
  have q:=h.nil rfl;have E:=h.le;obtain rfl:n=0:=by omega
  obtain rfl:cap=0:=q;have j:cs=[]:=qj (by have:=h.len;omega);subst j;have B:=fun m=>uV (P:=prog) m 26 50 none 0 0 0 0 underlying26;go_enter func39,ntmps39;go_wp2;go_ret;exact⟨_,rfl,iU _ _,iY _ _ _ _⟩
 |some p=>
  have B:=fun m=>uV (P:=prog) m 26 50 (some p) n cap 0 0 underlying26;go_enter func39,ntmps39;go_wp2_with (at_builtin;(refine wpList_append_t rfl (.tmp 5) (.tmp 6) 26 26 rfl w.heap.size 50 2 32 _ underlying26 np rfl (by decide) (some (w,gy),gy,gy) 0 [] rfl (OT.fresh (sA w #[] 0 gM (by decide) rfl) (gZ.alloc gM _) gM) ((some p),n,cap) n cs rfl (Sl.src (h.alloc _) underlying26 r) ?d1 ?d2 ?d3 ?_);(case d1=>unfold maxLen;omega);(case d2=>omega);(case d3=>simp);intro v2 F f C);go_ret;refine⟨v2,rfl,f.im gM (fun k e=>by cases e),?_⟩;have:=f.own;rwa[mZ,jk] at this
theorem uP(a:Option Addr)(n cap:Nat)(cs:List Value)(w:World)(h:Sl w 1 a n cap cs)(r:∀u∈cs,u.oneCell'=true)(o:n<=1000000):
  Calls prog 42 #[(a,n,cap)] w fun e w'=>∃v,e=.returned v/\Below w w w'/\w'.ownsRow w.heap.size 3 1 v n cs:=by
 cases a with
 |none=>
  have q:=h.nil rfl;have E:=h.le;obtain rfl:n=0:=by omega
  obtain rfl:cap=0:=q;have j:cs=[]:=qj (by have:=h.len;omega);subst j;have B:=fun m=>uV (P:=prog) m 27 3 none 0 0 0 0 underlying27;go_enter func42,ntmps42;go_wp2;go_ret;exact⟨_,rfl,iU _ _,iY _ _ _ _⟩
 |some p=>
  have B:=fun m=>uV (P:=prog) m 27 3 (some p) n cap 0 0 underlying27;go_enter func42,ntmps42;go_wp2_with (at_builtin;(refine wpList_append_t rfl (.tmp 5) (.tmp 6) 27 27 rfl w.heap.size 3 1 8 _ underlying27 us rfl (by decide) (some (w,gy),gy,gy) 0 [] rfl (OT.fresh (sA w #[] 0 gM (by decide) rfl) (gZ.alloc gM _) gM) ((some p),n,cap) n cs rfl (Sl.src (h.alloc _) underlying27 r) ?d1 ?d2 ?d3 ?_);(case d1=>unfold maxLen;omega);(case d2=>omega);(case d3=>simp);intro v2 F f C);go_ret;refine⟨v2,rfl,f.im gM (fun k e=>by cases e),?_⟩;have:=f.own;rwa[mZ,jk] at this
theorem lQ:(Tryz.prog.info? 66).map (fun i=>(i.zero,i.size,i.bytes))=some (some (.agg #[gy,()]),2,32):=by kernel_rfl
theorem vh(l:List Hm):(rows jE l).length=l.length*2:=lz mq l
theorem G9(l m:List Hm):rows jE (l++m)=rows jE l++rows jE m:=kh l m
theorem Ld(l:List Hm)(i:Nat):rows jE (l.take i)=(rows jE l).take (i*2):=yQ mq l i
theorem Lc(l:List Hm)(i:Nat):rows jE (l.drop i)=(rows jE l).drop (i*2):=yP mq l i
theorem Lb(l:List Hm):∀u∈rows jE l,u.oneCell'=true:=Bb NH l
theorem LN(w:World)(x:Hm)(e:Nat)(m:w.heap[e]?=some (.cells #[x.s,(x.a,x.b,x.cap)] 66)):Src prog 2 61 (some (e,gy),ia,ia) 1 ((jE x)) w:=
 Src.ofSlice w underlying61 (e,gy) 1 1 ((jE x)) rfl (fun j u h=>by
  rw[je,jk,gw m];simpa[jE,Hm.v] using h) (fun u f=>by
  simp only[jE,jC,nK,lR] at f;rcases f with rfl|rfl<;>rfl)
theorem AI(v:Value)(n:Nat)(l:List Hm)(x:Hm)(j base:Nat)(w:World)(o:w.ownsRow base 66 2 v n (rows jE l))(f:base<=w.heap.size)(G:n<=1000000)
  (F:w.heap[j]?=some (.cells #[x.s,(x.a,x.b,x.cap)] 66)):
  Calls prog 80 #[v,n,(some (j,gy),ia,ia)] w fun e w'=>∃v',e=.returned v'/\OT w w' v.ownBlock base 66 2 v' (n+1) (rows jE l++(jE x)):=by
 have q:=LN w x j F;rcases o.2 with⟨rfl,rfl⟩|⟨g,cap,C,rfl,_,_,E,r,_,_⟩
 .go_enter func80,ntmps80;go_wp2_with (at_builtin;(refine wpList_append_t rfl (.tmp 23) (.tmp 24) 61 61 rfl base 66 2 32 _ underlying61 lQ rfl (by decide) () 0 (rows jE l) rfl (OT.start o) (some (j,gy),ia,ia) 1 ((jE x)) rfl q ?d1 ?d2 ?d3 ?_);(case d1=>unfold maxLen;omega);(case d2=>omega);(case d3=>exact f);intro v2 B h m);go_ret;exact⟨v2,rfl,h⟩
 .unfold maxLen at r;by_cases hc:cap=n
  .subst hc;go_enter func80,ntmps80;go_wp2_with (at_builtin;(refine wpList_append_t rfl (.tmp 23) (.tmp 24) 61 61 rfl base 66 2 32 _ underlying61 lQ rfl (by decide) (some (g,gy),cap,cap) cap (rows jE l) rfl (OT.start o) (some (j,gy),ia,ia) 1 ((jE x)) rfl q ?d1 ?d2 ?d3 ?_);(case d1=>unfold maxLen;omega);(case d2=>omega);(case d3=>exact f);intro v2 B h m);go_ret;exact⟨v2,rfl,h⟩
  .go_enter func80,ntmps80;go_wp2_with (at_builtin;(refine wpList_append_t rfl (.tmp 23) (.tmp 24) 61 61 rfl base 66 2 32 _ underlying61 lQ rfl (by decide) (some (g,gy),n,cap) n (rows jE l) rfl (OT.start o) (some (j,gy),ia,ia) 1 ((jE x)) rfl q ?d1 ?d2 ?d3 ?_);(case d1=>unfold maxLen;omega);(case d2=>omega);(case d3=>exact f);intro v2 B h m);go_ret;exact⟨v2,rfl,h⟩
theorem ye(g n cap:Nat)(l:List Hm)(i:Nat)(x:Hm)(B base:Nat)(w:World)(ho:w.ownsRow base 66 2 (some (g,gy),n,cap) n (rows jE l))(hn:n<=1000000)(hi:i<n)(G:n+1<=cap)(Q:B≠g)
  (W:w.heap[B]?=some (.cells #[x.s,(x.a,x.b,x.cap)] 66)):
  Calls prog 80 #[(some (g,gy),n,cap),i,(some (B,gy),ia,ia)] w fun e w'=>∃v',e=.returned v'/\OT w w' (some g) base 66 2 v' (n+1) (rows jE (l.take i++x::l.drop i)):=by
 obtain⟨m,K,X,ao,Y,r,O⟩:=js ho;have ak:=iq K;have ab:l.length=n:=by have:=ho.1;rw[vh] at this;omega
 unfold maxLen at Y;have U:(Tryz.prog.info? 66).map (·.size)=some 2:=by kernel_rfl
 have ad:∀lb cb,(callFunc 105 #[.slice (some (B,gy)) 1 1,.slice (some ⟨g,(i+1)*2,none⟩) lb cb]).run prog w=.ok (.value (.bool false)) w:=fun lb cb=>by
  rw[run_callFunc_extern func105 (by kernel_rfl) (by kernel_rfl) (by kernel_rfl) (e:=Extern.SlicesOverlaps.overlaps #[61,61] #[4]) (by kernel_rfl),
   Lib.run_overlaps_apart w 61 4 66 underlying61 2 Tryz.sizeOf66 (B,gy) ⟨g,(i+1)*2,none⟩ 1 1 lb cb Q 66 66 2 (cap*2) (by simp[World.shape?,W]) (by simp[World.shape?,K,r]) (by omega) (gA W) (gA W)]
  rfl
 have ar:IntKind.i64.wrap ((i:Int)+1)=(i:Int)+1:=iO _ (by omega);have au:IntKind.i64.wrap ((n:Int)+1)=(n:Int)+1:=iO _ (by omega);have af:(0:Int)<=(i:Int)+1:=by omega
 have al:i<=n:=by omega
 have aq:((i:Int)+1).toNat=i+1:=by omega
 have ap:((n:Int)+1).toNat=n+1:=by omega
 have ag:¬(cap=i+1):=by omega
 have ah:(i:Int)<=(n:Int)+1:=by omega
 have ai:¬(cap=i):=by omega
 have aj:¬((i:Int)=(n:Int)):=by omega
 have C:(rows jE (l.drop i)).length=(n-i)*2:=by rw[vh,kG,ab]
 have E:∀I F sc,(Builtin.copy_ #[61,61] I #[.slice (some ⟨g,(i+1)*2,none⟩) (n-i) F,.slice (some (g,i*2)) (n+1-i) sc]).run prog w.drew=.ok (goInt ((n-i:Nat):Int)) (w.drew.setRow g (splice m ((i+1)*2) (rows jE (l.drop i))).toArray):=fun I F sc=>by
  have f:Nat.min (n+1-i) (n-i)=n-i:=by show min _ _=_;omega
  have:=ke (P:=prog) w.drew 61 61 I 66 66 2 underlying61 U g ((i+1)*2) (n-i) F (n+1-i) sc (some (g,i*2)) m 66 K (rows jE (l.drop i))
   (by
    rw[f];exact oD w.drew 2 (n-i) (g,i*2) _ _ _ C (fun j u L=>by
     rw[Lc,qY,<-O,ql] at L;rw[je];show w.cell? _=_;rw[gw K];split at L;·simpa using L
     .cases L))
   (by rw[C,r];omega) (Lb _)
  rw[f] at this;exact this
 obtain⟨h,o⟩:∃h,h=splice m ((i+1)*2) (rows jE (l.drop i)):=⟨_,rfl⟩;rw[<-o] at E;have q:h.length=cap*2:=by rw[o,length_splice _ _ _ (by rw[C,r];omega),r]
 replace o:=gx o;have N:∀I F,(Builtin.copy_ #[61,61] I #[.slice (some (g,i*2)) (n+1-i) F,.slice (some (B,gy)) 1 1]).run prog (w.drew.setRow g h.toArray)=.ok (goInt ((Nat.min 1 (n+1-i):Nat):Int)) ((w.drew.setRow g h.toArray).setRow g (splice h (i*2) ((jE x))).toArray):=fun I F=>by
  have f:Nat.min 1 (n+1-i)=1:=by show min _ _=_;omega
  refine ke (P:=prog) (w.drew.setRow g h.toArray) 61 61 I 66 66 2 underlying61 U g (i*2) (n+1-i) F 1 1 (some (B,gy)) h 66 (nC w.drew g _ _ 66 _ K) ((jE x)) ?_ (by rw[q];simp[jE];omega) (fun u hu=>by simp only[jE,jC,nK,lR] at hu;rcases hu with rfl|rfl<;>rfl)
  rw[f];refine oD _ 2 1 (B,gy) _ _ _ rfl (fun j u L=>?_);have ae:(w.drew.setRow g h.toArray).heap[B]?=some (.cells #[x.s,(x.a,x.b,x.cap)] 66):=by rw[oF _ g B _ Q];exact W
  rw[je,jk,gw ae];simpa[jE,Hm.v] using L
 go_enter func80,ntmps80;go_wp2_with (simp only[ad]);go_region_law (refine step_copy_at rfl _ _ 61 61 rfl _ _ (by simp[Act.eval,Act.put]) (by simp[Act.eval,Act.put]) (E _ _ _) ?_);go_wp2_with (at_builtin;refine wpList_copy_at _ rfl _ _ 61 61 rfl _ _ rfl rfl (N _ _) ?_);go_ret;refine⟨_,rfl,?_⟩;obtain⟨k1,V⟩:=sM w.drew g h.toArray (splice h (i*2) ((jE x))).toArray 66 m.toArray K;have Z:(splice h (i*2) ((jE x))).length=cap*2:=by rw[length_splice _ _ _ (by rw[q];simp[jE];omega),q]
 refine⟨kQ k1 X G (by unfold maxLen;omega) Z ?_,⟨V.os,V.tape,V.output,V.size,V.block⟩,.inl rfl⟩;have S:=yT m (rows jE (l.drop i)) ((jE x)) (i*2) 2 rfl (by rw[r];omega);rw[show i*2+2=(i+1)*2 by omega,<-o.out,C,show(i+1)*2+(n-i)*2=(n+1)*2 by omega] at S;rw[S,G9,Ld,<-O,List.take_take,pE (by omega)];rfl
theorem zJ(g n cap:Nat)(l:List Hm)(i:Nat)(x:Hm)(vb base:Nat)(w:World)(ho:w.ownsRow base 66 2 (some (g,gy),n,cap) n (rows jE l))(aD:base<=w.heap.size)(hn:n<=1000000)(hi:i<n)(aI:cap<n+1)
  (hv:w.heap[vb]?=some (.cells #[x.s,(x.a,x.b,x.cap)] 66)):
  Calls prog 80 #[(some (g,gy),n,cap),i,(some (vb,gy),ia,ia)] w fun e w'=>∃v',e=.returned v'/\OT w w' (some g) base 66 2 v' (n+1) (rows jE (l.take i++x::l.drop i)):=by
 obtain⟨af,hg,aU,aY,aE,aW,ak⟩:=js ho;obtain rfl:cap=n:=by omega
 have aG:=iq hg;have aK:=iq hv;have aw:l.length=cap:=by have:=ho.1;rw[vh] at this;omega
 clear aE;have ay:(Tryz.prog.info? 66).map (·.size)=some 2:=by kernel_rfl
 obtain⟨i0,aH,aM,aO,az⟩:=jW lQ;have hold:(Builtin.firstCells i0.size i (some (g,gy),i,cap)).run prog w.drew=.ok (rows jE (l.take i)).toArray w.drew:=by
  rw[aO];exact oD w.drew 2 i (g,gy) i cap (rows jE (l.take i)) (by rw[vh,jh];omega) (fun j v B=>by
   rw[je,jk];show w.cell? _=_;rw[gw hg];rw[Ld,<-ak,ql] at B;split at B
   .rw[ql] at B;split at B;·simpa using B
    .cases B
   .cases B)
 have ad:i+(cap+1-i)=cap+1:=by omega
 have au:(cap:Int)+1-(i:Int)=((cap+1-i:Nat):Int):=by omega
 obtain⟨G,hG⟩:∃G,G=grownCap w (cap+1) cap 66:=⟨_,rfl⟩;have aA:cap+1<=G:=by rw[hG];exact grownCap_ge w _ _ _
 have ag:G<=maxLen:=by rw[hG];exact vL w (cap+1) cap 66 (by unfold maxLen;omega)
 obtain⟨f,r⟩:∃f:List Value,f=((rows jE (l.take i)).toArray++Builtin.zeroCells (Value.agg #[gy,()]).cells (cap+1-i)++Builtin.zeroCells (Value.agg #[gy,()]).cells (G-(cap+1))).toList:=⟨_,rfl⟩;have aN:(Value.agg #[gy,()]).cells.size=2:=by kernel_rfl
 have ae:(rows jE (l.take i)).length=i*2:=by rw[vh,jh,aw,pE (by omega)]
 have I:f.length=G*2:=by rw[r,uW,sB,sB,qh,qh,aN,sC,ae];omega
 have ah:f.take (i*2)=rows jE (l.take i):=by rw[r,sx,sx,ky];exact oN (by simpa using ae)
 have ax:∀S,(Builtin.append_ #[61,3] S #[.slice (some (g,gy)) i cap,.int .i64 ((cap:Int)+1-(i:Int))]).run prog w=.ok (some (w,gy),(cap+1),G) (w.drew.alloc (.cells f.toArray 66)):=fun S=>by have h:=Lib.run_append_grow_zeros (P:=prog) w 61 3 S 66 i0 _ .i64 .i64 underlying61 underlying3 aH aM (some (g,gy)) i cap (rows jE (l.take i)) hold (cap+1-i) (by omega) (by omega) (by omega) (by omega) (by rw[az];omega) (by rw[az,ad];exact tM (by omega) (by omega));rw[ad,<-hG] at h;rw[au,r,Array.toArray_toList];exact h
 obtain⟨N,hN⟩:∃N,N=w.heap.size:=⟨_,rfl⟩;obtain⟨F,V⟩:∃F,F=w.drew.alloc (.cells f.toArray 66):=⟨_,rfl⟩;have ao:F.heap[N]?=some (.cells f.toArray 66):=by rw[V,hN];exact vN w.drew _
 have q:w.grownBy F none:=by rw[V];exact⟨rfl,rfl,rfl,by simp,fun k hk _=>vO w.drew _ hk⟩
 have aF:F.heap[g]?=some (.cells af.toArray 66):=(q.block g aG (by simp)).trans hg;have aJ:F.heap[vb]?=some (.cells #[x.s,(x.a,x.b,x.cap)] 66):=(q.block vb aK (by simp)).trans hv;rw[<-V,<-hN] at ax;have aB:g≠N:=by omega
 have X:((jE x)).length=2:=rfl;have aL:∀u∈(jE x),u.oneCell'=true:=fun u hu=>by simp only[jE,jC,nK,lR] at hu;rcases hu with rfl|rfl<;>rfl
 have L:∀S dc,(Builtin.copy_ #[61,61] S #[.slice (some (N,i*2)) (cap+1-i) dc,.slice (some (vb,gy)) 1 1]).run prog F=.ok (goInt ((Nat.min 1 (cap+1-i):Nat):Int)) (F.setRow N (splice f (i*2) ((jE x))).toArray):=fun S dc=>by
  have C:Nat.min 1 (cap+1-i)=1:=by show min _ _=_;omega
  refine ke (P:=prog) F 61 61 S 66 66 2 underlying61 ay N (i*2) (cap+1-i) dc 1 1 (some (vb,gy)) f 66 ao ((jE x)) ?_ (by rw[I,X];omega) aL;rw[C];refine oD _ 2 1 (vb,gy) _ _ _ rfl (fun j u B=>?_);rw[je,jk,gw aJ];simpa[jE,Hm.v] using B
 obtain⟨E,U⟩:∃E,E=splice f (i*2) ((jE x)):=⟨_,rfl⟩;have K:E.length=G*2:=by rw[U,length_splice _ _ _ (by rw[X,I];omega),I]
 rw[<-U] at L;obtain⟨o,m⟩:∃o,o=F.setRow N E.toArray:=⟨_,rfl⟩;have ap:o.heap[N]?=some (.cells E.toArray 66):=by rw[m];exact nC F N _ _ 66 _ ao
 have al:o.heap[g]?=some (.cells af.toArray 66):=by rw[m,oF _ N g _ aB];exact aF
 rw[<-m] at L;have W:(rows jE (l.drop i)).length=(cap-i)*2:=by rw[vh,kG,aw]
 have Y:∀S dc sc,(Builtin.copy_ #[61,61] S #[.slice (some ⟨N,(i+1)*2,none⟩) (cap-i) dc,.slice (some (g,i*2)) (cap-i) sc]).run prog o.drew=.ok (goInt ((cap-i:Nat):Int)) (o.drew.setRow N (splice E ((i+1)*2) (rows jE (l.drop i))).toArray):=fun S dc sc=>by
  have C:Nat.min (cap-i) (cap-i)=cap-i:=by show min _ _=_;omega
  have:=ke (P:=prog) o.drew 61 61 S 66 66 2 underlying61 ay N ((i+1)*2) (cap-i) dc (cap-i) sc (some (g,i*2)) E 66 ap (rows jE (l.drop i))
   (by
    rw[C];exact oD o.drew 2 (cap-i) (g,i*2) _ _ _ W (fun j u B=>by
     rw[Lc,qY,<-ak,ql] at B;rw[je];show o.cell? _=_;rw[gw al];split at B;·simpa using B
     .cases B))
   (by rw[W,K];omega) (Lb _)
  rw[C] at this;exact this
 have O:(splice E ((i+1)*2) (rows jE (l.drop i))).take ((cap+1)*2)=rows jE (l.take i++x::l.drop i):=by
  have e1:(i+1)*2=i*2+2:=by omega
  have ai:E.take ((i+1)*2)=rows jE (l.take i)++(jE x):=by rw[U];unfold splice;rw[<-ky,oN (by rw[iH,jh,X,I];omega),ah]
  unfold splice;rw[ai,<-ky,oN (by rw[iH,iH,ae,X,W];omega),G9,ky];rfl
 have ab:(splice E ((i+1)*2) (rows jE (l.drop i))).length=G*2:=by rw[length_splice _ _ _ (by rw[W,K];omega),K]
 obtain⟨S2,aj⟩:∃S2,S2=splice E ((i+1)*2) (rows jE (l.drop i)):=⟨_,rfl⟩;rw[<-aj] at O ab Y;have aC:base<=N:=by omega
 have aq:(o.drew.setRow N S2.toArray).heap[N]?=some (.cells S2.toArray 66):=nC o.drew N _ _ 66 _ ap;have Z:w.grownBy (o.drew.setRow N S2.toArray) (some g):=by
  refine⟨?_,?_,?_,?_,fun k hk aZ=>?_⟩;·show o.os=_;rw[m];exact q.os
  .show o.tape=_;rw[m];exact q.tape
  .show o.output=_;rw[m];exact q.output
  .have:=q.size;rw[m];simpa[World.setRow] using this
  .have ar:k≠N:=by omega
   rw[oF _ N k _ ar];show o.heap[k]?=_;rw[m,oF _ N k _ ar];exact q.block k hk (by simp)
 have aQ:¬(G=i):=by omega
 have aP:¬(G=i+1):=by omega
 have aV:¬(cap=i):=by omega
 have a1:IntKind.i64.wrap ((i:Int)+1)=(i:Int)+1:=iO _ (by omega);have a2:IntKind.i64.wrap ((cap:Int)+1)=(cap:Int)+1:=iO _ (by omega);have a3:IntKind.i64.wrap ((cap:Int)+1-(i:Int))=(cap:Int)+1-(i:Int):=iO _ (by omega);have aR:(0:Int)<=(i:Int)+1:=by omega
 have aX:i<=cap:=by omega
 have a0:((i:Int)+1).toNat=i+1:=by omega
 have aS:(i:Int)<=(cap:Int):=by omega
 have aT:¬((i:Int)=(cap:Int)):=by omega
 have Q:∃v',(Value.slice (some (N,gy)) (cap+1) G)=v'/\OT w (o.drew.setRow N S2.toArray) (some g) base 66 2 v' (cap+1) (rows jE (l.take i++x::l.drop i)):=
  ⟨_,rfl,kQ aq aC aA ag ab O,Z,.inr (fun k hk=>by cases hk;exact nc hN.symm)⟩
 replace Q:=gx Q;unfold maxLen at ag;clear au ad hold r hG I ah V m U aj O ab aq Z hN;go_enter func80,ntmps80;go_wp2_with (first
  |(at_builtin;refine Lib.wpList_append_run _ rfl _ _ _ _ rfl _ _ rfl rfl _ _ (ax _) ?_)
  |(at_builtin;refine wpList_copy_at _ rfl _ _ 61 61 rfl _ _ rfl rfl (L _ _) ?_))
 go_region_law (refine step_copy_at rfl _ _ 61 61 rfl _ _ (by simp[Act.eval,Act.put]) (by simp[Act.eval,Act.put]) (Y _ _ _) ?_);go_wp2_with fail;go_ret;obtain⟨v',e1,e2⟩:=Q.out;exact⟨v',by rw[<-e1];rfl,e2⟩
theorem sV(v:Value)(n:Nat)(l:List Hm)(i:Nat)(x:Hm)(j base:Nat)(w:World)(m:w.ownsRow base 66 2 v n (rows jE l))(f:base<=w.heap.size)(o:n<=1000000)(hi:i<=n)(q:v.ownBlock≠some j)
  (r:w.heap[j]?=some (.cells #[x.s,(x.a,x.b,x.cap)] 66)):
  Calls prog 80 #[v,i,(some (j,gy),ia,ia)] w fun e w'=>∃v',e=.returned v'/\OT w w' v.ownBlock base 66 2 v' (n+1) (rows jE (l.take i++x::l.drop i)):=by
 have F:l.length=n:=by have:=m.1;rw[vh] at this;omega
 rcases qi i n with h|h
 .obtain⟨g,cap,rfl,B,E,G,C⟩:=jR m (by omega);rcases qi cap (n+1) with hc|hc
  .exact zJ g n cap l i x j base w m f o h hc r
  .exact ye g n cap l i x j base w m o h hc (fun e=>q (by rw[e];rfl)) r
 .obtain rfl:i=n:=by omega
  have:=AI v i l x j base w m f o r;rw[ld (by omega),mV (by omega),G9];exact this
def i1(x:Int):List Value:=[.int .i64 x]
theorem Ig(x:Int):(i1 x).length=1:=rfl
theorem PA(x:Int):∀u∈i1 x,u.oneCell'=true:=by
 intro u e;simp only[i1,jC,nK,lR] at e;subst e;rfl
theorem zT(l:List Int):rows i1 l=l.map (Value.int .i64):=by
 induction l with
 |nil=>rfl
 |cons x l e=>rw[jI,e];rfl
theorem Ab(l:List Int):(rows i1 l).length=l.length:=by rw[lz Ig];omega
theorem Le(l m:List Int):rows i1 (l++m)=rows i1 l++rows i1 m:=kh l m
theorem OK(l:List Int)(i:Nat):rows i1 (l.take i)=(rows i1 l).take (i):=by rw[yQ Ig,me]
theorem OJ(l:List Int)(i:Nat):rows i1 (l.drop i)=(rows i1 l).drop (i):=by rw[yP Ig,me]
theorem OI(l:List Int):∀u∈rows i1 l,u.oneCell'=true:=Bb PA l
theorem nh:(Tryz.prog.info? 3).map (fun i=>(i.zero,i.size,i.bytes))=some (some (.int .i64 0),1,8):=by kernel_rfl
theorem NK(w:World)(x:Int)(e:Nat)(m:w.heap[e]?=some (.cells #[x] 3)):Src prog 1 27 (some (e,gy),ia,ia) 1 ((i1 x)) w:=
 Src.ofSlice w underlying27 (e,gy) 1 1 ((i1 x)) rfl (fun j u h=>by
  rw[je,jk,gw m];simpa[i1] using h) (fun u f=>by
  simp only[i1,jC,nK,lR] at f;rcases f with rfl;rfl)
theorem Ca(v:Value)(n:Nat)(l:List Int)(x:Int)(j base:Nat)(w:World)(o:w.ownsRow base 3 1 v n (rows i1 l))(f:base<=w.heap.size)(G:n<=1000000)
  (F:w.heap[j]?=some (.cells #[x] 3)):
  Calls prog 41 #[v,n,(some (j,gy),ia,ia)] w fun e w'=>∃v',e=.returned v'/\OT w w' v.ownBlock base 3 1 v' (n+1) (rows i1 l++(i1 x)):=by
 have q:=NK w x j F;rcases o.2 with⟨rfl,rfl⟩|⟨g,cap,C,rfl,_,_,E,r,_,_⟩
 .go_enter func41,ntmps41;go_wp2_with (at_builtin;(refine wpList_append_t rfl (.tmp 23) (.tmp 24) 27 27 rfl base 3 1 8 _ underlying27 nh rfl (by decide) () 0 (rows i1 l) rfl (OT.start o) (some (j,gy),ia,ia) 1 ((i1 x)) rfl q ?d1 ?d2 ?d3 ?_);(case d1=>unfold maxLen;omega);(case d2=>omega);(case d3=>exact f);intro v2 B h m);go_ret;exact⟨v2,rfl,h⟩
 .unfold maxLen at r;by_cases hc:cap=n
  .subst hc;go_enter func41,ntmps41;go_wp2_with (at_builtin;(refine wpList_append_t rfl (.tmp 23) (.tmp 24) 27 27 rfl base 3 1 8 _ underlying27 nh rfl (by decide) (some (g,gy),cap,cap) cap (rows i1 l) rfl (OT.start o) (some (j,gy),ia,ia) 1 ((i1 x)) rfl q ?d1 ?d2 ?d3 ?_);(case d1=>unfold maxLen;omega);(case d2=>omega);(case d3=>exact f);intro v2 B h m);go_ret;exact⟨v2,rfl,h⟩
  .go_enter func41,ntmps41;go_wp2_with (at_builtin;(refine wpList_append_t rfl (.tmp 23) (.tmp 24) 27 27 rfl base 3 1 8 _ underlying27 nh rfl (by decide) (some (g,gy),n,cap) n (rows i1 l) rfl (OT.start o) (some (j,gy),ia,ia) 1 ((i1 x)) rfl q ?d1 ?d2 ?d3 ?_);(case d1=>unfold maxLen;omega);(case d2=>omega);(case d3=>exact f);intro v2 B h m);go_ret;exact⟨v2,rfl,h⟩
theorem zK(g n cap:Nat)(l:List Int)(i:Nat)(x:Int)(B base:Nat)(w:World)(ho:w.ownsRow base 3 1 (some (g,gy),n,cap) n (rows i1 l))(hn:n<=1000000)(hi:i<n)(I:n+1<=cap)(Q:B≠g)
  (W:w.heap[B]?=some (.cells #[x] 3)):
  Calls prog 41 #[(some (g,gy),n,cap),i,(some (B,gy),ia,ia)] w fun e w'=>∃v',e=.returned v'/\OT w w' (some g) base 3 1 v' (n+1) (rows i1 (l.take i++x::l.drop i)):=by
 obtain⟨o,L,X,ao,Y,h,G⟩:=js ho;rw[me] at h G;have ak:=iq L;have ab:l.length=n:=by have:=ho.1;rw[Ab] at this;omega
 unfold maxLen at Y;have U:(Tryz.prog.info? 3).map (·.size)=some 1:=by kernel_rfl
 have ad:∀lb cb,(callFunc 72 #[.slice (some (B,gy)) 1 1,.slice (some (g,(i+1))) lb cb]).run prog w=.ok (.value (.bool false)) w:=fun lb cb=>by
  rw[run_callFunc_extern func72 (by kernel_rfl) (by kernel_rfl) (by kernel_rfl) (e:=Extern.SlicesOverlaps.overlaps #[27,27] #[4]) (by kernel_rfl),
   Lib.run_overlaps_apart w 27 4 3 underlying27 1 Tryz.sizeOf3 (B,gy) (g,(i+1)) 1 1 lb cb Q 3 3 1 (cap) (by simp[World.shape?,W]) (by simp[World.shape?,L,h]) (by omega) (gA W) (gA W)]
  rfl
 have ar:IntKind.i64.wrap ((i:Int)+1)=(i:Int)+1:=iO _ (by omega);have au:IntKind.i64.wrap ((n:Int)+1)=(n:Int)+1:=iO _ (by omega);have af:(0:Int)<=(i:Int)+1:=by omega
 have al:i<=n:=by omega
 have aq:((i:Int)+1).toNat=i+1:=by omega
 have ap:((n:Int)+1).toNat=n+1:=by omega
 have ag:¬(cap=i+1):=by omega
 have ah:(i:Int)<=(n:Int)+1:=by omega
 have ai:¬(cap=i):=by omega
 have aj:¬((i:Int)=(n:Int)):=by omega
 have C:(rows i1 (l.drop i)).length=(n-i):=by rw[Ab,kG,ab]
 have E:∀K F sc,(Builtin.copy_ #[27,27] K #[.slice (some (g,(i+1))) (n-i) F,.slice (some (g,i)) (n+1-i) sc]).run prog w.drew=.ok (goInt ((n-i:Nat):Int)) (w.drew.setRow g (splice o ((i+1)) (rows i1 (l.drop i))).toArray):=fun K F sc=>by
  have f:Nat.min (n+1-i) (n-i)=n-i:=by show min _ _=_;omega
  have:=ke (P:=prog) w.drew 27 27 K 3 3 1 underlying27 U g ((i+1)) (n-i) F (n+1-i) sc (some (g,i)) o 3 L (rows i1 (l.drop i))
   (by
    rw[f];exact oD w.drew 1 (n-i) (g,i) _ _ _ (by rw[C,me]) (fun j u N=>by
     rw[OJ,qY,<-G,ql] at N;rw[je];show w.cell? _=_;rw[gw L];split at N;·simpa using N
     .cases N))
   (by rw[C,h];omega) (OI _)
  rw[f] at this;exact this
 obtain⟨m,q⟩:∃m,m=splice o ((i+1)) (rows i1 (l.drop i)):=⟨_,rfl⟩;rw[<-q] at E;have r:m.length=cap:=by rw[q,length_splice _ _ _ (by rw[C,h];omega),h]
 replace q:=gx q;have O:∀K F,(Builtin.copy_ #[27,27] K #[.slice (some (g,i)) (n+1-i) F,.slice (some (B,gy)) 1 1]).run prog (w.drew.setRow g m.toArray)=.ok (goInt ((Nat.min 1 (n+1-i):Nat):Int)) ((w.drew.setRow g m.toArray).setRow g (splice m (i) ((i1 x))).toArray):=fun K F=>by
  have f:Nat.min 1 (n+1-i)=1:=by show min _ _=_;omega
  refine ke (P:=prog) (w.drew.setRow g m.toArray) 27 27 K 3 3 1 underlying27 U g (i) (n+1-i) F 1 1 (some (B,gy)) m 3 (nC w.drew g _ _ 3 _ L) ((i1 x)) ?_ (by rw[r];simp[i1];omega) (fun u hu=>by simp only[i1,jC,nK,lR] at hu;rcases hu with rfl;rfl)
  rw[f];refine oD _ 1 1 (B,gy) _ _ _ rfl (fun j u N=>?_);have ae:(w.drew.setRow g m.toArray).heap[B]?=some (.cells #[x] 3):=by rw[oF _ g B _ Q];exact W
  rw[je,jk,gw ae];simpa[i1] using N
 go_enter func41,ntmps41;go_wp2_with (simp only[ad]);go_region_law (refine step_copy_at rfl _ _ 27 27 rfl _ _ (by simp[Act.eval,Act.put]) (by simp[Act.eval,Act.put]) (E _ _ _) ?_);go_wp2_with (at_builtin;refine wpList_copy_at _ rfl _ _ 27 27 rfl _ _ rfl rfl (O _ _) ?_);go_ret;refine⟨_,rfl,?_⟩;obtain⟨k1,V⟩:=sM w.drew g m.toArray (splice m (i) ((i1 x))).toArray 3 o.toArray L;have Z:(splice m (i) ((i1 x))).length=cap:=by rw[length_splice _ _ _ (by rw[r];simp[i1];omega),r]
 refine⟨kQ k1 X I (by unfold maxLen;omega) (by rw[Z,me]) ?_,⟨V.os,V.tape,V.output,V.size,V.block⟩,.inl rfl⟩;have S:=yT o (rows i1 (l.drop i)) ((i1 x)) (i) 1 rfl (by rw[h];omega);rw[show i+1=(i+1) by omega,<-q.out,C,show(i+1)+(n-i)=(n+1) by omega] at S;rw[me,S,Le,OK,<-G,List.take_take,pE (by omega)];rfl
theorem AJ(g n cap:Nat)(l:List Int)(i:Nat)(x:Int)(vb base:Nat)(w:World)(ho:w.ownsRow base 3 1 (some (g,gy),n,cap) n (rows i1 l))(aD:base<=w.heap.size)(hn:n<=1000000)(hi:i<n)(aJ:cap<n+1)
  (hv:w.heap[vb]?=some (.cells #[x] 3)):
  Calls prog 41 #[(some (g,gy),n,cap),i,(some (vb,gy),ia,ia)] w fun e w'=>∃v',e=.returned v'/\OT w w' (some g) base 3 1 v' (n+1) (rows i1 (l.take i++x::l.drop i)):=by
 obtain⟨ag,hg,aV,aY,aF,aE,ab⟩:=js ho;rw[me] at aE ab;obtain rfl:cap=n:=by omega
 have aH:=iq hg;have aL:=iq hv;have aw:l.length=cap:=by have:=ho.1;rw[Ab] at this;omega
 clear aF;have ay:(Tryz.prog.info? 3).map (·.size)=some 1:=by kernel_rfl
 obtain⟨i0,aI,aN,aP,az⟩:=jW nh;have hold:(Builtin.firstCells i0.size i (some (g,gy),i,cap)).run prog w.drew=.ok (rows i1 (l.take i)).toArray w.drew:=by
  rw[aP];exact oD w.drew 1 i (g,gy) i cap (rows i1 (l.take i)) (by rw[Ab,jh];omega) (fun j v B=>by
   rw[je,jk];show w.cell? _=_;rw[gw hg];rw[OK,<-ab,ql] at B;split at B
   .rw[ql] at B;split at B;·simpa using B
    .cases B
   .cases B)
 have ae:i+(cap+1-i)=cap+1:=by omega
 have au:(cap:Int)+1-(i:Int)=((cap+1-i:Nat):Int):=by omega
 obtain⟨G,hG⟩:∃G,G=grownCap w (cap+1) cap 3:=⟨_,rfl⟩;have aA:cap+1<=G:=by rw[hG];exact grownCap_ge w _ _ _
 have ah:G<=maxLen:=by rw[hG];exact vL w (cap+1) cap 3 (by unfold maxLen;omega)
 obtain⟨f,r⟩:∃f:List Value,f=((rows i1 (l.take i)).toArray++Builtin.zeroCells (Value.int .i64 0).cells (cap+1-i)++Builtin.zeroCells (Value.int .i64 0).cells (G-(cap+1))).toList:=⟨_,rfl⟩;have aO:(Value.int .i64 0).cells.size=1:=by kernel_rfl
 have af:(rows i1 (l.take i)).length=i:=by rw[Ab,jh,aw,pE (by omega)]
 have I:f.length=G:=by rw[r,uW,sB,sB,qh,qh,aO,sC,af];omega
 have ai:f.take (i)=rows i1 (l.take i):=by rw[r,sx,sx,ky];exact oN (by simpa using af)
 have ax:∀S,(Builtin.append_ #[27,3] S #[.slice (some (g,gy)) i cap,.int .i64 ((cap:Int)+1-(i:Int))]).run prog w=.ok (some (w,gy),(cap+1),G) (w.drew.alloc (.cells f.toArray 3)):=fun S=>by have h:=Lib.run_append_grow_zeros (P:=prog) w 27 3 S 3 i0 _ .i64 .i64 underlying27 underlying3 aI aN (some (g,gy)) i cap (rows i1 (l.take i)) hold (cap+1-i) (by omega) (by omega) (by omega) (by omega) (by rw[az];omega) (by rw[az,ae];exact tM (by omega) (by omega));rw[ae,<-hG] at h;rw[au,r,Array.toArray_toList];exact h
 obtain⟨N,hN⟩:∃N,N=w.heap.size:=⟨_,rfl⟩;obtain⟨F,V⟩:∃F,F=w.drew.alloc (.cells f.toArray 3):=⟨_,rfl⟩;have ao:F.heap[N]?=some (.cells f.toArray 3):=by rw[V,hN];exact vN w.drew _
 have q:w.grownBy F none:=by rw[V];exact⟨rfl,rfl,rfl,by simp,fun k hk _=>vO w.drew _ hk⟩
 have aG:F.heap[g]?=some (.cells ag.toArray 3):=(q.block g aH (by simp)).trans hg;have aK:F.heap[vb]?=some (.cells #[x] 3):=(q.block vb aL (by simp)).trans hv;rw[<-V,<-hN] at ax;have aB:g≠N:=by omega
 have X:((i1 x)).length=1:=rfl;have aM:∀u∈(i1 x),u.oneCell'=true:=fun u hu=>by simp only[i1,jC,nK,lR] at hu;rcases hu with rfl;rfl
 have L:∀S dc,(Builtin.copy_ #[27,27] S #[.slice (some (N,i)) (cap+1-i) dc,.slice (some (vb,gy)) 1 1]).run prog F=.ok (goInt ((Nat.min 1 (cap+1-i):Nat):Int)) (F.setRow N (splice f (i) ((i1 x))).toArray):=fun S dc=>by
  have C:Nat.min 1 (cap+1-i)=1:=by show min _ _=_;omega
  refine ke (P:=prog) F 27 27 S 3 3 1 underlying27 ay N (i) (cap+1-i) dc 1 1 (some (vb,gy)) f 3 ao ((i1 x)) ?_ (by rw[I,X];omega) aM;rw[C];refine oD _ 1 1 (vb,gy) _ _ _ rfl (fun j u B=>?_);rw[je,jk,gw aK];simpa[i1] using B
 obtain⟨E,U⟩:∃E,E=splice f (i) ((i1 x)):=⟨_,rfl⟩;have K:E.length=G:=by rw[U,length_splice _ _ _ (by rw[X,I];omega),I]
 rw[<-U] at L;obtain⟨o,m⟩:∃o,o=F.setRow N E.toArray:=⟨_,rfl⟩;have ap:o.heap[N]?=some (.cells E.toArray 3):=by rw[m];exact nC F N _ _ 3 _ ao
 have al:o.heap[g]?=some (.cells ag.toArray 3):=by rw[m,oF _ N g _ aB];exact aG
 rw[<-m] at L;have W:(rows i1 (l.drop i)).length=(cap-i):=by rw[Ab,kG,aw]
 have Y:∀S dc sc,(Builtin.copy_ #[27,27] S #[.slice (some (N,(i+1))) (cap-i) dc,.slice (some (g,i)) (cap-i) sc]).run prog o.drew=.ok (goInt ((cap-i:Nat):Int)) (o.drew.setRow N (splice E ((i+1)) (rows i1 (l.drop i))).toArray):=fun S dc sc=>by
  have C:Nat.min (cap-i) (cap-i)=cap-i:=by show min _ _=_;omega
  have:=ke (P:=prog) o.drew 27 27 S 3 3 1 underlying27 ay N ((i+1)) (cap-i) dc (cap-i) sc (some (g,i)) E 3 ap (rows i1 (l.drop i))
   (by
    rw[C];exact oD o.drew 1 (cap-i) (g,i) _ _ _ (by rw[W,me]) (fun j u B=>by
     rw[OJ,qY,<-ab,ql] at B;rw[je];show o.cell? _=_;rw[gw al];split at B;·simpa using B
     .cases B))
   (by rw[W,K];omega) (OI _)
  rw[C] at this;exact this
 have O:(splice E ((i+1)) (rows i1 (l.drop i))).take ((cap+1))=rows i1 (l.take i++x::l.drop i):=by
  have e1:(i+1)=i+1:=by omega
  have aj:E.take ((i+1))=rows i1 (l.take i)++(i1 x):=by rw[U];unfold splice;rw[<-ky,oN (by rw[iH,jh,X,I];omega),ai]
  unfold splice;rw[aj,<-ky,oN (by rw[iH,iH,af,X,W];omega),Le,ky];rfl
 have ad:(splice E ((i+1)) (rows i1 (l.drop i))).length=G:=by rw[length_splice _ _ _ (by rw[W,K];omega),K]
 obtain⟨S2,ak⟩:∃S2,S2=splice E ((i+1)) (rows i1 (l.drop i)):=⟨_,rfl⟩;rw[<-ak] at O ad Y;have aC:base<=N:=by omega
 have aq:(o.drew.setRow N S2.toArray).heap[N]?=some (.cells S2.toArray 3):=nC o.drew N _ _ 3 _ ap;have Z:w.grownBy (o.drew.setRow N S2.toArray) (some g):=by
  refine⟨?_,?_,?_,?_,fun k hk aZ=>?_⟩;·show o.os=_;rw[m];exact q.os
  .show o.tape=_;rw[m];exact q.tape
  .show o.output=_;rw[m];exact q.output
  .have:=q.size;rw[m];simpa[World.setRow] using this
  .have ar:k≠N:=by omega
   rw[oF _ N k _ ar];show o.heap[k]?=_;rw[m,oF _ N k _ ar];exact q.block k hk (by simp)
 have aR:¬(G=i):=by omega
 have aQ:¬(G=i+1):=by omega
 have aW:¬(cap=i):=by omega
 have a1:IntKind.i64.wrap ((i:Int)+1)=(i:Int)+1:=iO _ (by omega);have a2:IntKind.i64.wrap ((cap:Int)+1)=(cap:Int)+1:=iO _ (by omega);have a3:IntKind.i64.wrap ((cap:Int)+1-(i:Int))=(cap:Int)+1-(i:Int):=iO _ (by omega);have aS:(0:Int)<=(i:Int)+1:=by omega
 have aX:i<=cap:=by omega
 have a0:((i:Int)+1).toNat=i+1:=by omega
 have aT:(i:Int)<=(cap:Int):=by omega
 have aU:¬((i:Int)=(cap:Int)):=by omega
 have Q:∃v',(Value.slice (some (N,gy)) (cap+1) G)=v'/\OT w (o.drew.setRow N S2.toArray) (some g) base 3 1 v' (cap+1) (rows i1 (l.take i++x::l.drop i)):=
  ⟨_,rfl,kQ aq aC aA ah (by rw[ad,me]) (by rw[me];exact O),Z,.inr (fun k hk=>by cases hk;exact nc hN.symm)⟩
 replace Q:=gx Q;unfold maxLen at ah;clear au ae hold r hG I ai V m U ak O ad aq Z hN;go_enter func41,ntmps41;go_wp2_with (first
  |(at_builtin;refine Lib.wpList_append_run _ rfl _ _ _ _ rfl _ _ rfl rfl _ _ (ax _) ?_)
  |(at_builtin;refine wpList_copy_at _ rfl _ _ 27 27 rfl _ _ rfl rfl (L _ _) ?_))
 go_region_law (refine step_copy_at rfl _ _ 27 27 rfl _ _ (by simp[Act.eval,Act.put]) (by simp[Act.eval,Act.put]) (Y _ _ _) ?_);go_wp2_with fail;go_ret;obtain⟨v',e1,e2⟩:=Q.out;exact⟨v',by rw[<-e1];rfl,e2⟩
theorem nY(v:Value)(n:Nat)(l:List Int)(i:Nat)(x:Int)(j base:Nat)(w:World)(m:w.ownsRow base 3 1 v n (rows i1 l))(f:base<=w.heap.size)(o:n<=1000000)(hi:i<=n)(q:v.ownBlock≠some j)
  (r:w.heap[j]?=some (.cells #[x] 3)):
  Calls prog 41 #[v,i,(some (j,gy),ia,ia)] w fun e w'=>∃v',e=.returned v'/\OT w w' v.ownBlock base 3 1 v' (n+1) (rows i1 (l.take i++x::l.drop i)):=by
 have F:l.length=n:=by have:=m.1;rw[Ab] at this;omega
 rcases qi i n with h|h
 .obtain⟨g,cap,rfl,B,E,G,C⟩:=jR m (by omega);rcases qi cap (n+1) with hc|hc
  .exact AJ g n cap l i x j base w m f o h hc r
  .exact zK g n cap l i x j base w m o h hc (fun e=>q (by rw[e];rfl)) r
 .obtain rfl:i=n:=by omega
  have:=Ca v i l x j base w m f o r;rw[ld (by omega),mV (by omega),Le];exact this
end Go.Proofs.YthhcdfjijagalaaGreat

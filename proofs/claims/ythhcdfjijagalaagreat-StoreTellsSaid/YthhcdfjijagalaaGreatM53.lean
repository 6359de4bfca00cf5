import Derived.Test.YthhcdfjijagalaaGreatM52
import Derived.Test.YthhcdfjijagalaaGreatM50
import Derived.Test.YthhcdfjijagalaaGreatM51
set_option linter.all false
set_option maxHeartbeats 40000000
set_option maxRecDepth 100000
namespace Go.Proofs.YthhcdfjijagalaaGreat
open Qz Go.Proofs.Tryz Go.RowKit
theorem Iw(a:Option Addr)(n cap:Nat)(R:List Rw)(g:Int)(w:World)(h:Ms w a n cap R)(Z:n*24<=140737488355328):
  Calls prog 30 #[.slice a n cap,g] w (fun e w'=>∃a cap,e=.returned (.slice a (gW.j9 (gz R) g n).length cap)/\Sl w' 1 a (gW.j9 (gz R) g n).length cap (oe (gW.j9 (gz R) g n))/\Below w w w'/\Ty w' a (gW.j9 (gz R) g n).length 3):=by
 have U:=gx h.jO;have B:=h.sl.max;have W:=h.sl.le;unfold maxLen at B;go_enter func30,ntmps30;go_wp2_with fail;go_loopg[5,9] n (fun gg X N wr=>∃k:Nat,gg=n-k/\k<=n/\N=.int .i64 (k:Int)/\OT w wr none w.heap.size 3 1 X (gW.j9 (gz R) g k).length (oe (gW.j9 (gz R) g k)));case atStart=>exact⟨0,rfl,by omega,rfl,OT.fresh (iY _ _ _ _) gZ gM⟩
 case round=>
  obtain⟨k,rfl,Y,rfl,o⟩:=hrel;obtain⟨wo,rfl⟩:∃wo:World,wo=wr:=⟨_,rfl⟩;have j:=o.im gM (fun k e=>by cases e);have Q:=j.size;by_cases G:k<n
  .have q:k<R.length:=by rw[U.out];exact G
   obtain⟨b,off,rfl,_⟩:=h.sl.addr (by omega);obtain⟨x0,hb⟩:=(h.below j).at k q;have m:=ki q;have O:=gW.rW (gz R) g k;generalize R[k]=r at *;have D:=gx (tU r.a r.n r.cap r.l g (k:Int) wo hb);have i0:(0:Int)<=(k:Int):=by omega
   have i1:(k:Int)<(n:Int):=by omega
   cases f:gW.right r.l g (k:Int) with
   |true=>
    have L:=gx (gW.Ap (l:=gz R) (g:=g) (k:=k) (by rw[m];exact f));rw[f] at D;replace m:=gx m;replace f:=gx f;go_wp2_with fail;go_at_call 64;refine(D).mono ?_;rintro e w2⟨rfl,b2⟩;have E:=o.below b2;go_wp2_with fail;go_roundg (n-(k+1));case measure=>omega
    case rel=>exact⟨k+1,rfl,by omega,by go_num,by rw[L.out];exact E⟩
   |false=>
    have L:=gx (gW.Dj (l:=gz R) (g:=g) (k:=k) (by rw[m];exact f));rw[f] at D;replace m:=gx m;replace f:=gx f;go_wp2_with fail;go_at_call 64;refine(D).mono ?_;rintro e S⟨rfl,b2⟩;have F:=o.below b2;have P:=b2.size;go_wp2_with (refine wpList_append_t rfl (.tmp 20) (.tmp 22) 27 27 rfl w.heap.size 3 1 8 gy underlying27 us rfl (by decide) _ (gW.j9 (gz R) g k).length (oe (gW.j9 (gz R) g k)) rfl (F.alloc (.cells #[k] 3)) (some (S,gy),ia,ia) 1 [.int .i64 (k:Int)] rfl (Src.mr S #[.int .i64 (k:Int)] 3 1 1 underlying27 rfl (by simp[Value.oneCell'])) (by unfold maxLen;omega) (by omega) (by simp;omega) ?_;intro v2 w4 I V);go_roundg (n-(k+1));case measure=>omega
    case rel=>
     refine⟨k+1,rfl,by omega,by go_num,?_⟩;rw[L.out,qW,iH];exact I
  .obtain rfl:n=k:=by omega
   obtain⟨ua,uc,rfl,C⟩:=gK o.own;have K:=gx (nb o.own);go_wp2_with fail;go_ret;exact⟨_,_,rfl,C,j,K⟩
theorem Eo(a:Option Addr)(n cap:Nat)(L:List Rw)(g d:Int)(w:World)(F:Ms w a n cap L)(hd:-9223372036854775808<=d/\d<=9223372036854775807):
  Calls prog 32 #[(a,n,cap),g,d] w (ES (gW.yX (gz L) g d) w):=by
 have G:=gx (A3 a n cap L g d w F hd);have E:=gx F.dn;replace hd:=gx hd;go_enter func32,ntmps32;go_wp2_with fail;go_at_call 60;refine(G).mono ?_;rintro e V⟨K,n1,c1,b,f,rfl,hb,o,b1⟩;by_cases q:f=0
 .subst q;have hc:=o.code;rw[E.out] at hc;have m:=gJ.kv hc;obtain⟨D,rfl⟩:=jD (a:=d) (by omega);obtain⟨s,S⟩:=jD (a:=(n:Int)-(D:Int)) (by omega);have Y:IntKind.i64.wrap ((n:Int)-(D:Int))=(s:Int):=by rw[iO _ (by omega)];omega
  have U:s<=4:=by omega
  have O:D<=8:=by omega
  have B:=gx o;replace hc:=gx hc;replace m:=gx m;clear o;go_wp2_with fail;go_at_call 58;refine(A2 K n1 c1 b g (D:Int) (s:Int) V hb).mono ?_;rintro e w2⟨W,n2,c2,X,N,rfl,P,h,b2,C,j⟩;replace j:=gx j;replace C:=gx (hJ C b1.size);replace h:=gx h;go_wp2_with fail;go_ret2;exact⟨_,_,_,X,N,rfl,P,⟨b,0,B,.inr ⟨rfl,by rw[E.out,S];exact h⟩⟩,gH b1 b2,C,j⟩
 .have Z:(f !=0)=true:=ij.2 q;have I:=gx q;have B:=gx o;clear o q;go_wp2_with fail;go_ret2;exact⟨_,_,_,[],f,rfl,Ms.nil _,⟨b,f,B,.inl ⟨I,rfl,rfl⟩⟩,b1,iY _ _ _ _,(fun r Q=>by cases Q)⟩
end Go.Proofs.YthhcdfjijagalaaGreat
namespace Go.Proofs.YthhcdfjijagalaaGreat
open Qz Go.Proofs.Tryz Go.RowKit Go.Maps
theorem nv.Pa{W:World}{m:ig}{base G gc n:Nat}{N:List Dm}(h:nv W m)(q:W.ownsRow base 63 2 (some (G,gy),n,gc) n (rows mT N))(C:N.length=n)(o:∀x∈N,W.ownsRow base 66 2 x.v x.H.length (rows jE x.H))(w:∀x∈N,∀y∈x.H,Bt W y.a y.b.length y.cap y.b)(B:∀x∈N,∀y∈x.H,Ty W y.a y.b.length 5):nv W {m with dv:=.slice (some (G,gy)) n gc,D:=N}:=by
 refine⟨?_,fun x j=>?_,w,h.tail,h.seen,h.ib,nt q,fun x j=>nb (o x j),B,h.M4,h.M0,h.KY⟩
 .show EM W 2 (some (G,gy),n,gc) N.length _;rw[C];exact gK q
 .obtain⟨E,c1,e,r⟩:=gK (o x j);simp only[Dm.v,kx,kI] at e;obtain⟨rfl,rfl⟩:=e;exact r
structure Hf (w0 wr:World) (base BT BQ G gc n:Nat) (tb:Array Value) (D:List Dm) (c f:Int):Prop where
 box:wr.heap[BT]?=some (.cells tb 32)
 I4:wr.heap[BQ]?=some (.cells #[f,c,(),gy,()] 42)
 row:wr.ownsRow base 63 2 (some (G,gy),n,gc) n (rows mT D)
 len:D.length=n
 held:∀x∈D,wr.ownsRow base 66 2 x.v x.H.length (rows jE x.H)
 bytes:∀x∈D,∀h∈x.H,Bt wr h.a h.b.length h.cap h.b
 KZ:∀x∈D,∀h∈x.H,Ty wr h.a h.b.length 5
 Lo:Below w0 w0 wr
section
variable {w0 wr w' : World} {base BT BQ G gc n : Nat} {tb : Array Value} {D : List Dm} {c f : Int}
theorem Hf.below(h:Hf w0 wr base BT BQ G gc n tb D c f)(hb:Below wr wr w'):Hf w0 w' base BT BQ G gc n tb D c f:=
 ⟨gB h.box hb,gB h.I4 hb,gL h.row hb,h.len,fun x e=>gL (h.held x e) hb,fun x e y j=>(h.bytes x e y j).below hb,fun x e y j=>(h.KZ x e y j).below hb,gH h.Lo hb⟩
theorem Hf.off(h:Hf w0 wr base BT BQ G gc n tb D c f):OL wr [BQ]:=fun B e=>by
 obtain rfl:=iA.1 e;exact⟨_,_,h.I4,.inr (.inl rfl),fun s=>by simp⟩
theorem Hf.only(h:Hf w0 wr base BT BQ G gc n tb D c f)(q:gU wr w' [BQ]){B C:Int}(I:w'.heap[BQ]?=some (.cells #[C,B,(),gy,()] 42))(w:w0.heap.size<=BQ):Hf w0 w' base BT BQ G gc n tb D B C:=by
 have E:∀{e:TypeId} {sz m b:Nat} {v:Value} {xs:List Value},wr.ownsRow b e sz v m xs->e≠42->w'.ownsRow b e sz v m xs:=fun F o=>q.own F (fun x j=>by
  obtain rfl:x=BQ:=by simpa using j
  exact gP F h.I4 o)
 have o:BT≠BQ:=km h.box h.I4 (by decide);exact⟨q.jJ h.box (fun K=>o (iA.1 K)),I,E h.row (by decide),h.len,fun x j=>E (h.held x j) (by decide),fun x j y r=>Sl.lG (h.bytes x j y r) (h.KZ x j y r) q (h.off.ne (by decide)),fun x j y r=>(h.KZ x j y r).only q (h.off.ne (by decide)),h.Lo.trans (q.nZ h.Lo.size (fun x j=>by
  obtain rfl:x=BQ:=by simpa using j
  exact w))⟩
theorem Hf.written{q:List Dm}{k:Int}{L:List (List UInt8)}{i:Nat}(h:Hf w0 wr base BT BQ G gc n tb D c f)(j:KW wr w' base G gc n D k L i q)(m:w0.heap.size<=G):Hf w0 w' base BT BQ G gc n tb q c f:=by
 have r:BT≠G:=fun e=>gP h.row h.box (by decide) (by rw[e];rfl);have w:BQ≠G:=fun e=>gP h.row h.I4 (by decide) (by rw[e];rfl);exact⟨j.only.jJ h.box (fun o=>r (iA.1 o)),j.only.jJ h.I4 (fun o=>w (iA.1 o)),j.own,j.len,j.held,j.bytes,j.KZ,h.Lo.trans (j.only.nZ h.Lo.size (fun x B=>by
  obtain rfl:x=G:=by simpa using B
  exact m))⟩
end
theorem N8(m:ig)(K:Nat)(d:gE.Do)(ea:Option Addr)(en ec:Nat)(w:World)(h:nv w m)(hk:gE.Ok m.st K)(hK:K<=100)(hE:Es w ea en ec d.b.il)(hs:d.stream.size<=maxLen)(hY:∀x∈m.D,∀h∈x.H,h.b.length<=1000)(aC:d.kind=8):
  Calls prog 12 #[jd m,.agg (pv d ea en ec)] w (rk (gE.step m.st d) m.T ⟨d.b.c,ea,en,ec,d.b.il⟩ w):=by
 have aU:=gx h;have cF:=gx hk;have bO:m.D.length<=12:=by have:=hk.Eh;simpa[ig.st] using this
 have bF:0<m.D.length:=by have Z:=hk.nd;have h2:=hk.d;have h3:=hk.sp;simp only[ig.st,iz] at Z h2 h3;omega
 have bG:=gx (show∀x∈m.D,x.H.length<=1000 from fun x hx=>by have:=hk.len (x:=x.dk) (iu.2 ⟨x,hx,rfl⟩);simp only[Dm.dk,iz] at this;omega)
 have cl:=gx (show∀x∈m.D,((x.H.map Hm.hd).map gE.Hd.jy).Pairwise (·<·) from fun x hx=>(hk.bl x.dk (iu.2 ⟨x,hx,rfl⟩)).1);have al:=gx (show(1<=m.d/\m.d<=8)/\(0<=m.s/\m.s<=4)/\(m.D.length:Int)=m.d+m.s/\m.g<=40 from⟨hk.d,hk.sp,by simpa[ig.st] using hk.nd,hk.g⟩);have HP:=gx (gE.step_scrub (s:=m.st) aC);have HL:=gx (show gE.jU m.st=({m.st with gI:=(gE.iK (m.D.map Dm.dk) m.d m.g).1},⟨(gE.iK (m.D.map Dm.dk) m.d m.g).2.2,(gE.iK (m.D.map Dm.dk) m.d m.g).2.1,[],Vw.iL⟩) from rfl);have bE:=gx (show∀x∈m.D.map Dm.dk,gE.pF (m.g:Int) x from hk.bl);obtain⟨o,O,I,dv,D,g,tv,T,sv,seen,u,av,A⟩:=m;obtain⟨da,dc,bM,bg⟩:=h.ng;obtain⟨S,X,bQ,cr⟩:=h.tail;obtain⟨P,Q,bP,cq⟩:=h.seen;obtain⟨aa,ac,bK,has⟩:=h.ib;simp only at bM bQ bP bK bg bO hY bF bG cl al bE HL;subst bM bQ bP bK;have cE:=gx bg;have HE:=gx hE;have HY:=gx hY;have cB:=gx hs;clear h hk bg cr cq has hE hY hs;unfold jd pv;simp only;rw[aC];replace aC:=gx aC;go_enter func12,ntmps12;go_upto_region 2 with(fail);obtain⟨F0,F1,F2,F3,bV,af⟩:=pU w (.cells #[o,O,I,(da,D,dc),g,(S,T,X),(P,seen,Q),u,(aa,A,ac)] 32) (.cells #[pt,d.n,d.jy,d.t,.int .u8 (d.y.toNat:Int),d.b.c,(ea,en,ec),d.stream,d.ll] 52) (.cells #[gy,gy,gy,(),gy,(),(),gy,()] 32) (.cells #[gy,gy,(),gy,()] 42);generalize (((w.alloc (.cells #[o,O,I,(da,D,dc),g,(S,T,X),(P,seen,Q),u,(aa,A,ac)] 32)).alloc (.cells #[pt,d.n,d.jy,d.t,.int .u8 (d.y.toNat:Int),d.b.c,(ea,en,ec),d.stream,d.ll] 52)).alloc (.cells #[gy,gy,gy,(),gy,(),(),gy,()] 32)).alloc (.cells #[gy,gy,(),gy,()] 42)=V at F0 F1 F2 F3 bV af⊢;obtain⟨BS,a0⟩:∃x,x=w.heap.size:=⟨_,rfl⟩;rw[<-a0] at F0 F1 F2 F3 af⊢;obtain⟨BD,aY⟩:∃x,x=BS+1:=⟨_,rfl⟩;rw[<-aY] at F1 F2 F3 af⊢;obtain⟨E,aZ⟩:∃x,x=BD+1:=⟨_,rfl⟩;rw[<-aZ] at F2 F3 af⊢;obtain⟨Y,aX⟩:∃x,x=E+1:=⟨_,rfl⟩;rw[<-aX] at F3 af⊢;have bT:w.heap.size<=E:=by omega
 have bS:w.heap.size<=Y:=by omega
 have cN:Y<V.heap.size:=by omega
 have cP:E<V.heap.size:=by omega
 have cO:BD<V.heap.size:=by omega
 have cQ:BS<V.heap.size:=by omega
 have df:¬BS=BD:=by omega
 have cX:¬BD=BS:=by omega
 have dh:¬BS=E:=by omega
 have db:¬E=BS:=by omega
 have de:¬BS=Y:=by omega
 have cT:¬Y=BS:=by omega
 have cW:¬BD=E:=by omega
 have c8:¬E=BD:=by omega
 have cV:¬BD=Y:=by omega
 have cR:¬Y=BD:=by omega
 have bW:¬E=Y:=by omega
 have bU:¬Y=E:=by omega
 replace a0:=gx a0;replace aY:=gx aY;replace aZ:=gx aZ;replace aX:=gx aX;replace af:=gx af;have aq:=gx bV;have HF:=gx (show∀W,Below V V W->W.heap[BS]?=some (.cells #[o,O,I,(da,D,dc),g,(S,T,X),(P,seen,Q),u,(aa,A,ac)] 32)/\W.heap[BD]?=some (.cells #[pt,d.n,d.jy,d.t,.int .u8 (d.y.toNat:Int),d.b.c,(ea,en,ec),d.stream,d.ll] 52)/\W.heap[E]?=some (.cells #[gy,gy,gy,(),gy,(),(),gy,()] 32)/\W.heap[Y]?=some (.cells #[gy,gy,(),gy,()] 42) from fun W L=>⟨gB F0 L,gB F1 L,gB F2 L,gB F3 L⟩);have c0:V.cell? (BD,gy)=some (.int .i64 8):=gw F1;clear F0 F1 F2 F3 bV;have cc:=gx (HF V gZ);obtain⟨aG,aH,aI,aJ,aK,aL,aM,aN,aO⟩:=kC cc.1;have DO:=gx (show Calls prog 29 #[.agg #[o,O,I,(da,D,dc),g,(S,T,X),(P,seen,Q),u,(aa,A,ac)]] V (fun e w'=>∃G gc N,e=.returned (.agg #[o,O,I,.slice (some ⟨G,0,none⟩) D.length gc,g,(S,T,X),(P,seen,Q),u,(aa,A,ac)])/\N.length=D.length/\N.map Dm.dk=D.map Dm.dk/\nv w' ({(⟨o,O,I,.slice da D.length dc,D,g,.slice S T.length X,T,.slice P seen.length Q,seen,u,.slice aa A.length ac,A⟩:ig) with dv:=.slice (some ⟨G,0,none⟩) D.length gc,D:=N}:ig)/\w'.ownsRow V.heap.size 63 2 (.slice (some ⟨G,0,none⟩) D.length gc) D.length (rows mT N)/\xK w' V.heap.size N/\Below V V w') from rC (⟨o,O,I,.slice da D.length dc,D,g,.slice S T.length X,T,.slice P seen.length Q,seen,u,.slice aa A.length ac,A⟩:ig) V (aU.below aq) bF (by show D.length<=100;omega) bG HY);go_wp2_with fail;go_at_call 29;refine DO.mono ?_;rintro e w3⟨G,gc,N,rfl,bI,bH,-,a6,aS,b3⟩;clear DO c0 aG aH aI aJ aK aL aM aN aO;go_upto_region 51 with(fail);obtain⟨wT,aF⟩:∃wT,wT=w3.alloc (.cells #[o,O,I,(some (G,gy),D,gc),g,(S,T,X),(P,seen,Q),u,(aa,A,ac)] 32):=⟨_,rfl⟩;have aA:wT.heap[w3.heap.size]?=some (.cells #[o,O,I,(some (G,gy),D,gc),g,(S,T,X),(P,seen,Q),u,(aa,A,ac)] 32):=by rw[aF];exact gO _ _
 have ay:Below w3 w3 wT:=by rw[aF];exact gZ.alloc gM _
 rw[<-aF];clear aF;obtain⟨BT,az⟩:∃x,x=w3.heap.size:=⟨_,rfl⟩;rw[<-az] at aA⊢;have cx:V.heap.size<=BT:=by rw[az];exact b3.size
 have bD:=iq aA;replace az:=gx az;have dq:¬BT=BS:=by omega
 have dl:¬BT=BD:=by omega
 have dp:¬BT=E:=by omega
 have dj:¬BT=Y:=by omega
 have di:¬BS=BT:=by omega
 have dd:¬E=BT:=by omega
 have cU:¬Y=BT:=by omega
 have ax:=gx (gH b3 ay);have cD:=gx (gH aq ax);have bw:=gx aA;have bq:=gx bI;have aT:=gx bH;have aj:=gx (gL a6 ay);have ag:=gx (aS.below ay);have ca:=gx (HF wT ax);have ck:V.heap.size<=G:=(a6.lt G rfl).1;clear b3 ay aA bI bH a6 aS;have bN:g<=40:=al.2.2.2;have cK:1<=o/\o<=8:=al.1;go_upto_region 52 with(fail);obtain⟨wQ,aE⟩:∃wQ,wQ=wT.alloc (.cells #[gy,gy,(),gy,()] 42):=⟨_,rfl⟩;have a9:wQ.heap[wT.heap.size]?=some (.cells #[gy,gy,(),gy,()] 42):=by rw[aE];exact gO _ _
 have ab:Below wT wT wQ:=by rw[aE];exact gZ.alloc gM _
 rw[<-aE];clear aE;obtain⟨BQ,ak⟩:∃x,x=wT.heap.size:=⟨_,rfl⟩;rw[<-ak] at a9⊢;have aR:V.heap.size<=BQ:=by rw[ak];exact ax.size
 have cI:BT<BQ:=by rw[ak];exact bD
 replace ak:=gx ak;have c6:¬BQ=BS:=by omega
 have cZ:¬BQ=BD:=by omega
 have c5:¬BQ=E:=by omega
 have cY:¬BQ=Y:=by omega
 have c7:¬BQ=BT:=by omega
 have dm:¬BT=BQ:=by omega
 have c9:¬E=BQ:=by omega
 have cS:¬Y=BQ:=by omega
 have dg:¬BS=BQ:=by omega
 have HI:=gx (show Hf V wQ V.heap.size BT BQ G gc D.length #[.int .i64 o,.int .i64 O,.int .i64 I,.slice (some (G,gy)) D.length gc,.int .i64 (g:Int),.slice S T.length X,.slice P seen.length Q,.int .i64 u,.slice aa A.length ac] N 0 0 from⟨gB bw ab,a9,gL aj ab,bq,fun x hx=>gL (ag.held x hx) ab,fun x hx y hy=>(by obtain⟨a1,c1,e,Z⟩:=gK (gL (ag.bytes x hx y hy) ab);simp only[Hm.v,kx,kI] at e;obtain⟨rfl,rfl⟩:=e;exact Z),fun x hx y hy=>nb (gL (ag.bytes x hx y hy) ab),gH ax ab⟩)
 clear a9 ab bw aj ag ca;go_wp2_with fail;go_loopg[19] g (fun gg cu wr=>∃(k:Nat) (N:List Dm) (c:Nat) (f:Int),gg=g-k/\k<=g/\cu=.int .i64 (k:Int)/\c<=12*k/\Hid (Hf V wr V.heap.size BT BQ G gc D.length #[.int .i64 o,.int .i64 O,.int .i64 I,.slice (some (G,gy)) D.length gc,.int .i64 (g:Int),.slice S T.length X,.slice P seen.length Q,.int .i64 u,.slice aa A.length ac] N (c:Int) f)/\Hid (∀x∈N.map Dm.dk,gE.pF (g:Int) x)/\Hid (gE.iK (D.map Dm.dk) o k=(N.map Dm.dk,(c:Int),f)));case atStart=>exact⟨0,N,0,0,rfl,by omega,rfl,by omega,HI,gx (by rw[aT.out];exact bE),gx (by rw[aT.out];rfl)⟩
 case round=>
  clear HI bq aT N;obtain⟨k,N,c,f,rfl,hk,rfl,hc,HX,ai,aw⟩:=hrel;obtain⟨wo,rfl⟩:∃wo:World,wo=wr:=⟨_,rfl⟩;have bo:=gx (HF wo HX.Lo);have c4:wo.cell? (BS,pR)=some (.int .i64 (g:Int)):=gw bo.1;by_cases cM:k<g
  .have ar:=gx (show∀x∈N,x.H.length<=1000/\((x.H.map Hm.hd).map gE.Hd.jy).Pairwise (·<·) from fun x hx=>by
    have Z:=ai x.dk (iu.2 ⟨x,hx,rfl⟩);refine⟨?_,Z.1⟩;have:=gE.rJ _ 0 (g:Int) Z.1 (fun y hy=>by obtain⟨z,hz,rfl⟩:=iu.1 hy;exact Z.2 z hz)
    simp only[Dm.dk,iz] at this;omega)
   have aP:=gx (show∀W,Hf V W V.heap.size BT BQ G gc D.length #[.int .i64 o,.int .i64 O,.int .i64 I,.slice (some (G,gy)) D.length gc,.int .i64 (g:Int),.slice S T.length X,.slice P seen.length Q,.int .i64 u,.slice aa A.length ac] N (c:Int) f->nv W ({(⟨o,O,I,.slice da D.length dc,D,g,.slice S T.length X,T,.slice P seen.length Q,seen,u,.slice aa A.length ac,A⟩:ig) with dv:=.slice (some (G,gy)) D.length gc,D:=N}:ig) from fun W L=>(aU.below (gH aq L.Lo)).Pa L.row L.len L.held L.bytes L.KZ);have CB:=gx (show∀W,Hf V W V.heap.size BT BQ G gc D.length #[.int .i64 o,.int .i64 O,.int .i64 I,.slice (some (G,gy)) D.length gc,.int .i64 (g:Int),.slice S T.length X,.slice P seen.length Q,.int .i64 u,.slice aa A.length ac] N (c:Int) f->Calls prog 31 #[.agg #[o,O,I,(some (G,gy),D,gc),g,(S,T,X),(P,seen,Q),u,(aa,A,ac)],k] W (fun e w'=>∃a cap R,e=.returned (.slice a D.length cap)/\Ms w' a D.length cap R/\Hid (gz R=gE.blocks (N.map Dm.dk) (k:Int))/\Below W W w') from fun W L=>by have Z:=sH ({(⟨o,O,I,.slice da D.length dc,D,g,.slice S T.length X,T,.slice P seen.length Q,seen,u,.slice aa A.length ac,A⟩:ig) with dv:=.slice (some (G,gy)) D.length gc,D:=N}:ig) (k:Int) W (aP W L) (by show N.length<=100;rw[L.len];omega) (fun x hx=>(ar x hx).1) (fun x hx=>(ar x hx).2);unfold jd at Z;simp only[L.len] at Z;exact Z.mono fun e w'⟨a,cap,R,h2,h3,h4,h5⟩=>⟨a,cap,R,h2,h3,gx h4,h5⟩)
   have DB:=gx (CB wo HX);obtain⟨aG,aH,aI,aJ,aK,aL,aM,aN,aO⟩:=kC HX.box;go_wp2_with fail;go_at_call 31;refine DB.mono ?_;rintro e w1⟨a1,c1,R1,rfl,M1,e1,b1⟩;have DD:=gx (Iw a1 D.length c1 R1 (k:Int) w1 M1 (by omega));have E1:=gx e1;have bL:=gx b1;clear DB M1 e1 b1 aG aH aI aJ aK aL aM aN aO;go_wp2_with fail;go_at_call 30;refine DD.mono ?_;rintro e w2⟨a2,c2,rfl,hU,b2,bZ⟩;have cJ:=gW.rW (gz R1) (k:Int) D.length;have ch:=gx (show∀u∈gW.j9 (gz R1) (k:Int) D.length,u<D.length from fun u hu=>gW.I6 hu);have S1:=gx (show gW.j9 (gE.blocks (N.map Dm.dk) (k:Int)) (k:Int) (N.map Dm.dk).length=gW.j9 (gz R1) (k:Int) D.length by rw[E1.out,iz,HX.out.len]);generalize bJ:gW.j9 (gz R1) (k:Int) D.length=U at *;replace bJ:=gx bJ;have X2:=gx (HX.below (gH bL b2));have HU:=gx hU;have cg:=gx bZ;clear DD bL b2 hU bZ;by_cases ad:U.length=0
   .have ae:U=[]:=qj ad;have HN:=gx (gE.xx aw (by rw[S1.out];exact ae));have t0:((U.length:Int)==0)=true:=by simpa using ad
    subst ae;clear ad;go_wp2_with fail;go_roundg (g-(k+1));case measure=>omega
    case rel=>exact⟨k+1,N,c,f,rfl,by omega,by go_num,by omega,X2,ai,HN⟩
   .have t0:((U.length:Int)==0)=false:=by simpa using ad
    have ae:U≠[]:=fun e=>ad (by rw[e];rfl);have S2:=gx (gE.zU aw (by rw[S1.out];exact ae));have S3:=gx (gE.xy aw (by rw[S1.out];exact ae));rw[S1.out] at S3;replace ae:=gx ae;replace ad:=gx ad;have KC:=gx (show∀W,Below w2 w2 W->W.cell? (BT,gy)=some (.int .i64 o)/\W.cell? (BT,ia)=some (.int .i64 O)/\W.cell? (BT,j6)=some (.int .i64 I)/\W.cell? (BT,jF)=some (.slice (some (G,gy)) D.length gc)/\W.cell? (BT,pR)=some (.int .i64 (g:Int))/\W.cell? (BT,nk)=some (.slice S T.length X)/\W.cell? (BT,mu)=some (.slice P seen.length Q)/\W.cell? (BT,ps)=some (.int .i64 u)/\W.cell? (BT,pt)=some (.slice aa A.length ac)/\W.cell? (BS,gy)=some (.int .i64 o) from fun W L=>⟨gw (X2.below L).box,gw (X2.below L).box,gw (X2.below L).box,gw (X2.below L).box,gw (X2.below L).box,gw (X2.below L).box,gw (X2.below L).box,gw (X2.below L).box,gw (X2.below L).box,gw (HF W (X2.below L).Lo).1⟩);have C1:=gx (show∀W,Below w2 w2 W->Calls prog 31 #[.agg #[o,O,I,(some (G,gy),D,gc),g,(S,T,X),(P,seen,Q),u,(aa,A,ac)],k] W (fun e w'=>∃a cap R,e=.returned (.slice a D.length cap)/\Ms w' a D.length cap R/\Hid (gz R=gE.blocks (N.map Dm.dk) (k:Int))/\Below w2 w2 w') from fun W L=>(CB W (X2.below L)).mono fun e w'⟨a,cap,R,Z,h2,h3,h4⟩=>⟨a,cap,R,Z,h2,h3,gH L h4⟩);have b6:=gx (show -9223372036854775808<=o/\o<=9223372036854775807 by omega);go_upto_region 57 with(fail);go_cut[21,22] (fun cv cw wc=>∃a3 n3 c3 R3 f3,cv=.slice a3 n3 c3/\cw=.int .i64 f3/\Ms wc a3 n3 c3 R3/\gW.yX (gE.blocks (N.map Dm.dk) (k:Int)) (k:Int) o (gz R3) f3/\wc.ownsRow V.heap.size 64 1 (.slice a3 n3 c3) n3 (iv R3)/\(∀r∈R3,Ty wc r.a r.n 5)/\Below w2 w2 wc);case first=>
     obtain⟨g0,g1,g2,g3,g4,g5,g6,g7,g8,g9⟩:=KC.out w2 gZ;have cy:=X2.out.Lo.size;go_region_held3 (fun W=>W.cell? (BT,gy)=some (.int .i64 o)/\W.cell? (BT,ia)=some (.int .i64 O)/\W.cell? (BT,j6)=some (.int .i64 I)/\W.cell? (BT,jF)=some (.slice (some (G,gy)) D.length gc)/\W.cell? (BT,pR)=some (.int .i64 (g:Int))/\W.cell? (BT,nk)=some (.slice S T.length X)/\W.cell? (BT,mu)=some (.slice P seen.length Q)/\W.cell? (BT,ps)=some (.int .i64 u)/\W.cell? (BT,pt)=some (.slice aa A.length ac)/\W.cell? (BS,gy)=some (.int .i64 o)) (first|with_reducible exact KC.out _ b4|with_reducible exact KC.out _ b3|with_reducible exact⟨g0,g1,g2,g3,g4,g5,g6,g7,g8,g9⟩|exact KC.out _ (iV gZ))
      (first
       |(go_at_call 31;refine(C1 _ (iV gZ)).mono ?_;rintro e w3⟨a3,bC,R3,rfl,ah,cm,b3⟩;replace ah:=gx ah)
       |(go_at_call 32;refine(Eo a3 D.length bC R3 (k:Int) o w3 ah b6).mono ?_;rintro e w4⟨a4,n4,cj,R4,f4,rfl,a5,a8,bB,o4,bj⟩;have cG:=bB;have b4:=gH b3 bB;replace a5:=gx a5;replace a8:=gx a8;replace o4:=gx o4;replace bj:=gx bj))
     all_goals (go_wp2_with fail;go_meet)
     all_goals
      exact⟨a4,n4,cj,R4,f4,rfl,rfl,a5,by have h:=a8.out;rw[cm.out] at h;exact h,hJ o4 (by have:=b3.size;omega),bj,b4⟩
    case rest=>
     obtain⟨w3,rfl⟩:∃w3:World,w3=wc:=⟨_,rfl⟩;obtain⟨a3,n3,c3,R3,f3,rfl,rfl,ah,a7,o3,bY,b3⟩:=hcut;have X3:=gx (X2.below b3);have bz:=gx (Sl.below HU b3);have bA:=gx (cg.below b3);have BK:=gW.Gb a7;have bp:=gx ah;have aj:=gx o3;have aQ:=gx bY;clear KC C1 CB aP ah o3 bY b3 X2 c4;by_cases hf:f3=0
     .subst hf;obtain⟨rb,rf,-,aD⟩:=a7;have aD:gW.mv rb (k:Int) o ((gE.blocks (N.map Dm.dk) (k:Int)).length-o) (gz R3) 0:=by
       rcases aD with⟨Z,_,h2⟩|⟨_,h2⟩
       .exact absurd h2.symm Z
       .exact h2
      have ao:=aD.fit;rw[gE.kq,iz,X3.out.len] at ao;have cp:n3=D.length:=by have h5:=ao.1;have h6:=bp.dn;omega
      subst cp;have HN:=gx (S3 BK.2.symm);rw[<-BK.1] at HN;clear S2 S3 aD ao BK;obtain⟨fn,bh⟩:∃fn:Nat->Bool,fn=fun i=>!((N.map Dm.dk).getD i ⟨false,[]⟩).gone:=⟨_,rfl⟩;rw[<-bh] at HN;have b8:=gx (show∀i (hi:i<N.length),fn i=!N[i].g from fun i hi=>by rw[bh];simp[List.getD,hi,Dm.dk]);clear bh;go_wp2_with fail;go_loopg[266] U.length (fun gg bX wr=>∃j:Nat,gg=U.length-j/\j<=U.length/\bX=.int .i64 (j:Int)/\gU w3 wr [BQ]/\wr.heap[BQ]?=some (.cells #[f,.int .i64 ((c+((U.take j).filter fn).length:Nat):Int),(),gy,()] 42));case atStart=>exact⟨0,rfl,by omega,rfl,gU.refl _ _,by simpa using X3.I4⟩
      case round=>
       obtain⟨j,rfl,hj,rfl,hO,hA⟩:=hrel;obtain⟨wi,rfl⟩:∃wi:World,wi=wr:=⟨_,rfl⟩;have XI:=gx (X3.only hO hA aR);have HO:=gx hO;have HA:=gx hA;clear hO hA;by_cases bi:j<U.length
       .obtain⟨ub,uo,rfl,-⟩:=bz.addr (by omega);have u3:w3.cell? (ub,uo+j)=some (.int .i64 ((U[j]:Nat):Int)):=bz.cell (by omega) (AQ bi);have ct:=ch _ (iE bi);have bn:=gx (Cy U fn j bi);have bR:U[j]<N.length:=by rw[X3.out.len];exact ct
        have HG:=b8 U[j] bR;have cz:((U.take j).filter fn).length<=12:=by have Z:=vG fn (U.take j);rw[jh] at Z;omega
        obtain⟨e0,-⟩:=(by obtain⟨a1,c1,ee,hs⟩:=gK XI.row;cases ee;exact pd hs U[j] bR:wi.cell? ⟨G,0+U[j]*2,none⟩=_/\wi.cell? ⟨G,0+U[j]*2+1,none⟩=_)
        rw[jk] at e0;have cf:=gx (show¬ub=BQ from fun e=>by obtain⟨b',cC,cH,e',cn⟩:=bA (by omega);cases e';exact km cn X3.I4 (by decide) e)
        generalize hu:U[j]=u at *;replace hu:=gx hu;have j0:(0:Int)<=(u:Int):=by omega
        have j1:(u:Int)<(D.length:Int):=by omega
        have j2:(0:Int)<=(j:Int):=by omega
        have j3:(j:Int)<(U.length:Int):=by omega
        generalize ((U.take j).filter fn).length=q at *;have t3:wi.cell? (BT,jF)=some (.slice (some (G,gy)) D.length gc):=gw XI.box;have q1:wi.cell? (BQ,ia)=some (.int .i64 ((c+q:Nat):Int)):=gw HA;have qf:∀i,wi.frozen? ⟨BQ,i,none⟩=false:=fun i=>gA HA;have cL:=bN;have u0:wi.cell? (ub,uo+j)=some (.int .i64 (u:Int)):=by rw[yw (w:=w3) (HO.out.block ub (iM _ _ u3) (fun hm=>cf.out (iA.1 hm)))];exact u3
        cases hg:N[u].g with
        |true=>
         rw[hg] at e0 HG;replace HG:=gx HG;go_wp2_with fail;go_roundg (U.length-(j+1));case measure=>omega
         case rel=>exact⟨j+1,rfl,by omega,by go_num,HO,by rw[bn.out,HG.out];simpa using HA.out⟩
        |false=>
         rw[hg] at e0 HG;replace HG:=gx HG;go_wp2_with fail;go_roundg (U.length-(j+1));case measure=>omega
         case rel=>
          refine⟨j+1,rfl,by omega,by go_num,HO.setCell (a:=(BQ,ia)) (.inl (by simp)) _,?_⟩;rw[bn.out,HG.out];have Z:=mB (i:=1) HA (.int .i64 ((c:Int)+(q:Int)+1));simpa[Int.add_assoc] using Z
       .obtain rfl:U.length=j:=by omega
        rw[sE] at XI HA;obtain⟨q,hq⟩:∃q,q=(U.filter fn).length:=⟨_,rfl⟩;rw[<-hq] at XI HA HN;have cA:q<=12:=by have Z:=vG fn U;rw[hq];omega
        replace hq:=gx hq;have ap:=gx (show∀t,t≠42->∀B∈[BQ],∃(cs:Array Value) (t':TypeId),w3.heap[B]?=some (.cells cs t')/\t'≠t from fun t ht B hB=>by obtain rfl:=iA.1 hB;exact⟨_,_,X3.I4,fun e=>ht e.symm⟩)
        have br:=gx (HO.own aj (fun x hx=>by
         obtain rfl:x=BQ:=by simpa using hx
         exact gP aj X3.I4 (by decide)))
        have cd:=gx (show Ms wi a3 D.length c3 R3 from⟨by obtain⟨a1,c1,ee,hs⟩:=gK br;cases ee;exact hs,fun r hr=>Sl.lG (bp.row r hr) (aQ r hr) HO (ap _ (by decide))⟩)
        have bk:=gx (zr BT G gc V.heap.size o O I g (S,T,X) (P,seen,Q) u (aa,A,ac) N (k:Int) a3 D.length c3 R3 wi XI.box XI.len XI.row XI.held XI.bytes XI.Lo.size XI.KZ (fun r hr=>(aQ r hr).only HO (ap _ (by decide))) cd br (by omega) (fun x hx=>(ar x hx).1) (fun x hx=>(ar x hx).2));go_wp2_with fail;go_at_call 33;refine bk.mono ?_;rintro e wW⟨rfl,D2,bf⟩;have XW:=gx (XI.written bf ck);have bm:=gx (show D2.map Dm.dk=gE.write (N.map Dm.dk) (k:Int) (gz R3) by have Z:=bf.dk;have h2:=By (N.map Dm.dk) (k:Int) (gz R3);rw[iz,XI.out.len] at h2;rw[Z,h2])
        clear bk bf;go_wp2_with fail;go_roundg (g-(k+1));case measure=>omega
        case rel=>
         refine⟨k+1,D2,c+q,f,rfl,by omega,by go_num,by omega,XW,gx ?_,gx ?_⟩
         .rw[bm.out];exact gE.uh ai (by omega)
         .rw[bm.out,HN.out];simp
     .have aW:=gx (S2 (by rw[<-BK.2];exact hf));rw[<-BK.2] at aW;have t2:(f3 !=0)=true:=ij.2 hf;replace hf:=gx hf;clear S2 S3 BK a7;have q0:w3.cell? (BQ,gy)=some (.int .i64 f):=gw X3.I4;have qf:∀i,w3.frozen? ⟨BQ,i,none⟩=false:=fun i=>gA X3.I4;by_cases aB:f=0
      .subst aB;go_wp2_with fail;go_roundg (g-(k+1));case measure=>omega
       case rel=>exact⟨k+1,N,c,f3,rfl,by omega,by go_num,by omega,gx (X3.only ((gU.refl w3 [BQ]).setCell (a:=(BQ,gy)) (.inl (by simp)) _) (mB (i:=0) X3.I4 _) aR),ai,gx (by rw[aW.out];simp)⟩
      .have t3:(f==0)=false:=jB.2 aB;have b7:=gx aB;clear aB;go_wp2_with fail;go_roundg (g-(k+1));case measure=>omega
       case rel=>exact⟨k+1,N,c,f,rfl,by omega,by go_num,by omega,X3,ai,gx (by rw[aW.out,gC b7.out])⟩
  .obtain rfl:g=k:=by omega
   have HG:=bo;have aV:=gx (gH aq HX.Lo);have bu:=gx (show nv wo ({(⟨o,O,I,.slice da D.length dc,D,g,.slice S T.length X,T,.slice P seen.length Q,seen,u,.slice aa A.length ac,A⟩:ig) with dv:=.slice (some (G,gy)) D.length gc,D:=N}:ig) from(aU.below aV).Pa HX.row HX.len HX.held HX.bytes HX.KZ);have au:=gx (show gE.step (⟨o,O,I,.slice da D.length dc,D,g,.slice S T.length X,T,.slice P seen.length Q,seen,u,.slice aa A.length ac,A⟩:ig).st d=({(⟨o,O,I,.slice da D.length dc,D,g,.slice S T.length X,T,.slice P seen.length Q,seen,u,.slice aa A.length ac,A⟩:ig).st with gI:=N.map Dm.dk},⟨f,(c:Int),[],Vw.iL⟩) by rw[HP.out,HL.out,aw.out])
   go_upto_region 68 with(fail);obtain⟨aG,aH,aI,aJ,aK,aL,aM,aN,aO⟩:=kC HX.box;obtain⟨dH,dI,dJ,dK,dL⟩:=jV HX.I4;obtain⟨dy,dz,dA,dB,dC,dD,dE,dF,dG⟩:=kC HG.2.2.1;have rf:∀j,wo.frozen? ⟨E,j,none⟩=false:=fun j=>gA HG.2.2.1;obtain⟨dr,ds,dt,du,dw⟩:=jV HG.2.2.2;have dx:∀j,wo.frozen? ⟨Y,j,none⟩=false:=fun j=>gA HG.2.2.2;go_region;all_goals go_wp2_with fail
   all_goals first
    |(obtain⟨W9,bd,q9,b9,o9⟩:=gV (b:=E) aV bT HG.2.2.1 o O I (some (G,gy),D,gc) g (S,T,X) (P,seen,Q) u (aa,A,ac);rw[bd];obtain⟨F,bc,q5,b5,o5,-⟩:=gN (b:=Y) b9 bS (o9.jJ HG.2.2.2 (fun hm=>bU (iA.1 hm))) f c () gy ();rw[bc];have C:=o5.jJ q9 (fun hm=>bW (iA.1 hm));have hO:gU wo F [E,Y]:=(o9.mono (by simp)).trans' (o5.mono (by simp));have z0:=gw (i:=0) (show F.drew.heap[E]?=_ from C);have z1:=gw (i:=1) (show F.drew.heap[E]?=_ from C);have z2:=gw (i:=2) (show F.drew.heap[E]?=_ from C);have z3:=gw (i:=3) (show F.drew.heap[E]?=_ from C);have z4:=gw (i:=4) (show F.drew.heap[E]?=_ from C);have z5:=gw (i:=5) (show F.drew.heap[E]?=_ from C);have z6:=gw (i:=6) (show F.drew.heap[E]?=_ from C);have z7:=gw (i:=7) (show F.drew.heap[E]?=_ from C);have z8:=gw (i:=8) (show F.drew.heap[E]?=_ from C);have y0:=gw (i:=0) (show F.drew.heap[Y]?=_ from q5);have y1:=gw (i:=1) (show F.drew.heap[Y]?=_ from q5);have y2:=gw (i:=2) (show F.drew.heap[Y]?=_ from q5);have y3:=gw (i:=3) (show F.drew.heap[Y]?=_ from q5);have y4:=gw (i:=4) (show F.drew.heap[Y]?=_ from q5);refine gS (v:=.tuple #[.agg #[o,O,I,(some (G,gy),D,gc),g,(S,T,X),(P,seen,Q),u,(aa,A,ac)],.agg #[f,c,(),gy,()]]) (by simp[results,results12,go_sem,z0,z1,z2,z3,z4,z5,z6,z7,z8,y0,y1,y2,y3,y4]) rfl ⟨({(⟨o,O,I,.slice da D.length dc,D,g,.slice S T.length X,T,.slice P seen.length Q,seen,u,.slice aa A.length ac,A⟩:ig) with dv:=.slice (some (G,gy)) D.length gc,D:=N}:ig),_,rfl,nv.below (bu.only hO (nr _ _ _ _ _ _ _ _ _ _ _ _ _ _ _ _ _ _ _ _ _ _ _ _ _ _ HG.2.2.1 HG.2.2.2)) (iV gZ),by rw[au.out];exact⟨none,0,none,0,rfl,⟨Sl.none _ 3,fun r hr=>by cases hr⟩,⟨Sl.none _ 4,fun r hr=>by cases hr⟩,Ty.zero _ _ _,Ty.zero _ _ _⟩,by rw[au.out];rfl,fun r hr=>.inl hr,(iV b5)⟩)
    |(obtain⟨W9,bd,q9,b9,o9,-⟩:=gN (b:=Y) aV bS HG.2.2.2 f c () gy ();rw[bd];obtain⟨F,bc,C,b5,o5⟩:=gV (b:=E) b9 bT (o9.jJ HG.2.2.1 (fun hm=>bW (iA.1 hm))) o O I (some (G,gy),D,gc) g (S,T,X) (P,seen,Q) u (aa,A,ac);rw[bc];have q5:=o5.jJ q9 (fun hm=>bU (iA.1 hm));have hO:gU wo F [E,Y]:=(o9.mono (by simp)).trans' (o5.mono (by simp));have z0:=gw (i:=0) (show F.drew.heap[E]?=_ from C);have z1:=gw (i:=1) (show F.drew.heap[E]?=_ from C);have z2:=gw (i:=2) (show F.drew.heap[E]?=_ from C);have z3:=gw (i:=3) (show F.drew.heap[E]?=_ from C);have z4:=gw (i:=4) (show F.drew.heap[E]?=_ from C);have z5:=gw (i:=5) (show F.drew.heap[E]?=_ from C);have z6:=gw (i:=6) (show F.drew.heap[E]?=_ from C);have z7:=gw (i:=7) (show F.drew.heap[E]?=_ from C);have z8:=gw (i:=8) (show F.drew.heap[E]?=_ from C);have y0:=gw (i:=0) (show F.drew.heap[Y]?=_ from q5);have y1:=gw (i:=1) (show F.drew.heap[Y]?=_ from q5);have y2:=gw (i:=2) (show F.drew.heap[Y]?=_ from q5);have y3:=gw (i:=3) (show F.drew.heap[Y]?=_ from q5);have y4:=gw (i:=4) (show F.drew.heap[Y]?=_ from q5);refine gS (v:=.tuple #[.agg #[o,O,I,(some (G,gy),D,gc),g,(S,T,X),(P,seen,Q),u,(aa,A,ac)],.agg #[f,c,(),gy,()]]) (by simp[results,results12,go_sem,z0,z1,z2,z3,z4,z5,z6,z7,z8,y0,y1,y2,y3,y4]) rfl ⟨({(⟨o,O,I,.slice da D.length dc,D,g,.slice S T.length X,T,.slice P seen.length Q,seen,u,.slice aa A.length ac,A⟩:ig) with dv:=.slice (some (G,gy)) D.length gc,D:=N}:ig),_,rfl,nv.below (bu.only hO (nr _ _ _ _ _ _ _ _ _ _ _ _ _ _ _ _ _ _ _ _ _ _ _ _ _ _ HG.2.2.1 HG.2.2.2)) (iV gZ),by rw[au.out];exact⟨none,0,none,0,rfl,⟨Sl.none _ 3,fun r hr=>by cases hr⟩,⟨Sl.none _ 4,fun r hr=>by cases hr⟩,Ty.zero _ _ _,Ty.zero _ _ _⟩,by rw[au.out];rfl,fun r hr=>.inl hr,(iV b5)⟩)
namespace gE
def uK(e:List Dk):Prop:=∀x∈e,∀h∈x.bl,h.b.length<=1000
theorem CJ:∀(l:List Hd) (k:Int) (x:List UInt8) (y:Hd),y∈qu l k x->y∈l∨y=⟨k,x⟩
 |[],k,x,y,h=>.inr (by simpa[qu] using h)
 |a::t,k,x,y,h=>by
  unfold qu at h;split at h
  .rcases jC.1 h with rfl|h
   .exact .inl (by simp)
   .rcases CJ t k x y h with h|h
    .exact .inl (by simp[h])
    .exact .inr h
  .rcases jC.1 h with rfl|h
   .exact .inr rfl
   .exact .inl h
theorem yS:∀(l:List Hd) (k:Int) (x:List UInt8) (y:Hd),y∈mK l k x->y∈l∨y.b=x
 |[],k,x,y,h=>by cases h
 |a::t,k,x,y,h=>by
  unfold mK at h;split at h
  .rcases jC.1 h with rfl|h
   .exact .inr rfl
   .exact .inl (by simp[h])
  .rcases jC.1 h with rfl|h
   .exact .inl (by simp)
   .rcases yS t k x y h with h|h
    .exact .inl (by simp[h])
    .exact .inr h
theorem Cz:∀(l:List Hd) (k:Int) (b:List UInt8),find l k=some b->∃h∈l,h.b=b
 |[],k,b,h=>by cases h
 |a::t,k,b,h=>by
  unfold find at h;split at h;·exact⟨a,by simp,kO h⟩
  .obtain⟨x,f,e⟩:=Cz t k b h;exact⟨x,by simp[f],e⟩
theorem uK.write{f:List Dk}{L:List (List UInt8)}{k:Int}(h:uK f)(B:∀r∈L,r.length<=1000):uK (write f k L):=by
 intro x w y e;unfold gE.write at w;obtain⟨i,hi,rfl⟩:=iu.1 w;have hi:i<f.length:=mc.1 hi;have m:f.getD i ⟨false,[]⟩∈f:=by simp[List.getD,hi]
 have q:(L.getD i []).length<=1000:=by
  by_cases o:i<L.length
  .have:L.getD i []=L[i]:=by simp[List.getD,o]
   rw[this];exact B _ (iE o)
  .have:L.getD i []=[]:=by simp[List.getD,o]
   rw[this];simp
 generalize f.getD i ⟨false,[]⟩=D at *;generalize L.getD i []=r at *;unfold uZ at e;split at e;·exact h _ m _ e
 .have e:y∈oh D.bl k r:=e;unfold oh at e;split at e
  .rcases CJ _ _ _ _ e with j|rfl
   .exact h _ m _ j
   .exact q
  .rcases yS _ _ _ _ e with j|j
   .exact h _ m _ j
   .rw[j];exact q
theorem uK.set{f:List Dk}(h:uK f)(i:Nat)(x:Dk)(j:∀y∈x.bl,y.b.length<=1000):uK (f.set i x):=by
 intro z e;rcases lH e with e|rfl
 .exact h z e
 .exact j
theorem AM{b:List UInt8}{g d s:Int}(h:(gW.ni b g d s).2=0):∀r∈(gW.ni b g d s).1,r.length<=1000:=by
 have e:=gW.pQ b g d s;rw[h] at e;intro r f;have:=e.fit.2.2 r f;omega
theorem Gc{l:List (List UInt8)}{g d:Int}(h:(gW.lu l g d).2=0):∀r∈(gW.lu l g d).1,r.length<=1000:=by
 unfold gW.lu at h⊢;split
 .rename_i e;rw[gG e] at h;exact absurd h e
 .rename_i e;rw[gC e] at h;exact AM h
theorem uX{j:List Dk}{d:Int}(h:uK j):∀k:Nat,uK (iK j d k).1
 |0=>h
 |k+1=>by
  have f:=uX (d:=d) h k;unfold iK;simp only;split;·exact f
  .split;·exact f
   .rename_i e;exact f.write (Gc (qJ.1 e))
theorem IL{s:St}(h:uK s.gI):uK (jZ s).1.gI:=by
 unfold jZ;split;·exact h
 .split;·exact h
  .rename_i e;exact h.write (AM (qJ.1 e))
theorem step_short{s:St}(h:uK s.gI)(d:Do):uK (step s d).1.gI:=by
 unfold step;split
 .unfold put
  repeat' split
  all_goals first|exact h|exact IL (s:={s with tail:=s.tail++[d.b]}) h
 .split;·exact h
  .split;·exact h
   .split
    .unfold kF;split;·exact h
     .split;·exact h.set _ _ (fun y f=>by cases f)
      .split
       .split;·exact h
        .exact h.set _ _ (fun y f=>by cases f)
       .split;·exact h
        .rename_i b hb;split;·exact h
         .rename_i o _ _ _ _;refine h.set _ _ (fun y f=>?_);have hi:d.n.toNat<s.gI.length:=by omega
          have j:s.gI.getD d.n.toNat ⟨false,[]⟩∈s.gI:=by simp[List.getD,hi]
          rcases yS _ _ _ _ f with h1|h1
          .exact h _ j _ h1
          .obtain⟨z,m,e⟩:=Cz _ _ _ hb;rw[h1,kH,<-e];exact h _ j _ m
    .split;·exact uX (d:=s.data) h _
     .split;·exact h
      .exact h
theorem Kv{s:St}(h:uK s.gI):∀l:List Do,uK (run s l).1.gI:=by
 intro l;induction l generalizing s with
 |nil=>exact h
 |cons d l e=>exact e (step_short h d)
theorem GP(d s b:Int):uK (start d s b).gI:=by
 intro x f;obtain⟨_,rfl⟩:=oE.1 f;intro h e;cases e
end gE
theorem IC(m:ig)(K:Nat)(d:gE.Do)(ea:Option Addr)(f ec:Nat)(w:World)(h:nv w m)(r:gE.Ok m.st K)(o:K<=100)(j:Es w ea f ec d.b.il)(B:d.stream.size<=maxLen)(q:∀x∈m.D,∀h∈x.H,h.b.length<=1000):
  Calls prog 12 #[jd m,.agg (pv d ea f ec)] w (rk (gE.step m.st d) m.T ⟨d.b.c,ea,f,ec,d.b.il⟩ w):=by
 by_cases C:d.kind=1;·exact NZ m K d ea f ec w h r o j B q C
 by_cases E:d.kind=2;·exact N2 m K d ea f ec w h r o j B q E
 by_cases F:d.kind=3;·exact N3 m K d ea f ec w h r o j B q F
 by_cases G:d.kind=4;·exact N4 m K d ea f ec w h r o j B q G
 by_cases I:d.kind=5;·exact N5 m K d ea f ec w h r o j B q I
 by_cases L:d.kind=6;·exact N6 m K d ea f ec w h r o j B q L
 by_cases N:d.kind=7;·exact N7 m K d ea f ec w h r o j B q N
 by_cases O:d.kind=8;·exact N8 m K d ea f ec w h r o j B q O
 by_cases P:d.kind=9;·exact N9 m K d ea f ec w h r o j B q P
 refine NY m K d ea f ec w h r o j B q (fun i i1 i2 e=>?_);have:i=1∨i=2∨i=3∨i=4∨i=5∨i=6∨i=7∨i=8∨i=9:=by omega
 rcases this with rfl|rfl|rfl|rfl|rfl|rfl|rfl|rfl|rfl
 .exact C e
 .exact E e
 .exact F e
 .exact G e
 .exact I e
 .exact L e
 .exact N e
 .exact O e
 .exact P e
end Go.Proofs.YthhcdfjijagalaaGreat

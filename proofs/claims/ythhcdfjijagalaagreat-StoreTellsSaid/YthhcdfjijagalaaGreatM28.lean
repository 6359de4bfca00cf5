import Derived.Test.YthhcdfjijagalaaGreatM26
import Derived.Test.YthhcdfjijagalaaGreatM27
set_option linter.all false
set_option maxHeartbeats 8000000
set_option maxRecDepth 100000
namespace Go.Proofs.YthhcdfjijagalaaGreat
open Qz Go.Proofs.Tryz Go.RowKit
def AO(w:World)(base:Nat)(a:Option Addr)(cap:Nat)(l:List Vw.Acc):Prop:=w.ownsRow base 55 4 (a,l,cap) l.length (gR l)/\∀e∈l,e.s.size<=maxLen
theorem AO.nil(w:World)(base:Nat):AO w base none 0 []:=⟨iY _ _ _ _,fun e f=>by cases f⟩
theorem EO.nil(w:World)(base:Nat):EO w base none 0 []:=⟨iY _ _ _ _,fun e f=>by cases f⟩
theorem AO.below{w w':World}{base:Nat}{a:Option Addr}{cap:Nat}{l:List Vw.Acc}(h:AO w base a cap l)(hb:Below w w w'):AO w' base a cap l:=⟨gL h.1 hb,h.2⟩
theorem EO.below{w w':World}{base:Nat}{a:Option Addr}{cap:Nat}{l:List gD.Ev}(h:EO w base a cap l)(hb:Below w w w'):EO w' base a cap l:=⟨gL h.1 hb,h.2⟩
theorem AO.mono{w:World}{base e:Nat}{a:Option Addr}{cap:Nat}{l:List Vw.Acc}(h:AO w base a cap l)(hb:e<=base):AO w e a cap l:=⟨hJ h.1 hb,h.2⟩
theorem EO.mono{w:World}{base e:Nat}{a:Option Addr}{cap:Nat}{l:List gD.Ev}(h:EO w base a cap l)(hb:e<=base):EO w e a cap l:=⟨hJ h.1 hb,h.2⟩
theorem AO.as{w:World}{base:Nat}{a:Option Addr}{cap:Nat}{l:List Vw.Acc}(h:AO w base a cap l):As w a l.length cap l:=by
 obtain⟨a',j,e,f⟩:=gK h.1;cases e;exact⟨f,h.2⟩
def gX(err n:Int)(e:Value)(u:Int)(a:Value):Value:=.agg #[err,n,e,u,a]
def uj(w:World)(base:Nat)(v:Value)(a:gE.An):Prop:=∃ea ec aa ac,v=gX a.err a.n (.slice ea a.il.length ec) a.view.upto (.slice aa a.view.ib.length ac)/\EO w base ea ec a.il/\AO w base aa ac a.view.ib
theorem uj.err(w:World)(base:Nat)(e:Int):uj w base (gX e 0 () 0 ()) (gE.nf e):=⟨none,0,none,0,rfl,EO.nil _ _,AO.nil _ _⟩
theorem uj.num(w:World)(base:Nat)(n:Int):uj w base (gX 0 n () 0 ()) (gE.Ak n):=⟨none,0,none,0,rfl,EO.nil _ _,AO.nil _ _⟩
theorem gN{w j:World}{b:Nat}{I K L N O:Value}{t:TypeId}{B:Nat}(hb:Below B w j)(f:B<=b)(h:j.heap[b]?=some (.cells #[I,K,L,N,O] t))(m v1 v2 o q:Value):
  ∃W,(((((j.setCell (b,gy) m).setCell (b,ia) v1).setCell (b,j6) v2).setCell (b,jF) o).setCell (b,pR) q)=W/\W.heap[b]?=some (.cells #[m,v1,v2,o,q] t)/\Below B w W/\gU j W [b]/\
   ∀{base sz n:Nat} {e:TypeId} {v:Value} {xs:List Value},j.ownsRow base e sz v n xs->e≠t->W.ownsRow base e sz v n xs:=by
 have C:gU j (((((j.setCell (b,gy) m).setCell (b,ia) v1).setCell (b,j6) v2).setCell (b,jF) o).setCell (b,pR) q) [b]:=
  (((((gU.refl j [b]).setCell (a:=(b,gy)) (.inl (by simp)) m).setCell (a:=(b,ia)) (.inl (by simp)) v1).setCell (a:=(b,j6)) (.inl (by simp)) v2).setCell (a:=(b,jF)) (.inl (by simp)) o).setCell (a:=(b,pR)) (.inl (by simp)) q
 refine⟨_,rfl,mB (i:=4) (mB (i:=3) (mB (i:=2) (mB (i:=1) (mB (i:=0) h m) v1) v2) o) q,?_,C,fun {base sz n e v xs} E r=>C.own E (fun k G F=>?_)⟩;·exact((((hb.setCell (p:=(b,gy)) f m).setCell (p:=(b,ia)) f v1).setCell (p:=(b,j6)) f v2).setCell (p:=(b,jF)) f o).setCell (p:=(b,pR)) f q
 .obtain rfl:k=b:=by simpa using G
  exact gP E h r F
theorem Ce(base p:Nat)(m:ig)(K:Nat)(w:World)(h:nN w base p m)(I:gE.Ok m.st K):
  Calls prog 23 #[(p,gy)] w fun e w'=>∃v,e=.returned v/\uj w' base v (gE.Ak (gE.kU m.st.gI m.g))/\Below w w w':=by
 have hG:m.g<=40:=I.g;have V:m.D.length<=12:=by have:=I.Eh;simpa[ig.st] using this
 have HS:=gx (h.alloc (.cells #[gy,gy,(),gy,()] 42));have N:=gx (gO w (.cells #[gy,gy,(),gy,()] 42));have b2:(w.alloc (.cells #[gy,gy,(),gy,()] 42)).cell? (p,pR)=some (.int .i64 (m.g:Int)):=gw (i:=4) (h.alloc _).box;have HW:=gx ((iU w.heap.size w).alloc gM (.cells #[gy,gy,(),gy,()] 42));have S:Hid (∀k:Nat,(gW.j9 (gE.blocks m.st.gI (k:Int)) (k:Int) m.D.length).length<=12):=gx fun k=>jY (gW.rW _ _ _) V;have HL:=gx (show m.st.gI.length=m.D.length by simp[ig.st]);obtain⟨G,C⟩:∃G,G=m.g:=⟨_,rfl⟩;rw[<-C] at hG b2⊢;clear C I h;go_enter func23,ntmps23;go_wp2_with fail;obtain⟨E,o⟩:∃E,E=w.alloc (.cells #[gy,gy,(),gy,()] 42):=⟨_,rfl⟩;rw[<-o] at HS N HW b2⊢;have X:w.heap.size<E.heap.size:=by rw[o];simp
 obtain⟨B,F⟩:∃B,B=w.heap.size:=⟨_,rfl⟩;rw[<-F] at N X⊢;clear o;have O:=nc F.symm;replace F:=gx F;go_loopg[3,10] G (fun gg s3 Y wr=>∃(k:Nat) (n:Nat),gg=G-k/\k<=G/\Y=.int .i64 (k:Int)/\s3=.int .i64 (n:Int)/\Hid (n=gE.kU m.st.gI k)/\n<=12*k/\Below E E wr);case atStart=>exact⟨0,0,rfl,by omega,rfl,rfl,gx rfl,by omega,iU _ _⟩
 case round=>
  obtain⟨k,n,rfl,I,rfl,rfl,HN,hn,f⟩:=hrel;obtain⟨wo,rfl⟩:∃wo:World,wo=wr:=⟨_,rfl⟩;have ad:=f.size;have L:=gx (HS.below f);by_cases ae:k<G
  .have ab:=S k;have HH:=gx (show gE.kU m.st.gI (k+1)=gE.kU m.st.gI k+(gW.j9 (gE.blocks m.st.gI (k:Int)) (k:Int) m.D.length).length by rw[<-HL.out];rfl);have Z:=gx (rj base p m (k:Int) wo L (by omega));go_wp2_with fail;go_at_call 50;refine(Z).mono ?_;rintro e w1⟨a1,c1,R1,rfl,M1,e1,v1⟩;have r:=C4 a1 _ c1 R1 (k:Int) w1 M1 (by omega);rw[e1] at r;change Calls _ _ _ _ (Pf (gW.j9 (gE.blocks m.st.gI (k:Int)) (k:Int) m.D.length) w1) at r;generalize Q:gW.j9 (gE.blocks m.st.gI (k:Int)) (k:Int) m.D.length=U at *;replace r:=gx r;replace Q:=gx Q;clear e1 Z;go_wp2_with fail;go_at_call 51;refine(r).mono ?_;rintro e w2⟨a2,c2,rfl,-,v2⟩;go_wp2_with fail;go_roundg (G-(k+1));case measure=>omega
   case rel=>exact⟨k+1,n+U.length,rfl,by omega,by go_num,by go_num,gx (by rw[HH.out,<-HN.out,<-Q.out]),by omega,gH f (gH v1 v2)⟩
  .obtain rfl:k=G:=by omega
   have v1:=gB N f;obtain⟨r0,r1,r2,r3,r4⟩:=jV v1;have f0:∀j,wo.frozen? ⟨B,j,none⟩=false:=fun j=>gA v1;go_wp2_with fail;obtain⟨W,hW,q,P,-,-⟩:=gN (gH HW f) O v1 gy n () gy ();rw[hW];obtain⟨q0,q1,q2,q3,q4⟩:=jV q;refine gS (v:=gX 0 n () 0 ()) (by unfold gX;simp[results,results23,go_sem,q0,q1,q2,q3,q4]) rfl ⟨_,rfl,?_,P⟩;rw[<-HN.out];exact uj.num _ _ _
theorem GQ(base p:Nat)(m:ig)(K:Nat)(w:World)(h:nN w base p m)(hk:gE.Ok m.st K):
  Calls prog 20 #[(p,gy)] w fun e w'=>∃v,e=.returned v/\uj w' base v (gE.look m.st)/\Below w w w':=by
 have HS:=h.alloc (.cells #[gy,gy,(),gy,()] 42);have HV:=gx (gO w (.cells #[gy,gy,(),gy,()] 42));have HW:=gx ((iU w.heap.size w).alloc gM (.cells #[gy,gy,(),gy,()] 42));have ad:base<=w.heap.size:=jY h.le (pp h.lt);have DA:=gx (Bl base p m K _ HS hk);have C:=gx (show gE.look m.st=if (gE.all m.st).2≠0 then gE.nf (gE.all m.st).2 else⟨(Vw.fold Vw.iL (gE.events (gE.all m.st).1)).err,(Vw.fold Vw.iL (gE.events (gE.all m.st).1)).v.upto,[],(Vw.fold Vw.iL (gE.events (gE.all m.st).1)).v⟩ from rfl);clear HS hk h;go_enter func20,ntmps20;go_wp2_with fail;obtain⟨wb,P⟩:∃wb,wb=w.alloc (.cells #[gy,gy,(),gy,()] 42):=⟨_,rfl⟩;rw[<-P] at DA HV HW⊢;have af:w.heap.size<wb.heap.size:=by rw[P];simp
 obtain⟨B,hB⟩:∃B,B=w.heap.size:=⟨_,rfl⟩;rw[<-hB] at HV af⊢;clear P;have V:=nc hB.symm;replace hB:=gx hB;go_at_call 43;refine(DA).mono ?_;rintro e w1⟨a1,n1,c1,E,e1,rfl,L,G,b1,ai,O⟩;rw[G] at C;have v1:=gB HV b1;replace b1:=gH HW b1;clear DA;by_cases Z:e1=0
 .subst Z;replace C:=gx (C.trans (gC (fun e=>e rfl)));have DE:=gx (uY a1 n1 c1 E w1 L (by omega) (fun r hr=>by have:=O r hr;omega));clear G L O;go_wp2_with fail;go_at_call 44;refine(DE).mono ?_;rintro e w2⟨a2,c2,rfl,X,b2⟩;have U:=zA 0 none 0 0 [] a2 _ c2 (kV E) w2 (As.nil _) X.es;unfold iJ at U;change Calls _ _ _ _ (z9 (Vw.fold Vw.iL (kV E)) w2) at U;rw[show gE.events (List.map Rb.ba E,(0:Int)).1=kV E from(xv E).symm] at C;generalize Vw.fold Vw.iL (kV E)=F at *;replace U:=gx U;have v2:=gB v1 b2;replace b2:=gH b1 b2;clear DE X v1 b1;go_wp2_with fail;go_at_call 37;refine(U).mono ?_;rintro e S⟨f,n3,o,rfl,I,b3,o3⟩;have ae:=I.jO;subst ae;have v3:=gB v2 b3;have ag:=b2.size;have ah:=b3.size;have ab:=gx (show AO S base f o F.v.ib from⟨hJ o3 (by omega),I.ok⟩);replace b3:=gH b2 b3;clear U v2 b2 I o3;unfold iJ;have Q:=gF (o':=.cells #[F.err,F.at_] 73) (gF (o':=.cells #[F.v.upto,(f,F.v.ib,o)] 30) v3);have r0:((S.alloc (.cells #[F.v.upto,(f,F.v.ib,o)] 30)).alloc (.cells #[F.err,F.at_] 73)).cell? (B,gy)=some (.int .i64 0):=gw Q;have r1:((S.alloc (.cells #[F.v.upto,(f,F.v.ib,o)] 30)).alloc (.cells #[F.err,F.at_] 73)).cell? (B,ia)=some (.int .i64 0):=gw Q;have r2:((S.alloc (.cells #[F.v.upto,(f,F.v.ib,o)] 30)).alloc (.cells #[F.err,F.at_] 73)).cell? (B,j6)=some (.slice none 0 0):=gw Q;have r3:((S.alloc (.cells #[F.v.upto,(f,F.v.ib,o)] 30)).alloc (.cells #[F.err,F.at_] 73)).cell? (B,jF)=some (.int .i64 0):=gw Q;have r4:((S.alloc (.cells #[F.v.upto,(f,F.v.ib,o)] 30)).alloc (.cells #[F.err,F.at_] 73)).cell? (B,pR)=some (.slice none 0 0):=gw Q;have f0:∀j,((S.alloc (.cells #[F.v.upto,(f,F.v.ib,o)] 30)).alloc (.cells #[F.err,F.at_] 73)).frozen? ⟨B,j,none⟩=false:=fun j=>gA Q;have AV:=gx ((ab.below (gZ.alloc gM (.cells #[F.v.upto,(f,F.v.ib,o)] 30))).below (gZ.alloc gM (.cells #[F.err,F.at_] 73)));have bV:=(b3.alloc b3.size (.cells #[F.v.upto,(f,F.v.ib,o)] 30)).alloc (by have:=b3.size;simp;omega) (.cells #[F.err,F.at_] 73);clear v3 b3;go_wp2_with fail;obtain⟨W,hW,q,N,-,Y⟩:=gN bV V Q F.err F.v.upto () F.v.upto (f,F.v.ib,o);rw[hW];obtain⟨q0,q1,q2,q3,q4⟩:=jV q;refine gS (v:=gX F.err F.v.upto () F.v.upto (f,F.v.ib,o)) (by unfold gX;simp[results,results20,go_sem,q0,q1,q2,q3,q4]) rfl ⟨_,rfl,?_,N⟩;rw[C.out];exact⟨none,0,f,o,rfl,EO.nil _ _,Y AV.1 (by decide),AV.2⟩
 .have t0:(e1 !=0)=true:=ij.2 Z;replace C:=gx (C.trans (gG Z));obtain⟨r0,r1,r2,r3,r4⟩:=jV v1;have f0:∀j,w1.frozen? ⟨B,j,none⟩=false:=fun j=>gA v1;replace Z:=gx Z;clear G L O;go_wp2_with fail;obtain⟨W,hW,q,N,-,-⟩:=gN b1 V v1 e1 gy () gy ();rw[hW];obtain⟨q0,q1,q2,q3,q4⟩:=jV q;refine gS (v:=gX e1 0 () 0 ()) (by unfold gX;simp[results,results20,go_sem,q0,q1,q2,q3,q4]) rfl ⟨_,rfl,?_,N⟩;rw[C.out];exact uj.err _ _ _
theorem Cc{P:Program}(w:World)(n:Nat)(t e E:TypeId)(z:Value)(B:P.underlying t=some (.slice e))(C:∀w,(zeroValue e).run P w=.ok z w)(q:∀v∈(Builtin.zeroCells z.cells n).toList,v.oneCell'=true)(g off c:Nat)(F:0<n)
  (f:List Value) (o:TypeId) (r:w.heap[g]?=some (.cells f.toArray o)) (h:off+(Builtin.zeroCells z.cells n).toList.length<=f.length):
  (Builtin.clear_ #[t] E #[.slice (some (g,off)) n c]).run P w=.ok (.tuple #[]) (w.setRow g (splice f off (Builtin.zeroCells z.cells n).toList).toArray):=by
 have j:=run_storeCells_at P g off o (Builtin.zeroCells z.cells n).toList 0 f.toArray w r (by simpa using h) q;simp only[mH] at j;obtain⟨m,rfl⟩:∃m,n=m+1:=⟨n-1,by omega⟩;simp[Builtin.clear_,oi B,C,j,splice]
theorem LB{w:World}{b off n cap:Nat}{l:List gD.Ev}(h:Sl w 3 (some (b,off)) n cap (hQ l))(i:Nat)(hi:i<l.length):
  w.cell? (b,off+i*3)=some (.string l[i].s)/\w.cell? ⟨b,off+i*3+1,none⟩=some (.int .i64 l[i].k)/\w.cell? ⟨b,off+i*3+2,none⟩=some (.int .i64 l[i].n):=by
 have f:=h.len;rw[lq] at f;have e:=tq l i hi;exact⟨h.cell (by omega) e.1,h.cell (by omega) e.2.1,h.cell (by omega) e.2.2⟩
theorem DU(l:List gD.Ev):hQ l=rows Hy l:=rfl
theorem wG(e:gD.Ev):(Hy e).length=3:=rfl
theorem Fy(l:List gD.Ev)(x:gD.Ev)(i:Nat)(hi:i<l.length):(((hQ l).set (i*3) x.s).set (i*3+1) x.k).set (i*3+2) x.n=hQ (l.set i x):=by
 have j:=mJ wG l ⟨x.s,l[i].k,l[i].n⟩ x.s 0 (by decide) i hi rfl;have f:=mJ wG (l.set i ⟨x.s,l[i].k,l[i].n⟩) ⟨x.s,x.k,l[i].n⟩ x.k 1 (by decide) i (by simpa using hi) (by rw[List.getElem_set_self];rfl);have h:=mJ wG ((l.set i ⟨x.s,l[i].k,l[i].n⟩).set i ⟨x.s,x.k,l[i].n⟩) x x.n 2 (by decide) i (by simpa using hi) (by rw[List.getElem_set_self];rfl);simp only[List.set_set] at f h;rw[DU,DU];have e:(rows Hy l).set (i*3) x.s=rows Hy (l.set i ⟨x.s,l[i].k,l[i].n⟩):=j;rw[e,f,h]
theorem Iq{w:World}{base g n cap:Nat}{l:List gD.Ev}(h:w.ownsRow base 78 3 (some (g,gy),n,cap) n (hQ l))(i:Nat)(hi:i<l.length)(x:gD.Ev):
  (((w.setCell (g,i*3) x.s).setCell ⟨g,i*3+1,none⟩ x.k).setCell ⟨g,i*3+2,none⟩ x.n).ownsRow base 78 3 (some (g,gy),n,cap) n (hQ (l.set i x)):=by
 obtain⟨e,f,hb,m,hc,j,o⟩:=js h;have q:=jq (i:=i*3+2) (jq (i:=i*3+1) (jq (i:=i*3) f x.s) x.k) x.n;simp only[jM] at q;refine kQ q hb m hc (by simp only[kH];exact j) ?_;rw[tN,tN,tN,o];exact Fy l x i hi
theorem gU.cell{w w':World}{S:List Nat}{b i:Nat}{u:Value}(h:gU w w' S)(hc:w.cell? (b,i)=some u)(e:b∉S):w'.cell? (b,i)=some u:=by
 have hb:=iM _ _ hc;have:=h.block b hb e;unfold World.cell? at hc⊢;simp only at hc⊢;rw[this];exact hc
theorem xC(x:gD.Ev)(B f off:Nat)(s:ByteArray)(w:World)(hc:w.cell? (B,gy)=some (.pointer (some (f,off))))(hd:w.cell? (f,off+7)=some (.string s)):Calls prog 47 #[jG x,(B,gy)] w (m7 (.bool (!decide (x.s=s))) w):=by
 obtain⟨t,k,n⟩:=x;unfold jG;simp only;have h:=iM _ _ hc;have e:=iM _ _ hd;have q:=(ik (o:=.cells #[t,k,n] 78) h).trans hc;have r:=(ik (o:=.cells #[t,k,n] 78) e).trans hd;have j:(t==s)=decide (t=s):=E9 t s;have m:(t.toList==s.toList)=decide (t=s):=lA t s;generalize decide (t=s)=d at *;go_enter func47,ntmps47;go_wp2_with fail;go_quiet (fail);go_wp2_with fail;go_ret;exact⟨rfl,below_drewN (gZ.alloc gM _) _⟩
def Pc(l:List gD.Ev)(s:ByteArray)(w:World)(e:Ending)(w':World):Prop:=
 Below w w w'/\((∃(i:Nat) (h:i<l.length),e=.returned i/\l[i].s≠s/\∀j (h:j<l.length),j<i->l[j].s=s)∨(e=.returned (.int .i64 (-1))/\∀j (h:j<l.length),l[j].s=s))
theorem FT(a:Option Addr)(n cap:Nat)(l:List gD.Ev)(B G off:Nat)(s:ByteArray)(w:World)(h:Sl w 3 a n cap (hQ l))(hc:w.cell? (B,gy)=some (.pointer (some (G,off))))(hd:w.cell? (G,off+7)=some (.string s)):
  Calls prog 76 #[(a,n,cap),.func (Fn.func 47) #[] #[.pointer (some (B,gy))]] w (Pc l s w):=by
 have O:=gx (show l.length=n from by have:=h.len;rw[lq] at this;omega);have Z:=h.le;have E:=h.max;unfold maxLen at E;have U:=iM _ _ hc;have r:=iM _ _ hd;have X:=gx (fun W (V:Below w w W) x=>xC x B G off s W ((V.cell (p:=(B,gy)) U).trans hc) ((V.cell (p:=(G,off+7)) r).trans hd));clear hc hd U r;go_enter func76,ntmps76;go_wp2_with fail;go_loopg[8] n (fun g s8 wr=>∃m:Nat,g=n-m/\m<=n/\s8=.int .i64 (m:Int)/\Below w w wr/\Hid (∀j (h:j<l.length),j<m->l[j].s=s));case atStart=>exact⟨0,rfl,by omega,rfl,iU _ _,gx (fun j _ q=>absurd q (by omega))⟩
 case round=>
  obtain⟨m,rfl,hm,rfl,hb,I⟩:=hrel;by_cases K:m<n
  .have C:m<l.length:=by rw[O.out];exact K
   obtain⟨b,o,rfl,-⟩:=h.addr (by omega);obtain⟨P,Q,S⟩:=LB (h.below hb) m C;have i0:(0:Int)<=(m:Int):=by omega
   have i1:(m:Int)<(n:Int):=by omega
   have D:=X wr hb l[m];obtain⟨z,F⟩:∃z,l[m]=z:=⟨_,rfl⟩;rw[F] at P Q S D;replace F:=gx F;obtain⟨N,zk,zn⟩:=z;unfold jG at D;simp only at P Q S D;by_cases f:N=s
   .have L:(!decide (N=s))=false:=by rw[kr f];rfl
    rw[L] at D;replace f:=gx f;replace D:=gx D;go_wp2_with fail;go_at_call 47;refine(D).mono ?_;rintro e w1⟨rfl,b1⟩;go_wp2_with fail;go_roundg (n-(m+1));case measure=>omega
    case rel=>
     refine⟨m+1,rfl,by omega,by go_num,gH hb b1,gx (fun j q Y=>?_)⟩;by_cases e:j=m;·subst e;rw[F.out];exact f
     .exact I j q (by omega)
   .have L:(!decide (N=s))=true:=by rw[ju f];rfl
    rw[L] at D;replace f:=gx f;replace D:=gx D;go_wp2_with fail;go_at_call 47;refine(D).mono ?_;rintro e w1⟨rfl,b1⟩;go_wp2_with fail;go_ret;exact⟨gH hb b1,.inl ⟨m,C,rfl,by rw[F.out];exact f,I⟩⟩
  .obtain rfl:m=n:=by omega
   go_wp2_with fail;go_ret;exact⟨hb,.inr ⟨rfl,fun j q=>I j q (by rw[<-O.out];exact q)⟩⟩
theorem GH(w:World):(zeroValue 78).run prog w=.ok (.agg #[.string ⟨#[]⟩,gy,gy]) w:=by
 obtain⟨i,hi,e,-,-⟩:=jW qF;simp[zeroValue,typeInfo,hi,e]
theorem G4(k:Nat):∀v∈(Builtin.zeroCells (Value.agg #[.string ⟨#[]⟩,gy,gy]).cells k).toList,v.oneCell'=true:=by
 intro v h;obtain⟨j,m,rfl⟩:=rA h;have f:j%3=0∨j%3=1∨j%3=2:=by omega
 have e:(Builtin.zeroCells (Value.agg #[.string ⟨#[]⟩,gy,gy]).cells k).toList[j]=(#[.string ⟨#[]⟩,.int .i64 0,.int .i64 0]:Array Value)[j%3]!:=by simp only[Builtin.zeroCells,Array.toList_map,rB,Array.toList_range,yA];rfl
 rw[e];rcases f with f|f|f<;>rw[f]<;>rfl
def mj(s:ByteArray)(l:List gD.Ev):List gD.Ev:=l.filter fun x=>decide (x.s=s)
theorem FY{s:ByteArray}{l:List gD.Ev}(h:∀j (h:j<l.length),l[j].s=s):mj s l=l:=by
 unfold mj;refine List.filter_eq_self.2 (fun x f=>?_);obtain⟨j,e,rfl⟩:=rA f;exact kr (h j e)
theorem Ih{s:ByteArray}{l:List gD.Ev}{i:Nat}(hi:i<l.length)(f:l[i].s≠s)(h:∀j (h:j<l.length),j<i->l[j].s=s):l.take i=mj s (l.take (i+1)):=by
 rw[qg,jz hi];unfold mj;rw[tS];have e:(l.take i).filter (fun x=>decide (x.s=s))=l.take i:=FY (l:=l.take i) (fun j m=>by rw[jh] at m;rw[List.getElem_take];exact h j (by omega) (by omega))
 rw[e];simp[f]
theorem NN{s:ByteArray}{l:List gD.Ev}{j:Nat}(f:j<l.length)(e:l[j].s≠s):mj s (l.take (j+1))=mj s (l.take j):=by
 rw[qg,jz f];unfold mj;rw[tS];simp[e]
theorem LV{s:ByteArray}{l:List gD.Ev}{j:Nat}(f:j<l.length)(e:l[j].s=s):mj s (l.take (j+1))=mj s (l.take j)++[l[j]]:=by
 rw[qg,jz f];unfold mj;rw[tS];simp[e]
theorem Cg{α:Type}(X:List α)(i:Nat)(x:α)(hi:i<X.length):(X.set i x).take (i+1)=X.take i++[x]:=by
 rw[qg,sZ hi,List.take_set_of_le gM];rfl
theorem Fs{α:Type}(X:List α)(i j:Nat)(x:α)(hi:i<j):(X.set i x).drop j=X.drop j:=List.drop_set_of_lt hi
theorem BU(a:Option Addr)(n cap:Nat)(l:List gD.Ev)(B db off base:Nat)(s:ByteArray)(w:World)(h:w.ownsRow base 78 3 (a,n,cap) n (hQ l))(hc:w.heap[B]?=some (.cells #[(db,off)] 48))(hd:w.cell? (db,off+7)=some (.string s))(aE:db<base):
  Calls prog 46 #[(a,n,cap),.func (Fn.func 47) #[] #[.pointer (some (B,gy))]] w fun e w'=>∃n',e=.returned (.slice a n' cap)/\w'.ownsRow base 78 3 (.slice a n' cap) n' (hQ (mj s l))/\w.grownBy w' (Value.slice a n cap).ownBlock:=by
 have HN:=gx (show l.length=n from by have:=h.1;rw[lq] at this;omega);obtain⟨a',S,e',F⟩:=gK h;cases e';have aJ:=F.le;have ar:=F.max;unfold maxLen at ar;have DI:=gx (FT a n cap l B db off s w F (gw hc) hd);go_enter func46,ntmps46;go_wp2_with fail;go_at_call 76;refine(DI).mono ?_;rintro e w1⟨b1,hf⟩;have K:=gL h b1;have ab:=gB hc b1;have ad:=(b1.cell (p:=(db,off+7)) (iM _ _ hd)).trans hd;rcases hf with⟨i,hi,rfl,ae,af⟩|⟨rfl,ai⟩
 .have aH:i<n:=by rw[<-HN.out];exact hi
  obtain⟨g,cp,e',ay,aF,aG,az⟩:=jR h (by omega);cases e';have K0:=gx (Ih hi ae af);replace ae:=gx ae;replace af:=gx af;have aA:g≠B:=fun e=>gP h hc (by decide) (by rw[e];rfl);have al:g≠db:=by omega
  have HC:=gx ab;have HD:=gx ad;have BB:=gx b1;have OO:=gx h;have OS:((i:Int)==-1)=false:=jB.2 (by omega);have aK:IntKind.i64.wrap ((i:Int)+1)=((i+1:Nat):Int):=by rw[iO _ (by omega)];omega
  clear F DI hc hd ab ad b1 h;go_wp2_with fail;go_loopg[5,6] (n-(i+1)) (fun gg s5 s6 wr=>∃(q j:Nat) (X:List gD.Ev),gg=n-j/\q<j/\j<=n/\s5=.int .i64 (q:Int)/\s6=.int .i64 (j:Int)/\Hid (wr.ownsRow base 78 3 (some (g,gy),n,cap) n (hQ X))/\Hid (gU w1 wr [g])/\Hid (X.length=n)/\Hid (X.take q=mj s (l.take j))/\Hid (X.drop j=l.drop j));case atStart=>exact⟨i,i+1,l,rfl,by omega,by omega,rfl,rfl,gx K,gx (gU.refl _ _),HN,K0,gx rfl⟩
  case round=>
   clear K;obtain⟨q,j,X,rfl,aP,aI,rfl,rfl,HO,Q,HX,HT,HR⟩:=hrel;obtain⟨wo,rfl⟩:∃wo:World,wo=wr:=⟨_,rfl⟩;obtain⟨m,O,-,-,-,N,ax⟩:=js HO;by_cases aq:j<n
   .have ao:j<X.length:=by rw[HX.out];exact aq
    have ag:j<l.length:=by rw[HN.out];exact aq
    have aj:q<X.length:=by omega
    have aw:=gx (show X[j]=l[j] from by have K:=congrArg (fun(z:List gD.Ev)=>z[0]?) HR;simp only[qY,mH] at K;rw[jz ao,jz ag] at K;exact kO K)
    have ak:=gx (show X.drop (j+1)=l.drop (j+1) from by have K:=congrArg (fun(z:List gD.Ev)=>z.drop 1) HR;simpa[List.drop_drop] using K)
    obtain⟨a',S,e',hs⟩:=gK HO;cases e';obtain⟨e0,e1,e2⟩:=LB hs j ao;simp only[jk] at e0 e1 e2;have i0:(0:Int)<=(j:Int):=by omega
    have i1:(j:Int)<(n:Int):=by omega
    have kB:=Q.jJ HC (by simpa using fun e=>aA e.symm);have kD:=Q.cell HD (by simpa using fun e=>al e.symm);have C:=gx (@NN s l j ag);have E:=gx (@LV s l j ag);obtain⟨z,hz⟩:∃z,X[j]=z:=⟨_,rfl⟩;rw[<-aw.out,hz] at C E;rw[hz] at e0 e1 e2;replace hz:=gx hz;obtain⟨G,W,Y⟩:=z;simp only at e0 e1 e2 C E;have D:=gx (xC ⟨G,W,Y⟩ B db off s _ (gw (gF (o':=.cells #[G,W,Y] 78) kB)) ((ik (o:=.cells #[G,W,Y] 78) (iM _ _ kD)).trans kD));unfold jG at D;simp only at D;have I:=gx (gL HO (gZ.alloc gM (.cells #[G,W,Y] 78)));have L:=gx (Q.alloc (.cells #[G,W,Y] 78));have hV:=gO wo (.cells #[G,W,Y] 78);have aL:IntKind.i64.wrap ((j:Int)+1)=((j+1:Nat):Int):=by rw[iO _ (by omega)];omega
    have aM:IntKind.i64.wrap ((q:Int)+1)=((q+1:Nat):Int):=by rw[iO _ (by omega)];omega
    by_cases f:G=s
    .have t0:(!decide (G=s))=false:=by rw[kr f];rfl
     rw[t0] at D;have ah:=gx (E f);replace f:=gx f;clear C E kB kD hs O;go_wp2_with fail;go_at_call 47;refine(D).mono ?_;rintro e w2⟨rfl,b2⟩;have v2:=gB hV b2;have O2:=gx (gL I b2);have Y2:=gx (L.below b2);obtain⟨a',S,e',au⟩:=gK O2;cases e';obtain⟨r0,r1,r2⟩:=LB au q aj;simp only[jk] at r0 r1 r2;obtain⟨aC,V,-⟩:=js O2;have f0:∀j,w2.frozen? ⟨g,j,none⟩=false:=fun j=>gA V;obtain⟨x0,x1,x2⟩:=PP v2;have j0:(0:Int)<=(q:Int):=by omega
     have j1:(q:Int)<(n:Int):=by omega
     clear au V v2 hV b2 e0 e1 e2 D I L;go_wp2_with fail;go_roundg (n-(j+1));case measure=>omega
     case rel=>
      refine⟨q+1,j+1,X.set q ⟨G,W,Y⟩,rfl,by omega,by omega,by go_num,by go_num,gx (Iq O2 q aj ⟨G,W,Y⟩),gx (((Y2.setCell (a:=(g,q*3)) (.inl (by simp)) _).setCell (a:=⟨g,q*3+1,none⟩) (.inl (by simp)) _).setCell (a:=⟨g,q*3+2,none⟩) (.inl (by simp)) _),gx (by rw[kH];exact HX),gx ?_,gx ?_⟩;·rw[Cg X q _ aj,HT.out,ah.out]
      .rw[Fs X q (j+1) _ (by omega)];exact ak
    .have t0:(!decide (G=s))=true:=by rw[ju f];rfl
     rw[t0] at D;have ah:=gx (C f);replace f:=gx f;clear C E kB kD hs O;go_wp2_with fail;go_at_call 47;refine(D).mono ?_;rintro e w2⟨rfl,b2⟩;have O2:=gx (gL I b2);have Y2:=gx (L.below b2);clear e0 e1 e2 D I L hV b2;go_wp2_with fail;go_roundg (n-(j+1));case measure=>omega
     case rel=>exact⟨q,j+1,X,rfl,by omega,by omega,rfl,by go_num,O2,Y2,HX,gx (by rw[ah.out];exact HT),ak⟩
   .obtain rfl:j=n:=by omega
    have P:((Builtin.zeroCells (Value.agg #[.string ⟨#[]⟩,gy,gy]).cells (j-q)).toList).length=(j-q)*3:=by rw[uW,qh];rfl
    have U:∀ty cc,(Builtin.clear_ #[40] ty #[.slice (some (g,q*3)) (j-q) cc]).run prog wo=.ok (.tuple #[]) (wo.setRow g (splice m (q*3) (Builtin.zeroCells (Value.agg #[.string ⟨#[]⟩,gy,gy]).cells (j-q)).toList).toArray):=fun ty cc=>
     Cc wo (j-q) 40 78 ty (.agg #[.string ⟨#[]⟩,gy,gy]) underlying40 (fun w=>GH w) (G4 _) g (q*3) cc (by omega) m 78 O (by rw[P,N];omega)
    have aD:¬(cap=q):=by omega
    have aO:(q:Int)<=(j:Int):=by omega
    have aN:(0:Int)<=(q:Int):=by omega
    have aB:q<=cap:=by omega
    have HF:=gx U;obtain⟨Z,hZ⟩:∃Z,Z=(Builtin.zeroCells (Value.agg #[.string ⟨#[]⟩,gy,gy]).cells (j-q)).toList:=⟨_,rfl⟩;rw[<-hZ] at U P;have HZ:=gx P;clear HF P hZ;go_wp2_with fail;go_ret;refine⟨q,rfl,kQ (nC wo g m.toArray (splice m (q*3) Z).toArray 78 (0,0) O) ay aB az ?_ ?_,?_⟩;·rw[length_splice _ _ _ (by rw[HZ.out,N];omega),N]
    .unfold splice;rw[List.take_append_of_le_length (by rw[jh,N];omega),List.take_take,Nat.min_self];have e1:m.take (q*3)=(m.take (j*3)).take (q*3):=by rw[List.take_take,pE (by omega)]
     rw[e1,ax,DU,<-yQ wG,<-DU,HT.out,ld (by rw[HN.out];exact jb _)]
    .have hY:=((gU.refl w [g]).below BB);have r:gU w wo [g]:=⟨Q.os.trans hY.os,Q.tape.trans hY.tape,Q.output.trans hY.output,jY hY.size Q.size,fun k hk hn=>(Q.block k (qK hk hY.size) hn).trans (hY.block k hk hn)⟩;refine⟨r.os,r.tape,r.output,by simpa[World.setRow] using r.size,fun k hk hn=>?_⟩;have ap:k≠g:=fun e=>hn (by rw[e];rfl);rw[oF _ g k _ ap];exact r.block k hk (by simpa using ap)
 .have hk:=gx (FY ai);replace ai:=gx ai;clear F DI ab ad;go_wp2_with fail;go_ret;exact⟨n,rfl,by rw[hk.out];exact K,mE b1 _⟩
structure IY (w:World) (db off:Nat) (d:gE.Do):Prop where
 kind:w.cell? (db,off)=some (.int .i64 d.kind)
 n:w.cell? (db,off+1)=some (.int .i64 d.n)
 jy:w.cell? (db,off+2)=some (.int .i64 d.jy)
 t:w.cell? (db,off+3)=some (.int .i64 d.t)
 y:w.cell? (db,off+4)=some (.int .u8 (d.y.toNat:Int))
 c:w.cell? (db,off+5)=some (.int .i64 d.b.c)
 il:∃a n cap,w.cell? (db,off+6)=some (.slice a n cap)/\Es w a n cap d.b.il
 stream:w.cell? (db,off+7)=some (.string d.stream)
 ll:w.cell? (db,off+8)=some (.int .i64 d.ll)
 ok:d.stream.size<=maxLen
theorem IY.lt{w:World}{e off:Nat}{d:gE.Do}(h:IY w e off d):e<w.heap.size:=iM _ _ h.kind
theorem IY.below{w w':World}{e off:Nat}{d:gE.Do}(h:IY w e off d)(hb:Below w w w'):IY w' e off d:=by
 have c:∀{i u},w.cell? ⟨e,i,none⟩=some u->w'.cell? ⟨e,i,none⟩=some u:=fun hc=>(hb.cell (p:=⟨e,_,none⟩) h.lt).trans hc;obtain⟨a,n,cap,f,j⟩:=h.il;exact⟨c h.kind,c h.n,c h.jy,c h.t,c h.y,c h.c,⟨a,n,cap,c f,j.below hb⟩,c h.stream,c h.ll,h.ok⟩
theorem zu(ea:Option Addr)(e ec k:Nat)(j:k<=e)(W:World):(Instr.slice 40 (ea,e,ec) (some (.int .i64 (k:Int))) none none).run prog W=.ok (.slice (if ec=k then ea else ea.map (·.add (k*3))) (e-k) (ec-k)) W:=by
 have f:(0:Int)<=(k:Int):=by omega
 have h:(k:Int)<=(e:Int):=by omega
 refine(run_slice_l (P:=prog) (w:=W) (t:=40) (a:=ea) (len:=e) (cap:=ec) underlying40 .i64 (k:Int) f h).trans ?_;simp only[lS];rfl
theorem DK(l:List gD.Ev)(k:Nat):hQ (l.drop k)=(hQ l).drop (k*3):=yP wG l k
theorem Es.OQ{w:World}{a:Option Addr}{n cap:Nat}{l:List gD.Ev}(h:Sl w 3 a n cap (hQ l)){k:Nat}(e:k<=n):Sl w 3 (if cap=k then a else a.map (·.add (k*3))) (n-k) (cap-k) (hQ (l.drop k)):=by
 have:=Sl.slice h e (jb n);rw[DK];rwa[ld (by rw[kG,h.len,<-Nat.sub_mul];exact jb _)] at this
theorem zz(base p:Nat)(m:ig)(K:Nat)(Q off:Nat)(d:gE.Do)(w:World)(h:nN w base p m)(hk:gE.Ok m.st K)(hd:IY w Q off d):
  Calls prog 19 #[(p,gy),(Q,off)] w fun e w'=>∃v,e=.returned v/\uj w' base v (gE.read m.st d)/\Below w w w':=by
 have HS:=(h.alloc (.cells #[(Q,off)] 48)).alloc (.cells #[gy,gy,(),gy,()] 42);have HP:=gx (gF (o':=.cells #[gy,gy,(),gy,()] 42) (gO w (.cells #[(Q,off)] 48)));have HV:=gx (gO (w.alloc (.cells #[(Q,off)] 48)) (.cells #[gy,gy,(),gy,()] 42));have HW:=gx (((iU w.heap.size w).alloc gM (.cells #[(Q,off)] 48)).alloc (by simp) (.cells #[gy,gy,(),gy,()] 42));have aw:base<=w.heap.size:=jY h.le (pp h.lt);have DA:=gx (Bl base p m K _ HS hk);have f:=gx (show gE.read m.st d=if (gE.all m.st).2≠0 then gE.nf (gE.all m.st).2 else if d.kind=3 then(if d.n<0∨((gE.events (gE.all m.st).1).length:Int)<d.n then gE.nf 3 else⟨0,(gE.events (gE.all m.st).1).length,(gE.events (gE.all m.st).1).drop d.n.toNat,Vw.iL⟩) else if gD.named (gD.kP d.stream)=false then gE.nf 7 else⟨0,((gE.events (gE.all m.st).1).filter fun x=>decide (x.s=d.stream)).length,(gE.events (gE.all m.st).1).filter fun x=>decide (x.s=d.stream),Vw.iL⟩ from rfl);have aB:=hd.lt;have HD:=gx hd;clear HS hk h hd;go_enter func19,ntmps19;go_wp2_with fail;obtain⟨wb,ai⟩:∃wb,wb=(w.alloc (.cells #[(Q,off)] 48)).alloc (.cells #[gy,gy,(),gy,()] 42):=⟨_,rfl⟩;rw[<-ai] at DA HP HV HW⊢;have ax:w.heap.size+1<wb.heap.size:=by rw[ai];simp
 simp only[jH] at HV;obtain⟨B,hB⟩:∃B,B=w.heap.size+1:=⟨_,rfl⟩;rw[<-hB] at HV ax⊢;obtain⟨P,hP⟩:∃P,P=w.heap.size:=⟨_,rfl⟩;rw[<-hP] at HP⊢;clear ai;have O:w.heap.size<=B:=by omega
 have aF:P≠B:=by omega
 have aD:B≠P:=by omega
 replace hB:=gx hB;replace hP:=gx hP;go_at_call 43;refine(DA).mono ?_;rintro e w1⟨a1,n1,c1,R1,e1,rfl,ab,af,b1,aG,ad⟩;rw[af] at f;have v1:=gB HV b1;have P1:=gB HP b1;replace b1:=gH HW b1;clear DA;by_cases hz:e1=0
 .subst hz;replace f:=gx (f.trans (gC (fun e=>e rfl)));have DE:=gx (uY a1 n1 c1 R1 w1 ab (by omega) (fun r hr=>by have:=ad r hr;omega));have ar:=rF R1 10 ad;have ao:=ab.n;rw[show gE.events (List.map Rb.ba R1,(0:Int)).1=kV R1 from(xv R1).symm] at f;clear af ab ad;generalize kV R1=E at *;have aE:E.length<=100000:=by omega
  clear ar ao;go_wp2_with fail;go_at_call 44;refine(DE).mono ?_;rintro e w2⟨a2,c2,rfl,C,b2⟩;have v2:=gB v1 b2;have P2:=gB P1 b2;have aq:=b1.size;have aC:=b2.size;replace b2:=gH b1 b2;have D2:=gx (HD.below b2);clear DE v1 P1;have p0:w2.cell? (P,gy)=some (.pointer (some (Q,off))):=gw P2;have k0:w2.cell? (Q,off)=some (.int .i64 d.kind):=D2.kind;have k1:w2.cell? (Q,off+1)=some (.int .i64 d.n):=D2.n;have k7:w2.cell? (Q,off+7)=some (.string d.stream):=D2.stream;obtain⟨r0,r1,r2,r3,r4⟩:=jV v2;have f0:∀j,w2.frozen? ⟨B,j,none⟩=false:=fun j=>gA v2;by_cases L:d.kind=3
  .replace f:=gx (f.trans (gG L));have t3:(d.kind==3)=true:=by simpa using L
   replace L:=gx L;by_cases o:d.n<0∨(E.length:Int)<d.n
   .replace f:=gx (f.trans (gG o));rcases oj (d.n<0) with BL|BL
    .have N:=gx C;clear o C;go_wp2_with fail;obtain⟨W,S,q,F,-,G⟩:=gN b2 O v2 jF gy () gy ();rw[S];obtain⟨U,V,X,Y,Z⟩:=jV q;refine gS (v:=gX (3) (0) () (0) ()) (by unfold gX;simp[results,results19,go_sem,U,V,X,Y,Z]) rfl ⟨_,rfl,?_,F⟩;rw[f.out];exact uj.err _ _ _
    .have ae:(E.length:Int)<d.n:=by rcases o with h|h;exact absurd h BL;exact h
     have N:=gx C;clear o C;go_wp2_with fail;obtain⟨W,S,q,F,-,G⟩:=gN b2 O v2 jF gy () gy ();rw[S];obtain⟨U,V,X,Y,Z⟩:=jV q;refine gS (v:=gX (3) (0) () (0) ()) (by unfold gX;simp[results,results19,go_sem,U,V,X,Y,Z]) rfl ⟨_,rfl,?_,F⟩;rw[f.out];exact uj.err _ _ _
   .replace f:=gx (f.trans (gC o));have BL:¬d.n<0:=fun h=>o (.inl h);have ae:¬(E.length:Int)<d.n:=fun h=>o (.inr h);obtain⟨k,ah⟩:=jD (a:=d.n) (by omega);rw[ah] at k1 f BL ae;simp only[lS] at f;replace ah:=gx ah;have ak:k<=E.length:=by omega
    obtain⟨a',aA,e',ap⟩:=gK C.1;cases e';have au:=fun W=>zu a2 E.length c2 k ak W;have Ie:=Es.OQ ap ak;have DC:=gx (wv _ _ _ _ w2 Ie (qz _) (by omega));have oz:=gx C.2;clear o C ap Ie;generalize (if c2=k then a2 else a2.map (·.add (k*3)))=da at *;generalize ag:E.length-k=dn at *;generalize c2-k=dc at *;replace ag:=gx ag;go_wp2_with fail;go_at_call 38;refine(DC).mono ?_;rintro e w3⟨v3,rfl,b3,o3⟩;obtain⟨a3,c3,rfl,-⟩:=gK o3;have aj:=gx (show(E.drop k).length=dn by rw[kG,ag.out]);have vv:=gB v2 b3;have ay:=hJ o3 (show base<=_ by omega);replace b3:=gH b2 b3;clear r0 r1 r2 r3 r4 f0 o3 v2 b2 DC au;obtain⟨r0,r1,r2,r3,r4⟩:=jV vv;have f0:∀j,w3.frozen? ⟨B,j,none⟩=false:=fun j=>gA vv;go_wp2_with fail;obtain⟨W,S,q,F,-,G⟩:=gN b3 O vv gy ((E.length:Int)) (a3,dn,c3) gy ();rw[S];obtain⟨U,V,X,Y,Z⟩:=jV q;refine gS (v:=gX (0) ((E.length:Int)) (a3,dn,c3) (0) ()) (by unfold gX;simp[results,results19,go_sem,U,V,X,Y,Z]) rfl ⟨_,rfl,?_,F⟩;rw[f.out];exact⟨a3,c3,none,0,by rw[aj.out];rfl,⟨by rw[aj.out];exact G ay (by decide),fun e he=>oz e (tD he)⟩,AO.nil _ _⟩
  .replace f:=gx (f.trans (gC L));have t3:(d.kind==3)=false:=by simpa using L
   replace L:=gx L;have DN:=tl d.stream HD.ok w2;by_cases I:gD.named (gD.kP d.stream)=false
   .replace f:=gx (f.trans (gG I));rw[I] at DN;replace DN:=gx DN;replace I:=gx I;have N:=gx C;clear C;go_wp2_with fail;go_at_call 45;refine(DN).mono ?_;rintro e w3⟨rfl,rfl⟩;go_wp2_with fail;obtain⟨W,S,q,F,-,G⟩:=gN b2 O v2 ps gy () gy ();rw[S];obtain⟨U,V,X,Y,Z⟩:=jV q;refine gS (v:=gX (7) (0) () (0) ()) (by unfold gX;simp[results,results19,go_sem,U,V,X,Y,Z]) rfl ⟨_,rfl,?_,F⟩;rw[f.out];exact uj.err _ _ _
   .replace f:=gx (f.trans (gC I));have I:gD.named (gD.kP d.stream)=true:=by simpa using I
    rw[I] at DN;replace DN:=gx DN;replace I:=gx I;have DD:=gx (BU a2 _ c2 E P Q off w1.heap.size d.stream w2 C.1 P2 k7 (by omega));have N:=gx C;clear C;go_wp2_with fail;go_at_call 45;refine(DN).mono ?_;rintro e w3⟨rfl,rfl⟩;go_wp2_with fail;go_at_call 46;refine(DD).mono ?_;rintro e w4⟨n4,rfl,o4,g4⟩;have vv:=ie N.1 g4 v2 (by decide);have b4:Below w w w4:=qw (hJ N.1 aq) b2 b2.size g4;have al:=gx (show(mj d.stream E).length=n4 from by have:=o4.1;rw[lq] at this;omega);have oz:=gx N.2;have az:=hJ o4 (show base<=_ by omega);clear r0 r1 r2 r3 r4 f0 o4 g4 v2 b2 DD N P2 p0 k0 k1 k7;obtain⟨r0,r1,r2,r3,r4⟩:=jV vv;have f0:∀j,w4.frozen? ⟨B,j,none⟩=false:=fun j=>gA vv;go_wp2_with fail;obtain⟨W,S,q,F,-,G⟩:=gN b4 O vv gy ((n4:Int)) (a2,n4,c2) gy ();rw[S];obtain⟨U,V,X,Y,Z⟩:=jV q;refine gS (v:=gX (0) ((n4:Int)) (a2,n4,c2) (0) ()) (by unfold gX;simp[results,results19,go_sem,U,V,X,Y,Z]) rfl ⟨_,rfl,?_,F⟩;rw[f.out];exact⟨a2,c2,none,0,by show _=gX 0 ((mj d.stream E).length:Nat) (.slice a2 (mj d.stream E).length c2) 0 _;rw[al.out];rfl,⟨by show World.ownsRow _ _ _ _ (.slice a2 (mj d.stream E).length c2) (mj d.stream E).length (hQ (mj d.stream E));rw[al.out];exact G az (by decide),fun e he=>oz e (mX.1 he).1⟩,AO.nil _ _⟩
 .have t0:(e1 !=0)=true:=ij.2 hz;replace f:=gx (f.trans (gG hz));obtain⟨r0,r1,r2,r3,r4⟩:=jV v1;have f0:∀j,w1.frozen? ⟨B,j,none⟩=false:=fun j=>gA v1;replace hz:=gx hz;clear af ab ad;go_wp2_with fail;obtain⟨W,S,q,F,-,G⟩:=gN b1 O v1 (e1) gy () gy ();rw[S];obtain⟨U,V,X,Y,Z⟩:=jV q;refine gS (v:=gX (e1) (0) () (0) ()) (by unfold gX;simp[results,results19,go_sem,U,V,X,Y,Z]) rfl ⟨_,rfl,?_,F⟩;rw[f.out];exact uj.err _ _ _
end Go.Proofs.YthhcdfjijagalaaGreat

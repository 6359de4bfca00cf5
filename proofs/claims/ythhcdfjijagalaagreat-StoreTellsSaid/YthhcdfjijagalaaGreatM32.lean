import Derived.Test.YthhcdfjijagalaaGreatM31
set_option linter.all false
set_option maxHeartbeats 8000000
set_option maxRecDepth 100000
namespace Go.Proofs.YthhcdfjijagalaaGreat.gW
open Qz Go.Proofs.Tryz
theorem Ii(l:List (List UInt8))(g d:Int):yX l g d (lu l g d).1 (lu l g d).2:=by
 refine⟨(kX l g d).1,(kX l g d).2,oS l g d,?_⟩;unfold lu;by_cases h:(kX l g d).2≠0;·rw[gG h];exact .inl ⟨h,rfl,rfl⟩
 .rw[gC h];exact .inr ⟨qJ.1 h,pQ _ _ _ _⟩
theorem Gb{l:List (List UInt8)}{g d:Int}{L:List (List UInt8)}{e:Int}(h:yX l g d L e):L=(lu l g d).1/\e=(lu l g d).2:=h.ou (Ii l g d)
end Go.Proofs.YthhcdfjijagalaaGreat.gW
namespace Go.Proofs.YthhcdfjijagalaaGreat.gE
open Qz Go.Proofs.Tryz
def pF(g:Int)(x:Dk):Prop:=(x.bl.map Hd.jy).Pairwise (·<·)/\∀h∈x.bl,0<=h.jy/\h.jy<g
theorem pF.mono{g e:Int}{x:Dk}(h:pF g x)(j:g<=e):pF e x:=⟨h.1,fun y f=>⟨(h.2 y f).1,by have:=(h.2 y f).2;omega⟩⟩
theorem pF.len{g:Int}{x:Dk}(h:pF g x)(j:g<=40):x.bl.length<=40:=by
 have:=rJ _ 0 g h.1 (fun y e=>by obtain⟨z,f,rfl⟩:=iu.1 e;exact h.2 z f)
 rw[iz] at this;omega
theorem uE(l:List Hd)(k:Int)(b:List UInt8):(mK l k b).map Hd.jy=l.map Hd.jy:=by
 induction l with
 |nil=>rfl
 |cons h t e=>unfold mK;split<;>simp[e]
theorem CK(l:List Hd)(k:Int)(b:List UInt8):∀x,x∈(qu l k b).map Hd.jy↔x=k∨x∈l.map Hd.jy:=by
 induction l with
 |nil=>intro x;simp[qu]
 |cons h t e=>
  intro x;unfold qu;split
  .rw[lI,jC,e,lI,jC];constructor;·rintro(h|h|h)<;>simp[h]
   .rintro(h|h|h)<;>simp[h]
  .simp
theorem zO{l:List Hd}{k:Int}(h:find l k=none):∀x∈l,x.jy≠k:=by
 induction l with
 |nil=>intro x hx;cases hx
 |cons a t f=>
  unfold find at h;split at h;·cases h
  .rename_i e;intro x hx;rcases jC.1 hx with rfl|hx
   .exact e
   .exact f h x hx
theorem J4(l:List Hd)(k:Int)(b:List UInt8)(j:(l.map Hd.jy).Pairwise (·<·))(h:∀x∈l,x.jy≠k):((qu l k b).map Hd.jy).Pairwise (·<·):=by
 induction l with
 |nil=>simp[qu]
 |cons a t q=>
  have e:=tG.1 (by simpa using j:(a.jy::t.map Hd.jy).Pairwise (·<·));unfold qu;split
  .rename_i f;rw[lI];refine tG.2 ⟨fun x hx=>?_,q e.2 (fun x hx=>h x (by simp[hx]))⟩;rcases(CK t k b x).1 hx with rfl|hx
   .exact f
   .exact e.1 x hx
  .rename_i o;rw[lI,lI];refine tG.2 ⟨fun x hx=>?_,by simpa using j⟩;have r:=h a (by simp);have m:k<a.jy:=by omega
   rcases jC.1 hx with rfl|hx
   .exact m
   .have:=e.1 x hx;show k<x;omega
theorem pF.put{g:Int}{x:Dk}(h:pF g x){k:Int}(q:0<=k/\k<g)(b:List UInt8):pF g (uZ x k b):=by
 unfold uZ;split;·exact h
 .show pF g ⟨x.gone,oh x.bl k b⟩;unfold oh;split
  .rename_i o;refine⟨J4 _ _ _ h.1 (zO o),fun y j=>?_⟩;have f:y.jy∈(qu x.bl k b).map Hd.jy:=iu.2 ⟨y,j,rfl⟩;rcases(CK x.bl k b _).1 f with e|e
   .rw[e];exact q
   .obtain⟨z,m,e⟩:=iu.1 e;rw[<-e];exact h.2 z m
  .refine⟨by show((mK x.bl k b).map Hd.jy).Pairwise _;rw[uE];exact h.1,fun y j=>?_⟩;have f:y.jy∈(mK x.bl k b).map Hd.jy:=iu.2 ⟨y,j,rfl⟩;rw[uE] at f;obtain⟨z,m,e⟩:=iu.1 f;rw[<-e];exact h.2 z m
theorem uH{e:List Dk}{k:Int}{L:List (List UInt8)}{x:Dk}(h:x∈write e k L):∃y∈e,∃b,x=uZ y k b:=by
 unfold write at h;obtain⟨i,hi,rfl⟩:=iu.1 h;have hi:i<e.length:=mc.1 hi;exact⟨e.getD i ⟨false,[]⟩,by simp[List.getD,hi],_,rfl⟩
theorem lB(e:List Dk)(k:Int)(L:List (List UInt8)):(write e k L).length=e.length:=by simp[write]
theorem uh{e:List Dk}{k g:Int}{L:List (List UInt8)}(h:∀x∈e,pF g x)(f:0<=k/\k<g):∀x∈write e k L,pF g x:=by
 intro x j;obtain⟨y,m,b,rfl⟩:=uH j;exact(h y m).put f b
theorem kq(e:List Dk)(k:Int):(blocks e k).length=e.length:=by simp[blocks]
theorem xx{e E:List Dk}{d:Int}{k:Nat}{c f:Int}(h:iK e d k=(E,c,f))(j:gW.j9 (blocks E k) k E.length=[]):iK e d (k+1)=(E,c,f):=by
 unfold iK;rw[h];simp only[kq];rw[gG j]
theorem zU{e E:List Dk}{d:Int}{k:Nat}{c f:Int}(h:iK e d k=(E,c,f))(j:gW.j9 (blocks E k) k E.length≠[])(m:(gW.lu (blocks E k) k d).2≠0):iK e d (k+1)=(E,c,if f=0 then(gW.lu (blocks E k) k d).2 else f):=by
 unfold iK;rw[h];simp only[kq];rw[gC j,gG m]
theorem xy{j E:List Dk}{d:Int}{k:Nat}{c f:Int}(h:iK j d k=(E,c,f))(m:gW.j9 (blocks E k) k E.length≠[])(o:(gW.lu (blocks E k) k d).2=0):
  iK j d (k+1)=(write E k (gW.lu (blocks E k) k d).1,c+((gW.j9 (blocks E k) k E.length).filter fun i=>!(E.getD i ⟨false,[]⟩).gone).length,f):=by
 unfold iK;rw[h];simp only[kq];rw[gC m,gC (by rw[o];exact fun e=>e rfl)]
end Go.Proofs.YthhcdfjijagalaaGreat.gE
namespace Go.Proofs.YthhcdfjijagalaaGreat
open Qz Go.Proofs.Tryz
namespace gW
theorem Laid.size{b:List UInt8}{g d s:Nat}{S L:List (List UInt8)}(h:Laid b g d s S L){r:List UInt8}(q:r∈L):r.length<=411:=by
 obtain⟨i,hi,rfl⟩:=rA q;have e:i<d+s:=by rw[<-h.len];exact hi
 have f:=h.row e;have j:L.getD i []=L[i]:=by simp[List.getD,hi]
 rw[<-j,f,jT.lx];have m:=h.sh.row e;have o:(((lr b d++S)).getD i []).length=wd b.length d:=m;rw[o];have:=JB (z:=b.length) (d:=d) h.Eh.2 h.z;omega
theorem mv.fit{b:List UInt8}{g d s:Int}{L:List (List UInt8)}(h:mv b g d s L 0):(L.length:Int)=d+s/\g<=39/\∀r∈L,r.length<=411:=by
 obtain⟨j,d',m,S,rfl,rfl,rfl,e⟩:=h.laid rfl;refine⟨by rw[e.len];omega,by have:=e.QO;omega,fun r f=>e.size f⟩
end gW
open Go.RowKit
def Np(base p:Nat)(m:ig)(w:World)(e:Ending)(w':World):Prop:=
 (∃err,err≠0/\e=.returned (.int .i64 err)/\gE.jZ m.st=(m.st,err)/\Below w w w')∨
 ∃f,e=.returned gy/\nN w' base p {m with D:=f,g:=m.g+1,tv:=.slice none 0 0,T:=[]}/\gE.jZ m.st=(ig.st {m with D:=f,g:=m.g+1,tv:=.slice none 0 0,T:=[]},0)/\Kt w w'/\Below base w w'
theorem ML{s:gE.St}(h:(gD.iy s.tail).err≠0):gE.jZ s=(s,(gD.iy s.tail).err):=by unfold gE.jZ;rw[gG h]
theorem MM{s:gE.St}(h:(gD.iy s.tail).err=0)(f:(gW.ni (gD.iy s.tail).l s.iF s.data s.spare).2≠0):gE.jZ s=(s,(gW.ni (gD.iy s.tail).l s.iF s.data s.spare).2):=by
 unfold gE.jZ;rw[gC (by rw[h];exact fun e=>e rfl),gG f]
theorem MN{s:gE.St}(h:(gD.iy s.tail).err=0)(f:(gW.ni (gD.iy s.tail).l s.iF s.data s.spare).2=0):gE.jZ s=({s with gI:=gE.write s.gI s.iF (gW.ni (gD.iy s.tail).l s.iF s.data s.spare).1,iF:=s.iF+1,tail:=[]},0):=by
 unfold gE.jZ;rw[gC (by rw[h];exact fun e=>e rfl),gC (by rw[f];exact fun e=>e rfl)]
theorem GR(base p:Nat)(m:ig)(w:World)(h:nN w base p m)(hd:1<=m.d/\m.d<=8)(hs:0<=m.s/\m.s<=4)(X:(m.D.length:Int)=m.d+m.s)(hg:m.g<=40)(hH:∀x∈m.D,x.H.length<=1000):
  Calls prog 40 #[(p,gy)] w (Np base p m w):=by
 have Q:base<=w.heap.size:=jY h.le (pp h.lt);obtain⟨ta,tc,af,ae⟩:=Ro.bs (show Ro w base m.T from h.il) h.tail;have DE:=gx (Ft ta _ tc m.T w ae);have HS:=gx h;have b5:w.cell? (p,nk)=some (.slice ta m.T.length tc):=by have:=gw (i:=5) h.box;change _=some m.tv at this;rw[this,af]
 have hp:=h.lt;have HH:=gx hH;have S:=gx (@ML m.st);have I:=gx (@MM m.st);have K:=gx (@MN m.st);change Hid ((gD.iy (m.T.map Rb.ba)).err≠0->_) at S;change Hid ((gD.iy (m.T.map Rb.ba)).err=0->(gW.ni (gD.iy (m.T.map Rb.ba)).l (m.g:Int) m.d m.s).2≠0->_) at I;change Hid ((gD.iy (m.T.map Rb.ba)).err=0->(gW.ni (gD.iy (m.T.map Rb.ba)).l (m.g:Int) m.d m.s).2=0->_) at K;change Hid (_->gE.jZ m.st=(m.st,(gD.iy (m.T.map Rb.ba)).err)) at S;change Hid (_->_->gE.jZ m.st=(m.st,(gW.ni (gD.iy (m.T.map Rb.ba)).l (m.g:Int) m.d m.s).2)) at I;change Hid (_->_->gE.jZ m.st=({m.st with gI:=gE.write (m.D.map Dm.dk) (m.g:Int) (gW.ni (gD.iy (m.T.map Rb.ba)).l (m.g:Int) m.d m.s).1,iF:=m.g+1,tail:=[]},0)) at K;clear af ae h hH;generalize gD.iy (m.T.map Rb.ba)=R at *;obtain⟨Rl,Re,U⟩:=R;simp only at DE S I K;obtain⟨G,N⟩:∃G,G=m.g:=⟨_,rfl⟩;obtain⟨O,E⟩:∃O,O=m.d:=⟨_,rfl⟩;obtain⟨ms,F⟩:∃ms,ms=m.s:=⟨_,rfl⟩;rw[<-E] at hd X I K;rw[<-F] at hs X I K;rw[<-N] at hg I K;replace E:=gx E;replace F:=gx F;replace N:=gx N;replace X:=gx X;go_enter func40,ntmps40;go_wp2_with fail;go_at_call 70;refine(DE).mono ?_;rintro e w1⟨v1,rfl,b1,o1⟩;simp only at o1;obtain⟨a1,c1,rfl,B⟩:=gK o1;have B:Bt w1 a1 Rl.length c1 Rl:=B;have bA:=b1.alloc b1.size (.cells #[Re,U] 73);clear DE b5 o1;by_cases hz:Re=0
 .subst hz;have L:=gx (HS.below bA);have C:=gx (B.alloc (.cells #[gy,U] 73));have g4:(w1.alloc (.cells #[gy,U] 73)).cell? (p,pR)=some (.int .i64 (G:Int)):=by rw[N.out];exact gw (i:=4) L.box
  have g0:(w1.alloc (.cells #[gy,U] 73)).cell? (p,gy)=some (.int .i64 O):=by rw[E.out];exact gw (i:=0) L.box
  have g1:(w1.alloc (.cells #[gy,U] 73)).cell? (p,ia)=some (.int .i64 ms):=by rw[F.out];exact gw (i:=1) L.box
  clear B b1 S;go_wp2_with fail;generalize w1.alloc (.cells #[gy,U] 73)=Z at L C g4 g0 g1 bA⊢;have DL:=gx (show∀V,Below Z Z V->Calls prog 71 #[(a1,Rl,c1),G,O,ms] V (fun e w'=>∃a n cap R err,e=.returned (.tuple #[.slice a n cap,.int .i64 err])/\gW.mv Rl (G:Int) O ms (gz R) err/\Below Z Z w'/\BN w' Z.heap.size a n cap R/\w'.cell? (p,pR)=some (.int .i64 (G:Int))/\w'.cell? (p,gy)=some (.int .i64 O)/\w'.cell? (p,ia)=some (.int .i64 ms)) from fun V hV=>
   (Bd a1 _ c1 Rl (G:Int) O ms V (Sl.below C hV)).mono fun e w'⟨a,n,cap,R,err,h1,h2,h3,h4,h5⟩=>by have hb:=gH hV h4;exact⟨a,n,cap,R,err,h1,h3,hb,⟨hJ h5.1 hV.size,fun r Y=>hJ (h5.2 r Y) hV.size⟩,(hb.cell (p:=⟨p,_,none⟩) L.lt).trans g4,(hb.cell (p:=⟨p,_,none⟩) L.lt).trans g0,(hb.cell (p:=⟨p,_,none⟩) L.lt).trans g1⟩)
  go_region_held3 (fun w'=>w'.cell? (p,pR)=some (.int .i64 (G:Int))/\w'.cell? (p,gy)=some (.int .i64 O)/\w'.cell? (p,ia)=some (.int .i64 ms)) (first|(with_reducible exact⟨g4,g0,g1⟩)|exact⟨g4,g0,g1⟩|exact⟨k4,k0,k1⟩|go_keep)
   (first
    |(go_at_call 71;refine(DL _ ?_).mono ?_;(repeat (first|assumption|exact iU _ _|refine below_drewN ?_ _|refine iV ?_));rintro e w2⟨a2,n2,c2,R2,f2,rfl,h2,b2,o2,k4,k0,k1⟩))
  all_goals
   have q:=gW.zP h2;by_cases hf:f2=0
   .subst hf;have f:=h2.fit;have ai:R2.length=n2:=by have:=o2.1.1;rw[oq] at this;omega
    have S2:=gx (L.below b2);have ah:m.D.length=n2:=by have h5:=f.1;rw[gY,ai] at h5;have:=X.out;omega
    have DW:=gx (xD base p m (G:Int) w2 a2 n2 c2 Z.heap.size R2 S2 o2 ah (by have:=X.out;omega) (fun r Y=>by have h5:=f.2.2 r.l (iu.2 ⟨r,Y,rfl⟩);have h6:(Value.slice r.a r.n r.cap).cells.size=1:=rfl;obtain⟨a',c',e',hb⟩:=gK (o2.2 r Y);simp only[Rw.v,kx,kI] at e';have:=Bt.n hb;omega) HH)
    have ad:=gx (K (by simp) q.2.symm);rw[<-q.1] at ad;have B2:=gx (gH bA b2);have aj:=f.2.1;clear q f h2 b2 o2 DL C;go_wp2_with fail;go_at_call 53;refine(DW).mono ?_;rintro e w3⟨rfl,D3,o,P,K3,B3⟩;have t4:w3.cell? (p,pR)=some (.int .i64 (G:Int)):=by rw[N.out];exact gw (i:=4) o.box
    have t5:w3.cell? (p,nk)=some m.tv:=gw (i:=5) o.box;have u4:∀j,w3.frozen? ⟨p,j,none⟩=false:=fun j=>gA o.box;have ak:IntKind.i64.wrap ((G:Int)+1)=((G+1:Nat):Int):=by rw[iO _ (by omega)];omega
    have W:=o.lF 4 (.int .i64 ((G+1:Nat):Int)) {m with D:=D3,g:=G+1} (by rw[N.out];rfl) rfl rfl o.tail o.il o.seen o.ib o.EN;have X2:=W.lF 5 () {m with D:=D3,g:=G+1,tv:=.slice none 0 0,T:=[]} rfl rfl rfl (iY _ _ _ _) (fun r Y=>by cases Y) W.seen W.ib W.EN;have KX:=gx (((Kt.below B2).trans K3.kt).trans ((Kt.lF o 4 (.int .i64 ((G+1:Nat):Int))).trans (Kt.lF W 5 ())));have BX:=gx ((((B2.mono Q).trans B3).setCell (p:=(p,pR)) o.le (.int .i64 ((G+1:Nat):Int))).setCell (p:=(p,nk)) o.le ());have XX:=gx X2;replace P:=gx P;clear W X2 K3 B3 o k4 k0 k1 g4 g0 g1 DW;go_wp2_with fail;go_ret;refine .inr ⟨D3,rfl,by rw[<-N.out];exact XX,?_,KX,BX⟩;rw[ad.out,<-P.out,<-N.out];rfl
   .have ab:=gx (I (by simp) (by rw[<-q.2];exact hf));rw[<-q.2] at ab;have t0:(f2 !=0)=true:=ij.2 hf;have HF:=gx hf;have B2:=gH bA b2;clear hf q h2 b2 o2 DL C;go_wp2_with fail;go_ret;exact .inl ⟨f2,HF,rfl,ab,B2⟩
 .have t0:(Re !=0)=true:=ij.2 hz;have HZ:=gx hz;have ag:=gx (S hz);clear hz S I K;go_wp2_with fail;go_ret;exact .inl ⟨Re,HZ,rfl,ag,bA⟩
end Go.Proofs.YthhcdfjijagalaaGreat
namespace Go.Proofs.YthhcdfjijagalaaGreat
open Qz Go.Proofs.Tryz Go.RowKit
theorem Cy(U:List Nat)(f:Nat->Bool)(j:Nat)(e:j<U.length):((U.take (j+1)).filter f).length=((U.take j).filter f).length+if f U[j]=true then 1 else 0:=by
 rw[qg,jz e,tS,iH];congr 1;simp only[Option.toList_some,List.filter_cons,vI];split<;>rfl
theorem ED(base p:Nat)(m:ig)(K:Nat)(w:World)(h:nN w base p m)(hk:gE.Ok m.st K):
  Calls prog 22 #[(p,gy)] w (j7 base p (gE.jU m.st).1 (gE.jU m.st).2 w):=by
 have hG:m.g<=40:=hk.g;have aQ:m.D.length<=12:=by have:=hk.Eh;simpa[ig.st] using this
 have aM:1<=m.d/\m.d<=8:=hk.d;have a8:0<=m.s:=hk.sp.1;have Z:(m.D.length:Int)=m.d+m.s:=by have:=hk.nd;simpa[ig.st] using this
 have au:=gx (show∀x∈m.D.map Dm.dk,gE.pF (m.g:Int) x from hk.bl);have HS:=gx (h.alloc (.cells #[gy,gy,(),gy,()] 42));have HV:=gx (gO w (.cells #[gy,gy,(),gy,()] 42));have HW:=gx ((iU w.heap.size w).alloc gM (.cells #[gy,gy,(),gy,()] 42));have b4:(w.alloc (.cells #[gy,gy,(),gy,()] 42)).cell? (p,pR)=some (.int .i64 (m.g:Int)):=gw (i:=4) (h.alloc _).box;have aj:base<=w.heap.size:=jY h.le (pp h.lt);have HL:=gx (show gE.jU m.st=({m.st with gI:=(gE.iK (m.D.map Dm.dk) m.d m.g).1},⟨(gE.iK (m.D.map Dm.dk) m.d m.g).2.2,(gE.iK (m.D.map Dm.dk) m.d m.g).2.1,[],Vw.iL⟩) from rfl);obtain⟨gd,cp,e',a4,a5,aN,a6⟩:=jR h.ng (by omega);have ah:=gx e';obtain⟨G,ai⟩:∃G,G=m.g:=⟨_,rfl⟩;obtain⟨md,ae⟩:∃md,md=m.d:=⟨_,rfl⟩;obtain⟨N,hN⟩:∃N,N=m.D.length:=⟨_,rfl⟩;rw[<-ai] at hG b4 HL au;rw[<-ae] at aM HL Z;rw[<-hN] at aQ ah Z;replace ai:=gx ai;replace ae:=gx ae;replace hN:=gx hN;replace Z:=gx Z;clear h hk e' aN;go_enter func22,ntmps22;go_wp2_with fail;obtain⟨wb,ap⟩:∃wb,wb=w.alloc (.cells #[gy,gy,(),gy,()] 42):=⟨_,rfl⟩;rw[<-ap] at HS HV HW b4⊢;have a9:w.heap.size<wb.heap.size:=by rw[ap];simp
 obtain⟨B,hB⟩:∃B,B=w.heap.size:=⟨_,rfl⟩;rw[<-hB] at HV⊢;have aI:=nc hB.symm;have aK:base<=B:=by omega
 replace hB:=gx hB;clear ap;go_loopg[3,4,17] G (fun gg s3 s4 aS wr=>∃(k:Nat) (D:List Dm) (c:Nat) (f:Int),gg=G-k/\k<=G/\aS=.int .i64 (k:Int)/\s3=.int .i64 (c:Int)/\s4=.int .i64 f/\c<=12*k/\Hid (nN wr base p {m with D:=D})/\Hid (Kt wb wr)/\Hid (Below base wb wr)/\Hid (D.length=N)/\Hid (∀x∈D.map Dm.dk,gE.pF (G:Int) x)/\Hid (gE.iK (m.D.map Dm.dk) md k=(D.map Dm.dk,(c:Int),f)));case atStart=>exact⟨0,m.D,0,0,rfl,by omega,rfl,rfl,rfl,by omega,HS,gx (Kt.refl _),gx gZ,gx hN.symm,au,gx rfl⟩
 case round=>
  obtain⟨k,D,c,f,rfl,hk,rfl,rfl,rfl,hc,HX,HK,af,o,I,V⟩:=hrel;obtain⟨wo,rfl⟩:∃wo:World,wo=wr:=⟨_,rfl⟩;have aY:=af.size;by_cases a7:k<G
  .have O:=o.out;have DB:=gx (rj base p _ (k:Int) wo HX (by show D.length<=1000;omega));go_wp2_with fail;go_at_call 50;refine(DB).mono ?_;rintro e w1⟨a1,c1,X,rfl,M1,e1,v1⟩;change Ms w1 a1 D.length c1 X at M1;change gz X=gE.blocks (D.map Dm.dk) (k:Int) at e1;rw[O] at M1⊢;have DD:=gx (C4 a1 N c1 X (k:Int) w1 M1 (by omega));have aG:=gx M1;have E1:=gx e1;clear DB M1 e1;go_wp2_with fail;go_at_call 51;refine(DD).mono ?_;rintro e w2⟨a2,c2,rfl,hU,v2⟩;have a0:=gW.rW (gz X) (k:Int) N;have az:∀u∈gW.j9 (gz X) (k:Int) N,u<N:=fun u hu=>gW.I6 hu;have aF:=gx az;have S1:=gx (show∀(E:List gE.Dk) (hE:E=D.map Dm.dk),gW.j9 (gE.blocks E k) k E.length=gW.j9 (gz X) (k:Int) N from fun E hE=>by rw[hE,E1.out,iz,o.out]);generalize ay:gW.j9 (gz X) (k:Int) N=U at *;replace ay:=gx ay;have bw:=gH v1 v2;have X2:=gx (HX.below bw);have K2:=gx (HK.trans (Kt.below bw));have aA:base<=wo.heap.size:=by omega
   have B2:=gx (af.trans (bw.mono aA));have M2:=gx (aG.below v2);have aW:=bw.size;clear DD az v1;by_cases P:U.length=0
   .have C:U=[]:=qj P;have L:=gx (gE.xx V (by rw[S1.out _ rfl];exact C));have t0:((U.length:Int)==0)=true:=by simpa using P
    subst C;clear P;go_wp2_with fail;go_roundg (G-(k+1));case measure=>omega
    case rel=>exact⟨k+1,D,c,f,rfl,by omega,by go_num,rfl,rfl,by omega,X2,K2,B2,o,I,L⟩
   .have t0:((U.length:Int)==0)=false:=by simpa using P
    have C:U≠[]:=fun e=>P (by rw[e];rfl);have c0:w2.cell? (p,gy)=some (.int .i64 md):=by rw[ae.out];exact gw (i:=0) X2.box
    have DM:=gx (GI a1 N c1 X (k:Int) md w2 M2 (by omega));have S2:=gx (gE.zU V (by rw[S1.out _ rfl];exact C));have S3:=gx (gE.xy V (by rw[S1.out _ rfl];exact C));replace C:=gx C;go_wp2_with fail;go_at_call 52;refine(DM).mono ?_;rintro e w3⟨a3,n3,c3,R3,f3,rfl,-,p3,v3,o3⟩;have BK:=gW.Gb p3;rw[E1.out] at BK;have X3:=gx (X2.below v3);have K3:=gx (K2.trans (Kt.below v3));have B3:=gx (B2.trans (v3.mono (by omega)));have ab:=hU.below v3;have aX:=v3.size;clear DM c0;by_cases hf:f3=0
    .subst hf;obtain⟨rb,rf,-,ad⟩:=p3;have ad:gW.mv rb (k:Int) md ((gz X).length-md) (gz R3) 0:=by
      rcases ad with⟨h1,_,h2⟩|⟨_,h2⟩
      .exact absurd h2.symm h1
      .exact h2
     have F:=ad.fit;rw[E1.out,gE.kq,iz,o.out] at F;have aP:R3.length=n3:=by have:=o3.1.1;rw[oq] at this;omega
     have aL:D.length=n3:=by have h5:=F.1;rw[gY,aP] at h5;omega
     have aD:=gx (show∀r∈R3,r.n<=1000000 from fun r hr=>by have h5:=F.2.2 r.l (iu.2 ⟨r,hr,rfl⟩);obtain⟨a',c',e',hb⟩:=gK (o3.2 r hr);simp only[Rw.v,kx,kI] at e';have:=Bt.n hb;omega)
     have L:=gx (S3 BK.2.symm);rw[<-BK.1,S1.out _ rfl] at L;clear S2 S3 ad F BK;obtain⟨S,ak⟩:∃S:Nat->Bool,S=fun i=>!((D.map Dm.dk).getD i ⟨false,[]⟩).gone:=⟨_,rfl⟩;rw[<-ak] at L;have aC:=gx (show∀i (hi:i<D.length),S i=!D[i].g from fun i hi=>by rw[ak];simp[List.getD,hi,Dm.dk]);clear ak;go_wp2_with fail;go_loopg[3,48] U.length (fun gg s3 aT wr=>∃j:Nat,gg=U.length-j/\j<=U.length/\aT=.int .i64 (j:Int)/\s3=.int .i64 ((c+((U.take j).filter S).length:Nat):Int)/\w3=wr);case atStart=>exact⟨0,rfl,by omega,rfl,by simp,rfl⟩
     case round=>
      obtain⟨j,rfl,hj,rfl,rfl,rfl⟩:=hrel;by_cases aO:j<U.length
      .have al:j<U.length:=aO;obtain⟨ub,uo,rfl,-⟩:=ab.addr (by omega);have u0:w3.cell? (ub,uo+j)=some (.int .i64 ((U[j]:Nat):Int)):=ab.cell (by omega) (AQ al);have aR:=aF _ (iE al);have aq:=gx (Cy U S j al);have aB:U[j]<D.length:=by rw[O];exact aR
       have HG:=aC U[j] aB;have aU:((U.take j).filter S).length<=12:=by have:=vG S (U.take j);rw[jh] at this;omega
       have i0:(0:Int)<=(j:Int):=by omega
       have i1:(j:Int)<(U.length:Int):=by omega
       have aZ:w3.cell? (p,jF)=some (.slice (some (gd,gy)) N cp):=by have:=gw (i:=3) X3.box;change _=some m.dv at this;rw[this,ah.out]
       obtain⟨a',ar,Y,ao⟩:=gK X3.ng;have Y:m.dv=.slice a' D.length ar:=Y;rw[ah.out,O] at Y;cases Y;change Sl w3 2 (some (gd,gy)) D.length cp (rows mT D) at ao;obtain⟨e0,-⟩:=pd ao U[j] aB;simp only[jk] at e0;generalize hu:U[j]=u at *;replace hu:=gx hu;have j0:(0:Int)<=(u:Int):=by omega
       have j1:(u:Int)<(N:Int):=by omega
       clear ao;generalize ((U.take j).filter S).length=q at *;cases hg:D[u].g with
       |true=>
        rw[hg] at e0 HG;replace HG:=gx HG;go_wp2_with fail;go_roundg (U.length-(j+1));case measure=>omega
        case rel=>exact⟨j+1,rfl,by omega,by go_num,by rw[aq.out,HG.out];simp,rfl⟩
       |false=>
        rw[hg] at e0 HG;replace HG:=gx HG;go_wp2_with fail;go_roundg (U.length-(j+1));case measure=>omega
        case rel=>exact⟨j+1,rfl,by omega,by go_num,by rw[aq.out,HG.out];go_num,rfl⟩
      .obtain rfl:j=U.length:=by omega
       rw[ld gM];have hq:=vG S U;have aE:=gx (show∀x∈gE.write (D.map Dm.dk) (k:Int) (gz R3),gE.pF (G:Int) x from gE.uh I (by omega));have DW:=gx (xD base p _ (k:Int) w3 a3 n3 c3 w2.heap.size R3 X3 o3 aL (by omega) aD (fun x hx=>by have:=(I x.dk (iu.2 ⟨x,hx,rfl⟩)).len (by omega);simp only[Dm.dk,iz] at this;omega))
       generalize (U.filter S).length=q at *;clear o3 ab;go_wp2_with fail;go_at_call 53;refine(DW).mono ?_;rintro e w4⟨rfl,D4,X4,aw,K4,B4⟩;have XX:=gx X4;have KK:=gx (K3.trans K4.kt);have BB:=gx (B3.trans B4);have ag:=gx aw;clear X4 K4 B4 DW aw;go_wp2_with fail;go_roundg (G-(k+1));case measure=>omega
       case rel=>
        refine⟨k+1,D4,c+q,f,rfl,by omega,by go_num,by go_num,rfl,by omega,XX,KK,BB,gx ?_,gx ?_,gx ?_⟩
        .have:=congrArg List.length ag;rw[iz,gE.lB,iz] at this;rw[this];exact o
        .rw[ag.out];exact aE
        .rw[L.out];show _=(D4.map Dm.dk,_,_);rw[ag.out];simp
    .have t1:(f3 !=0)=true:=ij.2 hf;have L:=gx (S2 (by rw[<-BK.2];exact hf));rw[<-BK.2] at L;have HF:=gx hf;clear hf p3 BK o3 S2 S3 ab;by_cases Q:f=0
     .subst Q;rw[gG rfl] at L;go_wp2_with fail;go_roundg (G-(k+1));case measure=>omega
      case rel=>exact⟨k+1,D,c,f3,rfl,by omega,by go_num,rfl,rfl,by omega,X3,K3,B3,o,I,L⟩
     .rw[gC Q] at L;have t2:(f==0)=false:=by simpa using Q
      replace Q:=gx Q;go_wp2_with fail;go_roundg (G-(k+1));case measure=>omega
      case rel=>exact⟨k+1,D,c,f,rfl,by omega,by go_num,rfl,rfl,by omega,X3,K3,B3,o,I,L⟩
  .obtain rfl:k=G:=by omega
   have vx:=HK.block B _ 42 HV (by decide);have aH:=(HW.mono aj).trans af;have Kx:=gx ((Kt.below HW).trans HK);rw[V.out] at HL;obtain⟨r0,r1,r2,r3,r4⟩:=jV vx;have f0:∀j,wo.frozen? ⟨B,j,none⟩=false:=fun j=>gA vx;go_wp2_with fail;obtain⟨W,hW,q,aJ,ax,aV⟩:=gN aH aK vx (f) ((c:Int)) () gy ();rw[hW];obtain⟨q0,q1,q2,q3,q4⟩:=jV q;refine gS (v:=gX (f) ((c:Int)) () (0) ()) (by unfold gX;simp[results,results22,go_sem,q0,q1,q2,q3,q4]) rfl ⟨_,{m with D:=D},rfl,?_,(HX).off ax vx (by decide),?_,(Kx).off ax aI,aJ⟩;·rw[HL.out];exact⟨none,0,none,0,rfl,EO.nil _ _,AO.nil _ _⟩
   .rw[HL.out];rfl
def mn(c:Int):List Int->Nat
 |[]=>0
 |x::t=>if x<c then mn c t+1 else 0
theorem uz(c:Int):∀l:List Int,mn c l<=l.length
 |[]=>jb _
 |x::t=>by unfold mn;have:=uz c t;split<;>simp<;>omega
theorem El(c:Int):∀(l:List Int) (j:Nat) (h:j<l.length),j<mn c l->l[j]<c
 |[],j,h,_=>absurd h (by simp)
 |x::t,j,h,hj=>by
  unfold mn at hj;split at hj
  .rename_i e;cases j with
   |zero=>exact e
   |succ j=>exact El c t j (by simpa using h) (by omega)
  .omega
theorem Ek(c:Int):∀(l:List Int) (h:mn c l<l.length),¬l[mn c l]<c
 |[],h=>absurd h (by simp)
 |x::t,h=>by
  by_cases f:x<c
  .have e:mn c (x::t)=mn c t+1:=by show(if x<c then _ else _)=_;rw[gG f]
   have j:mn c t<t.length:=by rw[e] at h;simpa using h
   have:=Ek c t j;simpa[e] using this
  .have e:mn c (x::t)=0:=by show(if x<c then _ else _)=_;rw[gC f]
   simpa[e] using f
theorem Ki{c:Int}{l:List Int}{i:Nat}(hi:i<=l.length)(e:∀j (h:j<l.length),j<i->l[j]<c)(f:∀j (h:j<l.length),i<=j->c<=l[j]):i=mn c l:=by
 have m:=uz c l;rcases Nat.lt_trichotomy i (mn c l) with h|h|h
 .have a:=El c l i (by omega) h;have b:=f i (by omega) gM;omega
 .exact h
 .have a:=Ek c l (by omega);have b:=e (mn c l) (by omega) h;exact absurd b a
theorem uu(c:Int):∀l:List Int,gE.kK l c=l.take (mn c l)++c::l.drop (mn c l)
 |[]=>rfl
 |x::t=>by
  unfold gE.kK mn;split;·rw[uu c t];rfl
  .rfl
theorem Gq{c:Int}{l:List Int}(B:∀i j (hi:i<l.length) (f:j<l.length),i<j->l[i]<l[j]):l[mn c l]?=some c↔c∈l:=by
 constructor;·intro h;exact jX h
 .intro h;obtain⟨j,f,e⟩:=rA h;have q:mn c l<=j:=Nat.le_of_not_lt (fun w=>by have:=El c l j f w;omega);rcases Nat.lt_or_eq_of_le q with m|m
  .have o:=B _ _ (by omega) f m;have r:=Ek c l (by omega);rw[e] at o;exact absurd o r
  .rw[m,jz f,e]
theorem Bi(a:Option Addr)(n cap:Nat)(l:List Int)(c:Int)(w:World)(h:Sl w 1 a n cap (l.map (Value.int .i64)))(m:∀i j (hi:i<l.length) (F:j<l.length),i<j->l[i]<l[j])(E:n<=1000):
  Calls prog 35 #[(a,n,cap),c] w (Same (.tuple #[.int .i64 (mn c l:Int),.bool (decide (c∈l))]) w):=
 (Bh a n cap l c w h m E).mono fun e w'⟨o,i,q,r,B,C⟩=>by
  have hi:=Ki q B C;subst hi;refine⟨?_,o.symm⟩;rw[r];have:decide (l[mn c l]?=some c)=decide (c∈l):=by
   by_cases f:c∈l;·rw[kr f,kr ((Gq m).2 f)]
   .rw[ju f,ju (fun h=>f ((Gq m).1 h))]
  rw[this]
end Go.Proofs.YthhcdfjijagalaaGreat

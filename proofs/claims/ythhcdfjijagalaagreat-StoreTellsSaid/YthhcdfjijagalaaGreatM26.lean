import Derived.Test.YthhcdfjijagalaaGreatM25
set_option linter.all false
set_option maxHeartbeats 4000000
set_option maxRecDepth 100000
namespace Go.Proofs.YthhcdfjijagalaaGreat
open Qz Go.Proofs.Tryz Go.RowKit
def EO(w:World)(base:Nat)(a:Option Addr)(cap:Nat)(l:List gD.Ev):Prop:=w.ownsRow base 78 3 (a,l,cap) l.length (hQ l)/\∀e∈l,e.s.size<=maxLen
theorem qz(l:List gD.Ev):∀u∈hQ l,u.oneCell'=true:=by
 intro u e;unfold hQ at e;obtain⟨a,_,h⟩:=yG.1 e;simp only[Hy,jC,nK,lR] at h;rcases h with rfl|rfl|rfl<;>rfl
theorem qN(l:List Rb):∀u∈iD l,u.oneCell'=true:=by
 intro u e;unfold iD at e;obtain⟨a,_,h⟩:=yG.1 e;simp only[PH,jC,nK,lR] at h;rcases h with rfl|rfl<;>rfl
theorem EO.es{w:World}{base:Nat}{a:Option Addr}{cap:Nat}{l:List gD.Ev}(h:EO w base a cap l):Es w a l.length cap l:=by
 obtain⟨a',j,e,f⟩:=gK h.1;cases e;exact⟨f,h.2⟩
def kV(l:List Rb):List gD.Ev:=l.flatMap Rb.il
theorem xv(l:List Rb):kV l=gE.events (l.map Rb.ba):=by
 unfold kV gE.events;induction l with
 |nil=>rfl
 |cons x l e=>rw[lI,sD,sD,e];rfl
theorem rF(l:List Rb)(K:Nat)(h:∀r∈l,r.il.length<=K):(kV l).length<=l.length*K:=by
 unfold kV;induction l with
 |nil=>simp
 |cons x l f=>
  have:=h x (by simp);have:=f (fun r e=>h r (by simp[e]));rw[sD,iH,l8,nB];omega
theorem A8(l:List Rb)(k:Nat)(e:k<l.length):kV (l.take (k+1))=kV (l.take k)++l[k].il:=by
 unfold kV;rw[qg,jz e,List.flatMap_append];simp
theorem A7{w:World}{a:Option Addr}{n cap:Nat}{l:List Rb}(h:Bs w a n cap l):∀e∈kV l,e.s.size<=maxLen:=by
 intro e f;obtain⟨r,j,f⟩:=yG.1 f;exact(h.ev r j).ok e f
theorem uY(a:Option Addr)(n cap:Nat)(l:List Rb)(w:World)(h:Bs w a n cap l)(hn:n<=100000)(O:∀r∈l,r.il.length<=1000):
  Calls prog 44 #[(a,n,cap)] w fun e w'=>∃a' f,e=.returned (.slice a' (kV l).length f)/\EO w' w.heap.size a' f (kV l)/\Below w w w':=by
 have W:=gx h.n;have V:=gx O;have B:=h.sl.max;have ad:=h.sl.le;unfold maxLen at B;have G:=gx (A7 h);clear O;go_enter func44,ntmps44;go_wp2_with fail;go_loopg[3,8] n (fun g s3 s8 wr=>∃k:Nat,g=n-k/\k<=n/\s8=.int .i64 (k:Int)/\OT w wr none w.heap.size 78 3 s3 (kV (l.take k)).length (hQ (kV (l.take k))));case atStart=>exact⟨0,rfl,by omega,rfl,OT.fresh (iY _ _ _ _) gZ gM⟩
 case round=>
  obtain⟨k,rfl,O,rfl,m⟩:=hrel;obtain⟨wo,rfl⟩:∃wo:World,wo=wr:=⟨_,rfl⟩;have o:=m.im (b:=w) gM (fun k e=>by cases e);have Y:=o.size;by_cases S:k<n
  .have q:k<l.length:=by rw[W.out];exact S
   obtain⟨b,off,rfl,-⟩:=h.sl.addr (by omega);obtain⟨q0,q1,F⟩:=(h.below o).at k q;have X:=gx (A8 l k q);have j:=rF (l.take k) 1000 (fun r hr=>V r (ry hr));rw[jh] at j;have Q:=V _ (iE q);have ae:(kV (l.take k)).length<=100000000:=by omega
   have i0:(0:Int)<=(k:Int):=by omega
   have i1:(k:Int)<(n:Int):=by omega
   generalize l[k]=r at *;obtain⟨c,ea,E,ec,il⟩:=r;simp only at q0 q1 F Q X;have N:=F.n;have K:=gx (m.alloc (.cells #[c,(ea,E,ec)] 50));have I:=gx (F.alloc (.cells #[c,(ea,E,ec)] 50));have C:=gx (Sl.src (P:=prog) I.sl underlying40 (qz il));clear m F j;go_wp2_with (refine wpList_append_t rfl (.tmp 12) (.tmp 14) 40 40 rfl w.heap.size 78 3 32 (.agg #[.string ⟨#[]⟩,gy,gy]) underlying40 qF rfl (by decide) _ (kV (l.take k)).length (hQ (kV (l.take k))) rfl K (ea,E,ec) E (hQ il) rfl C (by unfold maxLen;omega) (by omega) (by simp;omega) ?_;intro v2 w4 U ab);go_roundg (n-(k+1));case measure=>omega
   case rel=>
    refine⟨k+1,rfl,by omega,by go_num,?_⟩;rw[X.out,iH,nV,N];exact U
  .obtain rfl:k=n:=by omega
   have e1:l.take k=l:=ld (by rw[W.out];exact jb _);rw[e1] at m;obtain⟨a',Z,rfl,-⟩:=gK m.own;have L:=gx m.own;clear m;go_wp2_with fail;go_ret;exact⟨a',Z,rfl,⟨L,G⟩,o⟩
end Go.Proofs.YthhcdfjijagalaaGreat
namespace Go.Proofs.YthhcdfjijagalaaGreat.gE
open Qz Go.Proofs.Tryz
structure Ok (s:St) (K:Nat):Prop where
 d:1<=s.data/\s.data<=8
 sp:0<=s.spare/\s.spare<=4
 b:1<=s.iC/\s.iC<=10
 nd:(s.gI.length:Int)=s.data+s.spare
 g:s.iF<=40
 t:(s.tail.length:Int)<s.iC
 te:∀b∈s.tail,(gD.iI b).1=0
 seen:s.seen.length<=K
 sup:s.seen.Pairwise (·<·)
 bl:∀x∈s.gI,(x.bl.map Hd.jy).Pairwise (·<·)/\∀h∈x.bl,0<=h.jy/\h.jy<(s.iF:Int)
theorem rJ:∀(l:List Int) (a b:Int),l.Pairwise (·<·)->(∀x∈l,a<=x/\x<b)->(l.length:Int)<=max 0 (b-a)
 |[],a,b,_,_=>by simp;omega
 |x::l,a,b,hp,hb=>by
  have e:=tG.1 hp;have h:=hb x (by simp);have:=rJ l (x+1) b e.2 (fun y f=>by have:=e.1 y f;have:=(hb y (by simp[f])).2;omega)
  rw[l8];omega
theorem Ok.len{s:St}{K:Nat}(h:Ok s K){x:Dk}(j:x∈s.gI):x.bl.length<=40:=by
 obtain⟨e,f⟩:=h.bl x j;have:=rJ _ 0 s.iF e (fun y m=>by obtain⟨z,o,rfl⟩:=iu.1 m;exact f z o)
 rw[iz] at this;have:=h.g;omega
theorem Ok.Eh{s:St}{K:Nat}(h:Ok s K):s.gI.length<=12:=by
 have:=h.nd;have:=h.d;have:=h.sp;omega
theorem Ok.ev{s:St}{K:Nat}(h:Ok s K){b:gD.Ba}(hb:b∈s.tail):b.il.length<=10:=(gD.lh (h.te b hb)).2.2.2.1
theorem Gn{l:List UInt8}:(gD.parse l).l.length<=150/\∀b∈(gD.parse l).l,(gD.iI b).1=0:=by
 unfold gD.parse;simp only;split;·exact⟨by simp,fun b hb=>by cases hb⟩
 .split;·exact⟨by simp,fun b hb=>by cases hb⟩
  .rename_i h;split;·exact⟨by simp,fun b hb=>by cases hb⟩
   .rename_i e;exact⟨by simpa using h,gD.I9 _ 0 (mU e)⟩
theorem tj{f:List Dk}{d:Int}{k:Nat}{e:Int}(m:e≠0)(h:ln f d k=([],e)):∀j,ln f d (k+j)=([],e)
 |0=>h
 |j+1=>by have:=tj m h j;rw[<-Nat.add_assoc];unfold ln;rw[gG (by rw[this];exact m),this]
theorem rl{s:St}{k:Nat}{e:Int}(j:k<=s.iF)(f:e≠0)(h:ln s.gI s.data k=([],e)):all s=([],e):=by
 have:=tj f h (s.iF-k);rw[Nat.add_sub_cancel' j] at this;unfold all;rw[gG (by rw[this];exact f),this]
theorem vk{f:List Dk}{d:Int}{k:Nat}{l:List gD.Ba}(h:ln f d k=(l,0))(j:(gW.kX (blocks f k) k d).2≠0):ln f d (k+1)=([],(gW.kX (blocks f k) k d).2):=by
 unfold ln;rw[gC (by rw[h];exact fun e=>e rfl),gG j]
theorem Aj{f:List Dk}{d:Int}{k:Nat}{l:List gD.Ba}(h:ln f d k=(l,0))(j:(gW.kX (blocks f k) k d).2=0)(m:(gD.parse (gW.kX (blocks f k) k d).1).err≠0):ln f d (k+1)=([],(gD.parse (gW.kX (blocks f k) k d).1).err):=by
 unfold ln;rw[gC (by rw[h];exact fun e=>e rfl),gC (by rw[j];exact fun e=>e rfl),gG m]
theorem vl{f:List Dk}{d:Int}{k:Nat}{l:List gD.Ba}(h:ln f d k=(l,0))(j:(gW.kX (blocks f k) k d).2=0)(m:(gD.parse (gW.kX (blocks f k) k d).1).err=0):ln f d (k+1)=(l++(gD.parse (gW.kX (blocks f k) k d).1).l,0):=by
 unfold ln;rw[gC (by rw[h];exact fun e=>e rfl),gC (by rw[j];exact fun e=>e rfl),gC (by rw[m];exact fun e=>e rfl),h]
theorem tk{s:St}{l:List gD.Ba}(h:ln s.gI s.data s.iF=(l,0)):all s=(l++s.tail,0):=by
 unfold all;rw[gC (by rw[h];exact fun e=>e rfl),h]
end Go.Proofs.YthhcdfjijagalaaGreat.gE
namespace Go.Proofs.YthhcdfjijagalaaGreat
open Qz Go.Proofs.Tryz Go.RowKit
theorem Ro.bs{w:World}{base:Nat}{v:Value}{l:List Rb}(h:Ro w base l)(o:w.ownsRow base 50 2 v l.length (iD l)):∃a cap,v=.slice a l.length cap/\Bs w a l.length cap l:=by
 obtain⟨a,cap,e,B⟩:=gK o;exact⟨a,cap,e,B,fun r q=>by obtain⟨j,m⟩:=h r q;obtain⟨E,c2,f,C⟩:=gK j;cases f;exact⟨C,m⟩⟩
theorem Ro.more{w:World}{base e:Nat}{l m:List Rb}(h:Ro w base l)(k:Ro w e m)(hb:base<=e):Ro w base (l++m):=fun x f=>by
 rcases kd.1 f with f|f
 .exact h x f
 .exact⟨hJ (k x f).1 hb,(k x f).2⟩
def K6(s:gE.St)(w:World)(e:Ending)(w':World):Prop:=∃a n cap f err,e=.returned (.tuple #[.slice a n cap,.int .i64 err])/\Bs w' a n cap f/\gE.all s=(f.map Rb.ba,err)/\Below w w w'/\n<=10000/\∀r∈f,r.il.length<=10
theorem Ai{s:gE.St}{w w':World}{err:Int}(h:gE.all s=([],err))(hb:Below w w w'):K6 s w (.returned (.tuple #[(),err])) w':=
 ⟨none,0,0,[],err,rfl,Bs.none _,h,hb,by omega,fun r e=>by cases e⟩
theorem Bl(base p:Nat)(m:ig)(K:Nat)(w:World)(h:nN w base p m)(S:gE.Ok m.st K):
  Calls prog 43 #[(p,gy)] w (K6 m.st w):=by
 have HO:=gx S;have hG:m.g<=40:=S.g;have aG:m.D.length<=12:=by have:=S.Eh;simpa[ig.st] using this
 have hT:m.T.length<10:=by have h1:=S.t;have h2:=S.b;simp only[ig.st,iz] at h1 h2;omega
 have az:1<=m.d/\m.d<=8:=S.d;have ar:=gx (show∀r∈m.T,r.il.length<=10 from fun r hr=>S.ev (b:=r.ba) (iu.2 ⟨r,hr,rfl⟩));have HS:=gx h;have b2:w.cell? (p,pR)=some (.int .i64 (m.g:Int)):=gw (i:=4) h.box;have b5:w.cell? (p,nk)=some m.tv:=gw (i:=5) h.box;have hp:=h.lt;obtain⟨G,B⟩:∃G,G=m.g:=⟨_,rfl⟩;rw[<-B] at hG b2;replace B:=gx B;obtain⟨d,C⟩:∃d,d=m.d:=⟨_,rfl⟩;rw[<-C] at az;replace C:=gx C;clear S h;go_enter func43,ntmps43;go_wp2_with fail;go_loopg[4,14] G (fun gg s4 aC wr=>∃(k:Nat) (q:List Rb),gg=G-k/\k<=G/\aC=.int .i64 (k:Int)/\OT w wr none w.heap.size 50 2 s4 q.length (iD q)/\Ro wr w.heap.size q/\Hid (gE.ln m.st.gI m.st.data k=(q.map Rb.ba,0))/\q.length<=150*k/\Hid (∀r∈q,r.il.length<=10));case atStart=>exact⟨0,[],rfl,by omega,rfl,OT.fresh (iY _ _ _ _) gZ gM,Ro.nil _ _,gx rfl,by simp,gx (fun r hr=>by cases hr)⟩
 case round=>
  obtain⟨k,q,rfl,S,rfl,hO,ah,HA,aE,HE⟩:=hrel;obtain⟨wo,rfl⟩:∃wo:World,wo=wr:=⟨_,rfl⟩;have Z:=hO.im (b:=w) gM (fun k e=>by cases e);have aD:=Z.size;have V:=gx hO;have X:=gx ah;clear hO ah;have j:=gx (HS.below Z);by_cases aF:k<G
  .have c0:wo.cell? (p,gy)=some (.int .i64 d):=by rw[C.out];exact gw (i:=0) j.box
   have DB:=gx (show∀W,Below wo wo W->Calls prog 50 #[(p,gy),k] W (fun e w'=>∃a cap R,e=.returned (.slice a m.D.length cap)/\Ms w' a m.D.length cap R/\gz R=gE.blocks m.st.gI k/\Below wo wo w'/\w'.cell? (p,gy)=some (.int .i64 d)) from fun W hW=>
    (rj base p m (k:Int) W (j.below hW) (by omega)).mono fun e w'⟨a,cap,R,h1,h2,h3,h4⟩=>⟨a,cap,R,h1,h2,h3,gH hW h4,by rw[C.out];exact gw (i:=0) (j.below (gH hW h4)).box⟩)
   go_wp2_with fail;go_region_held3 (fun w'=>w'.cell? (p,gy)=some (.int .i64 d)) (first|(with_reducible exact c0)|exact c0|exact g0|go_keep)
    (first
     |(go_at_call 50;refine(DB _ ?_).mono ?_;(repeat (first|assumption|exact iU _ _|refine below_drewN ?_ _|refine iV ?_));rintro e w5⟨a5,c5,R5,rfl,M5,e5,v5,g0⟩)
     |(go_at_call 74;refine(Be a5 _ c5 R5 (k:Int) d _ M5 (by omega)).mono ?_;rintro e w6⟨a6,n6,c6,B6,f6,rfl,au,p6,v6⟩;have g0:=(v6.cell (p:=(p,gy)) (iM _ _ g0)).trans g0))
   all_goals
    have hv:=gH v5 v6;have ab:=gH Z hv;have ak:=ab.size;rw[e5,C.out] at p6;change gW.kN _ _ m.st.data _ _ at p6;have o:=gW.Gv p6;have U:=HA.out;clear DB c0 g0 p6 M5 e5;by_cases hf:f6=0
    .subst hf;have DP:=gx (DH a6 n6 c6 B6 w6 au);have af:=gx o.2.symm;have E:=gx o.1;clear o U;go_wp2_with fail;go_at_call 75;refine(DP).mono ?_;rintro e w7⟨a7,n7,c7,N,rfl,Y,e7,v7,R7⟩;have aj:=gH ab v7;obtain⟨f7,f⟩:∃f7,f7=(gD.parse B6).err:=⟨_,rfl⟩;rw[<-f];have aB:=Y.n;have O:=@gE.Gn B6;rw[<-e7,iz] at O;have ap:=gx (show∀r∈N,r.il.length<=10 from fun r hr=>(gD.lh (O.2 r.ba (iu.2 ⟨r,hr,rfl⟩))).2.2.2.1);have aA:=O.1;have ae:=gx (V.step (mE (gH hv v7) none) (.inl rfl));have ag:=gx ((X.below (gH hv v7)).more R7 ak);have al:=aj.size;have L:=gx (Sl.src (P:=prog) Y.sl underlying26 (qN N));have E7:=gx e7;clear O e7 Y DP;by_cases hz:f7=0
     .have HN:=gx (gE.vl HA af (by rw[<-E.out,<-f];exact hz));rw[<-E.out,<-E7.out] at HN;subst hz;replace f:=gx f;go_wp2_with (refine wpList_append_t rfl (.tmp 42) (.tmp 43) 26 26 rfl w.heap.size 50 2 32 (.agg #[gy,()]) underlying26 np rfl (by decide) _ q.length (iD q) rfl ae (a7,n7,c7) n7 (iD N) rfl L (by unfold maxLen;omega) (by omega) al ?_;intro v2 w4 F Q);go_roundg (G-(k+1));case measure=>omega
      case rel=>
       refine⟨k+1,q++N,rfl,by omega,by go_num,?_,?_,gx (by rw[li];exact HN),by rw[iH];omega,gx (fun r hr=>?_)⟩;·rw[iH,aB,lW];exact F
       .exact ag.grown ae.own Q (by decide)
       .rcases kd.1 hr with hr|hr
        .exact HE r hr
        .exact ap r hr
     .have hA:=gx (gE.rl (s:=m.st) (k:=k+1) (by show k+1<=m.g;rw[<-B.out];omega) (by rw[<-E.out,<-f];exact hz) (gE.Aj HA af (by rw[<-E.out,<-f];exact hz)));rw[<-E.out,<-f] at hA;have t0:(f7 !=0)=true:=ij.2 hz;replace hz:=gx hz;replace f:=gx f;go_wp2_with fail;go_ret2;exact Ai hA aj
    .have hA:=gx (gE.rl (s:=m.st) (k:=k+1) (by show k+1<=m.g;rw[<-B.out];omega) (by rw[<-o.2];exact hf) (gE.vk U (by rw[<-o.2];exact hf)));rw[<-o.2] at hA;have t0:(f6 !=0)=true:=ij.2 hf;replace hf:=gx hf;clear o U;go_wp2_with fail;go_ret2;exact Ai hA ab
  .obtain rfl:k=G:=by omega
   have c3:wo.cell? (p,nk)=some m.tv:=gw (i:=5) j.box;obtain⟨ta,tc,ao,ai⟩:=Ro.bs (show Ro wo base m.T from j.il) j.tail;rw[ao] at c3;have L:=gx (Sl.src (P:=prog) ai.sl underlying26 (qN m.T));have aq:=gx (show Ro wo (min base w.heap.size) (q++m.T) from Ro.more (fun x hx=>⟨hJ (X x hx).1 (Nat.min_le_right _ _),(X x hx).2⟩) j.il (Nat.min_le_left _ _));have ad:=gx (gE.tk (s:=m.st) (by show gE.ln m.st.gI m.st.data m.g=_;rw[<-B.out];exact HA));clear ai ao;go_wp2_with (refine wpList_append_t rfl (.tmp 46) (.tmp 51) 26 26 rfl w.heap.size 50 2 32 (.agg #[gy,()]) underlying26 np rfl (by decide) _ q.length (iD q) rfl V (ta,m.T,tc) m.T.length (iD m.T) rfl L (by unfold maxLen;omega) (by omega) (by omega) ?_;intro v2 w4 F Q);have ax:=aq.grown V.own Q (by decide);have I:=F.own;rw[<-lW,<-iH] at I;obtain⟨a',c',rfl,aw⟩:=Ro.bs ax (hJ I (Nat.min_le_right _ _));have ay:=F.im (b:=w) gM (fun k e=>by cases e);clear F Q I;go_ret2;refine⟨a',_,c',_,0,rfl,aw,?_,ay,by rw[iH];omega,fun r hr=>?_⟩;·rw[ad.out,li];rfl
   .rcases kd.1 hr with hr|hr
    .exact HE r hr
    .exact ar r hr
def G7(r:Vw.Fo)(w:World)(e:Ending)(w':World):Prop:=∃a n cap,e=.returned (.tuple #[iJ r.v.upto a n cap,.agg #[r.err,r.at_]])/\As w' a n cap r.v.ib/\Below w w w'
theorem FC{w w':World}{E F:Int}(hb:Below w w w'):G7 ⟨Vw.iL,E,F⟩ w (.returned (.tuple #[.agg #[gy,()],.agg #[E,F]])) w':=⟨none,0,0,rfl,As.nil _,hb⟩
def z9(r:Vw.Fo)(w:World)(e:Ending)(w':World):Prop:=∃a n cap,e=.returned (.tuple #[iJ r.v.upto a n cap,.agg #[r.err,r.at_]])/\As w' a n cap r.v.ib/\Below w w w'/\w'.ownsRow w.heap.size 55 4 (.slice a n cap) n (gR r.v.ib)
theorem z9.A9{r:Vw.Fo}{w:World}{e:Ending}{w':World}(h:z9 r w e w'):G7 r w e w':=by
 obtain⟨a,n,cap,f,j,m,_⟩:=h;exact⟨a,n,cap,f,j,m⟩
theorem Cx{w w':World}{E F:Int}(hb:Below w w w'):z9 ⟨Vw.iL,E,F⟩ w (.returned (.tuple #[.agg #[gy,()],.agg #[E,F]])) w':=⟨none,0,0,rfl,As.nil _,hb,iY _ _ _ _⟩
theorem Ja{v:Vw.Vi}{l:List gD.Ev}{k:Nat}(h:k<l.length):Vw.fo v (l.drop k) k=if (Vw.apply v l[k]).err≠0 then⟨Vw.iL,(Vw.apply v l[k]).err,(k:Int)⟩ else Vw.fo (Vw.apply v l[k]).v (l.drop (k+1)) (k+1):=by
 rw[rv h,Vw.rZ]
theorem rG{w q:World}{b c:Nat}{x y C E:Value}{t r:TypeId}(hb:Below w w q)(j:w.heap.size<=b)(f:w.heap.size<=c)(e:b≠c)(h:q.heap[b]?=some (.cells #[x,y] t))(B:q.heap[c]?=some (.cells #[C,E] r))(m v1 v2 o:Value):
  ∃W,(((q.setCell (b,gy) m).setCell (b,ia) v1).setCell (c,gy) v2).setCell (c,ia) o=W/\W.heap[b]?=some (.cells #[m,v1] t)/\W.heap[c]?=some (.cells #[v2,o] r)/\Below w w W:=by
 refine⟨_,rfl,ic (ic (pL h m v1) e _) e _,pL (ic (ic B e.symm _) e.symm _) v2 o,?_⟩;exact(((hb.setCell (p:=(b,gy)) j m).setCell (p:=(b,ia)) j v1).setCell (p:=(c,gy)) f v2).setCell (p:=(c,ia)) f o
theorem As.pC{w:World}{a:Option Addr}{n cap b i:Nat}{l:List Vw.Acc}{x y:Value}{t:TypeId}{m:Nat×Nat}(h:As w a n cap l)(hb:w.heap[b]?=some (.cells #[x,y] t m))(v:Value):As (w.setCell (b,i) v) a n cap l:=by
 refine⟨⟨h.sl.le,h.sl.max,h.sl.len,h.sl.nil,fun r=>?_⟩,h.ok⟩;obtain⟨b',off,rfl,hc⟩:=h.sl.addr r;have B:=h.jO;have f:b'≠b:=by rintro rfl;obtain⟨_,_,_,q⟩:=h.at 0 (by omega);rw[gw hb] at q;rw[Array.getElem?_eq_none (by simp)] at q;cases q
 exact⟨b',off,rfl,fun j u o=>(rm _ (fun e=>f e.symm)).trans (hc j u o)⟩
theorem Oy(u:Int)(a:Option Addr)(n cap:Nat)(l:List Vw.Acc)(ea:Option Addr)(K ec:Nat)(w:World)(h:As w a n cap l)(o:(Vw.iX ⟨u,l⟩).1≠0):
  Calls prog 37 #[iJ u a n cap,(ea,K,ec)] w (z9 ⟨Vw.iL,(Vw.iX ⟨u,l⟩).1,0⟩ w):=by
 have D:=gx (fun W (B:As W a n cap l)=>mL u a n cap l W B);obtain⟨E,r⟩:∃E,E=Vw.iX ⟨u,l⟩:=⟨_,rfl⟩;rw[<-r] at o⊢;rw[<-r] at D;clear r;obtain⟨m,q⟩:=E;unfold iJ;unfold iJ oB at D;simp only at o D⊢;have t0:(m !=0)=true:=ij.2 o;replace o:=gx o;go_enter func37,ntmps37;go_wp2_with fail;go_at_call 68;refine(D _ (((h.alloc _).alloc _).alloc _)).mono ?_;rintro e f⟨rfl,b1⟩;obtain⟨v1,v2,C,L,hb⟩:=kL w _ _ _ f b1;have N:w.heap.size+1<f.heap.size:=by omega
 obtain⟨z1,z2,z3,z4⟩:w.heap.size+1+1≠f.heap.size/\f.heap.size≠w.heap.size+1+1/\w.heap.size+1≠f.heap.size/\f.heap.size≠w.heap.size+1:=by omega
 obtain⟨X,Y⟩:=lv v2;have U:∀j,f.frozen? ⟨w.heap.size+1,j,none⟩=false:=fun j=>gA v2;obtain⟨Z,r3⟩:=lv C;have V:∀j,f.frozen? ⟨w.heap.size+1+1,j,none⟩=false:=fun j=>gA C;clear b1;go_wp2_with fail;go_region;all_goals go_wp2_with fail
 obtain⟨W,B,F,G,I⟩:=rG hb (by omega) (by omega) (by omega) v2 C gy () m gy;rw[B];have O:=gw (i:=0) (gF (o':=.cells #[m,q] 73) F);have P:=gw (i:=1) (gF (o':=.cells #[m,q] 73) F);have Q:=gw (i:=0) (gF (o':=.cells #[m,q] 73) G);have S:=gw (i:=1) (gF (o':=.cells #[m,q] 73) G);exact gS (v:=.tuple #[.agg #[gy,()],.agg #[m,gy]]) (by simp[results,results37,go_sem,O,P,Q,S]) rfl (Cx (below_drewN (I.alloc I.size _) 1))
theorem Oz(u:Int)(a:Option Addr)(n cap:Nat)(l:List Vw.Acc)(ea:Option Addr)(Q ec:Nat)(es:List gD.Ev)(w:World)(h:As w a n cap l)(C:Es w ea Q ec es)(h1:(Vw.iX ⟨u,l⟩).1=0):
  Calls prog 37 #[iJ u a n cap,(ea,Q,ec)] w (z9 (Vw.fo ⟨u,l⟩ es 0) w):=by
 have D:=gx (fun W (X:As W a n cap l)=>mL u a n cap l W X);have hG:=(Vw.l9 ⟨u,l⟩).1 h1;have hn:n<=150:=by have h2:=hG.len;have h3:=hG.hi;have:=h.jO;simp only at h2 h3;omega
 have aj:=C.sl.max;have aw:=C.sl.le;unfold maxLen at aj;have HN:=gx C.n;replace hG:=gx hG;generalize Vw.iX ⟨u,l⟩=E at h1 D;obtain⟨E1,E2⟩:=E;have h1:E1=0:=h1;subst h1;unfold iJ;unfold iJ oB at D;simp only at D⊢;go_enter func37,ntmps37;go_wp2_with fail;go_at_call 68;refine(D _ (((h.alloc _).alloc _).alloc _)).mono ?_;rintro e w1⟨rfl,b1⟩;obtain⟨v1,v2,v3,ax,hb⟩:=kL w _ _ _ w1 b1;clear b1;have ay:w.heap.size<w1.heap.size:=by omega
 have Z:(w1.alloc (.cells #[gy,E2] 73)).cell? (w,gy)=some (.int .i64 u):=gw (gF v1);have r1:(w1.alloc (.cells #[gy,E2] 73)).cell? (w,ia)=some (.slice a n cap):=gw (gF v1);go_wp2_with fail;go_at_call 11;refine(qT a n cap l _ ((h.below hb).alloc _) (by omega)).mono ?_;rintro e S⟨cv,rfl,b2,o2⟩;obtain⟨q,r,rfl,ah⟩:=gK o2;have ap:As S q n r l:=⟨ah,h.ok⟩;replace v1:=iT v1 b2;replace v2:=iT v2 b2;replace v3:=iT v3 b2;have V:=gP o2 v1 (by decide);replace hb:=kg hb b2;clear b2 Z r1;have Z:S.cell? (w,ia)=some (.slice a n cap):=gw v1;have f0:S.frozen? (w,ia)=false:=gA v1;go_wp2_with fail;have ak:(S.setCell (w,ia) (q,n,r)).heap[w.heap.size]?=some (.cells #[u,(q,n,r)] 30):=jq (i:=1) v1 _;have al:(S.setCell (w,ia) (q,n,r)).heap[w.heap.size+1]?=some (.cells #[gy,()] 30):=ic v2 (by omega) _;have ao:(S.setCell (w,ia) (q,n,r)).heap[w.heap.size+1+1]?=some (.cells #[gy,gy] 73):=ic v3 (by omega) _;have ag:(S.setCell (w,ia) (q,n,r)).ownsRow w.heap.size 55 4 (q,n,r) n (gR l):=hJ (ji (a:=(w,ia)) o2 V (q,n,r)) (by simp only[jH];omega);have U:As (S.setCell (w,ia) (q,n,r)) q n r l:=by have:=ji (a:=(w,ia)) o2 V (q,n,r);obtain⟨a',ar,e,hs⟩:=gK this;cases e;exact⟨hs,h.ok⟩
 have af:Below w w (S.setCell (w,ia) (q,n,r)):=hb.setCell gM _;go_loopg[26] Q (fun g i wr=>∃(k:Nat) (F:Int) (a':Option Addr) (I L:Nat) (P:List Vw.Acc),g=Q-k/\k<=Q/\i=.int .i64 (k:Int)/\wr.heap[w.heap.size]?=some (.cells #[F,(a',I,L)] 30)/\wr.heap[w.heap.size+1]?=some (.cells #[gy,()] 30)/\wr.heap[w.heap.size+1+1]?=some (.cells #[gy,gy] 73)/\As wr a' I L P/\Below w w wr/\wr.ownsRow w.heap.size 55 4 (a',I,L) I (gR P)/\Hid (Vw.fo ⟨u,l⟩ es 0=Vw.fo ⟨F,P⟩ (es.drop k) k));case atStart=>exact⟨0,u,q,n,r,l,rfl,by omega,rfl,ak,al,ao,U,af,ag,gx rfl⟩
 case round=>
  obtain⟨k,F,a',I,L,P,rfl,hk,rfl,K,G,o,hA,f,hO,HF⟩:=hrel;clear v1 v2 v3 ak al ao ap U ag af ah o2 Z f0;by_cases aq:k<Q
  .have ai:k<es.length:=by rw[HN.out];exact aq
   obtain⟨eb,au,rfl,_⟩:=C.sl.addr (by omega);obtain⟨q0,q1,q2⟩:=(C.below f).at k ai;have oz:=C.ok es[k] (iE _);have HS:=gx (Ja (v:=⟨F,P⟩) ai);have D8:=gx (fun W (X:As W a' I L P)=>EL F a' I L P es[k] W X oz);generalize Vw.apply ⟨F,P⟩ es[k]=R at D8 HS;generalize es[k]=ev at *;obtain⟨⟨u2,l2⟩,er⟩:=R;obtain⟨s,kk,m⟩:=ev;unfold iJ jG at D8;simp only at q0 q1 q2 D8;have i0:(0:Int)<=(k:Int):=by omega
   have i1:(k:Int)<(Q:Int):=by omega
   have Z:(wr.alloc (.cells #[s,kk,m] 78)).cell? (w,gy)=some (.int .i64 F):=gw (gF K);have r1:(wr.alloc (.cells #[s,kk,m] 78)).cell? (w,ia)=some (.slice a' I L):=gw (gF K);go_wp2_with fail;go_at_call 69;refine(D8 _ (hA.alloc _)).mono ?_;rintro e O⟨Y,n2,c2,rfl,ab,b3,B⟩;simp only at ab B;replace B:=hJ B (show w.heap.size<=_ by have:=f.size;simp only[jH];omega);unfold iJ;simp only;replace K:=iT K b3;replace G:=iT G b3;replace o:=iT o b3;replace f:=kg f b3;clear b3 Z r1 q0 q1 q2;have s3:=iq o;have s2:w.heap.size+1<O.heap.size:=by omega
   have s1:w.heap.size<O.heap.size:=by omega
   by_cases N:er=0
   .subst N;have HS:=gx (HS.trans (gC (fun k=>k rfl)));obtain⟨p0,p1⟩:=lv K;have p2:∀j,O.frozen? ⟨w.heap.size,j,none⟩=false:=fun j=>gA K;have p3:w.heap.size≠O.heap.size:=by omega
    have p4:O.heap.size≠w.heap.size:=by omega
    go_wp2_with fail;go_roundg (Q-(k+1));case measure=>omega
    case rel=>
     refine⟨k+1,u2,Y,n2,c2,l2,rfl,by omega,by go_num,gF (pL K _ _),gF (ic (ic G (by omega) _) (by omega) _),gF (ic (ic o (by omega) _) (by omega) _),((ab.pC K _).pC (jq (i:=0) K _) _).alloc _,?_,gL (ji (a:=(w,ia)) (ji (a:=(w,gy)) B (gP B K (by decide)) _) (gP B K (by decide)) _) (gZ.alloc gM _),gx (HF.trans HS)⟩;have:=(f.setCell (p:=(w,gy)) gM u2).setCell (p:=(w,ia)) gM (Y,n2,c2);exact this.alloc this.size _
   .have HR:=gx (HF.trans (HS.trans (gG N)));have t0:(er !=0)=true:=ij.2 N;replace N:=gx N;obtain⟨p0,p1⟩:=lv G;have p2:∀j,O.frozen? ⟨w.heap.size+1,j,none⟩=false:=fun j=>gA G;obtain⟨p3,p4⟩:=lv o;have p5:∀j,O.frozen? ⟨w.heap.size+1+1,j,none⟩=false:=fun j=>gA o;obtain⟨z1,z2,z3,z4⟩:w.heap.size+1+1≠O.heap.size/\O.heap.size≠w.heap.size+1+1/\w.heap.size+1≠O.heap.size/\O.heap.size≠w.heap.size+1:=by omega
    go_wp2_with fail;obtain⟨W,X,qb,qc,qd⟩:=rG f (by omega) (by omega) (by omega) G o gy () er k;rw[X];have g0:=gw (i:=0) (gF (o':=.cells #[u2,(Y,n2,c2)] 30) qb);have g1:=gw (i:=1) (gF (o':=.cells #[u2,(Y,n2,c2)] 30) qb);have g2:=gw (i:=0) (gF (o':=.cells #[u2,(Y,n2,c2)] 30) qc);have g3:=gw (i:=1) (gF (o':=.cells #[u2,(Y,n2,c2)] 30) qc);rw[HR.out];exact gS (v:=.tuple #[.agg #[gy,()],.agg #[er,k]]) (by simp[results,results37,go_sem,g0,g1,g2,g3]) rfl (Cx (qd.alloc qd.size _))
  .obtain rfl:k=Q:=by omega
   obtain⟨p0,p1⟩:=lv K;obtain⟨Z,r1⟩:=lv G;have r2:∀j,wr.frozen? ⟨w.heap.size+1,j,none⟩=false:=fun j=>gA G;obtain⟨r3,r4⟩:=lv o;have r5:∀j,wr.frozen? ⟨w.heap.size+1+1,j,none⟩=false:=fun j=>gA o;have HR:=gx (HF.trans (show Vw.fo ⟨F,P⟩ (es.drop k) k=⟨⟨F,P⟩,0,0⟩ by rw[mV (by rw[HN.out];exact jb _)];rfl));go_wp2_with fail;have ad:=(((hA.pC (i:=0) G F).pC (i:=1) (jq (i:=0) G _) (a',I,L)).pC (i:=0) (ic (ic o (b:=w.heap.size+1+1) (by omega) _) (by omega) _) gy).pC (i:=1) (jq (i:=0) (ic (ic o (b:=w.heap.size+1+1) (by omega) _) (by omega) _) _) gy;have ae:=ji (a:=(w.heap.size+1+1,ia)) (ji (a:=(w.heap.size+1+1,gy)) (ji (a:=(w.heap.size+1,ia)) (ji (a:=(w.heap.size+1,gy)) hO (gP hO G (by decide)) F) (gP hO G (by decide)) (a',I,L)) (gP hO o (by decide)) gy) (gP hO o (by decide)) gy;obtain⟨W,X,qb,qc,qd⟩:=rG f (by omega) (by omega) (by omega) G o F (a',I,L) gy gy;rw[X] at ad ae⊢;obtain⟨g0,g1⟩:=lv qb;obtain⟨g2,g3⟩:=lv qc;rw[HR.out];exact gS (v:=.tuple #[.agg #[F,(a',I,L)],.agg #[gy,gy]]) (by simp[results,results37,go_sem,g0,g1,g2,g3]) rfl ⟨_,_,_,rfl,ad,qd,ae⟩
theorem zA(u:Int)(a:Option Addr)(n cap:Nat)(l:List Vw.Acc)(ea:Option Addr)(e ec:Nat)(es:List gD.Ev)(w:World)(h:As w a n cap l)(j:Es w ea e ec es):
  Calls prog 37 #[iJ u a n cap,(ea,e,ec)] w (z9 (Vw.fold ⟨u,l⟩ es) w):=by
 unfold Vw.fold;by_cases f:(Vw.iX ⟨u,l⟩).1≠0;·rw[gG f];exact Oy u a n cap l ea e ec w h f
 .rw[gC f];exact Oz u a n cap l ea e ec es w h j (mU f)
end Go.Proofs.YthhcdfjijagalaaGreat

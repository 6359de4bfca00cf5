import Derived.Test.YthhcdfjijagalaaGreatM02
import Derived.Test.YthhcdfjijagalaaGreatM07
set_option linter.all false
set_option maxHeartbeats 2000000
set_option maxRecDepth 100000
namespace Go.Proofs.YthhcdfjijagalaaGreat
open Qz Go.Proofs.Tryz Go.RowKit
def sm:Nat->Nat->Nat
 |0,c=>c
 |j+1,c=>nO.one (sm j c)
theorem Qi(c:Nat):sm 8 c=nO.eight c:=rfl
theorem Jy(n:Nat):n &&& 1=0∨n &&& 1=1:=by rw[Nat.and_one_is_mod];omega
theorem Ej(c:Nat)(h:c<2 ^ 32):∀j,sm j c<2 ^ 32
 |0=>h
 |j+1=>nO.kp _ (Ej c h j)
theorem E3(l:List UInt8)(k:Nat)(h:k<l.length)(c:Nat):nO.run (l.take (k+1)) c=nO.step (nO.run (l.take k) c) (iB l k):=by
 unfold nO.run;rw[qG h,List.foldl_append];simp[iB,List.getD,h]
theorem half(e:Nat):(e:Int)/(2:Int)=((e >>> 1:Nat):Int):=by rw[qH];simp
theorem G2(e:Nat)(h:e<2 ^ 32):bits .xor .u32 ((e:Int)/(2:Int)) 2197175160=((e >>> 1^^^2197175160:Nat):Int):=by
 rw[half];have f:e >>> 1<4294967296:=by rw[qH];omega
 exact u32_xor_nat (e >>> 1) 2197175160 f (by decide)
theorem Ox(c:Nat)(h:c<2 ^ 32):bits .xor .u32 IntKind.u32.max (c:Int)=((c^^^4294967295:Nat):Int):=by
 rw[Nat.xor_comm];exact u32_xor_nat 4294967295 c (by decide) h
theorem Af(a:Option Addr)(n cap:Nat)(l:List UInt8)(w:World)(h:Bt w a n cap l):
  Calls prog 120 #[(a,n,cap)] w (Same (.int .u32 (nO.sum l)) w):=by
 have F:=Bt.n h;have m:=h.max;have O:=h.le;unfold maxLen at m;have r:=gx F;clear F;go_enter func120,ntmps120;go_wp2;go_loopg[3,8] n (fun g c i wr=>w=wr/\∃k:Nat,g=n-k/\k<=n/\i=.int .i64 k/\c=.int .u32 (nO.run (l.take k) 4294967295:Nat));case atStart=>exact⟨rfl,0,rfl,by omega,rfl,rfl⟩
 case round=>
  obtain⟨rfl,k,rfl,S,rfl,rfl⟩:=hrel;by_cases f:k<n
  .obtain⟨b,off,rfl,_⟩:=h.addr (by omega);have hc:=Bt.at h k f;have P:=iP l k;have C:=gx (nO.yR (l.take k) 4294967295 (by decide));have U:=u32_xor_nat (nO.run (l.take k) 4294967295) (iB l k) C (by omega);have hd:nO.run (l.take k) 4294967295^^^iB l k<2 ^ 32:=qk C (by omega);have K:=gx (E3 l k (by rw[r.out];exact f) 4294967295);generalize E:nO.run (l.take k) 4294967295^^^iB l k=d at *;have I:=gx E;clear E;go_wp2;go_loopg[3,16] 8 (fun g c i wr=>w=wr/\∃j:Nat,g=8-j/\j<=8/\i=.int .i64 j/\c=.int .u32 (sm j d:Nat));case atStart=>exact⟨rfl,0,rfl,by omega,rfl,rfl⟩
   case round=>
    obtain⟨rfl,j,rfl,Q,rfl,rfl⟩:=hrel;by_cases N:j<8
    .have G:=Ej d hd j;have hb:bits .and .u32 ((sm j d:Nat):Int) 1=((sm j d &&& 1:Nat):Int):=u32_and_nat (sm j d) 1 G (by decide);have B:=gx (show sm (j+1) d=if sm j d &&& 1=1 then(sm j d >>> 1)^^^2197175160 else sm j d >>> 1 from rfl);generalize sm j d=e at *;rcases Jy e with o|o
     all_goals
      rw[o] at hb;have q:=gx o;clear o;go_wp2;go_roundg (8-(j+1));case measure=>omega
     case rel=>exact⟨rfl,j+1,rfl,by omega,by go_num,by rw[B.out,q.out,half];rfl⟩
     case rel=>exact⟨rfl,j+1,rfl,by omega,by go_num,by rw[B.out,q.out,G2 e G];rfl⟩
    .obtain rfl:j=8:=by omega
     go_wp2;go_roundg (n-(k+1));case measure=>omega
     case rel=>
      refine⟨rfl,k+1,rfl,by omega,by go_num,?_⟩;rw[K.out,<-I.out];rfl
  .obtain rfl:k=n:=by omega
   have L:=gx (show l.take k=l by rw[<-r.out];exact sE);rw[L.out];go_wp2;go_ret;exact⟨by rw[Ox _ (nO.yR l 4294967295 (by decide))];rfl,rfl⟩
theorem IU(e:Nat)(h:e<2 ^ 32)(j:e &&& 1=0):bits .xor .u32 ((e:Int)/(2:Int)) 0=((nO.one e:Nat):Int):=by
 rw[half];unfold nO.one;rw[gC (by omega)];have f:e >>> 1<4294967296:=by rw[qH];omega
 have:=u32_xor_nat (e >>> 1) 0 f (by decide);rw[Nat.xor_zero] at this;exact this
theorem M6(e d:Nat)(h:e<2 ^ 32)(hd:d<2 ^ 32):bits .xor .u32 ((e:Int)/(256:Int)) (d:Int)=((e >>> 8^^^d:Nat):Int):=by
 have f:e >>> 8<4294967296:=by rw[qH];omega
 rw[<-u32_xor_nat _ d f hd,qH];simp
theorem KP(e:Nat)(h:e<2 ^ 32)(f:e &&& 1=1):bits .xor .u32 ((e:Int)/(2:Int)) 2197175160=((nO.one e:Nat):Int):=by
 rw[G2 e h];unfold nO.one;rw[gG f]
theorem yN(a:Option Addr)(n cap:Nat)(l:List UInt8)(w:World)(h:Bt w a n cap l):
  Calls prog 111 #[(a,n,cap)] w (Same (.int .u32 (nO.sum l)) w):=by
 have K:=Bt.n h;have m:=h.max;have P:=h.le;unfold maxLen at m;have E:=gx K;clear K;go_enter func111,ntmps111;go_wp2;go_loopg[3,10] n (fun g c i wr=>w=wr/\∃k:Nat,g=n-k/\k<=n/\i=.int .i64 k/\c=.int .u32 (nO.run (l.take k) 4294967295:Nat));case atStart=>exact⟨rfl,0,rfl,by omega,rfl,rfl⟩
 case round=>
  obtain⟨rfl,k,rfl,U,rfl,rfl⟩:=hrel;by_cases f:k<n
  .obtain⟨b,off,rfl,_⟩:=h.addr (by omega);have hc:=Bt.at h k f;have N:=iP l k;have q:=gx (nO.yR (l.take k) 4294967295 (by decide));have V:=u32_xor_nat (nO.run (l.take k) 4294967295) (iB l k) q (by omega);have G:=gx ((E3 l k (by rw[E.out];exact f) 4294967295).trans (nO.MJ _ _ N).symm);have hd:(nO.run (l.take k) 4294967295^^^iB l k) &&& 255<2 ^ 32:=Nat.lt_of_le_of_lt Nat.and_le_right (by decide);have W:bits .and .u32 ((nO.run (l.take k) 4294967295^^^iB l k:Nat):Int) 255=(((nO.run (l.take k) 4294967295^^^iB l k) &&& 255:Nat):Int):=u32_and_nat _ 255 (qk q (by omega)) (by decide);unfold nO.MI at G;generalize I:(nO.run (l.take k) 4294967295^^^iB l k) &&& 255=d at *;have Q:=gx I;clear I;have r:nO.eight d<2 ^ 32:=nO.Fv d hd;go_wp2;go_loopg[6,7] 8 (fun g c i wr=>w=wr/\∃j:Nat,g=8-j/\j<=8/\i=.int .i64 j/\c=.int .u32 (sm j d:Nat));case atStart=>exact⟨rfl,0,rfl,by omega,rfl,rfl⟩
   case round=>
    obtain⟨rfl,j,rfl,S,rfl,rfl⟩:=hrel;by_cases O:j<8
    .have B:=Ej d hd j;have hb:bits .and .u32 ((sm j d:Nat):Int) 1=((sm j d &&& 1:Nat):Int):=u32_and_nat (sm j d) 1 B (by decide);have F:=gx (show sm (j+1) d=nO.one (sm j d) from rfl);generalize sm j d=e at *;rcases Jy e with o|o
     all_goals
      rw[o] at hb;have C:=gx o;clear o;go_wp2;go_roundg (8-(j+1));case measure=>omega
     case rel=>
      exact⟨rfl,j+1,rfl,by omega,by go_num,by rw[F.out,IU e B C.out]⟩
     case rel=>exact⟨rfl,j+1,rfl,by omega,by go_num,by rw[F.out];rw[KP e B C.out]⟩
    .obtain rfl:j=8:=by omega
     rw[Qi];go_wp2;go_roundg (n-(k+1));case measure=>omega
     case rel=>
      refine⟨rfl,k+1,rfl,by omega,by go_num,?_⟩;rw[G.out];exact congrArg _ (M6 _ _ q r)
  .obtain rfl:k=n:=by omega
   have L:=gx (show l.take k=l by rw[<-E.out];exact sE);rw[L.out];go_wp2;go_ret;exact⟨congrArg _ (congrArg _ (u32_xor_nat _ 4294967295 (nO.yR l 4294967295 (by decide)) (by decide))),rfl⟩
theorem yZ(g s z:Int)(a:Option Addr)(n cap:Nat)(e:n<=cap)(hc:cap<=maxLen)(w:World):
  Calls prog 119 #[.agg #[g,s,z,(a,n,cap)]] w (m7 (jT.jN g s z n) w):=by
 unfold maxLen at hc;go_enter func119,ntmps119;go_wp2;all_goals go_ret
 all_goals refine⟨kY ?_,gZ.alloc gM _⟩
 all_goals unfold jT.jN
 all_goals first
  |rw[gG (by omega)]
  |(rw[gC (by omega)];rw[gG (by omega)])
  |(rw[gC (by omega)];rw[gC (by omega)])
theorem rE(g s z:Int)(a:Option Addr)(n cap:Nat)(f:n<=cap)(hc:cap<=maxLen)(w:World):
  Calls prog 110 #[.agg #[g,s,z,(a,n,cap)]] w (m7 (jT.jN g s z n) w):=by
 unfold maxLen at hc;rcases pD n with h0|h0
 .subst h0;go_enter func110,ntmps110;go_wp2;all_goals go_ret
  all_goals refine⟨kY ?_,gZ.alloc gM _⟩
  all_goals unfold jT.jN
  all_goals first
   |rw[gG (by omega)]
   |(rw[gC (by omega)];rw[gG (by omega)])
   |(rw[gC (by omega)];rw[gC (by omega)])
 .have e:((n:Int)==0)=false:=by rw[jB];omega
  go_enter func110,ntmps110;go_wp2;all_goals go_ret
  all_goals refine⟨kY ?_,gZ.alloc gM _⟩
  all_goals unfold jT.jN
  all_goals first
   |rw[gG (by omega)]
   |(rw[gC (by omega)];rw[gG (by omega)])
   |(rw[gC (by omega)];rw[gC (by omega)])
theorem E4(g s z:Int)(a:Option Addr)(n cap:Nat)(l:List UInt8)(w:World)(h:Bt w a n cap l):
  Calls prog 99 #[.agg #[g,s,z,(a,n,cap)]] w (PU (if jT.jN g s z n=0 then jT.bytes g.toNat s.toNat z.toNat l else[]) (jT.jN g s z n) w):=by
 have L:=h.le;have m:=h.max;have r:=yZ g s z a n cap L m;unfold maxLen at m;by_cases o:jT.jN g s z n=0
 .have S:=gx o;rw[gG o];rw[o] at r;obtain⟨X,Y⟩:=jT.sR o;clear o;obtain⟨g,rfl⟩:=jD (a:=g) (by omega);obtain⟨s,rfl⟩:=jD (a:=s) (by omega);obtain⟨z,rfl⟩:=jD (a:=z) (by omega);have G:=gx r;clear r;have F:=gx (Bt.n h);go_enter func99,ntmps99;go_wp2_with (first|(go_at_call 119;refine(G _).mono ?_;rintro e q⟨rfl,hb⟩;have c0:q.cell? (w,gy)=some (.int .i64 g):=kE hb 0;have c1:q.cell? (w,ia)=some (.int .i64 s):=kE hb 1;have c2:q.cell? (w,j6)=some (.int .i64 z):=kE hb 2;have c3:q.cell? (w,jF)=some (.slice a n cap):=kE hb 3;have f:=mN hb;have s1:=Fh hb;clear hb;have V:=h.below f)|(at_builtin;(refine wpList_append_bytes rfl (.tmp 34) (.tmp 36) rfl w.heap.size (some (q,gy),ps,ps) (jT.Ie g s z n) l rfl (xh q w.heap.size (by omega) _ (jT.Ie g s z n) (jT.FN g s z n) (qy _ (jT.CG g s z n (by omega) (by omega) (by omega) (by omega))).symm) a n cap rfl (V.alloc _) ?c1 ?c2 ?_);(case c1=>rw[jT.oK,F.out];omega);(case c2=>simp;omega);intro v1 P j C;(obtain⟨B,E⟩:∃B,jT.Ie g s z n++l=B:=⟨_,rfl⟩);(have W:B.length<=407:=by rw[<-E,iH,jT.oK,F.out];omega);rw[E] at j;have Q:=gx E;clear E)|(go_at_call 120;obtain⟨U,I,rfl,O⟩:=gK j;refine(Af _ _ _ _ _ O).mono ?_;rintro e w3⟨rfl,rfl⟩)|(at_builtin;(refine wpList_append_bytes rfl (.tmp 40) (.tmp 52) rfl w.heap.size (.slice U B.length I) B (jT.EP (nO.sum B)) rfl (j.alloc _) (some (P,gy)) 4 4 rfl (p8 P _ (jT.EP (nO.sum B)) (jT.LZ _) (qy _ (jT.J8 _ (nO.EF _))).symm) ?d1 ?d2 ?_);(case d1=>rw[jT.vw];omega);(case d2=>have:=C.size;simp at this⊢;omega);intro v2 w4 N K));go_ret2;have b1:Below w w P:=rX (f.alloc f.size _) (by have:=f.size;simp;omega) C f.size;refine⟨v2,by rw[S.out];rfl,qw (j.alloc _) (b1.alloc b1.size _) (by have:=b1.size;simp;omega) K,?_⟩;rw[lS,lS,lS,jT.Fi g s z n l B F.out Q.out];exact N
 .rw[gC o];have Z:(jT.jN g s z n !=0)=true:=by rw[ij];exact o
  generalize jT.jN g s z n=e at *;clear o;have G:=gx r;clear r;go_enter func99,ntmps99;go_wp2_with (go_at_call 119;refine(G _).mono ?_;rintro e q⟨rfl,hb⟩);go_ret2;exact⟨_,rfl,mN hb,iY _ _ _ _⟩
theorem yI(g s z:Int)(a:Option Addr)(n cap:Nat)(l:List UInt8)(w:World)(h:Bt w a n cap l):
  Calls prog 85 #[.agg #[g,s,z,(a,n,cap)]] w (PU (if jT.jN g s z n=0 then jT.bytes g.toNat s.toNat z.toNat l else[]) (jT.jN g s z n) w):=by
 have Q:=h.le;have j:=h.max;have G:=rE g s z a n cap Q j;unfold maxLen at j;by_cases q:jT.jN g s z n=0
 .have Z:=gx q;rw[gG q];rw[q] at G;obtain⟨af,ag⟩:=jT.sR q;clear q;obtain⟨g,rfl⟩:=jD (a:=g) (by omega);obtain⟨s,rfl⟩:=jD (a:=s) (by omega);obtain⟨z,rfl⟩:=jD (a:=z) (by omega);have N:=gx G;clear G;have K:=gx (Bt.n h);go_enter func85,ntmps85;go_wp2_with (first|(go_at_call 110;refine(N _).mono ?_;rintro e F⟨rfl,hb⟩;have c0:F.cell? (w,gy)=some (.int .i64 g):=kE hb 0;have c1:F.cell? (w,ia)=some (.int .i64 s):=kE hb 1;have c2:F.cell? (w,j6)=some (.int .i64 z):=kE hb 2;have c3:F.cell? (w,jF)=some (.slice a n cap):=kE hb 3;have f:=mN hb;have s1:=Fh hb;clear hb;have h1:=h.below f)|(at_builtin;(refine wpList_append_bytes rfl (.tmp 38) (.tmp 40) rfl w.heap.size (some (F,gy),ps,ps) (jT.Ie g s z n) l rfl (xh F w.heap.size (by omega) _ (jT.Ie g s z n) (jT.FN g s z n) (qy _ (jT.CG g s z n (by omega) (by omega) (by omega) (by omega))).symm) a n cap rfl (h1.alloc _) ?c1 ?c2 ?_);(case c1=>rw[jT.oK,K.out];omega);(case c2=>simp;omega);intro v1 w2 C O;(obtain⟨B,I⟩:∃B,jT.Ie g s z n++l=B:=⟨_,rfl⟩);(have ad:B.length<=407:=by rw[<-I,iH,jT.oK,K.out];omega);rw[I] at C;have X:=gx I;clear I)|(go_at_call 111;obtain⟨a1,ab,rfl,U⟩:=gK C;refine(yN _ _ _ _ _ U).mono ?_;rintro e w3⟨rfl,rfl⟩));have b1:Below w w w2:=rX (f.alloc f.size _) (by have:=f.size;simp;omega) O f.size;have Y:=gx (jT.Fi g s z n l B K X);go_loopg[5,6,7] 4 (fun gg o c i wr=>∃(L:List UInt8) (d k:Nat),gg+k=4/\i=.int .i64 (k:Int)/\c=.int .u32 (d:Int)/\d<4294967296/\L.length<=407+k/\Hid (L++jT.Qe gg d=jT.bytes g s z l)/\wr.ownsRow w.heap.size 5 1 o L.length (cb L)/\Below w w wr);case atStart=>exact⟨B,nO.sum B,0,rfl,rfl,rfl,nO.EF B,by omega,by rw[Y.out,jT.QG];rfl,C,b1⟩
  case round=>
   obtain⟨L,d,k,hk,rfl,rfl,hd,hL,W,E,r⟩:=hrel;have V:=r.size;by_cases ae:k<4
   .obtain⟨m,rfl⟩:∃m,gk=m+1:=⟨gk-1,by omega⟩;go_wp2_with (at_builtin;(refine wpList_append_bytes rfl (.tmp 48) (.tmp 52) rfl w.heap.size u5 L [UInt8.ofNat d] rfl (E.alloc _) (some (wr,gy)) 1 1 rfl (p8 wr _ [UInt8.ofNat d] (by simp[maxLen]) (qy _ (jT.Hn d)).symm) ?d1 ?d2 ?_);(case d1=>simp;omega);(case d2=>simp;omega);intro v2 w4 S P);go_roundg m;case measure=>omega
    case rel=>
     refine⟨L++[UInt8.ofNat d],d/256,k+1,by omega,by go_num,rfl,by omega,by simp;omega,?_,S,qw (E.alloc _) (r.alloc V _) (by simp;omega) P⟩;have:=W.out;rw[ky];exact this
   .obtain rfl:gk=0:=by omega
    go_wp2;go_ret2;refine⟨_,by rw[Z.out];rfl,r,?_⟩;have e:=W.out;unfold jT.Qe at e;rw[mY] at e;rw[lS,lS,lS,<-e];exact E
 .rw[gC q];have ah:(jT.jN g s z n !=0)=true:=by rw[ij];exact q
  generalize jT.jN g s z n=e at *;clear q;have N:=gx G;clear G;go_enter func85,ntmps85;go_wp2_with (go_at_call 110;refine(N _).mono ?_;rintro e F⟨rfl,hb⟩);go_ret2;exact⟨_,rfl,mN hb,iY _ _ _ _⟩
end Go.Proofs.YthhcdfjijagalaaGreat

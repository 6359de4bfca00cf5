import Derived.Test.YthhcdfjijagalaaGreatM26
set_option linter.all false
set_option maxHeartbeats 4000000
set_option maxRecDepth 100000
namespace Go.Proofs.YthhcdfjijagalaaGreat
open Qz Go.Proofs.Tryz Go.RowKit
theorem As.drewN{w:World}{a:Option Addr}{n cap:Nat}{l:List Vw.Acc}(h:As w a n cap l)(k:Nat):As (w.drewN k) a n cap l:=⟨h.sl.drewN k,h.ok⟩
theorem tV(u:Int)(a a':Option Addr)(n cap m f:Nat)(l:List Vw.Acc)(w:World)(h:As w a n cap l)(q:As w a' m f l):Calls prog 16 #[iJ u a n cap,iJ u a' m f] w (m7 (.bool true) w):=by
 obtain rfl:m=n:=q.jO.symm.trans h.jO;have C:=h.sl.max;have S:=h.sl.le;unfold maxLen at C;have O:=gx h.jO;unfold iJ;go_enter func16,ntmps16;go_wp2_with fail;obtain⟨V,r⟩:∃V,V=(w.alloc (.cells #[u,(a,m,cap)] 30)).alloc (.cells #[u,(a',m,f)] 30):=⟨_,rfl⟩;rw[<-r];have v1:V.heap[w.heap.size]?=some (.cells #[u,(a,m,cap)] 30):=by rw[r];exact gF (gO _ _)
 have v2:V.heap[w.heap.size+1]?=some (.cells #[u,(a',m,f)] 30):=by rw[r];simpa using gO (w.alloc (.cells #[u,(a,m,cap)] 30)) _
 have hb:Below w w V:=by rw[r];exact(gZ.alloc gM _).alloc (by simp) _
 replace h:=h.below hb;replace q:=q.below hb;clear r;obtain⟨I,K⟩:=lv v1;obtain⟨L,N⟩:=lv v2;go_wp2_with fail;go_loopg[5,23,26,27,28,29,30,31,32,33,34,35,36] m (fun g s5 i U W X Y Z ab ad ae af ag ah wr=>∃k j:Nat,g=m-k/\k<=m/\i=.int .i64 (k:Int)/\wr=V.drewN j);case atStart=>exact⟨0,0,rfl,by omega,rfl,rfl⟩
 case round=>
  obtain⟨k,j,rfl,hk,rfl,o⟩:=hrel;have F:=gx o;have h:=o▸h.drewN j;have q:=o▸q.drewN j;have I:wr.cell? (w,gy)=some (.int .i64 u):=by rw[o];exact I
  have K:wr.cell? (w,ia)=some (.slice a m cap):=by rw[o];exact K
  have L:wr.cell? (w.heap.size+1,gy)=some (.int .i64 u):=by rw[o];exact L
  have N:wr.cell? (w.heap.size+1,ia)=some (.slice a' m f):=by rw[o];exact N
  clear o;by_cases E:k<m
  .have B:k<l.length:=by rw[O.out];exact E
   obtain⟨b,off,rfl,_⟩:=h.sl.addr (by omega);obtain⟨b',G,rfl,_⟩:=q.sl.addr (by omega);obtain⟨q0,q1,q2,q3⟩:=h.at k B;obtain⟨p0,p1,p2,p3⟩:=q.at k B;generalize l[k]=e at *;have P:(0:Int)<=(k:Int):=yB _;have Q:(k:Int)<(m:Int):=by omega
   go_wp2_with fail;go_quiet (fail);go_wp2_with fail;go_roundg (m-(k+1));case measure=>omega
   case rel=>exact⟨k+1,_,rfl,by omega,by go_num,by rw[F.out,World.drewN_drewN]⟩
  .obtain rfl:k=m:=by omega
   go_wp2_with fail;go_ret;exact⟨rfl,by rw[F.out];exact below_drewN hb _⟩
theorem QW(t p:ByteArray)(h:¬gD.kP p<gD.kP t):t=p∨gD.kP t<gD.kP p:=by
 by_cases e:gD.kP t<gD.kP p;·exact .inr e
 .exact .inl (Vw.Jn (List.le_antisymm (ri.1 h) (ri.1 e)))
theorem PC(t p:ByteArray)(h:gD.kP p<gD.kP t):Op.bytesLess t.toList p.toList=false/\(t.toList==p.toList)=false:=by
 rw[rq,lA];refine⟨ju fun k=>Vw.vz _ (Vw.L5 h k),ju ?_⟩;rintro rfl;exact Vw.vz _ h
theorem NO(t p:ByteArray)(h:¬gD.kP p<gD.kP t):(Op.bytesLess t.toList p.toList=true)∨(Op.bytesLess t.toList p.toList=false/\(t.toList==p.toList)=true):=by
 rw[rq,lA];rcases QW t p h with rfl|h
 .exact .inr ⟨ju (Vw.vz _),by simp⟩
 .exact .inl (kr h)
theorem jS(E k:Int)(b:Nat)(w:World)(h:w.cell? (b,gy)=some (.int .i64 k)):Calls prog 89 #[E,(b,gy)] w (m7 (.agg #[E,k]) w):=by
 have e:b<w.heap.size:=iM _ _ h;go_enter func89,ntmps89;go_wp2_with fail;exact gS (v:=.agg #[E,k]) (by simp[results,results89,go_sem]) rfl ⟨rfl,gZ.alloc gM _⟩
theorem qv(w:World)(o o':Obj):((w.alloc o).alloc o').heap[w.heap.size+1]?=some o':=by simpa using gO (w.alloc o) o'
theorem LH{w wr f:World}{h j:Obj}(hb:Below w w wr)(m:Below ((wr.alloc h).alloc j).heap.size ((wr.alloc h).alloc j) f):
  f.heap[wr.heap.size]?=some h/\f.heap[wr.heap.size+1]?=some j/\wr.heap.size+1<f.heap.size/\Below w w f/\Below wr wr f:=by
 have e:=(gB (qv wr h j) m);have b2:Below wr wr f:=gH ((gZ.alloc gM h).alloc (by simp) j) m;exact⟨gB (gF (gO wr h)) m,e,iq e,gH hb b2,b2⟩
theorem kZ(u:Int)(a:Option Addr)(n cap:Nat)(l:List Vw.Acc)(w:World)(h:As w a n cap l):Calls prog 62 #[iJ u a n cap] w (m7 (oB (Vw.iX ⟨u,l⟩)) w):=by
 have ax:=h.sl.max;have aC:=h.sl.le;unfold maxLen at ax;have HN:=gx h.jO;have HW:=gx (show Vw.iX ⟨u,l⟩=if u<0∨150<u then(3,0) else Vw.wl u 0 0 none l from rfl);have aD:∀(fn:Fn) (first cap:Array Value) (w:World),(Instr.makeFunc fn first cap).run prog w=.ok (.func fn first cap) w:=fun _ _ _ _=>rfl;unfold iJ oB;by_cases hu:u<0∨150<u
 .have HC:=gx (HW.trans (gG hu));rw[HC.out];rcases hu with hu|hu
  .go_enter func62,ntmps62;go_wp2_with fail;exact gS (v:=.agg #[jF,gy]) (by simp[results,results62,go_sem]) rfl ⟨rfl,(gZ.alloc gM _).alloc (by simp) _⟩
  .have az:¬u<0:=by omega
   go_enter func62,ntmps62;go_wp2_with fail;exact gS (v:=.agg #[jF,gy]) (by simp[results,results62,go_sem]) rfl ⟨rfl,(gZ.alloc gM _).alloc (by simp) _⟩
 .have HC:=gx (HW.trans (gC hu));have az:¬u<0:=by omega
  have aE:¬150<u:=by omega
  clear hu HW;rw[HC.out];have B0:=gO w (.cells #[u,(a,n,cap)] 30);have B1:=gO (w.alloc (.cells #[u,(a,n,cap)] 30)) (.cells #[gy,gy] 73);rw[jH] at B1;have af:=gF (o':=.cells #[gy,gy] 73) B0;replace af:=gx af;replace B1:=gx B1;clear B0;go_enter func62,ntmps62;go_wp2_with fail;go_loopg[3,21] n (fun g s3 i wr=>∃(k:Nat) (c:Int),g=n-k/\k<=n/\i=.int .i64 (k:Int)/\s3=.int .i64 (u-c)/\0<=c/\c<=u/\Below w w wr/\w.heap.size+1<wr.heap.size/\
   wr.heap[w.heap.size]?=some (.cells #[u,(a,n,cap)] 30)/\wr.heap[w.heap.size+1]?=some (.cells #[gy,gy] 73)/\Hid (Vw.wl u 0 0 none l=Vw.wl u k c (og l k) (l.drop k)))
  case atStart=>exact⟨0,0,rfl,by omega,rfl,by simp,by omega,by omega,(gZ.alloc gM _).alloc (by simp) _,by simp,af,B1,gx rfl⟩
  case round=>
   clear af B1;obtain⟨k,c,rfl,hk,rfl,rfl,aA,aB,hb,hz,ag,ab,X⟩:=hrel;by_cases ay:k<n
   .have ao:k<l.length:=by rw[HN.out];exact ay
    obtain⟨b,off,rfl,_⟩:=h.sl.addr (by omega);obtain⟨q0,q1,q2,q3⟩:=(h.below hb).at k ao;have r:=gx (JC (u:=u) (c:=c) ao);have aq:=h.ok _ (iE ao);obtain⟨ac,ak⟩:∃ac,l[k]=ac:=⟨_,rfl⟩;rw[ak] at q0 q1 q2 q3 r aq;replace ak:=gx ak;obtain⟨t,m,B,o⟩:=ac;simp only at q0 q1 q2 q3 aq;have D:=gx (tT t aq);have aw:Vw.key (⟨t,m,B,o⟩:Vw.Acc)=gD.kP t:=rfl;rw[aw] at r;generalize gD.named (gD.kP t)=N at *;obtain⟨v0,v1⟩:=lv ag;go_wp2_with fail;go_at_call 28;refine(D _).mono ?_;rintro e W⟨rfl,b1⟩;obtain⟨x1,x2,ai,C,al⟩:=LH hb b1;have P:=gB ag al;have E:=gB ab al;have Z:=h.below C;obtain⟨a0,a1,a2⟩:=PP x2;have Q:W.cell? (wr,gy)=some (.int .i64 (k:Int)):=gw x1;have U:w.heap.size+1<W.heap.size:=iq E;clear v0 v1 q0 q1 q2 q3 b1 D ag ab al;obtain⟨v0,v1⟩:=lv P;cases N with
    |false=>
     have G:=gx (show Vw.wl u 0 0 none l=(7,(k:Int)) by rw[X.out,r.out,gG rfl]);clear r;go_wp2_with fail;go_at_call 89;refine(jS 7 (k:Int) wr.heap.size W (gw x1)).mono ?_;rintro e F⟨rfl,b2⟩;have f:=gB E b2;obtain⟨I,K⟩:=lv f;have f0:F.frozen? (w.heap.size+1,gy)=false:=gA f;have f1:F.frozen? (w.heap.size+1,ia)=false:=gA f;go_wp2_with fail;exact gS (v:=.agg #[ps,k]) (by simp[results,results62,go_sem,I,K]) rfl ⟨by rw[G.out],((gH C b2).setCell (by simp) _).setCell (by simp) _⟩
    |true=>
     have r:=gx (r.trans (gC (by simp)));by_cases g1:B<1
     .have G:=gx (show Vw.wl u 0 0 none l=(3,(k:Int)) by rw[X.out,r.out,gG (.inl g1)]);clear r;go_wp2_with fail;go_at_call 89;refine(jS 3 (k:Int) wr.heap.size W (gw x1)).mono ?_;rintro e F⟨rfl,b2⟩;have f:=gB E b2;obtain⟨I,K⟩:=lv f;have f0:F.frozen? (w.heap.size+1,gy)=false:=gA f;have f1:F.frozen? (w.heap.size+1,ia)=false:=gA f;go_wp2_with fail;exact gS (v:=.agg #[jF,k]) (by simp[results,results62,go_sem,I,K]) rfl ⟨by rw[G.out],((gH C b2).setCell (by simp) _).setCell (by simp) _⟩
     by_cases g2:u<B
     .have G:=gx (show Vw.wl u 0 0 none l=(3,(k:Int)) by rw[X.out,r.out,gG (.inr (.inl g2))]);clear r;go_wp2_with fail;go_at_call 89;refine(jS 3 (k:Int) wr.heap.size W (gw x1)).mono ?_;rintro e F⟨rfl,b2⟩;have f:=gB E b2;obtain⟨I,K⟩:=lv f;have f0:F.frozen? (w.heap.size+1,gy)=false:=gA f;have f1:F.frozen? (w.heap.size+1,ia)=false:=gA f;go_wp2_with fail;exact gS (v:=.agg #[jF,k]) (by simp[results,results62,go_sem,I,K]) rfl ⟨by rw[G.out],((gH C b2).setCell (by simp) _).setCell (by simp) _⟩
     have s1:IntKind.i64.wrap (-1000000*B)=-1000000*B:=iO _ (by omega);have s2:IntKind.i64.wrap (1000000*B)=1000000*B:=iO _ (by omega);by_cases g4:1000000*B<m
     .have G:=gx (show Vw.wl u 0 0 none l=(3,(k:Int)) by rw[X.out,r.out,gG (.inr (.inr (.inr g4)))]);clear r;go_wp2_with fail;go_at_call 89;refine(jS 3 (k:Int) wr.heap.size W (gw x1)).mono ?_;rintro e F⟨rfl,b2⟩;have f:=gB E b2;obtain⟨I,K⟩:=lv f;have f0:F.frozen? (w.heap.size+1,gy)=false:=gA f;have f1:F.frozen? (w.heap.size+1,ia)=false:=gA f;go_wp2_with fail;exact gS (v:=.agg #[jF,k]) (by simp[results,results62,go_sem,I,K]) rfl ⟨by rw[G.out],((gH C b2).setCell (by simp) _).setCell (by simp) _⟩
     by_cases g3:m < -1000000*B
     .have G:=gx (show Vw.wl u 0 0 none l=(3,(k:Int)) by rw[X.out,r.out,gG (.inr (.inr (.inl g3)))]);clear r;go_wp2_with fail;go_at_call 89;refine(jS 3 (k:Int) wr.heap.size W (gw x1)).mono ?_;rintro e F⟨rfl,b2⟩;have f:=gB E b2;obtain⟨I,K⟩:=lv f;have f0:F.frozen? (w.heap.size+1,gy)=false:=gA f;have f1:F.frozen? (w.heap.size+1,ia)=false:=gA f;go_wp2_with fail;exact gS (v:=.agg #[jF,k]) (by simp[results,results62,go_sem,I,K]) rfl ⟨by rw[G.out],((gH C b2).setCell (by simp) _).setCell (by simp) _⟩
     have r:=gx (r.trans (gC (fun Y=>by rcases Y with h1|h1|h1|h1<;>first|exact g1 h1|exact g2 h1|exact g3 h1|exact g4 h1)));rcases pD k with Qd|Qd
     .subst Qd;have r:=gx (r.trans (gC (fun Y=>Y (by trivial))));have Q:W.cell? (wr,gy)=some (.int .i64 0):=Q;go_wp2_with fail;go_quiet (fail);have L:=below_drewN C nq;have ad:(W.drewN nq).heap[w.heap.size]?=some (.cells #[u,(some (b,off),n,cap)] 30):=P;have O:(W.drewN nq).heap[w.heap.size+1]?=some (.cells #[gy,gy] 73):=E;have ae:w.heap.size+1<(W.drewN nq).heap.size:=U;have aj:(W.drewN nq).cell? (wr.heap.size+1,j6)=some (.int .i64 B):=a2;have V:(W.drewN nq).cell? (wr,gy)=some (.int .i64 0):=Q;clear v0 v1 a0 a1 a2 Q C P E U ai Z x1 x2;generalize W.drewN nq=W2 at *;have Q:=V;have s3:IntKind.i64.wrap (u-c-B)=u-c-B:=iO _ (by omega);by_cases g5:u<c+B
      .have G:=gx (show Vw.wl u 0 0 none l=(8,((0:Nat):Int)) by rw[X.out,r.out,gG g5]);have g6:u-c-B<0:=by omega
       clear r;go_wp2_with fail;go_at_call 89;refine(jS 8 0 wr.heap.size W2 Q).mono ?_;rintro e F⟨rfl,b2⟩;have f:=gB O b2;obtain⟨I,K⟩:=lv f;have f0:F.frozen? (w.heap.size+1,gy)=false:=gA f;have f1:F.frozen? (w.heap.size+1,ia)=false:=gA f;go_wp2_with fail;exact gS (v:=.agg #[pt,gy]) (by simp[results,results62,go_sem,I,K]) rfl ⟨by rw[G.out];rfl,((gH L b2).setCell (by simp) _).setCell (by simp) _⟩
      .have r:=gx (r.trans (gC g5));have g6:¬u-c-B<0:=by omega
       go_wp2_with fail;go_roundg (n-(0+1));case measure=>omega
       case rel=>exact⟨0+1,c+B,rfl,by omega,by go_num,by rw[show u-(c+B)=u-c-B from by omega],by omega,by omega,L,ae,ad,O,gx (by rw[X.out,r.out])⟩
     .obtain⟨j,rfl⟩:∃j,k=j+1:=⟨k-1,by omega⟩;have au:j<l.length:=by omega
      have pj:=(Z.at j au).1;obtain⟨pr,ah⟩:∃pr,l[j].s=pr:=⟨_,rfl⟩;rw[ah] at pj;have ap:Hid (og l (j+1)=some (gD.kP pr)):=gx (by unfold og;rw[gC (by omega),<-ah];simp[au,Vw.key]);replace ah:=gx ah;have i0:(0:Int)<=(j:Int):=by omega
      have i1:(j:Int)<(n:Int):=by omega
      have i2:(0:Int)<(j:Int)+1:=by omega
      have i3:IntKind.i64.wrap ((j:Int)+1-1)=(j:Int):=by rw[show(j:Int)+1-1=(j:Int) from by omega];exact iO _ (by omega)
      by_cases q:gD.kP pr<gD.kP t
      .obtain⟨e0,e1⟩:=PC t pr q;have r:=gx (r.trans (gC (fun Y=>Y (by rw[ap.out];exact q))));have ar:=gx q;clear q;go_wp2_with fail;go_quiet (fail);have L:=below_drewN C nq;have ad:(W.drewN nq).heap[w.heap.size]?=some (.cells #[u,(some (b,off),n,cap)] 30):=P;have O:(W.drewN nq).heap[w.heap.size+1]?=some (.cells #[gy,gy] 73):=E;have ae:w.heap.size+1<(W.drewN nq).heap.size:=U;have aj:(W.drewN nq).cell? (wr.heap.size+1,j6)=some (.int .i64 B):=a2;have V:(W.drewN nq).cell? (wr,gy)=some (.int .i64 ((j+1:Nat):Int)):=Q;clear v0 v1 a0 a1 a2 Q C P E U ai Z x1 x2;generalize W.drewN nq=W2 at *;have Q:=V;have s3:IntKind.i64.wrap (u-c-B)=u-c-B:=iO _ (by omega);by_cases g5:u<c+B
       .have G:=gx (show Vw.wl u 0 0 none l=(8,((j+1:Nat):Int)) by rw[X.out,r.out,gG g5]);have g6:u-c-B<0:=by omega
        clear r;go_wp2_with fail;go_at_call 89;refine(jS 8 ((j+1:Nat):Int) wr.heap.size W2 Q).mono ?_;rintro e F⟨rfl,b2⟩;have f:=gB O b2;obtain⟨I,K⟩:=lv f;have f0:F.frozen? (w.heap.size+1,gy)=false:=gA f;have f1:F.frozen? (w.heap.size+1,ia)=false:=gA f;go_wp2_with fail;exact gS (v:=.agg #[pt,.int .i64 ((j+1:Nat):Int)]) (by simp[results,results62,go_sem,I,K]) rfl ⟨by rw[G.out],((gH L b2).setCell (by simp) _).setCell (by simp) _⟩
       .have r:=gx (r.trans (gC g5));have g6:¬u-c-B<0:=by omega
        go_wp2_with fail;go_roundg (n-(j+1+1));case measure=>omega
        case rel=>exact⟨j+1+1,c+B,rfl,by omega,by go_num,by rw[show u-(c+B)=u-c-B from by omega],by omega,by omega,L,ae,ad,O,gx (by rw[X.out,r.out])⟩
      .rcases NO t pr q with e0|⟨e0,e1⟩
       .have G:=gx (show Vw.wl u 0 0 none l=(2,((j+1:Nat):Int)) by rw[X.out,r.out,gG (fun Y=>q (by rw[ap.out] at Y;exact Y))]);have ar:=gx q;clear q r;go_wp2_with fail;go_quiet (fail);have L:=below_drewN C nq;have ad:(W.drewN nq).heap[w.heap.size]?=some (.cells #[u,(some (b,off),n,cap)] 30):=P;have O:(W.drewN nq).heap[w.heap.size+1]?=some (.cells #[gy,gy] 73):=E;have ae:w.heap.size+1<(W.drewN nq).heap.size:=U;have aj:(W.drewN nq).cell? (wr.heap.size+1,j6)=some (.int .i64 B):=a2;have V:(W.drewN nq).cell? (wr,gy)=some (.int .i64 ((j+1:Nat):Int)):=Q;clear v0 v1 a0 a1 a2 Q C P E U ai Z x1 x2;generalize W.drewN nq=W2 at *;have Q:=V;go_wp2_with fail;go_at_call 89;refine(jS 2 ((j+1:Nat):Int) wr.heap.size W2 Q).mono ?_;rintro e F⟨rfl,b2⟩;have f:=gB O b2;obtain⟨I,K⟩:=lv f;have f0:F.frozen? (w.heap.size+1,gy)=false:=gA f;have f1:F.frozen? (w.heap.size+1,ia)=false:=gA f;go_wp2_with fail;exact gS (v:=.agg #[j6,.int .i64 ((j+1:Nat):Int)]) (by simp[results,results62,go_sem,I,K]) rfl ⟨by rw[G.out],((gH L b2).setCell (by simp) _).setCell (by simp) _⟩
       .have G:=gx (show Vw.wl u 0 0 none l=(2,((j+1:Nat):Int)) by rw[X.out,r.out,gG (fun Y=>q (by rw[ap.out] at Y;exact Y))]);have ar:=gx q;clear q r;go_wp2_with fail;go_quiet (fail);have L:=below_drewN C nq;have ad:(W.drewN nq).heap[w.heap.size]?=some (.cells #[u,(some (b,off),n,cap)] 30):=P;have O:(W.drewN nq).heap[w.heap.size+1]?=some (.cells #[gy,gy] 73):=E;have ae:w.heap.size+1<(W.drewN nq).heap.size:=U;have aj:(W.drewN nq).cell? (wr.heap.size+1,j6)=some (.int .i64 B):=a2;have V:(W.drewN nq).cell? (wr,gy)=some (.int .i64 ((j+1:Nat):Int)):=Q;clear v0 v1 a0 a1 a2 Q C P E U ai Z x1 x2;generalize W.drewN nq=W2 at *;have Q:=V;go_wp2_with fail;go_at_call 89;refine(jS 2 ((j+1:Nat):Int) wr.heap.size W2 Q).mono ?_;rintro e F⟨rfl,b2⟩;have f:=gB O b2;obtain⟨I,K⟩:=lv f;have f0:F.frozen? (w.heap.size+1,gy)=false:=gA f;have f1:F.frozen? (w.heap.size+1,ia)=false:=gA f;go_wp2_with fail;exact gS (v:=.agg #[j6,.int .i64 ((j+1:Nat):Int)]) (by simp[results,results62,go_sem,I,K]) rfl ⟨by rw[G.out],((gH L b2).setCell (by simp) _).setCell (by simp) _⟩
   .obtain rfl:k=n:=by omega
    obtain⟨I,K⟩:=lv ab;have f0:wr.frozen? (w.heap.size+1,gy)=false:=gA ab;have f1:wr.frozen? (w.heap.size+1,ia)=false:=gA ab;obtain⟨v0,v1⟩:=lv ag;by_cases S:c=u
    .have G:=gx (show Vw.wl u 0 0 none l=(0,0) by rw[X.out,mV (by rw[HN.out];exact jb _)];unfold Vw.wl;rw[gC (fun Y=>Y S)])
     subst S;rw[show c-c=0 from by omega];go_wp2_with fail;exact gS (v:=.agg #[gy,gy]) (by simp[results,results62,go_sem,I,K]) rfl ⟨by rw[G.out],(hb.setCell (by simp) _).setCell (by simp) _⟩
    .have G:=gx (show Vw.wl u 0 0 none l=(8,(k:Int)) by rw[X.out,mV (by rw[HN.out];exact jb _)];unfold Vw.wl;rw[gG S])
     have t0:(u-c !=0)=true:=ij.2 (by omega);replace S:=gx S;generalize u-c=lf at *;go_wp2_with fail;exact gS (v:=.agg #[pt,k]) (by simp[results,results62,go_sem,I,K]) rfl ⟨by rw[G.out],(hb.setCell (by simp) _).setCell (by simp) _⟩
theorem Oa{w:World}{b:Nat}{j m o q:Value}{t:TypeId}(h:w.heap[b]?=some (.cells #[j,m,o,q] t))(e v1 v2 f:Value):
  ((((w.setCell (b,gy) e).setCell (b,ia) v1).setCell (b,j6) v2).setCell (b,jF) f).heap[b]?=some (.cells #[e,v1,v2,f] t):=
 jq (i:=3) (jq (i:=2) (jq (i:=1) (jq (i:=0) h e) v1) v2) f
theorem Cp{w:World}{b g:Nat}{o:Obj}(h:w.heap[b]?=some o)(e:b≠g)(f v1 v2 j:Value):((((w.setCell (g,gy) f).setCell (g,ia) v1).setCell (g,j6) v2).setCell (g,jF) j).heap[b]?=some o:=
 ic (ic (ic (ic h e _) e _) e _) e _
theorem Lp{w j:World}{b f:Nat}(h:Below b w j)(e:b<=f)(m v1 v2 o:Value):Below b w ((((j.setCell (f,gy) m).setCell (f,ia) v1).setCell (f,j6) v2).setCell (f,jF) o):=(((h.setCell e _).setCell e _).setCell e _).setCell e _
theorem J0{l:List Vw.Acc}{s:ByteArray}{k:Nat}(h:k<l.length):Vw.get (l.drop k) s=if l[k].s=s then l[k] else Vw.get (l.drop (k+1)) s:=by
 rw[rv h];rfl
theorem yJ(u:Int)(a:Option Addr)(n cap:Nat)(l:List Vw.Acc)(s:ByteArray)(w:World)(h:As w a n cap l):Calls prog 56 #[iJ u a n cap,s] w (m7 (oA (Vw.get l s)) w):=by
 have F:=h.sl.max;have Z:=h.sl.le;unfold maxLen at F;have K:=gx h.jO;have s0:IntKind.i64.wrap ((n:Int)-1)=(n:Int)-1:=iO _ (by omega);unfold iJ;go_enter func56,ntmps56;go_wp2_with fail;obtain⟨V,G⟩:∃V,V=((w.alloc (.cells #[u,(a,n,cap)] 30)).alloc (.cells #[.string ⟨#[]⟩,gy,gy,.bool false] 55)).alloc (.cells #[s,gy,gy,.bool false] 55):=⟨_,rfl⟩;rw[<-G];have hb:Below w w V:=by rw[G];have q:=((iU w.heap.size w).alloc gM (.cells #[u,(a,n,cap)] 30)).alloc (by simp) (.cells #[.string ⟨#[]⟩,gy,gy,.bool false] 55);exact q.alloc q.size _
 obtain⟨v1,v2,f,hz,_⟩:=kL w (.cells #[u,(a,n,cap)] 30) (.cells #[.string ⟨#[]⟩,gy,gy,.bool false] 55) (.cells #[s,gy,gy,.bool false] 55) V (by rw[G];exact iU _ _);clear G;have N:V.cell? (w,ia)=some (.slice a n cap):=gw v1;go_wp2_with fail;go_loopg[6] n (fun g i wr=>∃(k:Nat) (A:Vw.Acc),g=k/\k<=n/\i=.int .i64 ((k:Int)-1)/\Below w w wr/\wr.heap[w.heap.size]?=some (.cells #[u,(a,n,cap)] 30)/\
  wr.heap[w.heap.size+1]?=some (.cells #[.string ⟨#[]⟩,gy,gy,.bool false] 55)/\wr.heap[w.heap.size+1+1]?=some (.cells #[A.s,A.sum,A.jO,.bool A.xe] 55)/\Hid (Vw.get (l.drop k) s=A))
 case atStart=>exact⟨n,Vw.new s,rfl,jb _,rfl,hb,v1,v2,f,gx (by rw[mV (by rw[K.out];exact jb _)];rfl)⟩
 case round=>
  clear hb v1 v2 f N hz;obtain⟨k,A,rfl,hk,rfl,hb,v1,v2,f,I⟩:=hrel;have N:wr.cell? (w,ia)=some (.slice a n cap):=gw v1;obtain⟨r1,r2,r3,r4⟩:=Lm f;rcases pD gk with E|E
  .subst E;obtain⟨U,W,X,Y⟩:=Lm v2;have S:∀j,wr.frozen? ⟨w.heap.size+1,j,none⟩=false:=fun j=>gA v2;have r:=gx (show Vw.get l s=A from I);go_wp2_with fail;exact gS (v:=.agg #[A.s,A.sum,A.jO,.bool A.xe]) (by simp[results,results56,go_sem,U,W,X,Y]) rfl ⟨by rw[r.out];rfl,Lp hb (by omega) _ _ _ _⟩
  .obtain⟨j,rfl⟩:∃j,gk=j+1:=⟨gk-1,by omega⟩;have C:j<l.length:=by rw[K.out];omega
   obtain⟨b,off,rfl,_⟩:=h.sl.addr (by omega);obtain⟨q0,q1,q2,q3⟩:=(h.below hb).at j C;have L:=gx (J0 (s:=s) C);generalize B:l[j]=ac at *;obtain⟨t,m,c,o⟩:=ac;simp only at q0 q1 q2 q3;replace B:=gx B;have Q:(((j+1:Nat):Int)-1)=(j:Int):=by omega
   rw[Q];have i0:(0:Int)<=(j:Int):=by omega
   have i1:(j:Int)<(n:Int):=by omega
   have i2:IntKind.i64.wrap ((j:Int)-1)=(j:Int)-1:=iO _ (by omega);by_cases e:t=s
   .subst e;have O:(t==t)=true:=by rw[E9];simp
    have P:(t.toList==t.toList)=true:=by rw[lA];simp
    have r:=gx (show Vw.get (l.drop j) t=⟨t,m,c,o⟩ by rw[L.out,gG rfl]);have S:∀j,wr.frozen? ⟨w.heap.size+1+1,j,none⟩=false:=fun j=>gA f;go_wp2_with fail;go_roundg j;case measure=>omega
    case rel=>exact⟨j,⟨t,m,c,o⟩,rfl,by omega,rfl,Lp hb (by omega) _ _ _ _,Cp v1 (by omega) _ _ _ _,Cp v2 (by omega) _ _ _ _,Oa f _ _ _ _,r⟩
   .have O:(t==s)=false:=by rw[E9,ju e]
    have P:(t.toList==s.toList)=false:=by rw[lA,ju e]
    have r:=gx (show Vw.get (l.drop j) s=A by rw[L.out,gC e];exact I);clear e;go_wp2_with fail;go_roundg j;case measure=>omega
    case rel=>exact⟨j,A,rfl,by omega,rfl,hb,v1,v2,f,r⟩
theorem CW(a:Vw.Acc)(e:gD.Ev)(w:World):Calls prog 90 #[oA a,jG e] w (m7 (.bool (Vw.may a e)) w):=by
 obtain⟨s,m,c,o⟩:=a;obtain⟨t,k,n⟩:=e;unfold oA jG;cases o with
 |false=>
  have hb:Below w w ((w.alloc (.cells #[s,m,c,.bool false] 55)).alloc (.cells #[t,k,n] 78)):=(gZ.alloc gM _).alloc (by simp) _;have q:=gx (show Vw.may ⟨s,m,c,false⟩ ⟨t,k,n⟩=if k=1 then !false else if k=2∨k=4 then false else if k=3 then false&&decide (n<=m) else false from rfl);simp only;by_cases h:k=1
  .have f:=gx (q.trans (gG h));rw[f.out];subst h;go_enter func90,ntmps90;go_wp2_with fail;go_ret;exact⟨rfl,hb⟩
  .have C:(k==1)=false:=jB.2 h;by_cases r:k=2
   .have f:=gx (q.trans ((gC h).trans (gG (.inl r))));rw[f.out];subst r;go_enter func90,ntmps90;go_wp2_with fail;go_ret;exact⟨rfl,hb⟩
   .have E:(k==2)=false:=jB.2 r;by_cases B:k=4
    .have f:=gx (q.trans ((gC h).trans (gG (.inr B))));rw[f.out];subst B;go_enter func90,ntmps90;go_wp2_with fail;go_ret;exact⟨rfl,hb⟩
    .have G:(k==4)=false:=jB.2 B;by_cases j:k=3
     .have f:=gx (q.trans ((gC h).trans ((gC (by omega)).trans (gG j))));rw[f.out];subst j;go_enter func90,ntmps90;go_wp2_with fail;go_ret;exact⟨rfl,hb⟩
     .have F:(k==3)=false:=jB.2 j;have f:=gx (q.trans ((gC h).trans ((gC (by omega)).trans (gC j))));rw[f.out];replace h:=gx h;replace r:=gx r;replace j:=gx j;replace B:=gx B;go_enter func90,ntmps90;go_wp2_with fail;go_ret;exact⟨rfl,hb⟩
 |true=>
  have hb:Below w w ((w.alloc (.cells #[s,m,c,.bool true] 55)).alloc (.cells #[t,k,n] 78)):=(gZ.alloc gM _).alloc (by simp) _;have q:=gx (show Vw.may ⟨s,m,c,true⟩ ⟨t,k,n⟩=if k=1 then !true else if k=2∨k=4 then true else if k=3 then true&&decide (n<=m) else false from rfl);simp only;by_cases h:k=1
  .have f:=gx (q.trans (gG h));rw[f.out];subst h;go_enter func90,ntmps90;go_wp2_with fail;go_ret;exact⟨rfl,hb⟩
  .have C:(k==1)=false:=jB.2 h;by_cases r:k=2
   .have f:=gx (q.trans ((gC h).trans (gG (.inl r))));rw[f.out];subst r;go_enter func90,ntmps90;go_wp2_with fail;go_ret;exact⟨rfl,hb⟩
   .have E:(k==2)=false:=jB.2 r;by_cases B:k=4
    .have f:=gx (q.trans ((gC h).trans (gG (.inr B))));rw[f.out];subst B;go_enter func90,ntmps90;go_wp2_with fail;go_ret;exact⟨rfl,hb⟩
    .have G:(k==4)=false:=jB.2 B;by_cases j:k=3
     .have f:=gx (q.trans ((gC h).trans ((gC (by omega)).trans (gG j))));rw[f.out];subst j;go_enter func90,ntmps90;go_wp2_with fail;go_ret;exact⟨rH (by simp),hb⟩
     .have F:(k==3)=false:=jB.2 j;have f:=gx (q.trans ((gC h).trans ((gC (by omega)).trans (gC j))));rw[f.out];replace h:=gx h;replace r:=gx r;replace j:=gx j;replace B:=gx B;go_enter func90,ntmps90;go_wp2_with fail;go_ret;exact⟨rfl,hb⟩
end Go.Proofs.YthhcdfjijagalaaGreat
namespace Go.Proofs.YthhcdfjijagalaaGreat
open Qz Go.Proofs.Tryz Go.RowKit Go.Maps
theorem Mx(u:Int)(a:Option Addr)(n cap:Nat)(l:List Vw.Acc)(e:gD.Ev)(w:World)(h:As w a n cap l)(f:(Vw.iX ⟨u,l⟩).1≠0):
  Calls prog 63 #[iJ u a n cap,jG e] w (xO ⟨Vw.iL,(Vw.iX ⟨u,l⟩).1⟩ w):=by
 have D:=gx (fun W (C:As W a n cap l)=>kZ u a n cap l W C);obtain⟨s,k,m⟩:=e;obtain⟨E,r⟩:∃E,E=Vw.iX ⟨u,l⟩:=⟨_,rfl⟩;rw[<-r] at f⊢;rw[<-r] at D;clear r;obtain⟨q,B⟩:=E;unfold iJ jG;unfold iJ oB at D;simp only at f D⊢;have Q:(q !=0)=true:=ij.2 f;replace f:=gx f;go_enter func63,ntmps63;go_wp2_with fail;go_at_call 62;refine(D _ (((h.alloc _).alloc _).alloc _)).mono ?_;rintro e j⟨rfl,b1⟩;obtain⟨v1,v2,o,F,hb⟩:=kL w _ _ _ j b1;have S:w.heap.size+1+1≠j.heap.size:=by omega
 have U:j.heap.size≠w.heap.size+1+1:=by omega
 obtain⟨O,P⟩:=lv o;have L:j.frozen? (w.heap.size+1+1,gy)=false:=gA o;have N:j.frozen? (w.heap.size+1+1,ia)=false:=gA o;clear b1;go_wp2_with fail;go_region;go_wp2_with fail;obtain⟨G,I,K⟩:=Gz hb (by omega) o gy () (.cells #[q,B] 73);exact gS (v:=.tuple #[.agg #[gy,()],q]) (by simp[results,results63,go_sem,G,I]) rfl (xH K)
theorem My(u:Int)(a:Option Addr)(n cap:Nat)(l:List Vw.Acc)(e:gD.Ev)(w:World)(h:As w a n cap l)(O:e.s.size<=maxLen)(o:(Vw.iX ⟨u,l⟩).1=0)(q:gD.iW e≠0):
  Calls prog 63 #[iJ u a n cap,jG e] w (xO ⟨Vw.iL,gD.iW e⟩ w):=by
 have D:=gx (fun W (N:As W a n cap l)=>kZ u a n cap l W N);have j:=gx (fun W=>lV e O W);obtain⟨s,k,m⟩:=e;generalize Vw.iX ⟨u,l⟩=E at o D;obtain⟨L,B⟩:=E;obtain⟨K,C⟩:∃K,K=gD.iW ⟨s,k,m⟩:=⟨_,rfl⟩;rw[<-C] at q j⊢;replace C:=gx C;have o:L=0:=o;subst o;unfold iJ jG;unfold iJ oB at D;unfold jG at j;simp only at D j⊢;have Z:(K !=0)=true:=ij.2 q;replace q:=gx q;go_enter func63,ntmps63;go_wp2_with fail;go_at_call 62;refine(D _ (((h.alloc _).alloc _).alloc _)).mono ?_;rintro e r⟨rfl,b1⟩;obtain⟨v1,v2,f,P,hb⟩:=kL w _ _ _ r b1;clear b1;have S:(r.alloc (.cells #[gy,B] 73)).cell? (w.heap.size+1,gy)=some (.string s):=gw (gF v2);have U:(r.alloc (.cells #[gy,B] 73)).cell? (w.heap.size+1,ia)=some (.int .i64 k):=gw (gF v2);have V:(r.alloc (.cells #[gy,B] 73)).cell? (w.heap.size+1,j6)=some (.int .i64 m):=gw (gF v2);go_wp2_with fail;go_at_call 82;refine(j _).mono ?_;rintro e I⟨rfl,b2⟩;replace f:=iT f b2;replace hb:=kg hb b2;clear b2 S U V v1 v2;obtain⟨F,G⟩:=lv f;have X:I.frozen? (w.heap.size+1+1,gy)=false:=gA f;have Y:I.frozen? (w.heap.size+1+1,ia)=false:=gA f;go_wp2_with fail;obtain⟨F,G,Q⟩:=sJ hb (by omega) f gy ();exact gS (v:=.tuple #[.agg #[gy,()],K]) (by simp[results,results63,go_sem,F,G]) rfl (xH Q)
theorem Mz(a:Option Addr)(n cap:Nat)(l:List Vw.Acc)(e:gD.Ev)(w:World)(h:As w a n cap l)(L:e.s.size<=maxLen)(o:(Vw.iX ⟨150,l⟩).1=0)(B:gD.iW e=0):
  Calls prog 63 #[iJ 150 a n cap,jG e] w (xO ⟨Vw.iL,5⟩ w):=by
 have D:=gx (fun W (K:As W a n cap l)=>kZ 150 a n cap l W K);have j:=gx (fun W=>lV e L W);rw[B] at j;replace B:=gx B;obtain⟨s,k,m⟩:=e;generalize Vw.iX ⟨150,l⟩=E at o D;obtain⟨I,r⟩:=E;have o:I=0:=o;subst o;unfold iJ jG;unfold iJ oB at D;unfold jG at j;simp only at D j⊢;go_enter func63,ntmps63;go_wp2_with fail;go_at_call 62;refine(D _ (((h.alloc _).alloc _).alloc _)).mono ?_;rintro e q⟨rfl,b1⟩;obtain⟨v1,v2,f,N,hb⟩:=kL w _ _ _ q b1;clear b1;have P:(q.alloc (.cells #[gy,r] 73)).cell? (w.heap.size+1,gy)=some (.string s):=gw (gF v2);have Q:(q.alloc (.cells #[gy,r] 73)).cell? (w.heap.size+1,ia)=some (.int .i64 k):=gw (gF v2);have S:(q.alloc (.cells #[gy,r] 73)).cell? (w.heap.size+1,j6)=some (.int .i64 m):=gw (gF v2);go_wp2_with fail;go_at_call 82;refine(j _).mono ?_;rintro e C⟨rfl,b2⟩;replace v1:=iT v1 b2;replace f:=iT f b2;replace hb:=kg hb b2;clear b2 P Q S v2;have X:C.cell? (w,gy)=some (.int .i64 150):=gw v1;obtain⟨F,G⟩:=lv f;have U:C.frozen? (w.heap.size+1+1,gy)=false:=gA f;have V:C.frozen? (w.heap.size+1+1,ia)=false:=gA f;go_wp2_with fail;obtain⟨F,G,O⟩:=sJ hb (by omega) f gy ();exact gS (v:=.tuple #[.agg #[gy,()],nk]) (by simp[results,results63,go_sem,F,G]) rfl (xH O)
theorem MA(u:Int)(a:Option Addr)(n cap:Nat)(l:List Vw.Acc)(e:gD.Ev)(w:World)(h:As w a n cap l)(he:e.s.size<=maxLen)(r:(Vw.iX ⟨u,l⟩).1=0)(L:gD.iW e=0)(h3:u≠150)(N:Vw.may (Vw.get l e.s) e=false):
  Calls prog 63 #[iJ u a n cap,jG e] w (xO ⟨Vw.iL,8⟩ w):=by
 have D:=gx (fun W (P:As W a n cap l)=>kZ u a n cap l W P);have B:=gx (fun W=>lV e he W);have q:=gx (fun W (P:As W a n cap l)=>yJ u a n cap l e.s W P);have o:=gx (fun W=>CW (Vw.get l e.s) e W);have ab:u<=150:=((Vw.l9 ⟨u,l⟩).1 r).hi;rw[L] at B;rw[N] at o;replace L:=gx L;replace N:=gx N;obtain⟨s,k,m⟩:=e;simp only at q o;obtain⟨A,O⟩:∃A,A=Vw.get l s:=⟨_,rfl⟩;rw[<-O] at q o;replace O:=gx O;obtain⟨j,Am,F,G⟩:=A;generalize Vw.iX ⟨u,l⟩=E at r D;obtain⟨E1,I⟩:=E;have r:E1=0:=r;subst r;unfold iJ jG;unfold iJ oB at D;unfold jG at B o;unfold oA at q o;unfold iJ at q;simp only at D B q o⊢;have Q:¬150<=u:=by omega
 clear h3;go_enter func63,ntmps63;go_wp2_with fail;go_at_call 62;refine(D _ (((h.alloc _).alloc _).alloc _)).mono ?_;rintro e C⟨rfl,b1⟩;obtain⟨v1,v2,f,ad,hb⟩:=kL w _ _ _ C b1;clear b1;have S:(C.alloc (.cells #[gy,I] 73)).cell? (w.heap.size+1,gy)=some (.string s):=gw (gF v2);have U:(C.alloc (.cells #[gy,I] 73)).cell? (w.heap.size+1,ia)=some (.int .i64 k):=gw (gF v2);have V:(C.alloc (.cells #[gy,I] 73)).cell? (w.heap.size+1,j6)=some (.int .i64 m):=gw (gF v2);go_wp2_with fail;go_at_call 82;refine(B _).mono ?_;rintro e w2⟨rfl,b2⟩;replace v1:=iT v1 b2;replace v2:=iT v2 b2;replace f:=iT f b2;replace hb:=kg hb b2;clear b2 S U V;obtain⟨p0,p1⟩:=lv v1;have p2:w2.cell? (w.heap.size+1,gy)=some (.string s):=gw v2;go_wp2_with fail;go_at_call 56;refine(q _ (h.below hb)).mono ?_;rintro e X⟨rfl,b3⟩;replace v2:=gB v2 b3;replace f:=gB f b3;replace hb:=gH hb b3;clear b3 p0 p1 p2;have S:(X.alloc (.cells #[j,Am,F,.bool G] 55)).cell? (w.heap.size+1,gy)=some (.string s):=gw (gF v2);have U:(X.alloc (.cells #[j,Am,F,.bool G] 55)).cell? (w.heap.size+1,ia)=some (.int .i64 k):=gw (gF v2);have V:(X.alloc (.cells #[j,Am,F,.bool G] 55)).cell? (w.heap.size+1,j6)=some (.int .i64 m):=gw (gF v2);go_wp2_with fail;go_at_call 90;refine(o _).mono ?_;rintro e w4⟨rfl,K⟩;replace f:=iT f K;replace hb:=kg hb K;clear K S U V v2;obtain⟨Y,Z⟩:=lv f;have f0:w4.frozen? (w.heap.size+1+1,gy)=false:=gA f;have f1:w4.frozen? (w.heap.size+1+1,ia)=false:=gA f;go_wp2_with fail;obtain⟨Y,Z,q2⟩:=sJ hb (by omega) f gy ();exact gS (v:=.tuple #[.agg #[gy,()],pt]) (by simp[results,results63,go_sem,Y,Z]) rfl (xH q2)
theorem wpList_insert_own{H:Type}{P:Program}(w:World){r:Array Oper}{rest:List Oper}{o:Oper}{a:Act}{Q:Exit->Act->World->Prop}
  (I:o.guard=none) (m x v:Operand) (t:TypeId) (E:o.op=Op.insert t m x v)
  (k e:TypeId) (K:Keyed P k) (O:P.underlying t=some (.map k e)) (R:Value->Option (DataW H×List MemPlace)) (b n:Nat) (D:DataW H)
  (L:a.eval m=.map (some b)) (h:w.ownsMap P k R b n D) (N:n<maxLen) (key B:Value) (F:Lit) (U:a.eval x=key) (S:a.eval v=B) (f:keyOf P k key=some F)
  (d:DataW H) (V:List MemPlace) (q:R B=some (d,V))
  (G:∀w',w'.ownsMap P k R b (n+1) (D.put F d)->w.grownBy w' (some b)->wpList P r Q rest (a.put o.dst undef) w'):
  wpList P r Q (o::rest) a w:=by
 refine wpList_plain I fun Y C=>?_;obtain⟨w',j,W,X⟩:=h.update K O N f q;unfold Oper.wp;simp[execOp,E,L,U,S,j,Result.andThen];exact C _ _ (G w' W X)
def KL(k:Int):Int:=if k=2 then 1 else if k=3 then -1 else 0
theorem plainElem_int_inv{v:Value}{z:DataW Unit×List MemPlace}(h:(plainElem (H:=Unit) prog 3) v=some z):∃x,v=.int .i64 x/\z=(.lit (.int .i64 x),[]):=by
 unfold plainElem at h;rw[underlying3] at h;cases v<;>simp at h;obtain⟨⟨rfl,_⟩,rfl⟩:=h;exact⟨_,rfl,rfl⟩
theorem Ed(k:Int)(h:(Lit.int .i64 k).wf=true):keyOf prog 3 k=some (.int .i64 k):=keyOf_int_mk underlying3 h
theorem MR{w:World}{b:Nat}(h:w.ownsMap Tryz.prog 3 (plainElem (H:=Unit) Tryz.prog 3) b 2 (((DataW.map []).put (.int .i64 2) (.lit (.int .i64 1))).put (.int .i64 3) (.lit (.int .i64 (-1)))))(k:Int)(B:(Lit.int .i64 k).wf=true):
  (Instr.lookup 138 (.map (some b)) k false).run prog w=.ok (KL k) w:=by
 obtain⟨v,E,f,C⟩:=h.lookup (int_keyed Tryz.underlying3) Tryz.underlying138 (z:=.int .i64 0) (by kernel_rfl) (plainElem_int Tryz.underlying3 (by decide)) (Ed k B);obtain⟨x,rfl,e⟩:=plainElem_int_inv C;have j:=congrArg Prod.fst e;simp only at j;rw[f];have:DataW.atKey (((DataW.map []).put (.int .i64 2) (.lit (.int .i64 1))).put (.int .i64 3) (.lit (.int .i64 (-1)))) (.int .i64 k) (.lit (.int .i64 0))=(.lit (.int .i64 (KL k)):DataW Unit):=by
  unfold KL;by_cases q:k=3
  .subst q;exact atKey_put_same (H:=Unit) ⟨_,rfl⟩ (show WideAt.IsKeyLit _ by trivial) _ _
  .rw[atKey_put_other (by intro m;apply q;injection m with _ r),gC q];by_cases o:k=2
   .subst o;exact atKey_put_same (H:=Unit) ⟨_,rfl⟩ (show WideAt.IsKeyLit _ by trivial) _ _
   .rw[atKey_put_other (by intro m;apply o;injection m with _ r),gC o];rfl
 rw[this] at j;cases j;rfl
end Go.Proofs.YthhcdfjijagalaaGreat
namespace Go.Proofs.YthhcdfjijagalaaGreat.Vw
open Qz Go.Proofs.Tryz
structure Ri (a:Acc) (l:List Acc) (k:Nat) (done:Bool) (out:List Acc):Prop where
 no:done=false->(∀j (hj:j<l.length),j<k->key l[j]<key a)/\out=l.take k
 yes:done=true->out++l.drop k=ins a l/\∀j (hj:j<l.length),k<=j->key a<key l[j]
theorem Ri.start(a:Acc)(l:List Acc):Ri a l 0 false []:=⟨fun _=>⟨fun j _ h=>absurd h (by omega),by simp⟩,fun h=>by cases h⟩
theorem QM(a b:Acc)(h:¬key b<key a)(e:b.s≠a.s):key a<key b:=by
 by_cases f:key a<key b;·exact f
 .exact absurd (py.1 (List.le_antisymm (ri.1 f) (ri.1 h))) e
theorem NJ(a:Acc)(l:List Acc):(ins a l).length<=l.length+1:=by
 induction l with
 |nil=>simp[ins]
 |cons x r f=>
  have e:ins a (x::r)=if key x<key a then x::ins a r else if x.s=a.s then a::r else a::x::r:=rfl
  rw[e];split;·simp;omega
  .split<;>simp
section
variable {a : Acc} {l : List Acc} {k : Nat} {out : List Acc}
theorem Ri.after(h:Ri a l k true out)(o:k<l.length):l[k].s≠a.s/\Ri a l (k+1) true (out++[l[k]]):=by
 obtain⟨q,f⟩:=h.yes rfl;have m:=f k o gM;refine⟨fun e=>vz _ (by rw[py.2 e] at m;exact m),⟨(fun e=>by cases e),fun _=>⟨?_,fun j r w=>f j r (by omega)⟩⟩⟩;rw[<-q,ky,rv o];rfl
theorem Ri.below(h:Ri a l k false out)(w:k<l.length)(f:key l[k]<key a):l[k].s≠a.s/\Ri a l (k+1) false (out++[l[k]]):=by
 obtain⟨m,o⟩:=h.no rfl;refine⟨fun e=>vz _ (by rw[py.2 e] at f;exact f),⟨fun _=>⟨fun j q r=>?_,?_⟩,(fun e=>by cases e)⟩⟩
 .rcases qi j k with h3|h3
  .exact m j q h3
  .obtain rfl:j=k:=by omega
   exact f
 .rw[o,qG w]
theorem Ri.same(h:Ri a l k false out)(f:k<l.length)(m:Up none l)(o:l[k].s=a.s):Ri a l (k+1) true (out++[a]):=by
 obtain⟨q,r⟩:=h.no rfl;refine⟨(fun e=>by cases e),fun _=>⟨?_,fun j w B=>?_⟩⟩;·rw[CL a l k f q (py.2 o),r,ky,List.set_eq_take_append_cons_drop,gG f];rfl
 .rw[<-py.2 o];exact m.get k j f w (by omega)
theorem Ri.new(h:Ri a l k false out)(q:k<l.length)(o:Up none l)(f:¬key l[k]<key a)(m:l[k].s≠a.s):Ri a l (k+1) true (out++[a]++[l[k]]):=by
 obtain⟨r,w⟩:=h.no rfl;have B:=QM a l[k] f m;refine⟨(fun e=>by cases e),fun _=>⟨?_,fun j C E=>L5 B (o.get k j q C (by omega))⟩⟩;rw[Ec a l k (by omega) r (fun _=>⟨f,fun e=>m (py.1 e)⟩),w,rv q];simp
theorem Ri.stop(h:Ri a l l.length true out):out=ins a l:=by
 have:=(h.yes rfl).1;rwa[mV gM,mY] at this
theorem Ri.last(h:Ri a l l.length false out):out++[a]=ins a l:=by
 obtain⟨e,f⟩:=h.no rfl;rw[Ec a l l.length gM e (fun j=>absurd j (by omega)),f];simp
theorem Ri.len{d:Bool}(h:Ri a l k d out)(j:k<=l.length):out.length<=l.length+1:=by
 cases d with
 |false=>rw[(h.no rfl).2,jh];omega
 |true=>
  have e:=congrArg List.length (h.yes rfl).1;have f:=NJ a l;rw[iH] at e;omega
end
end Go.Proofs.YthhcdfjijagalaaGreat.Vw

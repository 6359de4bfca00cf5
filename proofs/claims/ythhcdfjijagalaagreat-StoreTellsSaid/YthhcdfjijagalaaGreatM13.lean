import Derived.Test.YthhcdfjijagalaaGreatM12
set_option linter.all false
set_option maxHeartbeats 4000000
set_option maxRecDepth 100000
namespace Go.Proofs.YthhcdfjijagalaaGreat
open Qz Go.Proofs.Tryz Go.RowKit
theorem Jk:∀(x y:List UInt8),Op.bytesLess x y=decide (x<y)
 |[],[]=>by simp[Op.bytesLess]
 |_::_,[]=>by simp[Op.bytesLess]
 |[],_::_=>by simp[Op.bytesLess]
 |a::x,b::y=>by rw[Op.bytesLess,Jk x y];by_cases h:a=b<;>simp[h,List.cons_lt_cons_iff]
theorem rq(a b:ByteArray):Op.bytesLess a.toList b.toList=decide (gD.kP a<gD.kP b):=by
 rw[Jk,tF,tF];rfl
def og(l:List Vw.Acc)(k:Nat):Option (List UInt8):=if k=0 then none else(l[k-1]?).map Vw.key
theorem JC{u c:Int}{l:List Vw.Acc}{k:Nat}(h:k<l.length):Vw.wl u k c (og l k) (l.drop k)=if gD.named (Vw.key l[k])=false then(7,(k:Int)) else if Vw.my u l[k] then(3,(k:Int)) else if ¬Vw.CZ (og l k) l[k] then(2,(k:Int)) else if u<c+l[k].jO then(8,(k:Int)) else Vw.wl u (k+1) (c+l[k].jO) (og l (k+1)) (l.drop (k+1)):=by
 have e:og l (k+1)=some (Vw.key l[k]):=by unfold og;rw[gC (by omega)];simp[h]
 rw[rv h,e];rfl
theorem mL(u:Int)(a:Option Addr)(n cap:Nat)(l:List Vw.Acc)(w:World)(h:As w a n cap l):Calls prog 68 #[iJ u a n cap] w (m7 (oB (Vw.iX ⟨u,l⟩)) w):=by
 have ap:=h.sl.max;have aB:=h.sl.le;unfold maxLen at ap;have HN:=gx h.jO;have HW:=gx (show Vw.iX ⟨u,l⟩=if u<0∨150<u then(3,0) else Vw.wl u 0 0 none l from rfl);unfold iJ oB;by_cases hu:u<0∨150<u
 .have HC:=gx (HW.trans (gG hu));rw[HC.out];rcases hu with hu|hu
  .go_enter func68,ntmps68;go_wp2_with fail;exact gS (v:=.agg #[jF,gy]) (by simp[results,results68,go_sem]) rfl ⟨rfl,(gZ.alloc gM _).alloc (by simp) _⟩
  .have ax:¬u<0:=by omega
   go_enter func68,ntmps68;go_wp2_with fail;exact gS (v:=.agg #[jF,gy]) (by simp[results,results68,go_sem]) rfl ⟨rfl,(gZ.alloc gM _).alloc (by simp) _⟩
 .have HC:=gx (HW.trans (gC hu));have ax:¬u<0:=by omega
  have aC:¬150<u:=by omega
  clear hu HW;rw[HC.out];have B0:=gO w (.cells #[u,(a,n,cap)] 30);have B1:=gO (w.alloc (.cells #[u,(a,n,cap)] 30)) (.cells #[gy,gy] 73);rw[jH] at B1;have Y:=gF (o':=.cells #[gy,gy] 73) B0;replace Y:=gx Y;replace B1:=gx B1;clear B0;go_enter func68,ntmps68;go_wp2_with fail;go_loopg[3,18] n (fun g s3 i wr=>∃(k:Nat) (c:Int),g=n-k/\k<=n/\i=.int .i64 (k:Int)/\s3=.int .i64 c/\0<=c/\c<=u/\Below w w wr/\w.heap.size+1<wr.heap.size/\
   wr.heap[w.heap.size]?=some (.cells #[u,(a,n,cap)] 30)/\wr.heap[w.heap.size+1]?=some (.cells #[gy,gy] 73)/\Hid (Vw.wl u 0 0 none l=Vw.wl u k c (og l k) (l.drop k)))
  case atStart=>exact⟨0,0,rfl,by omega,rfl,rfl,by omega,by omega,(gZ.alloc gM _).alloc (by simp) _,by simp,Y,B1,gx rfl⟩
  case round=>
   clear Y B1;obtain⟨k,c,rfl,hk,rfl,rfl,az,aA,hb,hz,ah,V,S⟩:=hrel;have z1:w.heap.size+1≠wr.heap.size:=by omega
   have z2:wr.heap.size≠w.heap.size+1:=by omega
   have z3:w.heap.size≠wr.heap.size:=by omega
   have z4:wr.heap.size≠w.heap.size:=by omega
   obtain⟨v0,v1⟩:=lv ah;obtain⟨I,K⟩:=lv V;have f0:wr.frozen? (w.heap.size+1,gy)=false:=gA V;have f1:wr.frozen? (w.heap.size+1,ia)=false:=gA V;by_cases aw:k<n
   .have ab:k<l.length:=by rw[HN.out];exact aw
    obtain⟨b,off,rfl,_⟩:=h.sl.addr (by omega);have ay:=Sl.lt h.sl (by omega) (by decide);obtain⟨q0,q1,q2,q3⟩:=(h.below hb).at k ab;have f:=gx (JC (u:=u) (c:=c) ab);have ai:=h.ok _ (iE ab);obtain⟨ac,af⟩:∃ac,l[k]=ac:=⟨_,rfl⟩;rw[af] at q0 q1 q2 q3 f ai;replace af:=gx af;obtain⟨t,m,q,o⟩:=ac;simp only at q0 q1 q2 q3 ai;have D:=gx (tl t ai);have ao:Vw.key (⟨t,m,q,o⟩:Vw.Acc)=gD.kP t:=rfl;rw[ao] at f;generalize gD.named (gD.kP t)=N at *;have ag:=gx (hb.alloc hb.size (.cells #[t,m,q,.bool o] 55));have ar:=gx (gF (o':=.cells #[t,m,q,.bool o] 55) ah);have ak:=gx (gF (o':=.cells #[t,m,q,.bool o] 55) V);go_wp2_with fail;go_at_call 45;refine(D _).mono ?_;rintro e w1⟨rfl,rfl⟩;have q0:=((h.below ag).at k ab).1;have a0:=nT wr #[.string t,.int .i64 m,.int .i64 q,.bool o] 55 0;have a1:=nT wr #[.string t,.int .i64 m,.int .i64 q,.bool o] 55 1;have a2:=nT wr #[.string t,.int .i64 m,.int .i64 q,.bool o] 55 2;have a3:=nT wr #[.string t,.int .i64 m,.int .i64 q,.bool o] 55 3;have Q:w.heap.size+1<(wr.alloc (.cells #[t,m,q,.bool o] 55)).heap.size:=by simp;omega
    have C:=ag.out;have P:=ar.out;have G:=ak.out;have Z:=h.below C;clear ag ar ak v0 v1 I K f0 f1 z1 z2 z3 z4 q1 q2 q3 hb ah V hz D q0;generalize (wr.alloc (.cells #[t,m,q,.bool o] 55))=W at *;generalize wr.heap.size=bA at *;obtain⟨v0,v1⟩:=lv P;obtain⟨I,K⟩:=lv G;have f0:W.frozen? (w.heap.size+1,gy)=false:=gA G;have f1:W.frozen? (w.heap.size+1,ia)=false:=gA G;simp at a0 a1 a2 a3;cases N with
    |false=>
     have F:=gx (show Vw.wl u 0 0 none l=(7,(k:Int)) by rw[S.out,f.out,gG rfl]);clear f;go_wp2_with fail;exact gS (v:=.agg #[ps,k]) (by simp[results,results68,go_sem,I,K]) rfl ⟨by rw[F.out],(C.setCell (by simp) _).setCell (by simp) _⟩
    |true=>
     have f:=gx (f.trans (gC (by simp)));by_cases g1:q<1
     .have F:=gx (show Vw.wl u 0 0 none l=(3,(k:Int)) by rw[S.out,f.out,gG (.inl g1)]);clear f;go_wp2_with fail;exact gS (v:=.agg #[jF,k]) (by simp[results,results68,go_sem,I,K]) rfl ⟨by rw[F.out],(C.setCell (by simp) _).setCell (by simp) _⟩
     by_cases g2:u<q
     .have F:=gx (show Vw.wl u 0 0 none l=(3,(k:Int)) by rw[S.out,f.out,gG (.inr (.inl g2))]);clear f;go_wp2_with fail;exact gS (v:=.agg #[jF,k]) (by simp[results,results68,go_sem,I,K]) rfl ⟨by rw[F.out],(C.setCell (by simp) _).setCell (by simp) _⟩
     have s1:IntKind.i64.wrap (-1000000*q)=-1000000*q:=iO _ (by omega);have s2:IntKind.i64.wrap (1000000*q)=1000000*q:=iO _ (by omega);by_cases g3:m < -1000000*q
     .have F:=gx (show Vw.wl u 0 0 none l=(3,(k:Int)) by rw[S.out,f.out,gG (.inr (.inr (.inl g3)))]);clear f;go_wp2_with fail;exact gS (v:=.agg #[jF,k]) (by simp[results,results68,go_sem,I,K]) rfl ⟨by rw[F.out],(C.setCell (by simp) _).setCell (by simp) _⟩
     by_cases g4:1000000*q<m
     .have F:=gx (show Vw.wl u 0 0 none l=(3,(k:Int)) by rw[S.out,f.out,gG (.inr (.inr (.inr g4)))]);clear f;go_wp2_with fail;exact gS (v:=.agg #[jF,k]) (by simp[results,results68,go_sem,I,K]) rfl ⟨by rw[F.out],(C.setCell (by simp) _).setCell (by simp) _⟩
     have f:=gx (f.trans (gC (fun X=>by rcases X with h1|h1|h1|h1<;>first|exact g1 h1|exact g2 h1|exact g3 h1|exact g4 h1)));rcases pD k with Qd|Qd
     .subst Qd;have f:=gx (f.trans (gC (fun X=>X (by trivial))));go_wp2_with fail;go_quiet (fail);have L:=below_drewN C nq;have O:(W.drewN nq).heap[w.heap.size]?=some (.cells #[u,(some (b,off),n,cap)] 30):=P;have r:(W.drewN nq).heap[w.heap.size+1]?=some (.cells #[gy,gy] 73):=G;have ae:w.heap.size+1<(W.drewN nq).heap.size:=Q;have aj:(W.drewN nq).cell? (bA,j6)=some (.int .i64 q):=a2;clear v0 v1 I K f0 f1 a0 a1 a2 a3 C P G Q Z;generalize W.drewN nq=U at *;have v0:U.cell? (w,gy)=some (.int .i64 u):=gw O;obtain⟨I,K⟩:=lv r;have f0:U.frozen? (w.heap.size+1,gy)=false:=gA r;have f1:U.frozen? (w.heap.size+1,ia)=false:=gA r;have s3:IntKind.i64.wrap (c+q)=c+q:=iO _ (by omega);by_cases g5:u<c+q
      .have F:=gx (show Vw.wl u 0 0 none l=(8,((0:Nat):Int)) by rw[S.out,f.out,gG g5]);clear f;go_wp2_with fail;exact gS (v:=.agg #[pt,gy]) (by simp[results,results68,go_sem,I,K]) rfl ⟨by rw[F.out];rfl,(L.setCell (by simp) _).setCell (by simp) _⟩
      .have f:=gx (f.trans (gC g5));go_wp2_with fail;go_roundg (n-(0+1));case measure=>omega
       case rel=>exact⟨0+1,c+q,rfl,by omega,by go_num,rfl,by omega,by omega,L,ae,O,r,gx (by rw[S.out,f.out])⟩
     .obtain⟨j,rfl⟩:∃j,k=j+1:=⟨k-1,by omega⟩;have al:j<l.length:=by omega
      have pj:=(Z.at j al).1;obtain⟨pr,ad⟩:∃pr,l[j].s=pr:=⟨_,rfl⟩;rw[ad] at pj;have aq:Hid (og l (j+1)=some (gD.kP pr)):=gx (by unfold og;rw[gC (by omega),<-ad];simp[al,Vw.key]);replace ad:=gx ad;have i0:(0:Int)<=(j:Int):=by omega
      have i1:(j:Int)<(n:Int):=by omega
      have i2:(0:Int)<(j:Int)+1:=by omega
      by_cases B:gD.kP pr<gD.kP t
      .have e0:Op.bytesLess pr.toList t.toList=true:=by rw[rq,kr B]
       have f:=gx (f.trans (gC (fun X=>X (by rw[aq.out];exact B))));have au:=gx B;clear B;go_wp2_with fail;go_quiet (fail);have L:=below_drewN C nq;have O:(W.drewN nq).heap[w.heap.size]?=some (.cells #[u,(some (b,off),n,cap)] 30):=P;have r:(W.drewN nq).heap[w.heap.size+1]?=some (.cells #[gy,gy] 73):=G;have ae:w.heap.size+1<(W.drewN nq).heap.size:=Q;have aj:(W.drewN nq).cell? (bA,j6)=some (.int .i64 q):=a2;clear v0 v1 I K f0 f1 a0 a1 a2 a3 C P G Q Z;generalize W.drewN nq=U at *;have v0:U.cell? (w,gy)=some (.int .i64 u):=gw O;obtain⟨I,K⟩:=lv r;have f0:U.frozen? (w.heap.size+1,gy)=false:=gA r;have f1:U.frozen? (w.heap.size+1,ia)=false:=gA r;have s3:IntKind.i64.wrap (c+q)=c+q:=iO _ (by omega);by_cases g5:u<c+q
       .have F:=gx (show Vw.wl u 0 0 none l=(8,((j+1:Nat):Int)) by rw[S.out,f.out,gG g5]);clear f;go_wp2_with fail;exact gS (v:=.agg #[pt,.int .i64 ((j+1:Nat):Int)]) (by simp[results,results68,go_sem,I,K]) rfl ⟨by rw[F.out],(L.setCell (by simp) _).setCell (by simp) _⟩
       .have f:=gx (f.trans (gC g5));go_wp2_with fail;go_roundg (n-(j+1+1));case measure=>omega
        case rel=>exact⟨j+1+1,c+q,rfl,by omega,by go_num,rfl,by omega,by omega,L,ae,O,r,gx (by rw[S.out,f.out])⟩
      .have e0:Op.bytesLess pr.toList t.toList=false:=by rw[rq,ju B]
       have F:=gx (show Vw.wl u 0 0 none l=(2,((j+1:Nat):Int)) by rw[S.out,f.out,gG (fun X=>B (by rw[aq.out] at X;exact X))]);have au:=gx B;clear B f;go_wp2_with fail;go_quiet (fail);have L:=below_drewN C nq;have O:(W.drewN nq).heap[w.heap.size]?=some (.cells #[u,(some (b,off),n,cap)] 30):=P;have r:(W.drewN nq).heap[w.heap.size+1]?=some (.cells #[gy,gy] 73):=G;have ae:w.heap.size+1<(W.drewN nq).heap.size:=Q;have aj:(W.drewN nq).cell? (bA,j6)=some (.int .i64 q):=a2;clear v0 v1 I K f0 f1 a0 a1 a2 a3 C P G Q Z;generalize W.drewN nq=U at *;have v0:U.cell? (w,gy)=some (.int .i64 u):=gw O;obtain⟨I,K⟩:=lv r;have f0:U.frozen? (w.heap.size+1,gy)=false:=gA r;have f1:U.frozen? (w.heap.size+1,ia)=false:=gA r;have s3:IntKind.i64.wrap (c+q)=c+q:=iO _ (by omega);clear s3;go_wp2_with fail;exact gS (v:=.agg #[j6,.int .i64 ((j+1:Nat):Int)]) (by simp[results,results68,go_sem,I,K]) rfl ⟨by rw[F.out],(L.setCell (by simp) _).setCell (by simp) _⟩
   .obtain rfl:k=n:=by omega
    by_cases E:c=u
    .have F:=gx (show Vw.wl u 0 0 none l=(0,0) by rw[S.out,mV (by rw[HN.out];exact jb _)];unfold Vw.wl;rw[gC (fun X=>X E)])
     subst E;go_wp2_with fail;exact gS (v:=.agg #[gy,gy]) (by simp[results,results68,go_sem,I,K]) rfl ⟨by rw[F.out],(hb.setCell (by simp) _).setCell (by simp) _⟩
    .have F:=gx (show Vw.wl u 0 0 none l=(8,(k:Int)) by rw[S.out,mV (by rw[HN.out];exact jb _)];unfold Vw.wl;rw[gG E])
     have t0:(c !=u)=true:=ij.2 E;replace E:=gx E;go_wp2_with fail;exact gS (v:=.agg #[pt,k]) (by simp[results,results68,go_sem,I,K]) rfl ⟨by rw[F.out],(hb.setCell (by simp) _).setCell (by simp) _⟩
end Go.Proofs.YthhcdfjijagalaaGreat

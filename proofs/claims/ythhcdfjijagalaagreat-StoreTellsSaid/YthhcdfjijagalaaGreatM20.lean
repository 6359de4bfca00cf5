import Derived.Test.YthhcdfjijagalaaGreatM19
set_option linter.all false
set_option maxHeartbeats 2000000
set_option maxRecDepth 100000
namespace Go.Proofs.YthhcdfjijagalaaGreat
open Qz Go.Proofs.Tryz Go.RowKit
def zN(l:List UInt8)(g i:Int)(w:World)(e:Ending)(w':World):Prop:=
 ∃a cap,e=.returned (.tuple #[.agg #[.int .i64 (jT.parse l).g,.int .i64 (jT.parse l).s,.int .i64 (jT.parse l).z,.slice a (jT.parse l).data.length cap],.bool (gW.right l g i)])/\Below w w w'/\Bt w' a (jT.parse l).data.length cap (jT.parse l).data/\∀b off,a=some ⟨b,off,none⟩->w.heap.size<=b
theorem zy(a:Option Addr)(n cap:Nat)(l:List UInt8)(g i:Int)(w:World)(h:Bt w a n cap l):
  Calls prog 78 #[(a,n,cap),g,i] w (zN l g i w):=by
 have D:=gx (fun W (hW:Bt W a n cap l)=>E5 a n cap l W hW);unfold zN;obtain⟨B,q⟩:∃B,B=gW.right l g i:=⟨_,rfl⟩;rw[<-q];unfold gW.right at q;unfold pT at D;generalize jT.parse l=R at *;obtain⟨E,G,S,Z,data⟩:=R;simp only at D q⊢;go_enter func78,ntmps78;go_wp2_with fail;go_at_call 104;refine(D _ (h.alloc _)).mono ?_;rintro e o⟨m,c1,rfl,b1,o1⟩;have x0:=gB (gO w _) b1;have X:=mN b1;clear b1;have Q:∀b off,m=some ⟨b,off,none⟩->w.heap.size<=b:=fun b off e=>by have:=(o1.lt b (by rw[e];rfl)).1;simp at this;omega
 replace Q:=gx Q;have hv:=X.alloc X.size (.cells #[G,S,Z,(m,data,c1)] 125);go_upto_region 2 with(fail);have U:=gF (o':=.cells #[G,S,Z,(m,data,c1)] 125) x0;have y1:=gO o (.cells #[G,S,Z,(m,data,c1)] 125);have o2:=gL o1 (gZ.alloc gM (.cells #[G,S,Z,(m,data,c1)] 125));have yn:o.heap.size≠w.heap.size:=lE (om (iq x0));have on:(Value.slice m data.length c1).ownBlock≠some w.heap.size:=fun e=>by have:=(o1.lt _ e).1;simp at this;omega
 generalize o.alloc (.cells #[G,S,Z,(m,data,c1)] 125)=V at *;obtain⟨c0,ab,c2,c3⟩:=Lm U;have d0:=gA (i:=0) U;have d1:=gA (i:=1) U;have d2:=gA (i:=2) U;have d3:=gA (i:=3) U;have y3:=P8 U G S Z (m,data,c1);have y4:=QJ o2 on G S Z (m,data,c1);have O:=Qy hv gM G S Z (m,data,c1);have Y:=Pn y1 yn G S Z (m,data,c1);obtain⟨P,r⟩:∃P,((((V.setCell (w,gy) G).setCell (w,ia) S).setCell (w,j6) Z).setCell (w,jF) (m,data,c1))=P:=⟨_,rfl⟩;rw[r] at y3 y4 O Y;replace r:=gx r;replace O:=O.drew;obtain⟨q0,q1,q2,q3⟩:=Lm y3;obtain⟨_,_,e1,L⟩:=gK (gL y4 gZ.drew);cases e1;have m0:P.drew.cell? (o,gy)=some (.int .i64 G):=gw (i:=0) Y;have m1:P.drew.cell? (o,ia)=some (.int .i64 S):=gw (i:=1) Y;have m2:P.drew.cell? (o,j6)=some (.int .i64 Z):=gw (i:=2) Y;have m3:P.drew.cell? (o,jF)=some (.slice m data.length c1):=gw (i:=3) Y;obtain⟨r0,r1,r2,r3⟩:=Lm y1;by_cases C:E=0
 .have t1:(E==0)=true:=beq_iff_eq.2 C;by_cases I:(G:Int)=g
  .have t2:((G:Int)==g)=true:=beq_iff_eq.2 I;by_cases N:(S:Int)=i
   .have t3:((S:Int)==i)=true:=beq_iff_eq.2 N;obtain rfl:B=true:=by rw[q];exact kr ⟨C,I,N⟩
    replace C:=gx C;replace I:=gx I;replace N:=gx N;replace q:=gx q;refine wp_region_held_drew (S:=(fun w'=>w'.cell? (o,gy)=some (.int .i64 G)/\w'.cell? (o,ia)=some (.int .i64 S)/\w'.cell? (o,j6)=some (.int .i64 Z)/\w'.cell? (o,jF)=some (.slice m data.length c1))) (by kernel_rfl) ⟨r0,r1,r2,r3⟩ (fun j=>?_);refine jv (i:=0) (v:=?_) rfl (by kernel_rfl) (by kernel_rfl) (by kernel_rfl) (fun _ _ _ h=>h) rfl ?_ (by assumption) ?_;rotate_left
    ·(intro w f;(try dsimp only at f);go_simp;try with_reducible rfl)
    try simp only[iR,iQ,jr,Act.put,jM,iN,iS]
    refine jv (i:=1) (v:=?_) rfl (by kernel_rfl) (by kernel_rfl) (by kernel_rfl) (fun _ _ _ h=>h) rfl ?_ (by assumption) ?_;rotate_left
    ·(intro w f;(try dsimp only at f);go_simp;try with_reducible rfl)
    try simp only[iR,iQ,jr,Act.put,jM,iN,iS]
    refine jv (i:=2) (v:=?_) rfl (by kernel_rfl) (by kernel_rfl) (by kernel_rfl) (fun _ _ _ h=>h) rfl ?_ (by assumption) ?_;rotate_left
    ·(intro w f;(try dsimp only at f);go_simp;try with_reducible rfl)
    try simp only[iR,iQ,jr,Act.put,jM,iN,iS]
    refine jv (i:=3) (v:=?_) rfl (by kernel_rfl) (by kernel_rfl) (by kernel_rfl) (fun _ _ _ h=>h) rfl ?_ (by assumption) ?_;rotate_left
    ·(intro w f;(try dsimp only at f);go_simp;try with_reducible rfl)
    try simp only[iR,iQ,jr,Act.put,jM,iN,iS]
    refine jv (i:=4) (v:=?_) rfl (by kernel_rfl) (by kernel_rfl) (by kernel_rfl) (fun _ _ _ h=>h) rfl ?_ (by assumption) ?_;rotate_left
    ·(intro w f;(try dsimp only at f);go_simp;try with_reducible rfl)
    try simp only[iR,iQ,jr,Act.put,jM,iN,iS]
    refine jv (i:=5) (v:=?_) rfl (by kernel_rfl) (by kernel_rfl) (by kernel_rfl) (fun _ _ _ h=>h) rfl ?_ (by assumption) ?_;rotate_left
    ·(intro w f;(try dsimp only at f);go_simp;try with_reducible rfl)
    try simp only[iR,iQ,jr,Act.put,jM,iN,iS]
    refine jv (i:=6) (v:=?_) rfl (by kernel_rfl) (by kernel_rfl) (by kernel_rfl) (fun _ _ _ h=>h) rfl ?_ (by assumption) ?_;rotate_left
    ·(intro w f;(try dsimp only at f);go_simp;try with_reducible rfl)
    try simp only[iR,iQ,jr,Act.put,jM,iN,iS]
    refine jv (i:=7) (v:=?_) rfl (by kernel_rfl) (by kernel_rfl) (by kernel_rfl) (fun _ _ _ h=>h) rfl ?_ (by assumption) ?_;rotate_left
    ·(intro w f;(try dsimp only at f);go_simp;try with_reducible rfl)
    try simp only[iR,iQ,jr,Act.put,jM,iN,iS]
    refine jv (i:=8) (v:=?_) rfl (by kernel_rfl) (by kernel_rfl) (by kernel_rfl) (fun _ _ _ h=>h) rfl ?_ (by assumption) ?_;rotate_left
    ·(intro w f;(try dsimp only at f);go_simp;try with_reducible rfl)
    try simp only[iR,iQ,jr,Act.put,jM,iN,iS]
    refine jv (i:=9) (v:=?_) rfl (by kernel_rfl) (by kernel_rfl) (by kernel_rfl) (fun _ _ _ h=>h) rfl ?_ (by assumption) ?_;rotate_left
    ·(intro w f;(try dsimp only at f);go_simp;try with_reducible rfl)
    try simp only[iR,iQ,jr,Act.put,jM,iN,iS]
    refine jv (i:=10) (v:=?_) rfl (by kernel_rfl) (by kernel_rfl) (by kernel_rfl) (fun _ _ _ h=>h) rfl ?_ (by assumption) ?_;rotate_left
    ·(intro w f;(try dsimp only at f);go_simp;try with_reducible rfl)
    try simp only[iR,iQ,jr,Act.put,jM,iN,iS]
    refine jv (i:=11) (v:=?_) rfl (by kernel_rfl) (by kernel_rfl) (by kernel_rfl) (fun _ _ _ h=>h) rfl ?_ (by assumption) ?_;rotate_left
    ·(intro w f;(try dsimp only at f);go_simp;try with_reducible rfl)
    try simp only[iR,iQ,jr,Act.put,jM,iN,iS]
    refine jv (i:=12) (v:=?_) rfl (by kernel_rfl) (by kernel_rfl) (by kernel_rfl) (fun _ _ _ h=>h) rfl ?_ (by assumption) ?_;rotate_left
    ·(intro w f;(try dsimp only at f);go_simp;try with_reducible rfl)
    try simp only[iR,iQ,jr,Act.put,jM,iN,iS]
    refine jv (i:=13) (v:=?_) rfl (by kernel_rfl) (by kernel_rfl) (by kernel_rfl) (fun _ _ _ h=>h) rfl ?_ (by assumption) ?_;rotate_left
    ·(intro w f;(try dsimp only at f);go_simp;try with_reducible rfl)
    try simp only[iR,iQ,jr,Act.put,jM,iN,iS]
    refine jv (i:=14) (v:=?_) rfl (by kernel_rfl) (by kernel_rfl) (by kernel_rfl) (fun _ _ _ h=>h) rfl ?_ (by assumption) ?_;rotate_left
    ·(intro w f;(try dsimp only at f);go_simp;try with_reducible rfl)
    try simp only[iR,iQ,jr,Act.put,jM,iN,iS]
    refine wpAnyH_ready (rs:=[15]) (by kernel_rfl) (by simp) ?_;refine AllReadyH.cons rfl (fun K F=>?_) AllReadyH.nil;simp only[iR,iQ,jr];go_simp;rw[r.out];refine F _ _ ⟨m0,m1,m2,m3⟩ (fun j=>?_);clear F K;try simp only[iR,iQ,jr,Act.put,jM,iN,iS]
    refine jv (i:=16) (v:=?_) rfl (by kernel_rfl) (by kernel_rfl) (by kernel_rfl) (fun _ _ _ h=>h) rfl ?_ (by assumption) ?_;rotate_left
    ·(intro w f;(try dsimp only at f);go_simp;try with_reducible rfl)
    try simp only[iR,iQ,jr,Act.put,jM,iN,iS]
    refine wpAnyH_done (by kernel_rfl) ?_ _;go_wp2_with fail;exact gS (v:=.tuple #[.agg #[G,S,Z,(m,data,c1)],.bool true]) (by simp[results,results78,go_sem,q0,q1,q2,q3]) rfl ⟨m,c1,rfl,O,L,Q⟩
   .have t3:((S:Int)==i)=false:=jB.2 N;obtain rfl:B=false:=by rw[q];exact ju (fun h=>N h.2.2)
    replace C:=gx C;replace I:=gx I;replace N:=gx N;replace q:=gx q;refine wp_region_held_drew (S:=(fun w'=>w'.cell? (o,gy)=some (.int .i64 G)/\w'.cell? (o,ia)=some (.int .i64 S)/\w'.cell? (o,j6)=some (.int .i64 Z)/\w'.cell? (o,jF)=some (.slice m data.length c1))) (by kernel_rfl) ⟨r0,r1,r2,r3⟩ (fun j=>?_);refine jv (i:=0) (v:=?_) rfl (by kernel_rfl) (by kernel_rfl) (by kernel_rfl) (fun _ _ _ h=>h) rfl ?_ (by assumption) ?_;rotate_left
    ·(intro w f;(try dsimp only at f);go_simp;try with_reducible rfl)
    try simp only[iR,iQ,jr,Act.put,jM,iN,iS]
    refine jv (i:=1) (v:=?_) rfl (by kernel_rfl) (by kernel_rfl) (by kernel_rfl) (fun _ _ _ h=>h) rfl ?_ (by assumption) ?_;rotate_left
    ·(intro w f;(try dsimp only at f);go_simp;try with_reducible rfl)
    try simp only[iR,iQ,jr,Act.put,jM,iN,iS]
    refine jv (i:=2) (v:=?_) rfl (by kernel_rfl) (by kernel_rfl) (by kernel_rfl) (fun _ _ _ h=>h) rfl ?_ (by assumption) ?_;rotate_left
    ·(intro w f;(try dsimp only at f);go_simp;try with_reducible rfl)
    try simp only[iR,iQ,jr,Act.put,jM,iN,iS]
    refine jv (i:=3) (v:=?_) rfl (by kernel_rfl) (by kernel_rfl) (by kernel_rfl) (fun _ _ _ h=>h) rfl ?_ (by assumption) ?_;rotate_left
    ·(intro w f;(try dsimp only at f);go_simp;try with_reducible rfl)
    try simp only[iR,iQ,jr,Act.put,jM,iN,iS]
    refine jv (i:=4) (v:=?_) rfl (by kernel_rfl) (by kernel_rfl) (by kernel_rfl) (fun _ _ _ h=>h) rfl ?_ (by assumption) ?_;rotate_left
    ·(intro w f;(try dsimp only at f);go_simp;try with_reducible rfl)
    try simp only[iR,iQ,jr,Act.put,jM,iN,iS]
    refine jv (i:=5) (v:=?_) rfl (by kernel_rfl) (by kernel_rfl) (by kernel_rfl) (fun _ _ _ h=>h) rfl ?_ (by assumption) ?_;rotate_left
    ·(intro w f;(try dsimp only at f);go_simp;try with_reducible rfl)
    try simp only[iR,iQ,jr,Act.put,jM,iN,iS]
    refine jv (i:=6) (v:=?_) rfl (by kernel_rfl) (by kernel_rfl) (by kernel_rfl) (fun _ _ _ h=>h) rfl ?_ (by assumption) ?_;rotate_left
    ·(intro w f;(try dsimp only at f);go_simp;try with_reducible rfl)
    try simp only[iR,iQ,jr,Act.put,jM,iN,iS]
    refine jv (i:=7) (v:=?_) rfl (by kernel_rfl) (by kernel_rfl) (by kernel_rfl) (fun _ _ _ h=>h) rfl ?_ (by assumption) ?_;rotate_left
    ·(intro w f;(try dsimp only at f);go_simp;try with_reducible rfl)
    try simp only[iR,iQ,jr,Act.put,jM,iN,iS]
    refine jv (i:=8) (v:=?_) rfl (by kernel_rfl) (by kernel_rfl) (by kernel_rfl) (fun _ _ _ h=>h) rfl ?_ (by assumption) ?_;rotate_left
    ·(intro w f;(try dsimp only at f);go_simp;try with_reducible rfl)
    try simp only[iR,iQ,jr,Act.put,jM,iN,iS]
    refine jv (i:=9) (v:=?_) rfl (by kernel_rfl) (by kernel_rfl) (by kernel_rfl) (fun _ _ _ h=>h) rfl ?_ (by assumption) ?_;rotate_left
    ·(intro w f;(try dsimp only at f);go_simp;try with_reducible rfl)
    try simp only[iR,iQ,jr,Act.put,jM,iN,iS]
    refine jv (i:=10) (v:=?_) rfl (by kernel_rfl) (by kernel_rfl) (by kernel_rfl) (fun _ _ _ h=>h) rfl ?_ (by assumption) ?_;rotate_left
    ·(intro w f;(try dsimp only at f);go_simp;try with_reducible rfl)
    try simp only[iR,iQ,jr,Act.put,jM,iN,iS]
    refine jv (i:=11) (v:=?_) rfl (by kernel_rfl) (by kernel_rfl) (by kernel_rfl) (fun _ _ _ h=>h) rfl ?_ (by assumption) ?_;rotate_left
    ·(intro w f;(try dsimp only at f);go_simp;try with_reducible rfl)
    try simp only[iR,iQ,jr,Act.put,jM,iN,iS]
    refine jv (i:=12) (v:=?_) rfl (by kernel_rfl) (by kernel_rfl) (by kernel_rfl) (fun _ _ _ h=>h) rfl ?_ (by assumption) ?_;rotate_left
    ·(intro w f;(try dsimp only at f);go_simp;try with_reducible rfl)
    try simp only[iR,iQ,jr,Act.put,jM,iN,iS]
    refine jv (i:=13) (v:=?_) rfl (by kernel_rfl) (by kernel_rfl) (by kernel_rfl) (fun _ _ _ h=>h) rfl ?_ (by assumption) ?_;rotate_left
    ·(intro w f;(try dsimp only at f);go_simp;try with_reducible rfl)
    try simp only[iR,iQ,jr,Act.put,jM,iN,iS]
    refine jv (i:=14) (v:=?_) rfl (by kernel_rfl) (by kernel_rfl) (by kernel_rfl) (fun _ _ _ h=>h) rfl ?_ (by assumption) ?_;rotate_left
    ·(intro w f;(try dsimp only at f);go_simp;try with_reducible rfl)
    try simp only[iR,iQ,jr,Act.put,jM,iN,iS]
    refine wpAnyH_ready (rs:=[15]) (by kernel_rfl) (by simp) ?_;refine AllReadyH.cons rfl (fun K F=>?_) AllReadyH.nil;simp only[iR,iQ,jr];go_simp;rw[r.out];refine F _ _ ⟨m0,m1,m2,m3⟩ (fun j=>?_);clear F K;try simp only[iR,iQ,jr,Act.put,jM,iN,iS]
    refine jv (i:=16) (v:=?_) rfl (by kernel_rfl) (by kernel_rfl) (by kernel_rfl) (fun _ _ _ h=>h) rfl ?_ (by assumption) ?_;rotate_left
    ·(intro w f;(try dsimp only at f);go_simp;try with_reducible rfl)
    try simp only[iR,iQ,jr,Act.put,jM,iN,iS]
    refine wpAnyH_done (by kernel_rfl) ?_ _;go_wp2_with fail;exact gS (v:=.tuple #[.agg #[G,S,Z,(m,data,c1)],.bool false]) (by simp[results,results78,go_sem,q0,q1,q2,q3]) rfl ⟨m,c1,rfl,O,L,Q⟩
  .have t2:((G:Int)==g)=false:=jB.2 I;obtain rfl:B=false:=by rw[q];exact ju (fun h=>I h.2.1)
   replace C:=gx C;replace I:=gx I;replace q:=gx q;refine wp_region_held_drew (S:=(fun w'=>w'.cell? (o,gy)=some (.int .i64 G)/\w'.cell? (o,ia)=some (.int .i64 S)/\w'.cell? (o,j6)=some (.int .i64 Z)/\w'.cell? (o,jF)=some (.slice m data.length c1))) (by kernel_rfl) ⟨r0,r1,r2,r3⟩ (fun j=>?_);refine jv (i:=0) (v:=?_) rfl (by kernel_rfl) (by kernel_rfl) (by kernel_rfl) (fun _ _ _ h=>h) rfl ?_ (by assumption) ?_;rotate_left
   ·(intro w f;(try dsimp only at f);go_simp;try with_reducible rfl)
   try simp only[iR,iQ,jr,Act.put,jM,iN,iS]
   refine jv (i:=1) (v:=?_) rfl (by kernel_rfl) (by kernel_rfl) (by kernel_rfl) (fun _ _ _ h=>h) rfl ?_ (by assumption) ?_;rotate_left
   ·(intro w f;(try dsimp only at f);go_simp;try with_reducible rfl)
   try simp only[iR,iQ,jr,Act.put,jM,iN,iS]
   refine jv (i:=2) (v:=?_) rfl (by kernel_rfl) (by kernel_rfl) (by kernel_rfl) (fun _ _ _ h=>h) rfl ?_ (by assumption) ?_;rotate_left
   ·(intro w f;(try dsimp only at f);go_simp;try with_reducible rfl)
   try simp only[iR,iQ,jr,Act.put,jM,iN,iS]
   refine jv (i:=3) (v:=?_) rfl (by kernel_rfl) (by kernel_rfl) (by kernel_rfl) (fun _ _ _ h=>h) rfl ?_ (by assumption) ?_;rotate_left
   ·(intro w f;(try dsimp only at f);go_simp;try with_reducible rfl)
   try simp only[iR,iQ,jr,Act.put,jM,iN,iS]
   refine jv (i:=4) (v:=?_) rfl (by kernel_rfl) (by kernel_rfl) (by kernel_rfl) (fun _ _ _ h=>h) rfl ?_ (by assumption) ?_;rotate_left
   ·(intro w f;(try dsimp only at f);go_simp;try with_reducible rfl)
   try simp only[iR,iQ,jr,Act.put,jM,iN,iS]
   refine jv (i:=5) (v:=?_) rfl (by kernel_rfl) (by kernel_rfl) (by kernel_rfl) (fun _ _ _ h=>h) rfl ?_ (by assumption) ?_;rotate_left
   ·(intro w f;(try dsimp only at f);go_simp;try with_reducible rfl)
   try simp only[iR,iQ,jr,Act.put,jM,iN,iS]
   refine jv (i:=6) (v:=?_) rfl (by kernel_rfl) (by kernel_rfl) (by kernel_rfl) (fun _ _ _ h=>h) rfl ?_ (by assumption) ?_;rotate_left
   ·(intro w f;(try dsimp only at f);go_simp;try with_reducible rfl)
   try simp only[iR,iQ,jr,Act.put,jM,iN,iS]
   refine jv (i:=7) (v:=?_) rfl (by kernel_rfl) (by kernel_rfl) (by kernel_rfl) (fun _ _ _ h=>h) rfl ?_ (by assumption) ?_;rotate_left
   ·(intro w f;(try dsimp only at f);go_simp;try with_reducible rfl)
   try simp only[iR,iQ,jr,Act.put,jM,iN,iS]
   refine jv (i:=8) (v:=?_) rfl (by kernel_rfl) (by kernel_rfl) (by kernel_rfl) (fun _ _ _ h=>h) rfl ?_ (by assumption) ?_;rotate_left
   ·(intro w f;(try dsimp only at f);go_simp;try with_reducible rfl)
   try simp only[iR,iQ,jr,Act.put,jM,iN,iS]
   refine jv (i:=9) (v:=?_) rfl (by kernel_rfl) (by kernel_rfl) (by kernel_rfl) (fun _ _ _ h=>h) rfl ?_ (by assumption) ?_;rotate_left
   ·(intro w f;(try dsimp only at f);go_simp;try with_reducible rfl)
   try simp only[iR,iQ,jr,Act.put,jM,iN,iS]
   refine sU (i:=10) rfl (by kernel_rfl) (by kernel_rfl) (by kernel_rfl) (fun _ _ _ h=>h) rfl (by assumption) ?_;try simp only[iR,iQ,jr,Act.put,jM,iN,iS]
   refine sU (i:=11) rfl (by kernel_rfl) (by kernel_rfl) (by kernel_rfl) (fun _ _ _ h=>h) rfl (by assumption) ?_;try simp only[iR,iQ,jr,Act.put,jM,iN,iS]
   refine sU (i:=12) rfl (by kernel_rfl) (by kernel_rfl) (by kernel_rfl) (fun _ _ _ h=>h) rfl (by assumption) ?_;try simp only[iR,iQ,jr,Act.put,jM,iN,iS]
   refine sU (i:=13) rfl (by kernel_rfl) (by kernel_rfl) (by kernel_rfl) (fun _ _ _ h=>h) rfl (by assumption) ?_;try simp only[iR,iQ,jr,Act.put,jM,iN,iS]
   refine jv (i:=14) (v:=?_) rfl (by kernel_rfl) (by kernel_rfl) (by kernel_rfl) (fun _ _ _ h=>h) rfl ?_ (by assumption) ?_;rotate_left
   ·(intro w f;(try dsimp only at f);go_simp;try with_reducible rfl)
   try simp only[iR,iQ,jr,Act.put,jM,iN,iS]
   refine wpAnyH_ready (rs:=[15]) (by kernel_rfl) (by simp) ?_;refine AllReadyH.cons rfl (fun K F=>?_) AllReadyH.nil;simp only[iR,iQ,jr];go_simp;rw[r.out];refine F _ _ ⟨m0,m1,m2,m3⟩ (fun j=>?_);clear F K;try simp only[iR,iQ,jr,Act.put,jM,iN,iS]
   refine jv (i:=16) (v:=?_) rfl (by kernel_rfl) (by kernel_rfl) (by kernel_rfl) (fun _ _ _ h=>h) rfl ?_ (by assumption) ?_;rotate_left
   ·(intro w f;(try dsimp only at f);go_simp;try with_reducible rfl)
   try simp only[iR,iQ,jr,Act.put,jM,iN,iS]
   refine wpAnyH_done (by kernel_rfl) ?_ _;go_wp2_with fail;exact gS (v:=.tuple #[.agg #[G,S,Z,(m,data,c1)],.bool false]) (by simp[results,results78,go_sem,q0,q1,q2,q3]) rfl ⟨m,c1,rfl,O,L,Q⟩
 .have t1:(E==0)=false:=jB.2 C;obtain rfl:B=false:=by rw[q];exact ju (fun h=>C h.1)
  replace C:=gx C;replace q:=gx q;refine wp_region_held_drew (S:=(fun w'=>w'.cell? (o,gy)=some (.int .i64 G)/\w'.cell? (o,ia)=some (.int .i64 S)/\w'.cell? (o,j6)=some (.int .i64 Z)/\w'.cell? (o,jF)=some (.slice m data.length c1))) (by kernel_rfl) ⟨r0,r1,r2,r3⟩ (fun j=>?_);refine jv (i:=0) (v:=?_) rfl (by kernel_rfl) (by kernel_rfl) (by kernel_rfl) (fun _ _ _ h=>h) rfl ?_ (by assumption) ?_;rotate_left
  ·(intro w f;(try dsimp only at f);go_simp;try with_reducible rfl)
  try simp only[iR,iQ,jr,Act.put,jM,iN,iS]
  refine jv (i:=1) (v:=?_) rfl (by kernel_rfl) (by kernel_rfl) (by kernel_rfl) (fun _ _ _ h=>h) rfl ?_ (by assumption) ?_;rotate_left
  ·(intro w f;(try dsimp only at f);go_simp;try with_reducible rfl)
  try simp only[iR,iQ,jr,Act.put,jM,iN,iS]
  refine jv (i:=2) (v:=?_) rfl (by kernel_rfl) (by kernel_rfl) (by kernel_rfl) (fun _ _ _ h=>h) rfl ?_ (by assumption) ?_;rotate_left
  ·(intro w f;(try dsimp only at f);go_simp;try with_reducible rfl)
  try simp only[iR,iQ,jr,Act.put,jM,iN,iS]
  refine jv (i:=3) (v:=?_) rfl (by kernel_rfl) (by kernel_rfl) (by kernel_rfl) (fun _ _ _ h=>h) rfl ?_ (by assumption) ?_;rotate_left
  ·(intro w f;(try dsimp only at f);go_simp;try with_reducible rfl)
  try simp only[iR,iQ,jr,Act.put,jM,iN,iS]
  refine sU (i:=4) rfl (by kernel_rfl) (by kernel_rfl) (by kernel_rfl) (fun _ _ _ h=>h) rfl (by assumption) ?_;try simp only[iR,iQ,jr,Act.put,jM,iN,iS]
  refine sU (i:=5) rfl (by kernel_rfl) (by kernel_rfl) (by kernel_rfl) (fun _ _ _ h=>h) rfl (by assumption) ?_;try simp only[iR,iQ,jr,Act.put,jM,iN,iS]
  refine sU (i:=6) rfl (by kernel_rfl) (by kernel_rfl) (by kernel_rfl) (fun _ _ _ h=>h) rfl (by assumption) ?_;try simp only[iR,iQ,jr,Act.put,jM,iN,iS]
  refine sU (i:=7) rfl (by kernel_rfl) (by kernel_rfl) (by kernel_rfl) (fun _ _ _ h=>h) rfl (by assumption) ?_;try simp only[iR,iQ,jr,Act.put,jM,iN,iS]
  refine jv (i:=8) (v:=?_) rfl (by kernel_rfl) (by kernel_rfl) (by kernel_rfl) (fun _ _ _ h=>h) rfl ?_ (by assumption) ?_;rotate_left
  ·(intro w f;(try dsimp only at f);go_simp;try with_reducible rfl)
  try simp only[iR,iQ,jr,Act.put,jM,iN,iS]
  refine jv (i:=9) (v:=?_) rfl (by kernel_rfl) (by kernel_rfl) (by kernel_rfl) (fun _ _ _ h=>h) rfl ?_ (by assumption) ?_;rotate_left
  ·(intro w f;(try dsimp only at f);go_simp;try with_reducible rfl)
  try simp only[iR,iQ,jr,Act.put,jM,iN,iS]
  refine sU (i:=10) rfl (by kernel_rfl) (by kernel_rfl) (by kernel_rfl) (fun _ _ _ h=>h) rfl (by assumption) ?_;try simp only[iR,iQ,jr,Act.put,jM,iN,iS]
  refine sU (i:=11) rfl (by kernel_rfl) (by kernel_rfl) (by kernel_rfl) (fun _ _ _ h=>h) rfl (by assumption) ?_;try simp only[iR,iQ,jr,Act.put,jM,iN,iS]
  refine sU (i:=12) rfl (by kernel_rfl) (by kernel_rfl) (by kernel_rfl) (fun _ _ _ h=>h) rfl (by assumption) ?_;try simp only[iR,iQ,jr,Act.put,jM,iN,iS]
  refine sU (i:=13) rfl (by kernel_rfl) (by kernel_rfl) (by kernel_rfl) (fun _ _ _ h=>h) rfl (by assumption) ?_;try simp only[iR,iQ,jr,Act.put,jM,iN,iS]
  refine jv (i:=14) (v:=?_) rfl (by kernel_rfl) (by kernel_rfl) (by kernel_rfl) (fun _ _ _ h=>h) rfl ?_ (by assumption) ?_;rotate_left
  ·(intro w f;(try dsimp only at f);go_simp;try with_reducible rfl)
  try simp only[iR,iQ,jr,Act.put,jM,iN,iS]
  refine wpAnyH_ready (rs:=[15]) (by kernel_rfl) (by simp) ?_;refine AllReadyH.cons rfl (fun K F=>?_) AllReadyH.nil;simp only[iR,iQ,jr];go_simp;rw[r.out];refine F _ _ ⟨m0,m1,m2,m3⟩ (fun j=>?_);clear F K;try simp only[iR,iQ,jr,Act.put,jM,iN,iS]
  refine jv (i:=16) (v:=?_) rfl (by kernel_rfl) (by kernel_rfl) (by kernel_rfl) (fun _ _ _ h=>h) rfl ?_ (by assumption) ?_;rotate_left
  ·(intro w f;(try dsimp only at f);go_simp;try with_reducible rfl)
  try simp only[iR,iQ,jr,Act.put,jM,iN,iS]
  refine wpAnyH_done (by kernel_rfl) ?_ _;go_wp2_with fail;exact gS (v:=.tuple #[.agg #[G,S,Z,(m,data,c1)],.bool false]) (by simp[results,results78,go_sem,q0,q1,q2,q3]) rfl ⟨m,c1,rfl,O,L,Q⟩
theorem tU(a:Option Addr)(n cap:Nat)(l:List UInt8)(g i:Int)(w:World)(h:Bt w a n cap l):
  Calls prog 64 #[(a,n,cap),g,i] w (m7 (.bool (gW.right l g i)) w):=by
 have D:=gx (fun W (r:Bt W a n cap l)=>yK a n cap l W r);obtain⟨B,f⟩:∃B,B=gW.right l g i:=⟨_,rfl⟩;rw[<-f];unfold gW.right at f;unfold He at D;generalize jT.parse l=R at *;obtain⟨E,G,S,Z,data⟩:=R;simp only at D f;go_enter func64,ntmps64;go_wp2_with fail;go_at_call 86;refine(D _ h).mono ?_;rintro e K⟨q,n1,c1,rfl,b1,-⟩;have b2:=b1.alloc b1.size (.cells #[G,S,Z,(q,n1,c1)] 125);by_cases j:E=0
 .have C:(E==0)=true:=beq_iff_eq.2 j;by_cases m:(G:Int)=g
  .have F:((G:Int)==g)=true:=beq_iff_eq.2 m;by_cases o:(S:Int)=i
   .have I:((S:Int)==i)=true:=beq_iff_eq.2 o;obtain rfl:B=true:=by rw[f];exact kr ⟨j,m,o⟩
    replace j:=gx j;replace m:=gx m;replace o:=gx o;replace f:=gx f;go_wp2_with fail;go_ret;exact⟨rfl,b2⟩
   .have I:((S:Int)==i)=false:=jB.2 o;obtain rfl:B=false:=by rw[f];exact ju (fun h=>o h.2.2)
    replace j:=gx j;replace m:=gx m;replace o:=gx o;replace f:=gx f;go_wp2_with fail;go_ret;exact⟨rfl,b2⟩
  .have F:((G:Int)==g)=false:=jB.2 m;obtain rfl:B=false:=by rw[f];exact ju (fun h=>m h.2.1)
   replace j:=gx j;replace m:=gx m;replace f:=gx f;go_wp2_with fail;go_ret;exact⟨rfl,b2⟩
 .have C:(E==0)=false:=jB.2 j;obtain rfl:B=false:=by rw[f];exact ju (fun h=>j h.1)
  replace j:=gx j;replace f:=gx f;go_wp2_with fail;go_ret;exact⟨rfl,b2⟩
theorem us:(Tryz.prog.info? 3).map (fun i=>(i.zero,i.size,i.bytes))=some (some (.int .i64 0),1,8):=by kernel_rfl
def oe(U:List Nat):List Value:=U.map fun(u:Nat)=>Value.int .i64 (u:Int)
theorem qW(U V:List Nat):oe (U++V)=oe U++oe V:=by simp[oe]
theorem AQ{U:List Nat}{i:Nat}(h:i<U.length):(oe U)[i]?=some (.int .i64 ((U[i]:Nat):Int)):=by simp[oe,h]
def Pf(U:List Nat)(w:World)(e:Ending)(w':World):Prop:=∃a cap,e=.returned (.slice a U.length cap)/\Sl w' 1 a U.length cap (oe U)/\Below w w w'
theorem ki{R:List Rw}{k:Nat}(h:k<R.length):(gz R).getD k []=R[k].l:=by simp[List.getD,gz,h]
theorem C4(a:Option Addr)(n cap:Nat)(R:List Rw)(g:Int)(w:World)(h:Ms w a n cap R)(hn:n*24<=140737488355328):
  Calls prog 51 #[(a,n,cap),g] w (Pf (gW.j9 (gz R) g n) w):=by
 have W:=gx h.jO;have B:=h.sl.max;have Y:=h.sl.le;unfold maxLen at B;go_enter func51,ntmps51;go_wp2_with fail;go_loopg[5,12] n (fun gg Z N wr=>∃k:Nat,gg=n-k/\k<=n/\N=.int .i64 (k:Int)/\OT w wr none w.heap.size 3 1 Z (gW.j9 (gz R) g k).length (oe (gW.j9 (gz R) g k)));case atStart=>exact⟨0,rfl,by omega,rfl,OT.fresh (iY _ _ _ _) gZ gM⟩
 case round=>
  obtain⟨k,rfl,hk,rfl,E⟩:=hrel;obtain⟨wo,rfl⟩:∃wo:World,wo=wr:=⟨_,rfl⟩;have m:=E.im gM (fun k e=>by cases e);have U:=m.size;by_cases I:k<n
  .have q:k<R.length:=by rw[W.out];exact I
   obtain⟨b,off,rfl,_⟩:=h.sl.addr (by omega);obtain⟨x0,hb⟩:=(h.below m).at k q;have o:=ki q;have Q:=gW.rW (gz R) g k;generalize R[k]=r at *;have D:=gx (zy r.a r.n r.cap r.l g (k:Int) wo hb);unfold zN at D;have i0:(0:Int)<=(k:Int):=by omega
   have i1:(k:Int)<(n:Int):=by omega
   cases f:gW.right r.l g (k:Int) with
   |true=>
    have L:=gx (gW.Ap (l:=gz R) (g:=g) (k:=k) (by rw[o];exact f));rw[f] at D;replace o:=gx o;replace f:=gx f;go_wp2_with fail;go_at_call 78;refine(D).mono ?_;rintro e O⟨C,c2,rfl,b2,-⟩;have j:=E.below b2;go_wp2_with fail;go_roundg (n-(k+1));case measure=>omega
    case rel=>exact⟨k+1,rfl,by omega,by go_num,by rw[L.out];exact j.alloc _⟩
   |false=>
    have L:=gx (gW.Dj (l:=gz R) (g:=g) (k:=k) (by rw[o];exact f));rw[f] at D;replace o:=gx o;replace f:=gx f;go_wp2_with fail;go_at_call 78;refine(D).mono ?_;rintro e O⟨C,c2,rfl,b2,-⟩;have j:=E.below b2;generalize jT.parse r.l=P at *;have G:=j.alloc (.cells #[P.g,P.s,P.z,(C,P.data,c2)] 125);have S:w.heap.size<=(O.alloc (.cells #[P.g,P.s,P.z,(C,P.data,c2)] 125)).heap.size:=by have:=b2.size;simp;omega
    go_upto_region 7 with(fail);generalize O.alloc (.cells #[P.g,P.s,P.z,(C,P.data,c2)] 125)=V at *;go_wp2_with (refine wpList_append_t rfl (.tmp 26) (.tmp 28) 27 27 rfl w.heap.size 3 1 8 gy underlying27 us rfl (by decide) _ (gW.j9 (gz R) g k).length (oe (gW.j9 (gz R) g k)) rfl (G.alloc (.cells #[k] 3)) (some (V,gy),ia,ia) 1 [.int .i64 (k:Int)] rfl (Src.mr V #[.int .i64 (k:Int)] 3 1 1 underlying27 rfl (by simp[Value.oneCell'])) (by unfold maxLen;omega) (by omega) (by simp;omega) ?_;intro v2 w4 K X);go_roundg (n-(k+1));case measure=>omega
    case rel=>
     refine⟨k+1,rfl,by omega,by go_num,?_⟩;rw[L.out,qW,iH];exact K
  .obtain rfl:n=k:=by omega
   obtain⟨ua,uc,rfl,F⟩:=gK E.own;go_wp2_with fail;go_ret;exact⟨_,_,rfl,F,m⟩
theorem Kl(a:Option Addr)(n cap:Nat)(R:List Rw)(g:Int)(w:World)(h:Ms w a n cap R)(Y:n*24<=140737488355328):
  Calls prog 30 #[(a,n,cap),g] w (Pf (gW.j9 (gz R) g n) w):=by
 have S:=gx h.jO;have q:=h.sl.max;have V:=h.sl.le;unfold maxLen at q;go_enter func30,ntmps30;go_wp2_with fail;go_loopg[5,9] n (fun gg W L wr=>∃k:Nat,gg=n-k/\k<=n/\L=.int .i64 (k:Int)/\OT w wr none w.heap.size 3 1 W (gW.j9 (gz R) g k).length (oe (gW.j9 (gz R) g k)));case atStart=>exact⟨0,rfl,by omega,rfl,OT.fresh (iY _ _ _ _) gZ gM⟩
 case round=>
  obtain⟨k,rfl,X,rfl,B⟩:=hrel;obtain⟨wo,rfl⟩:∃wo:World,wo=wr:=⟨_,rfl⟩;have j:=B.im gM (fun k e=>by cases e);have P:=j.size;by_cases G:k<n
  .have o:k<R.length:=by rw[S.out];exact G
   obtain⟨b,off,rfl,_⟩:=h.sl.addr (by omega);obtain⟨x0,hb⟩:=(h.below j).at k o;have m:=ki o;have N:=gW.rW (gz R) g k;generalize R[k]=r at *;have D:=gx (tU r.a r.n r.cap r.l g (k:Int) wo hb);have Z:(0:Int)<=(k:Int):=by omega
   have i1:(k:Int)<(n:Int):=by omega
   cases f:gW.right r.l g (k:Int) with
   |true=>
    have K:=gx (gW.Ap (l:=gz R) (g:=g) (k:=k) (by rw[m];exact f));rw[f] at D;replace m:=gx m;replace f:=gx f;go_wp2_with fail;go_at_call 64;refine(D).mono ?_;rintro e w2⟨rfl,b2⟩;have E:=B.below b2;go_wp2_with fail;go_roundg (n-(k+1));case measure=>omega
    case rel=>exact⟨k+1,rfl,by omega,by go_num,by rw[K.out];exact E⟩
   |false=>
    have K:=gx (gW.Dj (l:=gz R) (g:=g) (k:=k) (by rw[m];exact f));rw[f] at D;replace m:=gx m;replace f:=gx f;go_wp2_with fail;go_at_call 64;refine(D).mono ?_;rintro e Q⟨rfl,b2⟩;have F:=B.below b2;have O:=b2.size;go_wp2_with (refine wpList_append_t rfl (.tmp 20) (.tmp 22) 27 27 rfl w.heap.size 3 1 8 gy underlying27 us rfl (by decide) _ (gW.j9 (gz R) g k).length (oe (gW.j9 (gz R) g k)) rfl (F.alloc (.cells #[k] 3)) (some (Q,gy),ia,ia) 1 [.int .i64 (k:Int)] rfl (Src.mr Q #[.int .i64 (k:Int)] 3 1 1 underlying27 rfl (by simp[Value.oneCell'])) (by unfold maxLen;omega) (by omega) (by simp;omega) ?_;intro v2 w4 I U);go_roundg (n-(k+1));case measure=>omega
    case rel=>
     refine⟨k+1,rfl,by omega,by go_num,?_⟩;rw[K.out,qW,iH];exact I
  .obtain rfl:n=k:=by omega
   obtain⟨ua,uc,rfl,C⟩:=gK B.own;go_wp2_with fail;go_ret;exact⟨_,_,rfl,C,j⟩
end Go.Proofs.YthhcdfjijagalaaGreat

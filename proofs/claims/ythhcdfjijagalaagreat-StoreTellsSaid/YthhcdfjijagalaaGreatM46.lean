import Derived.Test.YthhcdfjijagalaaGreatM45
set_option linter.all false
set_option maxHeartbeats 8000000
set_option maxRecDepth 100000
namespace Go.Proofs.YthhcdfjijagalaaGreat
open Qz Go.Proofs.Tryz Go.RowKit
def Hc(R:gD.PR)(w:World)(e:Ending)(w':World):Prop:=
 ∃a n cap f,e=.returned (.tuple #[.slice a n cap,R.err])/\Bs w' a n cap f/\f.map Rb.ba=R.l/\Below w w w'/\w'.ownsRow w.heap.size 50 2 (.slice a n cap) n (iD f)/\Ro w' w.heap.size f
theorem Hc.A9{R:gD.PR}{w:World}{e:Ending}{w':World}(h:Hc R w e w'):OM R w e w':=by
 obtain⟨a,n,cap,f,j,m,o,q,_⟩:=h;exact⟨a,n,cap,f,j,m,o,q⟩
theorem Et(a:Option Addr)(n cap:Nat)(l:List UInt8)(w:World)(h:Bt w a n cap l):Calls prog 61 #[(a,n,cap)] w (Hc (gD.parse l) w):=by
 have C:=gx (fun W q k ok t hk h hr=>Er w W (w.heap.size+1) w.heap.size (w.heap.size+2) l q k ok t hk h hr);have b9:=gx (Bt.n h);have R0:Rr w (((w.alloc (.cells #[(a,n,cap)] 64)).alloc (.cells #[gy] 3)).alloc (.cells #[.bool true] 4)) (w.heap.size+1) w.heap.size (w.heap.size+2) l 0 true:=by
  have hb:=((iU w.heap.size w).alloc gM (.cells #[(a,n,cap)] 64)).alloc (by simp) (.cells #[gy] 3);refine⟨?_,⟨a,n,cap,gF (gF (gO w _)),h⟩,?_,by omega,hb.alloc hb.size _,by omega,by have h1:=h.le;have h2:=h.max;unfold maxLen at h2;rw[b9.out];omega⟩
  .have:=gO (w.alloc (.cells #[(a,n,cap)] 64)) (.cells #[gy] 3);rw[jH] at this;exact gF this
  .have:=gO ((w.alloc (.cells #[(a,n,cap)] 64)).alloc (.cells #[gy] 3)) (.cells #[.bool true] 4);rw[jH,jH] at this;exact this
 have D0:=gx (C _ 0 1 true ⟨l,true⟩ (by omega) R0 ⟨fun _=>rfl,fun j=>by cases j⟩);have HP:=gx (show gD.parse l=if (gD.iC (gD.num 1 ⟨l,true⟩).1 (gD.num 1 ⟨l,true⟩).2).2.ok=false∨(gD.iC (gD.num 1 ⟨l,true⟩).1 (gD.num 1 ⟨l,true⟩).2).2.l≠[] then⟨[],2⟩ else if 150<(gD.iC (gD.num 1 ⟨l,true⟩).1 (gD.num 1 ⟨l,true⟩).2).1.length then⟨[],5⟩ else if (gD.fb (gD.iC (gD.num 1 ⟨l,true⟩).1 (gD.num 1 ⟨l,true⟩).2).1 0).1≠0 then⟨[],(gD.fb (gD.iC (gD.num 1 ⟨l,true⟩).1 (gD.num 1 ⟨l,true⟩).2).1 0).1⟩ else⟨(gD.iC (gD.num 1 ⟨l,true⟩).1 (gD.num 1 ⟨l,true⟩).2).1,0⟩ from rfl);generalize gD.num 1 ⟨l,true⟩=n0 at *;obtain⟨N0,t0⟩:=n0;go_enter func61,ntmps61;go_wp2_with fail;go_at_call 88;refine(D0).mono ?_;rintro e w1⟨N,q0,b5,rfl,hN,R1,O1,aC,bJ,ch,cN⟩;have cJ:N<=255:=by have:(256:Nat) ^ 1=256:=rfl;omega
 clear hN D0 R0;have f:M1 w w1 l N0 t0 N () q0 b5 t0 []:=⟨aC,fun j=>by rw[bJ j];rfl,fun j=>by rw[gD.pI _ _ (.inr (aC.2 j))];exact aC.2 j,by simp;omega,R1,iY _ _ _ _,fun x hx=>by cases hx⟩;replace f:=gx f;clear aC bJ ch R1 O1;go_wp2_with fail;go_loopg[7,9,10,11,12,13,14] N (fun g o i cv cw cU cx cy wr=>∃m k q ok t G,g=m/\k+m=N/\i=.int .i64 (k:Int)/\q+m*70000<=20000000/\M1 w wr l N0 t0 m o q ok t G);case atStart=>exact⟨N,0,q0,b5,t0,[],rfl,by omega,rfl,by omega,f⟩
 case round=>
  clear f;obtain⟨m,k,q,ok,t,G,rfl,cL,rfl,cD,hL⟩:=hrel;obtain⟨wo,rfl⟩:∃wo:World,wo=wr:=⟨_,rfl⟩;obtain⟨hrel,ah,P,ck,aE,Q,ai⟩:=hL;obtain⟨h1,⟨ra,rn,rc,h2,cn⟩,h3,_,ax,cG,_⟩:=id aE;have a3:=ax.size;have z1:=iq h1;have z3:=iq h3;have ca:wo.cell? (w.heap.size+1,gy)=some (.int .i64 (q:Int)):=gw h1;have cc:wo.cell? (w,gy)=some (.slice ra rn rc):=gw h2;have co:wo.cell? (w.heap.size+2,gy)=some (.bool ok):=gw h3;replace ah:=gx ah;replace P:=gx P;by_cases L:gk=0∨ok=false
  .have bk:=gx (Bt.n cn);cases ok with
   |false=>
    have HR:=gx (show gD.parse l=⟨[],2⟩ by rw[HP.out,gG (.inl (P.out rfl))]);rcases pD gk with h0|h0
    .subst h0;obtain rfl:k=N:=by omega
     clear L ah P;go_wp2_with fail;go_ret2;exact⟨none,0,0,[],by rw[HR.out];rfl,Bs.none _,by rw[HR.out];rfl,ax,iY _ _ _ _,Ro.nil _ _⟩
    .have u0:decide ((k:Int)<(N:Int))=true:=by simp;omega
     have u1:decide (k<N)=true:=by simp;omega
     clear L ah P;go_wp2_with fail;go_ret2;exact⟨none,0,0,[],by rw[HR.out];rfl,Bs.none _,by rw[HR.out];rfl,ax,iY _ _ _ _,Ro.nil _ _⟩
   |true=>
    obtain rfl:gk=0:=L.resolve_right (by simp);obtain rfl:k=N:=by omega
    have ht:=hrel.1 rfl;subst ht;have HE:=ah rfl;rw[gD.pI _ _ (.inl rfl),mY] at HE;have af:=HP.out;rw[HE] at af;simp only at af;replace af:=gx af;clear L ah P HP HE hrel;by_cases b0:q=rn
    .subst b0;have a9:l.drop q=[]:=mV (by rw[bk.out];exact jb _);have bj:=gx (af.trans (gC (fun h=>h.elim (fun h=>by cases h) (fun h=>h a9))));obtain⟨oa,oc,rfl,aS⟩:=gK Q;have bU:=aS.max;have bT:=aS.le;unfold maxLen at bU;have hB:Bs wo oa G.length oc G:=⟨aS,fun r hr=>by obtain⟨h1,h2⟩:=ai r hr;obtain⟨a2,c2,e2,s2⟩:=gK h1;cases e2;exact⟨s2,h2⟩⟩
     have bF:=gx Q;have bE:=gx ai;clear af ai Q a9;by_cases aG:150<G.length
     .have HR:=gx (show gD.parse l=⟨[],5⟩ by rw[bj.out,gG (by rw[iz];exact aG)]);go_wp2_with fail;go_ret2;exact⟨none,0,0,[],by rw[HR.out];rfl,Bs.none _,by rw[HR.out];rfl,ax,iY _ _ _ _,Ro.nil _ _⟩
     .have bG:=gx (bj.trans (gC (by rw[iz];exact aG)));clear bj;obtain⟨nR,bw⟩:∃nR,G.length=nR:=⟨_,rfl⟩;rw[bw] at hB aS bT aG ck⊢;have bi:=gx bw;clear bw;go_wp2_with fail;go_loopg[16,17,90] nR (fun g cv cw i W=>∃k,g=nR-k/\k<=nR/\i=.int .i64 (k:Int)/\Below wo wo W/\Hid (gD.fb (G.map Rb.ba) 0=gD.fb ((G.map Rb.ba).drop k) k));case atStart=>exact⟨0,rfl,by omega,rfl,iU _ _,gx (by simp)⟩
      case round=>
       obtain⟨k,rfl,hk,rfl,ag,HB⟩:=hrel;by_cases cm:k<nR
       .have bR:k<G.length:=by rw[bi.out];exact cm
        obtain⟨b,off,rfl,_⟩:=aS.addr (by omega);obtain⟨q0,q1,hE⟩:=(hB.below ag).at k bR;generalize hr:G[k]=r at *;obtain⟨c,ea,en,ec,il⟩:=r;simp only at q0 q1 hE;have HR:=gx hr;clear hr;have D:=gx (fun W (hE:Es W ea en ec il)=>oR c ea en ec il W hE);have HP:=gx (gD.um (G.map Rb.ba) k ⟨c,il⟩ (by rw[nJ,jz bR,HR.out];rfl));go_wp2_with fail;go_at_call 55;refine(D _ (hE.alloc _)).mono ?_;rintro e w4⟨rfl,b4⟩;have aL:Below wo wo w4:=(ag.alloc ag.size _).trans (b4.mono (by have:=ag.size;simp;omega));have b2:=aL.size;unfold zE;obtain⟨f1,bq⟩:∃f1,(gD.iI ⟨c,il⟩).1=f1:=⟨_,rfl⟩;rw[bq];have HF:=gx bq;generalize (gD.iI ⟨c,il⟩).2=f2;clear bq b4 q0 q1 hE D;by_cases hz:f1=0
        .subst hz;go_wp2_with fail;go_roundg (nR-(k+1));case measure=>omega
         case rel=>exact⟨k+1,rfl,by omega,by go_num,aL.alloc b2 _,gx (by rw[HB.out,HP.out,gC (fun h=>h HF.out)])⟩
        .have t0:(f1 !=0)=true:=by rw[ij];exact hz
         have hG:=gx (show gD.parse l=⟨[],f1⟩ by
          have e1:(gD.fb (G.map Rb.ba) 0)=(f1,(k:Int)):=by rw[HB.out,HP.out,gG (by rw[HF.out];exact hz),HF.out]
          rw[bG.out,e1,gG hz])
         clear hz HB;go_wp2_with fail;go_quiet (fail);go_wp2_with fail;go_ret2;exact⟨none,0,0,[],by rw[hG.out];rfl,Bs.none _,by rw[hG.out];rfl,ax.trans ((below_drewN (aL.alloc b2 _) _).mono a3),iY _ _ _ _,Ro.nil _ _⟩
       .obtain rfl:k=nR:=by omega
        have hG:=gx (show gD.parse l=⟨G.map Rb.ba,0⟩ by
         have e1:(gD.fb (G.map Rb.ba) 0).1=0:=by rw[HB.out,mV (by rw[iz,bi.out];exact jb _)];rfl
         rw[bG.out,gC (fun h=>h e1)])
        go_wp2_with fail;go_ret2;refine⟨oa,_,oc,G,?_,hB.below ag,?_,ax.trans (ag.mono a3),by have h:=bF.out;rw[bi.out] at h;exact gL h ag,bE.below ag⟩;·rw[hG.out];rfl
        .rw[hG.out]
    .have HR:=gx (show gD.parse l=⟨[],2⟩ by rw[af.out,gG (.inr (fun e=>by have:=congrArg List.length e;rw[kG,bk.out] at this;simp at this;have:=bk.out;omega))]);have u0:((q:Int) !=(rn:Int))=true:=by rw[ij];omega
     have u1:(q !=rn)=true:=by rw[ij];exact b0
     clear af;go_wp2_with fail;go_ret2;exact⟨none,0,0,[],by rw[HR.out];rfl,Bs.none _,by rw[HR.out];rfl,ax,iY _ _ _ _,Ro.nil _ _⟩
  .obtain⟨m,rfl⟩:∃m,gk=m+1:=⟨gk-1,by omega⟩;have oz:ok=true:=by
    cases j:ok with
    |true=>rfl
    |false=>exact absurd (.inr j) L
   subst oz;have aF:=gx (ah rfl);have ht:t.ok=true:=by rw[hrel.1 rfl]
   have cz:decide ((k:Int)<(N:Int))=true:=by simp;omega
   have b7:decide (k<N)=true:=by simp;omega
   clear L ah P;have d3:=C wo q 3 true t (by omega) aE hrel;have bD:gD.iC (m+1) t=(⟨(gD.num 3 t).1,(gD.events (gD.num 1 (gD.num 3 t).2).1 (gD.num 1 (gD.num 3 t).2).2).1⟩::(gD.iC m (gD.events (gD.num 1 (gD.num 3 t).2).1 (gD.num 1 (gD.num 3 t).2).2).2).1,(gD.iC m (gD.events (gD.num 1 (gD.num 3 t).2).1 (gD.num 1 (gD.num 3 t).2).2).2).2):=by show(if t.ok=true then _ else _)=_;rw[gG ht];rfl
   have ae:=aF.out;rw[bD] at ae;clear aF bD ht;generalize gD.num 3 t=p3 at *;obtain⟨cp,t1⟩:=p3;have d1:=fun W q ok=>C W q 1 ok t1 (by omega);have bu:t1.ok=false->(gD.num 1 t1).2.ok=false:=gD.nG 1 t1;simp only at ae;generalize gD.num 1 t1=p1 at *;obtain⟨Kp,t2⟩:=p1;simp only at ae;have aF:=gx ae;replace d3:=gx d3;replace d1:=gx d1;clear ae;go_wp2_with fail;go_at_call 88;refine(d3).mono ?_;rintro e w2⟨c,q1,bC,rfl,hc,R2,O2,bg,cj,_,cO⟩;have bf:=O2.size;have a6:Rr w (w2.alloc (.cells #[c,()] 50)) (w.heap.size+1) w.heap.size (w.heap.size+2) l q1 bC:=by obtain⟨g1,⟨a1,n1,c1,g2,g3⟩,g4,g5,g6,g7,g8⟩:=R2;exact⟨gF g1,⟨a1,n1,c1,gF g2,g3⟩,gF g4,g5,g6.alloc g6.size _,g7,g8⟩
   have b1:w.heap.size+2<w2.heap.size:=by omega
   clear d3 ca cc co cz b7;go_wp2_with fail;go_at_call 88;refine(d1 _ q1 bC a6 bg).mono ?_;rintro e w3⟨K,q2,b6,rfl,hK,R3,O3,au,bI,_,cP⟩;have bO:=O3.jJ (gO w2 (.cells #[c,()] 50)) (by simp;omega);have bK:gU wo w3 [w.heap.size+1,w.heap.size+2]:=(O2.alloc (.cells #[c,()] 50)).trans' O3;have cI:K<=255:=by have:(256:Nat) ^ 1=256:=rfl;omega
   have f:M2 w wo w3 l w2.heap.size c cp Kp t2 K () q2 b6 t2 []:=⟨au,fun j=>by rw[bI j];rfl,fun j=>by rw[gD.pg _ _ (.inr (au.2 j))];exact au.2 j,by simp;omega,R3,fun j=>cj (by cases bB:bC with|true=>rfl|false=>exact absurd (bu (bg.2 bB)) (by rw[au.1 j];simp)),bO,iY _ _ _ _,fun g hg=>by simp[Value.ownBlock] at hg,fun x hx=>(by cases hx),bK⟩;replace f:=gx f;clear d1 a6 R2 R3 O2 O3 au bI bO bK hK hc;go_wp2_with fail;go_loopg[12,13,14] K (fun g i cx cy W=>∃m2 k2 ev q' ok t es,g=m2/\k2+m2=K/\i=.int .i64 (k2:Int)/\q'+m2*260<=q+66304/\M2 w wo W l w2.heap.size c cp Kp t2 m2 ev q' ok t es);case atStart=>exact⟨K,0,_,q2,b6,t2,[],rfl,by omega,rfl,by omega,f⟩
   case round=>
    clear f;obtain⟨m2,k2,ev,qe,ar,I,es,rfl,cK,rfl,cE,hL⟩:=hrel;have HL:=gx hL;obtain⟨g1,⟨cs,cu,ct,g2,g3⟩,g4,_,aM,cS,_⟩:=id hL.rd;have da:wr.cell? (w.heap.size+1,gy)=some (.int .i64 (qe:Int)):=gw g1;have db:wr.cell? (w,gy)=some (.slice cs cu ct):=gw g2;have cf:wr.cell? (w.heap.size+2,gy)=some (.bool ar):=gw g4;obtain⟨x0,Z⟩:=lv hL.box;by_cases F:gk=0∨ar=false
    .obtain⟨ea,B,rfl,_⟩:=gK hL.own;have aD:=aE.tz hL.only Q (by decide) (by decide);have al:ar=true->gk=0:=fun j=>F.resolve_right (by rw[j];simp);have NX:=gx (fun v5 w5 lit=>@M1.next w wo wr w5 l N0 Kp m gk w2.heap.size t0 t2 I G c cp ea B qe q ar true es u7 v5 lit aF (by omega) aE Q ai hL al);have b3:=hL.only.size;have bN:G.length<=255:=by omega
     obtain⟨a5,aV,rfl,_⟩:=gK aD;clear hL da db;rcases pD gk with h0|h0
     .subst h0;obtain rfl:k2=K:=by omega
      clear F al;go_wp2_with (refine wpList_append_t rfl (.tmp 73) (.tmp 75) 26 26 rfl w.heap.size 50 2 32 (.agg #[gy,()]) underlying26 np rfl (by decide) (a5,G,aV) G.length (iD G) rfl (OT.start (aD.alloc (.cells #[c,(ea,es,B)] 50))) _ 1 [.int .i64 (c:Int),.slice ea es.length B] rfl (Src.mr wr #[.int .i64 (c:Int),.slice ea es.length B] 50 1 2 underlying26 rfl (by simp[Value.oneCell'])) (by unfold maxLen;omega) (by omega) (by have:=aM.size;simp;omega) ?_;intro v5 w5 o5 g5;have ab:=NX v5 w5 _ o5);go_roundg m;case measure=>omega
      case rel=>exact⟨m,k+1,qe,ar,_,_,rfl,by omega,by go_num,by omega,ab⟩
     .have bW:ar=false:=F.resolve_left (by omega);subst bW;have u0:decide ((k2:Int)<(K:Int))=true:=by simp;omega
      have u1:decide (k2<K)=true:=by simp;omega
      clear F al;go_wp2_with (refine wpList_append_t rfl (.tmp 73) (.tmp 75) 26 26 rfl w.heap.size 50 2 32 (.agg #[gy,()]) underlying26 np rfl (by decide) (a5,G,aV) G.length (iD G) rfl (OT.start (aD.alloc (.cells #[c,(ea,es,B)] 50))) _ 1 [.int .i64 (c:Int),.slice ea es.length B] rfl (Src.mr wr #[.int .i64 (c:Int),.slice ea es.length B] 50 1 2 underlying26 rfl (by simp[Value.oneCell'])) (by unfold maxLen;omega) (by omega) (by have:=aM.size;simp;omega) ?_;intro v5 w5 o5 g5;have ab:=NX v5 w5 _ o5);go_roundg m;case measure=>omega
      case rel=>exact⟨m,k+1,qe,false,_,_,rfl,by omega,by go_num,by omega,ab⟩
    .obtain⟨kk,rfl⟩:∃kk,gk=kk+1:=⟨gk-1,by omega⟩;have bX:ar=true:=by
      cases j:ar with
      |true=>rfl
      |false=>exact absurd (.inr j) F
     subst bX;have u0:decide ((k2:Int)<(K:Int))=true:=by simp;omega
     have u1:decide (k2<K)=true:=by simp;omega
     have a4:=hL.rel.1 rfl;have dn:=C (wr.alloc (.cells #[.string ⟨#[]⟩,gy,gy] 78)) qe 1 true I (by omega) (hL.rd.alloc _) hL.rel;replace dn:=gx dn;have cM:es.length+(kk+1)<=255:=hL.le;have bP:=gF (o':=.cells #[.string ⟨#[]⟩,gy,gy] 78) hL.box;have aP:=hL.own.alloc (.cells #[.string ⟨#[]⟩,gy,gy] 78);have bH:=gO wr (.cells #[.string ⟨#[]⟩,gy,gy] 78);have bL:=hL.only.alloc (.cells #[.string ⟨#[]⟩,gy,gy] 78);have cT:=hL.only.size;clear hL F x0 Z;go_wp2_with fail;go_at_call 88;refine(dn).mono ?_;rintro e wA⟨lg,Y,V,rfl,cl,RA,OA,O,ak,aB,cF⟩;have aZ:=OA.jJ bP (by simp;omega);have bo:=OA.jJ bH (by simp;omega);have aW:=bL.trans' OA;have cr:=OA.size;have cH:wr.heap.size+1<=wA.heap.size:=by simpa using cr
     have S:wA.ownsRow w.heap.size 78 3 ev es.length (hQ es):=(HL.rd.alloc (.cells #[.string ⟨#[]⟩,gy,gy] 78)).tz OA aP (by decide) (by decide);have cC:lg<256:=by have e:(256:Nat) ^ 1=256:=rfl;omega
     obtain⟨j1,⟨aA,nA,cA,j2,bS⟩,j4,_,bQ,cQ,_⟩:=id RA;have ka:wA.cell? (w.heap.size+1,gy)=some (.int .i64 (Y:Int)):=gw j1;have kb:wA.cell? (w,gy)=some (.slice aA nA cA):=gw j2;have ko:wA.cell? (w.heap.size+2,gy)=some (.bool V):=gw j4;have b8:=gx (Bt.n bS);clear aP bP bH bL OA dn da db cf cl;have bz:=RA.le;have aj:l.length=nA:=b8.out;have bc:I.ok=true:=by rw[a4]
     by_cases aR:nA<Y+lg
     .obtain rfl:V=true:=by
       cases j:V with
       |true=>rfl
       |false=>have h0:=aB bc j;omega
      have aO:=ak rfl;have bp:(gD.jK I).2.ok=false:=gD.Hz (O.1 rfl) bz (by rw[aj,<-aO];exact aR);have fo:wA.frozen? (w.heap.size+1+1,gy)=false:=gA j4;have v0:decide ((nA:Int)<(Y:Int)+(lg:Int))=true:=by simp;omega
      have RB:Rr w (wA.setCell (w.heap.size+1+1,gy) (.bool false)) (w.heap.size+1) w.heap.size (w.heap.size+2) l Y false:=RA.O0 false;have a8:w2.heap.size≠w.heap.size+2:=by omega
      have a0:=(mG wA (w.heap.size+1+1,gy) (.bool false) w2.heap.size a8).trans aZ;have aQ:=ji (a:=(w.heap.size+1+1,gy)) S (gP S j4 (by decide)) (.bool false);have bM:=aW.setCell (a:=(w.heap.size+1+1,gy)) (.inl (by simp)) (.bool false);have aJ:=M2.P7 (m':=0) HL RB bp a0 aQ bM;obtain⟨ea,B,rfl,_⟩:=gK aJ.own;have aD:=aE.tz aJ.only Q (by decide) (by decide);have NX:=gx (fun v5 w5 lit=>@M1.next w wo _ w5 l N0 Kp m 0 w2.heap.size t0 t2 _ G c cp ea B _ q false true es u7 v5 lit aF (by omega) aE Q ai aJ (fun j=>by cases j));have b3:=aJ.only.size;have bN:G.length<=255:=by omega
      have x0:(wA.setCell (w.heap.size+1+1,gy) (.bool false)).cell? (w2,gy)=some (.int .i64 (c:Int)):=gw a0;have Z:(wA.setCell (w.heap.size+1+1,gy) (.bool false)).cell? (w2,ia)=some (.slice ea es.length B):=gw a0;obtain⟨a5,aV,rfl,_⟩:=gK aD;have aj:=gx aj;have aO:=gx aO;have bd:=Src.mr (wA.setCell (w.heap.size+1+1,gy) (.bool false)) #[.int .i64 (c:Int),.slice ea es.length B] 50 1 2 underlying26 rfl (by simp[Value.oneCell']);rw[pn] at bd;clear aJ a0 aQ bM RB aZ bo S aW ak aB O RA a4 bc a8;go_wp2_with (refine wpList_append_t rfl (.tmp 73) (.tmp 75) 26 26 rfl w.heap.size 50 2 32 (.agg #[gy,()]) underlying26 np rfl (by decide) (a5,G,aV) G.length (iD G) rfl (OT.start (aD.alloc (.cells #[c,(ea,es,B)] 50))) _ 1 [.int .i64 (c:Int),.slice ea es.length B] rfl bd (by unfold maxLen;omega) (by omega) (by have:=aM.size;simp at b3⊢;omega) ?_;intro v5 w5 o5 g5;have ab:=NX v5 w5 _ o5);go_roundg m;case measure=>omega
      case rel=>exact⟨m,k+1,Y,false,_,_,rfl,by omega,by go_num,by omega,ab⟩
     .have aN:Y+lg<=nA:=by omega
      have bn:=Sl.below bS bQ;have cB:=bn.le;have br:=bn.max;unfold maxLen at br;have v0:decide ((nA:Int)<(Y:Int)+(lg:Int))=false:=by simp;omega
      have bV:ev.ownBlock≠some wr.heap.size:=fun e=>by have:=(HL.own.lt _ e).2;omega
      have Q0:QE w wo wA l w2.heap.size wr.heap.size c ev es Y V (.string ⟨#[]⟩) gy gy:=⟨RA,bo,aZ,S,bV,aW,by omega⟩;have aX:=Bt.slice bn (Nat.le_add_right Y lg) aN;rw[AX,me] at aX;have aY:((l.drop Y).take lg).length=lg:=Bt.n aX;have al:=Bt.str aX;have aI:V=true->gD.take (gD.num 1 I).1 (gD.num 1 I).2=((l.drop Y).take lg,⟨l.drop (Y+lg),true⟩):=fun j=>by rw[O.1 j,<-ak j];exact gD.EJ (by rw[aj];exact aN)
      have bh:Rel l V (Y+lg) (gD.take (gD.num 1 I).1 (gD.num 1 I).2).2:=⟨fun j=>by rw[aI j],fun j=>gD.sN _ _ (O.2 j)⟩;have Q1:=(Q0.MP 0 (.string ⟨((l.drop Y).take lg).toArray⟩) (a':=.string ⟨((l.drop Y).take lg).toArray⟩) (b':=.int .i64 0) (d':=.int .i64 0) rfl).setAt (Y+lg) (by omega);rw[show((Y+lg:Nat):Int)=(Y:Int)+(lg:Int) by simp] at Q1;have dB:=C _ _ 1 V _ (by omega) Q1.rd bh;have jv:=gx (show gD.take (gD.num 1 I).1 (gD.num 1 I).2=gD.take (gD.num 1 I).1 (gD.num 1 I).2 from rfl);generalize cg:(l.drop Y).take lg=LS at *;obtain⟨c0,c1,c2,g0,g1,g2⟩:=Q0.cells;replace aj:=gx aj;replace a4:=gx a4;replace al:=gx al;replace dB:=gx dB;replace aY:=gx aY;replace aI:=gx aI;have fA:wA.frozen? (w.heap.size+1,gy)=false:=gA j1;clear cg aX aR aZ bo S aW bh;have cR:=gx (show cA=Y->lg=0 by omega);obtain hc|hc:cA=Y∨cA≠Y:=by omega
      .have ao:=al.out;rw[gG hc,hc,lU] at ao;go_wp2_with fail;go_at_call 88;refine(dB).mono ?_;rintro e wB⟨Z,qB,ad,rfl,bB,RB,OB,E,ap,_,bY⟩;have QB:=Q1.num RB OB;have Q2:=QB.MP 1 Z (a':=.string ⟨LS.toArray⟩) (b':=.int .i64 (Z:Int)) (d':=.int .i64 0) rfl;have dC:=gx (C _ _ 3 ad _ (by omega) Q2.rd E);obtain⟨k0,k1,aU,p0,p1,p2⟩:=QB.cells;clear c0 c1 c2 g0 g1 g2 ao dB;go_wp2_with fail;go_at_call 88;refine(dC).mono ?_;rintro e wC⟨x3,qC,az,rfl,cq,RC,OC,X,aq,_,bZ⟩;have QC:=Q2.num RC OC;have Q3:=QC.MP 2 x3 (a':=.string ⟨LS.toArray⟩) (b':=.int .i64 (Z:Int)) (d':=.int .i64 (x3:Int)) rfl;clear k0 k1 aU p0 p1 p2 dC;obtain⟨k0,k1,aU,p0,p1,p2⟩:=QC.cells;have xb:wC.cell? (w2,ia)=some ev:=gw QC.bx;have aT:=Q3.only.size;have bA:wo.heap.size<=wC.heap.size:=by simpa using aT
       have aw:az=true->ad=true:=fun j=>by
        cases hx:ad with
        |true=>rfl
        |false=>
         have h1:=gD.nG 3 _ (E.2 hx);rw[X.1 j] at h1;cases h1
       have aH:ad=true->V=true:=fun j=>by
        cases hx:V with
        |true=>rfl
        |false=>
         have h1:=gD.nG 1 _ (gD.sN (gD.num 1 I).1 _ (O.2 hx));rw[E.1 j] at h1;cases h1
       have uM:az=true->(⟨⟨LS.toArray⟩,(Z:Int),(x3:Int)⟩:gD.Ev)=(gD.jK I).1:=fun j=>by show(⟨⟨LS.toArray⟩,(Z:Int),(x3:Int)⟩:gD.Ev)=⟨⟨(gD.take (gD.num 1 I).1 (gD.num 1 I).2).1.toArray⟩,((gD.num 1 (gD.take (gD.num 1 I).1 (gD.num 1 I).2).2).1:Int),((gD.num 3 (gD.num 1 (gD.take (gD.num 1 I).1 (gD.num 1 I).2).2).2).1:Int)⟩;rw[<-aq j,<-ap (aw j)];have e1:=congrArg Prod.fst (aI (aH (aw j)));simp only at e1;rw[e1]
       have bm:=gx (fun v' w5 lit=>M2.next (lit:=lit) (w5:=w5) (v':=v') HL bf b1 a3 Q3.rd X uM Q3.bx Q3.own Q3.only (by show LS.toArray.size<=maxLen;simp[maxLen];have:=aY.out;omega));have ay:=Q3.own;have U:=Src.mr (wC.setCell (wr,j6) x3) #[.string ⟨LS.toArray⟩,.int .i64 (Z:Int),.int .i64 (x3:Int)] 78 1 3 underlying40 rfl (by simp[Value.oneCell']);rw[pn] at U;clear Q0 Q1 QB Q2 QC Q3 aw aH uM X E O RB RC OB OC ap aq ak aB aj;go_wp2_with (refine wpList_append_t rfl (.tmp 68) (.tmp 70) 40 40 rfl w.heap.size 78 3 32 (.agg #[.string ⟨#[]⟩,gy,gy]) underlying40 qF rfl (by decide) ev es.length (hQ es) rfl (OT.start (ay.alloc (.cells #[.string ⟨LS.toArray⟩,Z,x3] 78))) _ 1 [.string ⟨LS.toArray⟩,.int .i64 (Z:Int),.int .i64 (x3:Int)] rfl U (by unfold maxLen;omega) (by omega) (by simp;omega) ?_;intro v5 w5 o5 g5;obtain⟨a7,cd,rfl,_⟩:=gK o5.own;obtain⟨aK,ab⟩:=bm _ w5 _ o5;have s0:w5.cell? (w2,ia)=some ev:=gw aK;have s1:w5.frozen? (w2,ia)=false:=gA aK);go_roundg kk;case measure=>omega
       case rel=>exact⟨kk,k2+1,_,qC,az,_,_,rfl,by omega,by go_num,by omega,ab⟩
      .have ao:=al.out;rw[gC hc] at ao;go_wp2_with fail;go_at_call 88;refine(dB).mono ?_;rintro e wB⟨Z,qB,ad,rfl,bB,RB,OB,E,ap,_,bY⟩;have QB:=Q1.num RB OB;have Q2:=QB.MP 1 Z (a':=.string ⟨LS.toArray⟩) (b':=.int .i64 (Z:Int)) (d':=.int .i64 0) rfl;have dC:=gx (C _ _ 3 ad _ (by omega) Q2.rd E);obtain⟨k0,k1,aU,p0,p1,p2⟩:=QB.cells;clear c0 c1 c2 g0 g1 g2 ao dB;go_wp2_with fail;go_at_call 88;refine(dC).mono ?_;rintro e wC⟨x3,qC,az,rfl,cq,RC,OC,X,aq,_,bZ⟩;have QC:=Q2.num RC OC;have Q3:=QC.MP 2 x3 (a':=.string ⟨LS.toArray⟩) (b':=.int .i64 (Z:Int)) (d':=.int .i64 (x3:Int)) rfl;clear k0 k1 aU p0 p1 p2 dC;obtain⟨k0,k1,aU,p0,p1,p2⟩:=QC.cells;have xb:wC.cell? (w2,ia)=some ev:=gw QC.bx;have aT:=Q3.only.size;have bA:wo.heap.size<=wC.heap.size:=by simpa using aT
       have aw:az=true->ad=true:=fun j=>by
        cases hx:ad with
        |true=>rfl
        |false=>
         have h1:=gD.nG 3 _ (E.2 hx);rw[X.1 j] at h1;cases h1
       have aH:ad=true->V=true:=fun j=>by
        cases hx:V with
        |true=>rfl
        |false=>
         have h1:=gD.nG 1 _ (gD.sN (gD.num 1 I).1 _ (O.2 hx));rw[E.1 j] at h1;cases h1
       have uM:az=true->(⟨⟨LS.toArray⟩,(Z:Int),(x3:Int)⟩:gD.Ev)=(gD.jK I).1:=fun j=>by show(⟨⟨LS.toArray⟩,(Z:Int),(x3:Int)⟩:gD.Ev)=⟨⟨(gD.take (gD.num 1 I).1 (gD.num 1 I).2).1.toArray⟩,((gD.num 1 (gD.take (gD.num 1 I).1 (gD.num 1 I).2).2).1:Int),((gD.num 3 (gD.num 1 (gD.take (gD.num 1 I).1 (gD.num 1 I).2).2).2).1:Int)⟩;rw[<-aq j,<-ap (aw j)];have e1:=congrArg Prod.fst (aI (aH (aw j)));simp only at e1;rw[e1]
       have bm:=gx (fun v' w5 lit=>M2.next (lit:=lit) (w5:=w5) (v':=v') HL bf b1 a3 Q3.rd X uM Q3.bx Q3.own Q3.only (by show LS.toArray.size<=maxLen;simp[maxLen];have:=aY.out;omega));have ay:=Q3.own;have U:=Src.mr (wC.setCell (wr,j6) x3) #[.string ⟨LS.toArray⟩,.int .i64 (Z:Int),.int .i64 (x3:Int)] 78 1 3 underlying40 rfl (by simp[Value.oneCell']);rw[pn] at U;clear Q0 Q1 QB Q2 QC Q3 aw aH uM X E O RB RC OB OC ap aq ak aB aj;go_wp2_with (refine wpList_append_t rfl (.tmp 68) (.tmp 70) 40 40 rfl w.heap.size 78 3 32 (.agg #[.string ⟨#[]⟩,gy,gy]) underlying40 qF rfl (by decide) ev es.length (hQ es) rfl (OT.start (ay.alloc (.cells #[.string ⟨LS.toArray⟩,Z,x3] 78))) _ 1 [.string ⟨LS.toArray⟩,.int .i64 (Z:Int),.int .i64 (x3:Int)] rfl U (by unfold maxLen;omega) (by omega) (by simp;omega) ?_;intro v5 w5 o5 g5;obtain⟨a7,cd,rfl,_⟩:=gK o5.own;obtain⟨aK,ab⟩:=bm _ w5 _ o5;have s0:w5.cell? (w2,ia)=some ev:=gw aK;have s1:w5.frozen? (w2,ia)=false:=gA aK);go_roundg kk;case measure=>omega
       case rel=>exact⟨kk,k2+1,_,qC,az,_,_,rfl,by omega,by go_num,by omega,ab⟩
end Go.Proofs.YthhcdfjijagalaaGreat

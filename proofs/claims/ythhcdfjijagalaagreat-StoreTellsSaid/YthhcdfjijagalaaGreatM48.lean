import Derived.Test.YthhcdfjijagalaaGreatM23
set_option linter.all false
set_option maxHeartbeats 8000000
set_option maxRecDepth 100000
namespace Go.Proofs.YthhcdfjijagalaaGreat
open Qz Go.Proofs.Tryz Go.RowKit
theorem gD.Br(x:Nat)(h:x<16777216):(#[.int .u8 ((x:Int)/65536),.int .u8 ((x:Int)/256%256),.int .u8 ((x:Int)%256)]:Array Value).toList=cb (gD.three x):=by
 rw[qy _ (gD.GY x h)];rfl
section
variable {ops : Array Oper} {o : Oper} {a : Act} {Q : Exit → Act → World → Prop} {K : Act → World → Prop} {E : Prop} {w w0 : World} {row : Option Nat}
theorem step_append_s2(j:o.guard=none)(s F:Operand)(tx:TypeId)(N:o.op=.call {callee:=.builtin .append,args:=#[s,F],argTypes:=#[64,tx]})
  (base:Nat) (v:Value) (l m:List UInt8) (S:a.eval s=v) (e:OB w0 w row base v l) (x:Value) (q:a.eval F=x) (V:Src prog 1 tx x m.length (cb m) w)
  (C:l.length+m.length<=140737488355328) (f:base<=w.heap.size)
  (h:∀v' w',OB w0 w' row base v' (l++m)->w.grownBy w' v.ownBlock->(v'.ownBlock=v.ownBlock∨v'.ownBlock=some w.heap.size)->K (a.put o.dst v') w'):if Region.wanted o (yielded ops a.tmps)=true then Oper.wp prog o a w K Q else E:=by
 have U:Region.wanted o (yielded ops a.tmps)=true:=by simp[Region.wanted,j]
 rw[gG U];obtain⟨i,hi,W,G,I⟩:=jW sd;obtain⟨v',w',O,L,r,h5⟩:=lN (P:=prog) w base 64 tx o.type 5 i (.int .u8 0) 1 1 underlying64 hi W G I rfl (by decide) v l.length (cb l) e.own x m.length (cb m) V (by unfold maxLen;omega) (by omega) f;unfold Oper.wp execOp;simp only[N,resolve,invoke,builtin,tO,tP,tH,tI,lI,nj,S,q,O];refine h v' w' (e.more (by rw[iH,oG];exact L) r (by
  rcases h5 with h5|h5
  .exact .inl h5
  .exact .inr fun k B=>by rw[h5] at B;cases B;exact jb _)) r h5
theorem step_append_ob2(q:o.guard=none)(s B:Operand)(N:o.op=.call {callee:=.builtin .append,args:=#[s,B],argTypes:=#[64,64]})
  (base:Nat) (v:Value) (l m:List UInt8) (O:a.eval s=v) (j:OB w0 w row base v l) (F:Option Addr) (I G:Nat) (r:a.eval B=.slice F I G) (C:Bt w F I G m)
  (f:l.length+m.length<=140737488355328) (e:base<=w.heap.size)
  (h:∀v' w',OB w0 w' row base v' (l++m)->w.grownBy w' v.ownBlock->(v'.ownBlock=v.ownBlock∨v'.ownBlock=some w.heap.size)->K (a.put o.dst v') w'):if Region.wanted o (yielded ops a.tmps)=true then Oper.wp prog o a w K Q else E:=by
 have L:=Bt.n C;exact step_append_s2 q s B 64 N base v l m O j _ r (by rw[L];exact Sl.src C underlying64 (xR m)) f e h
end
theorem Oq(W:World)(s:ByteArray):Src prog 1 9 s s.data.toList.length (cb s.data.toList) W:=by
 have e:s.data.toList.length=s.size:=by simp
 rw[e];exact Src.ofString W underlying9 s
structure Rg (w W:World) (v:Value) (l:List UInt8) (X:Nat) (cs:Array Value) (t:TypeId):Prop where
 ob:OB w W none w.heap.size v l
 jJ:W.heap[X]?=some (.cells cs t)
 Qc:W.heap[w.heap.size]?=some (.cells #[gy,gy] 73)
 ne:5≠t
theorem Rg.cell{w W:World}{v:Value}{l:List UInt8}{X:Nat}{cs:Array Value}{t:TypeId}(h:Rg w W v l X cs t)(i:Nat):W.cell? (X,i)=cs[i]?:=gw h.jJ
theorem Rg.size{w W:World}{v:Value}{l:List UInt8}{X:Nat}{cs:Array Value}{t:TypeId}(h:Rg w W v l X cs t):w.heap.size<=W.heap.size:=h.ob.grown.size
theorem Rg.alloc{w W:World}{v:Value}{l:List UInt8}{X:Nat}{cs:Array Value}{t:TypeId}(h:Rg w W v l X cs t)(o:Obj):Rg w (W.alloc o) v l X cs t:=⟨OT.alloc h.ob o,gF h.jJ,gF h.Qc,h.ne⟩
theorem Rg.drew{w W:World}{v:Value}{l:List UInt8}{X:Nat}{cs:Array Value}{t:TypeId}(h:Rg w W v l X cs t):Rg w W.drew v l X cs t:=⟨OT.drew h.ob,h.jJ,h.Qc,h.ne⟩
theorem Rg.nn{w W e:World}{v v':Value}{l f:List UInt8}{X:Nat}{cs:Array Value}{t:TypeId}(h:Rg w W v l X cs t)(o:OB w e none w.heap.size v' f)(g:W.grownBy e v.ownBlock):Rg w e v' f X cs t:=
 ⟨o,ie h.ob.own g h.jJ h.ne,ie h.ob.own g h.Qc (by decide),h.ne⟩
structure Lt (W:World) (v:Value) (b:Nat) (cs:Array Value):Prop where
 jJ:W.heap[b]?=some (.cells cs 5)
 ne:v.ownBlock≠some b
theorem Lt.sk{w W:World}{row:Option Nat}{base b:Nat}{v:Value}{l:List UInt8}(h:OB w W row base v l)(cs:Array Value)(hb:W.heap.size=b):Lt (W.alloc (.cells cs 5)) v b cs:=by
 subst hb;exact⟨gO W _,fun e=>by have:=(h.own.lt _ e).2;omega⟩
theorem Lt.alloc{W:World}{v:Value}{b:Nat}{cs:Array Value}(h:Lt W v b cs)(o:Obj):Lt (W.alloc o) v b cs:=⟨gF h.jJ,h.ne⟩
theorem Lt.drew{W:World}{v:Value}{b:Nat}{cs:Array Value}(h:Lt W v b cs):Lt W.drew v b cs:=⟨h.jJ,h.ne⟩
theorem Lt.nn{W f:World}{v v':Value}{b:Nat}{cs:Array Value}(h:Lt W v b cs)(g:W.grownBy f v.ownBlock)(l:v'.ownBlock=v.ownBlock∨v'.ownBlock=some W.heap.size):Lt f v' b cs:=by
 have hb:=iq h.jJ;refine⟨by rw[g.block b hb (fun e=>h.ne e.symm)];exact h.jJ,fun e=>?_⟩;rcases l with l|l
 .exact h.ne (l▸e)
 .rw[l] at e;have:W.heap.size=b:=by simpa using e
  omega
theorem Lt.bt{W:World}{v:Value}{b:Nat}{cs:Array Value}{l:List UInt8}(h:Lt W v b cs)(m:cs.toList=cb l)(q:l.length<=maxLen:=by simp[maxLen,gD.three]):Bt W (some (b,gy)) l.length l.length l:=
 ⟨jb _,q,by rw[lO,me],(fun e=>by cases e),fun _=>⟨b,0,rfl,fun j u f=>by rw[jk,gw h.jJ,<-Array.getElem?_toList,m];exact f⟩⟩
theorem Gs(a:Option Addr)(n cap:Nat)(l:List Rb)(w:World)(h:Bs w a n cap l):Calls prog 57 #[(a,n,cap)] w (K7 (gD.iy (l.map Rb.ba)) w):=by
 have aC:=h.sl.max;have aW:=h.sl.le;unfold maxLen at aC;have HN:=gx h.n;by_cases hc:150<n
 .have HC:=gx (show gD.iy (l.map Rb.ba)=⟨[],5,0⟩ by unfold gD.iy;rw[gG (by rw[iz,HN.out];exact hc)]);rw[HC.out];go_enter func57,ntmps57;go_wp2;exact gS (v:=.tuple #[(),.agg #[nk,gy]]) (by simp[results,results57,go_sem]) rfl ⟨_,rfl,gZ.alloc gM _,iY _ _ _ _⟩
 .go_enter func57,ntmps57;go_wp2;go_loopg[4,5,6,7,9,20] n (fun g o s5 s6 s7 s9 i wr=>∃(L:List UInt8) (k:Nat),g=n-k/\k<=n/\i=.int .i64 k/\Hid (L=UInt8.ofNat n::((l.map Rb.ba).take k).flatMap gD.nQ)/\L.length<=1+160*k/\OB w wr none w.heap.size o L/\wr.heap[w.heap.size]?=some (.cells #[gy,gy] 73)/\Hid (gD.fb (l.map Rb.ba) 0=gD.fb ((l.map Rb.ba).drop k) k));case atStart=>
   have e:=OB.lit ((iU w.heap.size w).alloc gM (.cells #[gy,gy] 73)) #[.int .u8 (n:Int)] [UInt8.ofNat n] (by simp[maxLen]) (by simp[cb];omega);rw[jH] at e;exact⟨[UInt8.ofNat n],0,rfl,by omega,rfl,gx (by simp),by simp,e,gF (gO w _),gx (by simp)⟩
  case round=>
   obtain⟨L,k,rfl,hk,rfl,HL,hL,hO,hF,HB⟩:=hrel;have ab:Below w w wr:=hO.im gM (fun k h=>by cases h);have aX:=ab.size;by_cases aN:k<n
   .have Y:k<l.length:=by rw[HN.out];exact aN
    obtain⟨b,off,rfl,_⟩:=h.sl.addr (by omega);obtain⟨q0,q1,hE⟩:=(h.below ab).at k Y;have af:=(h.at k Y).2.2;generalize hr:l[k]=r at *;obtain⟨c,ea,q,ec,il⟩:=r;simp only at q0 q1 hE af;have ar:=gx af;clear af;have HR:=gx hr;clear hr;have D:=gx (fun W (hE:Es W ea q ec il)=>oR c ea q ec il W hE);go_wp2_with fail;go_at_call 55;refine(D _ (hE.alloc _)).mono ?_;rintro e w1⟨rfl,b1⟩;have F:=(hO.alloc (.cells #[c,(ea,q,ec)] 50)).below b1;have C:=gB (gF (o':=.cells #[c,(ea,q,ec)] 50) hF) b1;have O:=gB (gO wr (.cells #[c,(ea,q,ec)] 50)) b1;have aJ:=(hE.alloc (.cells #[c,(ea,q,ec)] 50)).below b1;have ae:=F.im gM (fun k h=>by cases h);have aH:=iq C;have aZ:=iq O;clear b1 hO hF hE ab D q0 q1;unfold zE;obtain⟨P,X⟩:∃P,(gD.iI ⟨c,il⟩).1=P:=⟨_,rfl⟩;rw[X];generalize (gD.iI ⟨c,il⟩).2=f2;by_cases hz:P=0
    .have HF:=gx (X.trans hz);subst hz;clear X;obtain⟨x0,x1⟩:=lv O;have HV:=gx (gD.lh HF);obtain⟨aO,aP,aE,aF,ap⟩:=gD.lh HF;have HE:=gx aJ.n;simp only at aO aP aE aF ap;rw[HE.out] at aE aF;obtain⟨c,rfl⟩:=jD (a:=c) (by omega);have az:c<16777216:=by omega
     have aU:L.length<=24001:=by omega
     have aI:=gx ap;clear ap;have al:=gF (o':=.cells #[gy,f2] 73) O;have ah:=gF (o':=.cells #[gy,f2] 73) C;have aj:=F.alloc (.cells #[gy,f2] 73);have aL:=gx (show(#[Value.int .u8 (q:Int)]:Array Value).toList=cb [UInt8.ofNat q] by simp[cb];omega);go_wp2_with fail;have aq:IntKind.u8.wrap (q:Int)=(q:Int):=IntWalk.u8_in _ (by omega);go_cut[4] (fun o wc=>OB w wc none w.heap.size o (L++gD.three c++[UInt8.ofNat q])/\wc.heap[wr.heap.size]?=some (.cells #[c,(ea,q,ec)] 50)/\wc.heap[w.heap.size]?=some (.cells #[gy,gy] 73));case first=>
      have f:Rg w (w1.alloc (.cells #[gy,f2] 73)) u4 L wr.heap.size #[.int .i64 (c:Int),.slice ea q ec] 50:=⟨aj,al,ah,by decide⟩;have G:=f.drew;have k0:=f.cell 0;have k1:=f.cell 1;have S:=gx (gD.Br c az);have N:=gx aL;clear aj al ah F O C x0 x1;generalize w1.alloc (.cells #[gy,f2] 73)=E at *;go_region_held3 (fun w'=>w'.cell? (wr,gy)=some (.int .i64 (c:Int))/\w'.cell? (wr,ia)=some (.slice ea q ec)) (first|exact⟨I.cell 0,I.cell 1⟩|exact⟨m.cell 0,m.cell 1⟩|exact⟨(m.alloc _).cell 0,(m.alloc _).cell 1⟩|exact⟨G.cell 0,G.cell 1⟩|exact⟨(f.alloc _).drew.cell 0,(f.alloc _).drew.cell 1⟩|exact⟨((f.alloc _).alloc _).drew.cell 0,((f.alloc _).alloc _).drew.cell 1⟩|go_keep)
       (first
        |(go_at_call 83;refine(zq c _ az).mono ?_;rintro e w4⟨rfl,rfl⟩)
        |(refine step_append_ob2 rfl (.tmp 34) (.tmp 37) rfl w.heap.size _ L (gD.three c) rfl (by first|exact G.ob|exact(f.alloc _).drew.ob|exact((f.alloc _).alloc _).drew.ob) _ 3 3 rfl (by first|exact(Lt.sk f.ob _ rfl).drew.bt S|exact((Lt.sk f.ob _ rfl).alloc _).drew.bt S|exact(Lt.sk (f.alloc _).ob _ (by simp)).drew.bt S) (by simp[gD.three];omega) (by have:=f.size;simp;omega) ?_;intro v4 w4 o4 g4 l4;
          (have m:Rg w w4 v4 (L++gD.three c) wr.heap.size #[.int .i64 (c:Int),.slice ea q ec] 50:=by first|exact(f.alloc _).drew.nn o4 g4|exact((f.alloc _).alloc _).drew.nn o4 g4);
          (first|(have lK:Lt w4 v4 (E.heap.size+1) #[.int .u8 (q:Int)]:=(Lt.sk (f.alloc _).ob _ (by simp)).drew.nn g4 l4)|(have lK:Lt w4 v4 E.heap.size #[.int .u8 (q:Int)]:=((Lt.sk f.ob _ rfl).alloc _).drew.nn g4 l4)|skip))
        |(refine step_append_ob2 rfl (.tmp 38) (.tmp 43) rfl w.heap.size _ (L++gD.three c) [UInt8.ofNat q] rfl (by first|exact m.ob|exact(m.alloc _).ob) _ 1 1 rfl (by first|exact lK.bt N|exact(Lt.sk m.ob _ rfl).bt N) (by simp[gD.three];omega) (by have:=m.size;simp;omega) ?_;intro v5 w5 o5 U l5;
          (have I:Rg w w5 v5 (L++gD.three c++[UInt8.ofNat q]) wr.heap.size #[.int .i64 (c:Int),.slice ea q ec] 50:=by first|exact m.nn o5 U|exact(m.alloc _).nn o5 U)))
      all_goals (go_wp2_with fail;go_meet)
      all_goals exact⟨I.ob,I.jJ,I.Qc⟩
     case rest=>
      clear aq aj al ah F O C x0 x1 ae;obtain⟨ak,ay,aw⟩:=hcut;have y1:wc.cell? (wr,ia)=some (.slice ea q ec):=gw ay;have a0:=ak.grown.size;go_wp2;go_loopg[4,9,48] q (fun g o s9 i W=>∃(M:List UInt8) (j:Nat),g=q-j/\j<=q/\i=.int .i64 j/\Hid (M=L++gD.three c++[UInt8.ofNat q]++(il.take j).flatMap gD.nU)/\M.length<=L.length+4+15*j/\OB w W none w.heap.size o M/\W.heap[w.heap.size]?=some (.cells #[gy,gy] 73));case atStart=>exact⟨_,0,rfl,by omega,rfl,gx (by simp),by simp[gD.three],ak,aw⟩
      case round=>
       obtain⟨M,j,rfl,hj,rfl,HM,hM,ai,ag⟩:=hrel;clear ak ay aw y1;rename_i W;have aK:=ai.im gM (fun k h=>by cases h);have aY:=iq ag;by_cases aM:j<q
       .have ao:j<il.length:=by rw[HE.out];exact aM
        obtain⟨bb,aT,rfl,_⟩:=ar.sl.addr (by omega);obtain⟨q0,q1,q2⟩:=(ar.below aK).at j ao;have aG:=aI _ (iE ao);obtain⟨u1,u2,u3,u4,u5⟩:=gD.lC aG;have u6:=gD.ym u1;rw[gD.se] at u6;have HS:=gx (gD.zf il j ao);generalize il[j]=ev at *;clear u1 aG;obtain⟨s,B,ne⟩:=ev;simp only at u2 u3 u4 u5 u6 q0 q1 q2;obtain⟨B,rfl⟩:=jD (a:=B) (by omega);obtain⟨ne,rfl⟩:=jD (a:=ne) (by omega);have F:=ai.alloc (.cells #[s,B,ne] 78);have C:=gF (o':=.cells #[s,B,ne] 78) ag;have O:=gO wr (.cells #[s,B,ne] 78);have aA:=gx (show(#[Value.int .u8 (s.size:Int)]:Array Value).toList=cb [UInt8.ofNat s.size] by simp[cb];omega);have aB:Bt ((wr.alloc (.cells #[s,B,ne] 78)).alloc (.cells #[.int .u8 (s.size:Int)] 5)) (some (wr.heap.size+1,gy)) 1 1 [UInt8.ofNat s.size]:=by have:=p8 (wr.alloc (.cells #[s,B,ne] 78)) #[.int .u8 (s.size:Int)] [UInt8.ofNat s.size] (by simp[maxLen]) aA;rw[jH] at this;exact this
        have aq:IntKind.u8.wrap (s.size:Int)=(s.size:Int):=IntWalk.u8_in _ (by omega);have aQ:IntKind.u8.wrap (B:Int)=(B:Int):=IntWalk.u8_in _ (by omega);have aV:M.length<=25000:=by omega
        have aD:s.data.toList.length=s.size:=by simp
        have V:=gx aD;clear aD;go_wp2_with (refine wpList_append_ob rfl (.tmp 52) (.tmp 57) rfl w.heap.size _ M [UInt8.ofNat s.size] rfl (F.alloc (.cells #[.int .u8 (s.size:Int)] 5)) (some (wr.heap.size+1,gy)) 1 1 rfl aB (by simp;omega) (by simp;omega) ?_;intro v4 w4 o4 g4;have ax:=ie (F.alloc (.cells #[.int .u8 (s.size:Int)] 5)).own g4 (gF O) (by decide);have au:=ie (F.alloc (.cells #[.int .u8 (s.size:Int)] 5)).own g4 (gF C) (by decide));have f:Rg w w4 v4 (M++[UInt8.ofNat s.size]) wr.heap.size #[.string s,.int .i64 (B:Int),.int .i64 (ne:Int)] 78:=⟨o4,ax,au,by decide⟩;have k0:=f.cell 0;have k1:=f.cell 1;have k2:=f.cell 2;have S:=gx (gD.Br ne (by omega));have N:=gx (show(#[Value.int .u8 (B:Int)]:Array Value).toList=cb [UInt8.ofNat B] by simp[cb];omega);have ad:ne<16777216:=by omega
        clear F O C ax au aB g4;have G:=f.drew;generalize w4=E at *;go_wp2_with fail;go_region_held3 (fun w'=>w'.cell? (wr,gy)=some (.string s)/\w'.cell? (wr,ia)=some (.int .i64 (B:Int))/\w'.cell? (wr,j6)=some (.int .i64 (ne:Int))) (first|exact⟨r3.cell 0,r3.cell 1,r3.cell 2⟩|exact⟨I.cell 0,I.cell 1,I.cell 2⟩|exact⟨(I.alloc _).cell 0,(I.alloc _).cell 1,(I.alloc _).cell 2⟩|exact⟨m.cell 0,m.cell 1,m.cell 2⟩|exact⟨(m.alloc _).cell 0,(m.alloc _).cell 1,(m.alloc _).cell 2⟩|exact⟨((m.alloc _).alloc _).cell 0,((m.alloc _).alloc _).cell 1,((m.alloc _).alloc _).cell 2⟩|exact⟨G.cell 0,G.cell 1,G.cell 2⟩|exact⟨(f.alloc _).drew.cell 0,(f.alloc _).drew.cell 1,(f.alloc _).drew.cell 2⟩|exact⟨((f.alloc _).alloc _).drew.cell 0,((f.alloc _).alloc _).drew.cell 1,((f.alloc _).alloc _).drew.cell 2⟩|go_keep)
         (first
          |(go_at_call 83;refine(zq ne _ ad).mono ?_;rintro e w8⟨rfl,rfl⟩)
          |(refine step_append_s2 rfl (.tmp 59) (.tmp 61) 9 rfl w.heap.size _ (M++[UInt8.ofNat s.size]) s.data.toList rfl (by first|exact G.ob|exact(f.alloc _).drew.ob|exact((f.alloc _).alloc _).drew.ob) s rfl (Oq _ s) (by rw[V.out];simp;omega) (by have:=f.size;simp;omega) ?_;intro v5 w5 o5 U l5;
            (have m:Rg w w5 v5 (M++[UInt8.ofNat s.size]++s.data.toList) wr.heap.size #[.string s,.int .i64 (B:Int),.int .i64 (ne:Int)] 78:=by first|exact G.nn o5 U|exact(f.alloc _).drew.nn o5 U|exact((f.alloc _).alloc _).drew.nn o5 U);
            (first|(have lK:Lt w5 v5 _ #[.int .u8 (B:Int)]:=(Lt.sk f.ob _ rfl).drew.nn U l5)|(have lK:Lt w5 v5 _ #[.int .u8 (B:Int)]:=((Lt.sk f.ob _ rfl).alloc _).drew.nn U l5)|(have lK:Lt w5 v5 _ #[.int .u8 (B:Int)]:=(Lt.sk (f.alloc _).ob _ (b:=E.heap.size+1) (by simp)).drew.nn U l5)|skip);
            (first|(have lT:Lt w5 v5 _ #[.int .u8 ((ne:Int)/65536),.int .u8 ((ne:Int)/256%256),.int .u8 ((ne:Int)%256)]:=(Lt.sk f.ob _ rfl).drew.nn U l5)|(have lT:Lt w5 v5 _ #[.int .u8 ((ne:Int)/65536),.int .u8 ((ne:Int)/256%256),.int .u8 ((ne:Int)%256)]:=((Lt.sk f.ob _ rfl).alloc _).drew.nn U l5)|(have lT:Lt w5 v5 _ #[.int .u8 ((ne:Int)/65536),.int .u8 ((ne:Int)/256%256),.int .u8 ((ne:Int)%256)]:=(Lt.sk (f.alloc _).ob _ (b:=E.heap.size+1) (by simp)).drew.nn U l5)|skip))
          |(refine step_append_ob2 rfl (.tmp 62) (.tmp 66) rfl w.heap.size _ (M++[UInt8.ofNat s.size]++s.data.toList) [UInt8.ofNat B] rfl (by first|exact m.ob|exact(m.alloc _).ob|exact((m.alloc _).alloc _).ob) _ 1 1 rfl (by first|exact lK.bt N|exact(lK.alloc _).bt N|exact(Lt.sk m.ob _ rfl).bt N|exact((Lt.sk m.ob _ rfl).alloc _).bt N|exact(Lt.sk (m.alloc _).ob _ (by simp)).bt N) (by rw[iH,iH,V.out];simp;omega) (by have:=m.size;simp;omega) ?_;intro v6 w6 o6 g6 l6;
            (have I:Rg w w6 v6 (M++[UInt8.ofNat s.size]++s.data.toList++[UInt8.ofNat B]) wr.heap.size #[.string s,.int .i64 (B:Int),.int .i64 (ne:Int)] 78:=by first|exact m.nn o6 g6|exact(m.alloc _).nn o6 g6|exact((m.alloc _).alloc _).nn o6 g6);
            (first|(have Z:Lt w6 v6 _ #[.int .u8 ((ne:Int)/65536),.int .u8 ((ne:Int)/256%256),.int .u8 ((ne:Int)%256)]:=lT.nn g6 l6)|(have Z:Lt w6 v6 _ #[.int .u8 ((ne:Int)/65536),.int .u8 ((ne:Int)/256%256),.int .u8 ((ne:Int)%256)]:=(lT.alloc _).nn g6 l6)|(have Z:Lt w6 v6 _ #[.int .u8 ((ne:Int)/65536),.int .u8 ((ne:Int)/256%256),.int .u8 ((ne:Int)%256)]:=(Lt.sk m.ob _ rfl).nn g6 l6)|(have Z:Lt w6 v6 _ #[.int .u8 ((ne:Int)/65536),.int .u8 ((ne:Int)/256%256),.int .u8 ((ne:Int)%256)]:=((Lt.sk m.ob _ rfl).alloc _).nn g6 l6)|(have Z:Lt w6 v6 _ #[.int .u8 ((ne:Int)/65536),.int .u8 ((ne:Int)/256%256),.int .u8 ((ne:Int)%256)]:=(Lt.sk (m.alloc _).ob _ (b:=w5.heap.size+1) (by simp)).nn g6 l6)|skip))
          |(refine step_append_ob2 rfl (.tmp 67) (.tmp 70) rfl w.heap.size _ (M++[UInt8.ofNat s.size]++s.data.toList++[UInt8.ofNat B]) (gD.three ne) rfl (by first|exact I.ob|exact(I.alloc _).ob) _ 3 3 rfl (by first|exact Z.bt S|exact(Lt.sk I.ob _ rfl).bt S) (by rw[iH,iH,iH,V.out];simp[gD.three];omega) (by have:=I.size;simp;omega) ?_;intro v7 w7 o7 g7 l7;
            (have r3:Rg w w7 v7 ((M++[UInt8.ofNat s.size]++s.data.toList++[UInt8.ofNat B])++gD.three ne) wr.heap.size #[.string s,.int .i64 (B:Int),.int .i64 (ne:Int)] 78:=by first|exact I.nn o7 g7|exact(I.alloc _).nn o7 g7)))
        all_goals
         clear aq aQ;go_wp2_with fail;go_roundg (q-(j+1));case measure=>omega
         case rel=>
          refine⟨_,j+1,rfl,by omega,by go_num,gx ?_,?_,r3.ob,r3.Qc⟩;·rw[HM.out,HS.out];unfold gD.nU gD.kP;simp[V.out]
          .rw[iH,iH,iH,iH,V.out];simp[gD.three];omega
       .obtain rfl:j=q:=by omega
        have HW:=gx (gD.CD (l.map Rb.ba) k ⟨c,il⟩ (by rw[nJ,jz Y,HR.out];rfl));have HP:=gx (gD.um (l.map Rb.ba) k ⟨c,il⟩ (by rw[nJ,jz Y,HR.out];rfl));go_wp2_with fail;go_roundg (n-(k+1));case measure=>omega
        case rel=>
         refine⟨M,k+1,rfl,by omega,by go_num,gx ?_,by omega,ai,ag,gx ?_⟩;·rw[HM.out,HW.out,HL.out,ld (l:=il) (by rw[HE.out];exact jb _)];unfold gD.nQ;simp[HE.out]
         .rw[HB.out,HP.out,gC (fun h=>h HF.out)]
    .have t0:(P !=0)=true:=by rw[ij];exact hz
     have hG:=gx (show gD.iy (l.map Rb.ba)=⟨[],P,(k:Int)⟩ from by refine gD.Aq _ _ _ (by rw[iz,HN.out];exact hc) ?_ hz;have:=gD.um (l.map Rb.ba) k ⟨c,il⟩ (by rw[nJ,jz Y,HR.out];rfl);rw[HB.out,this,X,gG hz])
     clear hz X HB HL;obtain⟨f,m⟩:=lv C;have aR:w1.frozen? (w,gy)=false:=gA C;have aS:w1.frozen? (w,ia)=false:=gA C;go_wp2_with fail;go_region_held3 (fun w'=>w'.cell? (w1,gy)=some (.int .i64 P)) (first|exact Fk (by simp) _ _ _|go_keep) (first|fail);go_wp2;have e0:(((w1.setCell (w,gy) P).setCell (w,ia) k).alloc (.cells #[P,f2] 73)).cell? (w,gy)=some (.int .i64 P):=by
      have e:((w1.setCell (w,gy) P).setCell (w,ia) k).cell? (w,gy)=some (.int .i64 P):=by simp[go_sem,f]
      refine Eq.trans (ik ?_) e;simp only[pn];exact aH
     have e1:(((w1.setCell (w,gy) P).setCell (w,ia) k).alloc (.cells #[P,f2] 73)).cell? (w,ia)=some (.int .i64 (k:Int)):=by
      have e:((w1.setCell (w,gy) P).setCell (w,ia) k).cell? (w,ia)=some (.int .i64 (k:Int)):=by simp[go_sem,m]
      refine Eq.trans (ik ?_) e;simp only[pn];exact aH
     refine gS (v:=.tuple #[(),.agg #[P,k]]) (by simp[results,results57,go_sem,e0,e1]) rfl ⟨_,by rw[hG.out],(((ae.setCell (by simp) _).setCell (by simp) _).alloc (by simp;omega) _).drew,?_⟩;rw[hG.out];exact iY _ _ _ _
   .obtain rfl:k=n:=by omega
    have hR:=gx (show gD.iy (l.map Rb.ba)=⟨gD.bytes (l.map Rb.ba),0,0⟩ from gD.Cq _ (by rw[iz,HN.out];exact hc) (by rw[HB.out,mV (by rw[iz,HN.out];exact jb _)];rfl));obtain⟨f,m⟩:=lv hF;have aR:wr.frozen? (w,gy)=false:=gA hF;have aS:wr.frozen? (w,ia)=false:=gA hF;have ad:=gP hO.own hF (by decide);go_wp2_with fail;refine gS (v:=.tuple #[_,.agg #[gy,gy]]) (by simp[results,results57,go_sem,f,m];rfl) rfl ⟨_,by rw[hR.out],(ab.setCell (by simp) _).setCell (by simp) _,?_⟩;rw[hR.out];have e:L=gD.bytes (l.map Rb.ba):=by rw[HL.out,ld (by rw[iz,HN.out];exact jb _)];unfold gD.bytes;rw[iz,HN.out]
    rw[<-e];exact ji (ji hO.own ad _) ad _
end Go.Proofs.YthhcdfjijagalaaGreat

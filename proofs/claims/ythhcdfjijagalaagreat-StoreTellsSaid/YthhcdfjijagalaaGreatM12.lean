import Derived.Test.YthhcdfjijagalaaGreatM11
import Derived.Lib.ConvBytes
set_option linter.all false
set_option maxHeartbeats 1000000
namespace Go.Proofs.YthhcdfjijagalaaGreat
open Qz Go.Proofs.Tryz Go.RowKit
theorem gD.oU(s:ByteArray)(k:Nat)(h:k<s.size):(gD.kP s).take (k+1)=(gD.kP s).take k++[s[k]]:=by
 unfold gD.kP;rw[qG (by simpa using h)];rfl
theorem gD.E0(s:ByteArray)(k:Nat)(h:k<s.size)(e:((gD.kP s).take k).all gD.NT=true)(hc:gD.NT s[k]=true):((gD.kP s).take (k+1)).all gD.NT=true:=by
 rw[gD.oU s k h,List.all_append,e];simp[hc]
theorem gD.I2(s:ByteArray)(k:Nat)(h:k<s.size)(hc:gD.NT s[k]=false):gD.named (gD.kP s)=false:=by
 unfold gD.named;have:(gD.kP s).all gD.NT=false:=by
  rw[Bool.eq_false_iff];intro e;rw[List.all_eq_true] at e;have:=e s[k] (by have f:(gD.kP s)[k]'(by unfold gD.kP;simpa using h)=s[k]:=rfl;rw[<-f];exact iE _)
  rw[hc] at this;cases this
 rw[this,Bool.and_false]
theorem gD.se(s:ByteArray):(gD.kP s).length=s.size:=by unfold gD.kP;simp
theorem gD.Mi(c:UInt8):gD.NT c=((decide (97<=c.toNat)&&decide (c.toNat<=122))||(decide (48<=c.toNat)&&decide (c.toNat<=57))):=rfl
theorem tl(s:ByteArray)(r:s.size<=maxLen)(w:World):Calls prog 45 #[s] w (Same (.bool (gD.named (gD.kP s))) w):=by
 unfold maxLen at r;have f:=gx (gD.se s);by_cases B:s.size<1
 .have h:gD.named (gD.kP s)=false:=by unfold gD.named;rw[f.out];simp;omega
  rw[h];have F:decide ((s.size:Int)<1)=true:=by simp;omega
  go_enter func45,ntmps45;go_wp2;all_goals go_ret
  all_goals exact⟨rfl,rfl⟩
 .by_cases C:10<s.size
  .have h:gD.named (gD.kP s)=false:=by unfold gD.named;rw[f.out];simp;omega
   rw[h];go_enter func45,ntmps45;go_wp2;all_goals go_ret
   all_goals exact⟨rfl,rfl⟩
  .go_enter func45,ntmps45;go_wp2;go_loopg[3,4,15] s.size (fun g x y i wr=>w=wr/\∃k:Nat,g=s.size-k/\k<=s.size/\i=.int .i64 k/\Hid (((gD.kP s).take k).all gD.NT=true));case atStart=>exact⟨rfl,0,rfl,by omega,rfl,gx (by simp)⟩
   case round=>
    obtain⟨rfl,k,rfl,E,rfl,j⟩:=hrel;by_cases e:k<s.size
    .have q:=gx (gD.E0 s k e j);have o:=gx (gD.I2 s k e);have m:=gx (gD.Mi s[k]);have hb:=pz s[k];go_wp2;all_goals first
      |(go_ret;exact⟨rH (o (by rw[m.out];simp only[Bool.or_eq_false_iff,Bool.and_eq_false_iff,decide_eq_false_iff_not];omega)).symm,rfl⟩)
      |(go_roundg (s.size-(k+1))
        case measure=>omega
        case rel=>exact⟨rfl,k+1,rfl,by omega,by go_num,gx (q (by rw[m.out];simp only[Bool.or_eq_true,yF,yz];omega))⟩)
    .obtain rfl:k=s.size:=by omega
     go_wp2;go_ret;refine⟨rH ?_,rfl⟩;unfold gD.named;have:=j.out;rw[ld (by rw[f.out];omega)] at this;rw[this,f.out];simp;omega
theorem pe(e:gD.Ev)(j:e.s.size<=maxLen)(w:World):Calls prog 65 #[jG e] w (m7 (gD.iW e) w):=by
 obtain⟨s,k,n⟩:=e;unfold jG;have f:=gx (fun W=>tl s j W);simp only at j⊢;have h:=gx (show gD.iW ⟨s,k,n⟩=if gD.named (gD.kP s)=false then 7 else if k<1∨4<k then 1 else if n<0∨1000000<n∨((k=1∨k=4)/\n≠0) then 3 else 0 from rfl);generalize gD.named (gD.kP s)=N at *;cases N with
 |false=>
  go_enter func65,ntmps65;go_wp2_with fail;go_at_call 45;refine(f _).mono ?_;rintro e m⟨rfl,rfl⟩;go_wp2_with fail;go_ret;exact⟨kY (by rw[h.out];rfl),gZ.alloc gM _⟩
 |true=>
  go_enter func65,ntmps65;go_wp2_with fail;go_at_call 45;refine(f _).mono ?_;rintro e m⟨rfl,rfl⟩;go_wp2_with fail;all_goals go_ret
  all_goals refine⟨kY ?_,gZ.alloc gM _⟩
  all_goals rw[h.out,gC (by simp)]
  all_goals clear h f
  all_goals (try simp only[ij,bne_eq_false_iff_eq,ne_eq] at *)
  all_goals first
   |rw[gG (by omega)]
   |(rw[gC (by omega)];rw[gG (by omega)])
   |(rw[gC (by omega)];rw[gC (by omega)])
def zE(f:Int×Int):Value:=.agg #[f.1,f.2]
theorem oI(c:Int)(a:Option Addr)(n cap:Nat)(l:List gD.Ev)(w:World)(h:Es w a n cap l):Calls prog 34 #[.agg #[c,(a,n,cap)]] w (m7 (zE (gD.iI ⟨c,l⟩)) w):=by
 have G:=h.sl.max;have ab:=h.sl.le;unfold maxLen at G;have L:=gx h.n;have N:=gx (show gD.iI ⟨c,l⟩=if c<1∨1000000<c then(3,0) else if l.length<1∨10<l.length then(5,0) else gD.fw l 0 from rfl);unfold zE;by_cases hc:c<1∨1000000<c
 .have f:=gx (N.trans (gG hc));rw[f.out];go_enter func34,ntmps34;go_wp2;all_goals exact gS (v:=.agg #[jF,gy]) (by simp[results,results34,go_sem]) rfl ⟨rfl,(gZ.alloc gM _).alloc (by simp) _⟩
 .by_cases X:n<1∨10<n
  .have f:=gx (N.trans ((gC hc).trans (gG (by rw[L.out];exact X))));rw[f.out];go_enter func34,ntmps34;go_wp2;all_goals exact gS (v:=.agg #[nk,gy]) (by simp[results,results34,go_sem]) rfl ⟨rfl,(gZ.alloc gM _).alloc (by simp) _⟩
  .have f:=gx (N.trans ((gC hc).trans (gC (by rw[L.out];exact X))));obtain⟨b,off,rfl,_⟩:=h.sl.addr (by omega);go_enter func34,ntmps34;go_wp2;go_loopg[3,4,5,29] n (fun g x y z i wr=>∃k:Nat,g=n-k/\k<=n/\i=.int .i64 k/\Below w w wr/\w.heap.size+1<wr.heap.size/\
    wr.cell? (w.heap.size+1,gy)=some (.int .i64 0)/\wr.cell? (w.heap.size+1,ia)=some (.int .i64 0)/\wr.frozen? (w.heap.size+1,gy)=false/\wr.frozen? (w.heap.size+1,ia)=false/\Hid (gD.fw l 0=gD.fw (l.drop k) k))
   case atStart=>exact⟨0,rfl,by omega,rfl,(gZ.alloc gM _).alloc (by simp) _,by simp,by simp,by simp,by simp,by simp,gx rfl⟩
   case round=>
    obtain⟨k,rfl,hk,rfl,hb,P,o,q,B,C,K⟩:=hrel;by_cases U:k<n
    .have F:k<l.length:=by rw[L.out];exact U
     obtain⟨q0,q1,q2⟩:=(h.below hb).at k F;have D:=fun W=>pe l[k] (h.ok _ (iE _)) W;unfold jG at D;have S:=gx (show gD.fw (l.drop k) k=if gD.iW l[k]≠0 then(gD.iW l[k],(k:Int)) else gD.fw (l.drop (k+1)) (k+1) by rw[rv F];rfl)
     generalize l[k]=ev at *;generalize gD.iW ev=E at *;have D:=gx D;go_wp2_with fail;go_at_call 65;refine(D _).mono ?_;rintro e I⟨rfl,b1⟩;obtain⟨j,m⟩:=I7 b1;have Y:I.cell? (w.heap.size+1,gy)=some (.int .i64 0):=by rw[j _ _ (by simp;omega),ik P];exact o
     have Z:I.cell? (w.heap.size+1,ia)=some (.int .i64 0):=by rw[j _ _ (by simp;omega),ik P];exact q
     have f0:I.frozen? (w.heap.size+1,gy)=false:=by rw[m _ _ (by simp;omega),mC P];exact B
     have f1:I.frozen? (w.heap.size+1,ia)=false:=by rw[m _ _ (by simp;omega),mC P];exact C
     have r:Below w w I:=(hb.alloc hb.size _).trans (b1.mono (by simp;omega));have V:=b1.size;simp only[jH] at V;clear j m o q B C D;by_cases O:E=0
     .subst O;go_wp2;go_roundg (n-(k+1));case measure=>omega
      case rel=>exact⟨k+1,rfl,by omega,by go_num,r,by omega,Y,Z,f0,f1,gx (by rw[K.out,S.out];rfl)⟩
     .have t0:(E !=0)=true:=by rw[ij];exact O
      have Q:=gx (show gD.iI ⟨c,l⟩=(E,(k:Int)) by rw[f.out,K.out,S.out,gG O]);clear O f K S N;go_wp2;exact gS (v:=.agg #[E,k]) (by simp[results,results34,go_sem,Y,Z]) rfl ⟨by rw[Q.out],(r.setCell (by simp) _).setCell (by simp) _⟩
    .obtain rfl:k=n:=by omega
     have Q:=gx (show gD.iI ⟨c,l⟩=(0,0) by rw[f.out,K.out,mV (by rw[L.out];exact jb _)];rfl);go_wp2;exact gS (v:=.agg #[gy,gy]) (by simp[results,results34,go_sem,o,q]) rfl ⟨by rw[Q.out],(hb.setCell (by simp) _).setCell (by simp) _⟩
theorem Ht(w:World)(s:ByteArray):∃W e,(convert 9 64 s).run prog w=.ok (.slice (some (w,gy)) s.size e) W/\Below w w W/\∀j,j<s.size->W.cell? ⟨w.heap.size,j,none⟩=some (.int .u8 (iB (gD.kP s) j)):=by
 refine⟨Lib.bytesWorld w 5 s,_,Lib.run_convert_string_bytes w 9 64 5 s underlying9 underlying64 underlying5,⟨rfl,rfl,rfl,by rw[Lib.bytesWorld_size];omega,fun k h=>Lib.bytesWorld_at_old w 5 s k h⟩,fun j f=>?_⟩;rw[Lib.bytesWorld_cell w 5 s j f];rfl
theorem gD.Nw(s:ByteArray)(k:Nat)(h:k<s.size):iB (gD.kP s) k=(s[k]).toNat:=by
 unfold iB gD.kP List.getD;rw[jz (by simpa using h)];rfl
theorem tT(s:ByteArray)(F:s.size<=maxLen)(w:World):Calls prog 28 #[s] w (m7 (.bool (gD.named (gD.kP s))) w):=by
 unfold maxLen at F;have r:=gx (gD.se s);obtain⟨W,G,j,h,e⟩:=Ht w s;replace e:=gx e;go_enter func28,ntmps28;go_wp2_with fail;go_loopg[4,8] s.size (fun g x i wr=>W=wr/\∃k:Nat,g=s.size-k/\k<=s.size/\i=.int .i64 k/\Hid (((gD.kP s).take k).all gD.NT=true));case atStart=>exact⟨rfl,0,rfl,by omega,rfl,gx (by simp)⟩
 case round=>
  obtain⟨rfl,k,rfl,I,rfl,o⟩:=hrel;by_cases f:k<s.size
  .have hc:=e k f;have E:=gx (gD.E0 s k f o);have C:=gx (gD.I2 s k f);have m:=gx (gD.Mi s[k]);have hb:=iP (gD.kP s) k;rw[<-gD.Nw s k f] at m;generalize iB (gD.kP s) k=c at *;clear j;go_wp2;all_goals (try simp only[Bool.not_eq_true',Bool.not_eq_false',yz,decide_eq_false_iff_not] at *)
   all_goals first
    |(go_ret;exact⟨rH (C (by rw[m.out];simp only[Bool.or_eq_false_iff,Bool.and_eq_false_iff,decide_eq_false_iff_not];omega)).symm,h⟩)
    |(go_roundg (s.size-(k+1))
      case measure=>omega
      case rel=>exact⟨rfl,k+1,rfl,by omega,by go_num,gx (E (by rw[m.out];simp only[Bool.or_eq_true,yF,yz];omega))⟩)
  .obtain rfl:k=s.size:=by omega
   clear j;have B:gD.named (gD.kP s)=(decide (0<s.size)&&decide (s.size<=10)):=by have:=o.out;rw[ld (by rw[r.out];exact jb _)] at this;unfold gD.named;rw[this,r.out,Bool.and_true]
   have q:=gx B;clear B;go_wp2;all_goals go_ret
   all_goals exact⟨rH (by first|(rw[q.out,kr ‹0<s.size›,Bool.true_and];exact decide_eq_decide.2 (by omega))|rw[q.out,ju ‹¬0<s.size›,Bool.false_and]),h⟩
theorem lV(e:gD.Ev)(m:e.s.size<=maxLen)(w:World):Calls prog 82 #[jG e] w (m7 (gD.iW e) w):=by
 obtain⟨s,k,n⟩:=e;unfold jG;have h:=gx (fun W=>tT s m W);simp only at m⊢;have j:=gx (show gD.iW ⟨s,k,n⟩=if gD.named (gD.kP s)=false then 7 else if k<1∨4<k then 1 else if n<0∨1000000<n∨((k=1∨k=4)/\n≠0) then 3 else 0 from rfl);generalize gD.named (gD.kP s)=N at *;cases N with
 |false=>
  go_enter func82,ntmps82;go_wp2_with fail;go_at_call 28;refine(h _).mono ?_;rintro e f⟨rfl,b1⟩;have o:f.cell? (w,gy)=some (.string s):=kE b1 0;have q:f.cell? (w,ia)=some (.int .i64 k):=kE b1 1;have r:f.cell? (w,j6)=some (.int .i64 n):=kE b1 2;have bb:=mN b1;go_wp2_with fail;go_ret;exact⟨kY (by rw[j.out];rfl),bb⟩
 |true=>
  go_enter func82,ntmps82;go_wp2_with fail;go_at_call 28;refine(h _).mono ?_;rintro e f⟨rfl,b1⟩;have o:f.cell? (w,gy)=some (.string s):=kE b1 0;have q:f.cell? (w,ia)=some (.int .i64 k):=kE b1 1;have r:f.cell? (w,j6)=some (.int .i64 n):=kE b1 2;have bb:=mN b1;go_wp2_with fail;all_goals go_ret
  all_goals refine⟨kY ?_,bb⟩
  all_goals rw[j.out,gC (by simp)]
  all_goals clear j h
  all_goals (try simp only[ij,bne_eq_false_iff_eq,ne_eq] at *)
  all_goals first
   |rw[gG (by omega)]
   |(rw[gC (by omega)];rw[gG (by omega)])
   |(rw[gC (by omega)];rw[gC (by omega)])
theorem oR(c:Int)(a:Option Addr)(n cap:Nat)(l:List gD.Ev)(w:World)(h:Es w a n cap l):Calls prog 55 #[.agg #[c,(a,n,cap)]] w (m7 (zE (gD.iI ⟨c,l⟩)) w):=by
 have G:=h.sl.max;have ab:=h.sl.le;unfold maxLen at G;have L:=gx h.n;have N:=gx (show gD.iI ⟨c,l⟩=if c<1∨1000000<c then(3,0) else if l.length<1∨10<l.length then(5,0) else gD.fw l 0 from rfl);unfold zE;by_cases hc:c<1∨1000000<c
 .have f:=gx (N.trans (gG hc));rw[f.out];go_enter func55,ntmps55;go_wp2;all_goals exact gS (v:=.agg #[jF,gy]) (by simp[results,results55,go_sem]) rfl ⟨rfl,(gZ.alloc gM _).alloc (by simp) _⟩
 .by_cases X:n<1∨10<n
  .have f:=gx (N.trans ((gC hc).trans (gG (by rw[L.out];exact X))));rw[f.out];go_enter func55,ntmps55;go_wp2;all_goals exact gS (v:=.agg #[nk,gy]) (by simp[results,results55,go_sem]) rfl ⟨rfl,(gZ.alloc gM _).alloc (by simp) _⟩
  .have f:=gx (N.trans ((gC hc).trans (gC (by rw[L.out];exact X))));obtain⟨b,off,rfl,_⟩:=h.sl.addr (by omega);have ad:((n:Int)==0)=false:=by rw[jB];omega
   go_enter func55,ntmps55;go_wp2;go_loopg[3,4,5,29] n (fun g x y z i wr=>∃k:Nat,g=n-k/\k<=n/\i=.int .i64 k/\Below w w wr/\w.heap.size+1<wr.heap.size/\
    wr.cell? (w.heap.size+1,gy)=some (.int .i64 0)/\wr.cell? (w.heap.size+1,ia)=some (.int .i64 0)/\wr.frozen? (w.heap.size+1,gy)=false/\wr.frozen? (w.heap.size+1,ia)=false/\Hid (gD.fw l 0=gD.fw (l.drop k) k))
   case atStart=>exact⟨0,rfl,by omega,rfl,(gZ.alloc gM _).alloc (by simp) _,by simp,by simp,by simp,by simp,by simp,gx rfl⟩
   case round=>
    obtain⟨k,rfl,hk,rfl,hb,P,o,q,B,C,K⟩:=hrel;by_cases U:k<n
    .have F:k<l.length:=by rw[L.out];exact U
     obtain⟨q0,q1,q2⟩:=(h.below hb).at k F;have D:=fun W=>lV l[k] (h.ok _ (iE _)) W;unfold jG at D;have S:=gx (show gD.fw (l.drop k) k=if gD.iW l[k]≠0 then(gD.iW l[k],(k:Int)) else gD.fw (l.drop (k+1)) (k+1) by rw[rv F];rfl)
     generalize l[k]=ev at *;generalize gD.iW ev=E at *;have D:=gx D;go_wp2_with fail;go_at_call 82;refine(D _).mono ?_;rintro e I⟨rfl,b1⟩;obtain⟨j,m⟩:=I7 b1;have Y:I.cell? (w.heap.size+1,gy)=some (.int .i64 0):=by rw[j _ _ (by simp;omega),ik P];exact o
     have Z:I.cell? (w.heap.size+1,ia)=some (.int .i64 0):=by rw[j _ _ (by simp;omega),ik P];exact q
     have f0:I.frozen? (w.heap.size+1,gy)=false:=by rw[m _ _ (by simp;omega),mC P];exact B
     have f1:I.frozen? (w.heap.size+1,ia)=false:=by rw[m _ _ (by simp;omega),mC P];exact C
     have r:Below w w I:=(hb.alloc hb.size _).trans (b1.mono (by simp;omega));have V:=b1.size;simp only[jH] at V;clear j m o q B C D;by_cases O:E=0
     .subst O;go_wp2;go_roundg (n-(k+1));case measure=>omega
      case rel=>exact⟨k+1,rfl,by omega,by go_num,r,by omega,Y,Z,f0,f1,gx (by rw[K.out,S.out];rfl)⟩
     .have t0:(E !=0)=true:=by rw[ij];exact O
      have Q:=gx (show gD.iI ⟨c,l⟩=(E,(k:Int)) by rw[f.out,K.out,S.out,gG O]);clear O f K S N;go_wp2;exact gS (v:=.agg #[E,k]) (by simp[results,results55,go_sem,Y,Z]) rfl ⟨by rw[Q.out],(r.setCell (by simp) _).setCell (by simp) _⟩
    .obtain rfl:k=n:=by omega
     have Q:=gx (show gD.iI ⟨c,l⟩=(0,0) by rw[f.out,K.out,mV (by rw[L.out];exact jb _)];rfl);go_wp2;exact gS (v:=.agg #[gy,gy]) (by simp[results,results55,go_sem,o,q]) rfl ⟨by rw[Q.out],(hb.setCell (by simp) _).setCell (by simp) _⟩
theorem gD.GY(x:Nat)(h:x<16777216):(gD.three x).map (fun c=>(c.toNat:Int))=[(x:Int)/65536,(x:Int)/256%256,(x:Int)%256]:=by
 simp only[gD.three,lI,nj,uU,List.cons.injEq,and_true];omega
theorem zq(x:Nat)(w:World)(f:x<16777216):Calls prog 83 #[x] w fun e w'=>e=.returned (some (w,gy),jF,jF)/\w'=w.alloc (.cells #[.int .u8 ((x:Int)/65536),.int .u8 ((x:Int)/256%256),.int .u8 ((x:Int)%256)] 5):=by
 go_enter func83,ntmps83;go_wp2_with fail;go_ret;exact⟨rfl,rfl⟩
def iJ(u:Int)(a:Option Addr)(n cap:Nat):Value:=.agg #[u,(a,n,cap)]
def oB(f:Int×Int):Value:=.agg #[f.1,f.2]
theorem E9(a b:ByteArray):(a==b)=decide (a=b):=by
 show(a.data==b.data)=_;by_cases h:a=b;·subst h;simp
 .rw[ju h];refine jB.2 fun e=>h ?_;cases a;cases b;simpa using e
theorem lA(a b:ByteArray):(a.toList==b.toList)=decide (a=b):=by
 rw[tF,tF];by_cases h:a=b;·subst h;simp
 .rw[ju h];refine jB.2 fun e=>h ?_;cases a;cases b;simpa using e
theorem Da(a:Vw.Acc)(e:gD.Ev)(w:World):Calls prog 92 #[oA a,jG e] w (m7 (.bool (Vw.may a e)) w):=by
 obtain⟨s,m,c,o⟩:=a;obtain⟨t,k,n⟩:=e;unfold oA jG;have hb:Below w w ((w.alloc (.cells #[s,m,c,.bool o] 55)).alloc (.cells #[t,k,n] 78)):=(gZ.alloc gM _).alloc (by simp) _;have q:=gx (show Vw.may ⟨s,m,c,o⟩ ⟨t,k,n⟩=if k=1 then !o else if k=2∨k=4 then o else if k=3 then o&&decide (n<=m) else false from rfl);simp only;by_cases h:k=1
 .have f:=gx (q.trans (gG h));rw[f.out];subst h;go_enter func92,ntmps92;go_wp2_with fail;go_ret;exact⟨rfl,hb⟩
 .have C:(k==1)=false:=jB.2 h;by_cases r:k=2
  .have f:=gx (q.trans ((gC h).trans (gG (.inl r))));rw[f.out];subst r;go_enter func92,ntmps92;go_wp2_with fail;go_ret;exact⟨rfl,hb⟩
  .have E:(k==2)=false:=jB.2 r;by_cases B:k=4
   .have f:=gx (q.trans ((gC h).trans (gG (.inr B))));rw[f.out];subst B;go_enter func92,ntmps92;go_wp2_with fail;go_ret;exact⟨rfl,hb⟩
   .have G:(k==4)=false:=jB.2 B;by_cases j:k=3
    .have f:=gx (q.trans ((gC h).trans ((gC (by omega)).trans (gG j))));rw[f.out];subst j;cases o with
     |false=>
      go_enter func92,ntmps92;go_wp2_with fail;go_ret;exact⟨rfl,hb⟩
     |true=>
      go_enter func92,ntmps92;go_wp2_with fail;go_ret;exact⟨rH (by simp),hb⟩
    .have F:(k==3)=false:=jB.2 j;have f:=gx (q.trans ((gC h).trans ((gC (by omega)).trans (gC j))));rw[f.out];replace h:=gx h;replace r:=gx r;replace j:=gx j;replace B:=gx B;go_enter func92,ntmps92;go_wp2_with fail;go_ret;exact⟨rfl,hb⟩
theorem LL{l:List Vw.Acc}{s:ByteArray}{k:Nat}(h:k<l.length):Vw.get (l.drop k) s=if l[k].s=s then l[k] else Vw.get (l.drop (k+1)) s:=by
 rw[rv h];rfl
theorem yU(u:Int)(a:Option Addr)(n cap:Nat)(l:List Vw.Acc)(s:ByteArray)(w:World)(h:As w a n cap l):Calls prog 36 #[iJ u a n cap,s] w (m7 (oA (Vw.get l s)) w):=by
 have r:=h.sl.max;have W:=h.sl.le;unfold maxLen at r;have K:=gx h.jO;unfold iJ;go_enter func36,ntmps36;go_wp2_with fail;go_loopg[10] n (fun g i wr=>∃k:Nat,g=n-k/\k<=n/\i=.int .i64 (k:Int)/\Below w w wr/\w.heap.size+1<wr.heap.size/\
  wr.heap[w.heap.size+1]?=some (.cells #[.string ⟨#[]⟩,gy,gy,.bool false] 55)/\Hid (Vw.get l s=Vw.get (l.drop k) s))
 case atStart=>exact⟨0,rfl,by omega,rfl,(gZ.alloc gM _).alloc (by simp) _,by simp,by have:=gO (w.alloc (.cells #[u,(a,n,cap)] 30)) (.cells #[.string ⟨#[]⟩,gy,gy,.bool false] 55);rwa[jH] at this,gx rfl⟩
 case round=>
  obtain⟨k,rfl,hk,rfl,hb,X,e,C⟩:=hrel;have z1:w.heap.size+1≠wr.heap.size:=by omega
  have z2:wr.heap.size≠w.heap.size+1:=by omega
  obtain⟨N,O,P,Q⟩:=Lm e;have f0:wr.frozen? (w.heap.size+1,gy)=false:=gA e;have f1:wr.frozen? (w.heap.size+1,ia)=false:=gA e;have f2:wr.frozen? (w.heap.size+1,j6)=false:=gA e;have f3:wr.frozen? (w.heap.size+1,jF)=false:=gA e;by_cases I:k<n
  .have q:k<l.length:=by rw[K.out];exact I
   obtain⟨b,off,rfl,_⟩:=h.sl.addr (by omega);obtain⟨q0,q1,q2,q3⟩:=(h.below hb).at k q;have L:=gx (LL (s:=s) q);generalize j:l[k]=ac at *;obtain⟨t,m,c,o⟩:=ac;simp only at q0 q1 q2 q3;replace j:=gx j;by_cases f:t=s
   .subst f;have U:(t==t)=true:=by rw[E9];simp
    have V:(t.toList==t.toList)=true:=by rw[lA];simp
    have E:=gx (show Vw.get l t=⟨t,m,c,o⟩ by rw[C.out,L.out,gG rfl]);go_wp2_with fail;have B:∀i,i<4->((((((wr.setCell (w.heap.size+1,gy) t).setCell (w.heap.size+1,ia) m).setCell (w.heap.size+1,j6) c).setCell (w.heap.size+1,jF) (.bool o)).alloc (.cells #[t,m,c,.bool o] 55))).cell? ⟨w.heap.size+1,i,none⟩=(((((wr.setCell (w.heap.size+1,gy) t).setCell (w.heap.size+1,ia) m).setCell (w.heap.size+1,j6) c).setCell (w.heap.size+1,jF) (.bool o))).cell? ⟨w.heap.size+1,i,none⟩:=fun i _=>ik (by simp only[pn];exact X);have Y:=(B 0 (by decide)).trans (show _=some (.string t) by simp[go_sem,N]);have Z:=(B 1 (by decide)).trans (show _=some (.int .i64 m) by simp[go_sem,O]);have p3:=(B 2 (by decide)).trans (show _=some (.int .i64 c) by simp[go_sem,P]);have p4:=(B 3 (by decide)).trans (show _=some (.bool o) by simp[go_sem,Q]);exact gS (v:=.agg #[t,m,c,.bool o]) (by simp[results,results36,go_sem,Y,Z,p3,p4]) rfl ⟨by rw[E.out];rfl,((((hb.setCell (by simp) _).setCell (by simp) _).setCell (by simp) _).setCell (by simp) _).alloc (by simp;omega) _⟩
   .have U:(t==s)=false:=by rw[E9,ju f]
    have V:(t.toList==s.toList)=false:=by rw[lA,ju f]
    have S:=gx f;have F:=gx ((hb.alloc hb.size (.cells #[t,m,c,.bool o] 55)));have G:=gx (gF (o':=.cells #[t,m,c,.bool o] 55) e);clear f;go_wp2_with fail;go_roundg (n-(k+1));case measure=>omega
    case rel=>
     exact⟨k+1,rfl,by omega,by go_num,F,by simp;omega,G,gx (by rw[C.out,L.out,gC S.out])⟩
  .obtain rfl:k=n:=by omega
   have E:=gx (show Vw.get l s=Vw.new s by rw[C.out,mV (by rw[K.out];exact jb _)];rfl);go_wp2_with fail;exact gS (v:=.agg #[s,gy,gy,.bool false]) (by simp[results,results36,go_sem,N,O,P,Q]) rfl ⟨by rw[E.out];rfl,((((hb.setCell (by simp) _).setCell (by simp) _).setCell (by simp) _).setCell (by simp) _)⟩
end Go.Proofs.YthhcdfjijagalaaGreat

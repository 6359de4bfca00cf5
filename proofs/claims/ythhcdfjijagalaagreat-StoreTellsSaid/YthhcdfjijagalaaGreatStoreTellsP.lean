/- The law StoreTells holds: for every input it returns true, and leaves its arguments as they were. -/
import Derived.Test.YthhcdfjijagalaaGreatM55
import Derived.Test.YthhcdfjijagalaaGreatChecked
set_option linter.all false
set_option maxRecDepth 100000
namespace Go.Proofs.YthhcdfjijagalaaGreat
open Qz Go.Proofs.Tryz Go.ChangeShapes Go.WideShapes Go.ChangeAt Go.RowKit Go.Joins
namespace storeTells
theorem lifted(os:Os)(f:os.Started)(H:Type)(enc:TypeId×Value->H):
  ReturnsInHanded {} Tryz.checked os 3 .any (Rows.storeTellsSpec.pre6 enc prog Tryz.f3 Rows.storeTellsRow.domain false) (Rows.storeTellsSpec.post enc prog Tryz.f3 false true false false):=by
 refine returnsInHanded_of_change (C:=Tryz.checked) knobs f (by kernel_rfl) func3
  (ChangeSpec.witness6 (enc:=enc) (C:=Tryz.checked) false ⟨#[],#[.agg #[gy,gy,gy],.slice none 0 0],[]⟩ 8 (by kernel_rfl) (by kernel_rfl) (by kernel_rfl) (by kernel_rfl)) ?_
 intro W base args K gs h e B E _;have r:=B;obtain⟨p,q,m,Q,rfl,_,_⟩:=r;obtain⟨rfl,rfl⟩:=trodVars_none Q;replace m:DataW.TrodAll enc prog W 0 (fun _=>true) true Tryz.f3.params.toList args.toList K p:=m;replace e:∀(j:Nat) t v,Tryz.f3.params[j]?=some t->args[j]?=some v->Value.okWide prog W .any base t v:=e;rw[Tryz.params3] at m e;obtain⟨F,Y,d0,L,p0,q0,w,rfl,rfl,P,V⟩:=trodAll_cons m;obtain⟨v1,Z,d1,N,p1,q1,rfl,rfl,rfl,o,X⟩:=trodAll_cons V;obtain⟨rfl,rfl,rfl⟩:=trodAll_nil X;obtain rfl:args=#[F,v1]:=by cases args;simp_all
 obtain⟨x0,y0,z0,rfl⟩:=Io (e 0 23 F rfl rfl) P;obtain⟨a1,n1,c1,rfl⟩:=okWide_slice underlying24 (e 1 24 v1 rfl rfl);obtain⟨f1,o⟩:=o;obtain⟨G,S,I,l1,O,U,g1⟩:=Mk o;cases O;exact Ee rfl rfl underlying4 (by kernel_rfl) rfl B (zD x0 y0 z0 _ _ _ _ _ U)
theorem QI:Rows.storeTellsRow.holds Tryz.pinned (OpenSpec.ofChange Rows.storeTellsSpec):=
 OpenClaim.holds_of_wide 3 Tryz.f3 rfl rfl rfl rfl rfl rfl rfl ⟨rfl,rfl,rfl,rfl,rfl⟩ rfl rfl rfl rfl rfl (by kernel_rfl) func3 (by kernel_rfl)
  (of_decide_eq_true (by kernel_rfl)) (by unfold Func.isWrapper;first|(rw[gG (by decide +kernel)];kernel_rfl)|(rw[gC (by decide +kernel)];exact⟨rfl,rfl⟩))
  (fun os e H enc _=>lifted os e H enc)
theorem proved:Rows.StoreTellsSaid:=QI
end storeTells
end Go.Proofs.YthhcdfjijagalaaGreat

/- The statement of WholeFront, proved: for every input the call returns true and leaves its arguments as they were. -/
import Derived.Test.YtdmgcnggnejnnaaGreatMgG
import Derived.Test.YtdmgcnggnejnnaaGreatRows
import Derived.Test.YtdmgcnggnejnnaaGreatProg
import Derived.Ground.Names2Prog
import Derived.Ground.SlsfProg
namespace Go.Proofs.YtdmgcnggnejnnaaGreat
set_option linter.unusedVariables false
set_option linter.unusedSimpArgs false
namespace wholeFront
open Go.ChangeShapes Go.WideShapes Go.ChangeAt Go.RowKit
open Go.ChangeMaps (open_string shut_string)
set_option maxRecDepth 100000 in
theorem lifted(os:Os)(started:os.Started)(H:Type)(enc:TypeId×Value->H):
 ReturnsInHanded {} Tryz.checked os 3 .any (Rows.wholeFrontSpec.pre6 enc Tryz.prog Tryz.f3 Rows.wholeFrontRow.domain false) (Rows.wholeFrontSpec.post enc Tryz.prog Tryz.f3 false true false false):=by
 refine law.said (fn:=Tryz.f3) started (by kernel_rfl) Tryz.func3 ⟨rfl,fun H ds h=>?_⟩ (by kernel_rfl) (by kernel_rfl)
  (ChangeSpec.witness6 (enc:=enc) (C:=Tryz.checked) false ⟨#[],#[.agg #[.slice none 0 0,.slice none 0 0],.string ByteArray.empty,.string ByteArray.empty],[]⟩ 8 (by kernel_rfl) (by kernel_rfl) (by kernel_rfl) (by kernel_rfl)) ?_
 ·match ds,h with
  |[_,_,_],_=>rfl
 ·intro W base args ds p ⟨hval0,hA,hsz,Aw⟩
  have hval:∀(j:Nat) t v,Tryz.f3.params[j]?=some t->args[j]?=some v->Value.okWide Tryz.prog W .any base t v:=hval0;clear hval0;rw[Tryz.params3]at hA hval hsz;obtain⟨v0,vs0,d0,ds0,p0,q0,abO,rfl,rfl,h0,r0⟩:=trodAll_cons hA;obtain⟨v1,kH,d1,ds1,p1,q1,rfl,rfl,rfl,h1,r1⟩:=trodAll_cons r0;obtain⟨v2,iU,d2,ds2,p2,q2,rfl,rfl,rfl,h2,r2⟩:=trodAll_cons r1;obtain⟨rfl,rfl,rfl⟩:=trodAll_nil r2;obtain rfl:args=#[v0,v1,v2]:=by cases args;simp_all
  obtain⟨s0,h0,b0⟩:=bK.Il (hval 0 25 v0 rfl rfl) h0 hsz 0 rfl rfl;obtain⟨a1,rfl,rfl,rfl,w1⟩:=open_string Tryz.underlying9 (hval 1 9 v1 rfl rfl) h1;have z1:a1.data.toList.length<=140737488351232:=sized_string hsz (j:=1) rfl rfl;obtain⟨a2,rfl,rfl,rfl,w2⟩:=open_string Tryz.underlying9 (hval 2 9 v2 rfl rfl) h2;have z2:a2.data.toList.length<=140737488351232:=sized_string hsz (j:=2) rfl rfl;rw[bK.G1 a1,bK.G1 a2];exact bK.fin (walk W v0 s0 h0 b0 a1.data.toList z1 a2.data.toList z2)
theorem proved:Rows.WholeFrontSaid:=
 OpenClaim.holds_of_wide 3 Tryz.f3 rfl rfl rfl rfl rfl rfl rfl ⟨rfl,rfl,rfl,rfl,rfl⟩ rfl rfl rfl rfl rfl (by kernel_rfl) Tryz.func3 (by kernel_rfl)
  (of_decide_eq_true (by kernel_rfl)) (by unfold Func.isWrapper;rw[if_neg (of_decide_eq_false (by kernel_rfl))];exact⟨rfl,rfl⟩)
  (fun os started H enc _=>lifted os started H enc)
end wholeFront
end Go.Proofs.YtdmgcnggnejnnaaGreat

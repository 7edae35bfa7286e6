/- The statement of SessionOwn, proved: for every input the call returns true and leaves its arguments as they were. -/
import Derived.Test.YtdmgcnggnejnnaaGreatMgF
import Derived.Test.YtdmgcnggnejnnaaGreatRows
import Derived.Test.YtdmgcnggnejnnaaGreatProg
import Derived.Ground.Names2Prog
import Derived.Ground.SlsfProg
namespace Go.Proofs.YtdmgcnggnejnnaaGreat
set_option linter.unusedVariables false
set_option linter.unusedSimpArgs false
open _root_.Bool renaming false->aE
open _root_.ByteArray renaming empty->agG
open _root_.Go.ChangeSpec renaming witness6->agH
open _root_.Go.OpenClaim renaming holds_of_wide->agI
open _root_.Go.Proofs.Tryz renaming prog->aD
open _root_.Go.Value renaming slice->ap
open _root_.Option renaming some->aj,none->ak
namespace sessionOwn
open Go.ChangeShapes Go.WideShapes Go.ChangeAt Go.RowKit
open Go.ChangeMaps (open_string shut_string)
set_option maxRecDepth 100000 in
theorem lifted(os:Os)(started:os.Started)(H:Type)(enc:TypeId×Value->H):
 ReturnsInHanded {} Tryz.checked os 8 .any (Rows.sessionOwnSpec.pre6 enc aD Tryz.f8 Rows.sessionOwnRow.domain aE) (Rows.sessionOwnSpec.post enc aD Tryz.f8 aE Bool.true aE aE):=by
 refine law.said (fn:=Tryz.f8) started (by kernel_rfl) Tryz.func8 ⟨rfl,λH ds h=>?_⟩ (by kernel_rfl) (by kernel_rfl)
  (agH (enc:=enc) (C:=Tryz.checked) aE ⟨#[],#[Value.agg #[ap ak 0 0,ap ak 0 0],.string agG],[]⟩ 8 (by kernel_rfl) (by kernel_rfl) (by kernel_rfl) (by kernel_rfl)) ?_
 ·match ds,h with
  |[_,_],_=>rfl
 ·intro W base args ds p ⟨hval0,hA,hsz,Hv⟩
  have hval:∀(j:Nat) t v,Tryz.f8.params[j]?=aj t->args[j]?=aj v->Value.okWide aD W .any base t v:=hval0;clear hval0;rw[Tryz.params8]at hA hval hsz;obtain⟨v0,vs0,d0,ds0,p0,q0,ajI,rfl,rfl,h0,r0⟩:=trodAll_cons hA;obtain⟨v1,oy,d1,ds1,p1,q1,rfl,rfl,rfl,h1,r1⟩:=trodAll_cons r0;obtain⟨rfl,rfl,rfl⟩:=trodAll_nil r1;obtain rfl:args=#[v0,v1]:=by cases args;simp_all
  obtain⟨s0,h0,b0⟩:=bZ.Q4 (hval 0 25 v0 rfl rfl) h0 hsz 0 rfl rfl;obtain⟨a1,rfl,rfl,rfl,w1⟩:=open_string Tryz.underlying9 (hval 1 9 v1 rfl rfl) h1;have z1:a1.data.toList.length<=140737488351232:=sized_string hsz (j:=1) I I;rw[bZ.XG a1];exact bZ.fin (walk W v0 s0 h0 b0 a1.data.toList z1)
theorem proved:Rows.SessionOwnSaid:=
 agI 8 Tryz.f8 I I I I I I I ⟨rfl,rfl,rfl,rfl,rfl⟩ I I I I I (by kernel_rfl) Tryz.func8 (by kernel_rfl)
  (of_decide_eq_true (by kernel_rfl)) (by unfold Func.isWrapper;rw[if_neg (of_decide_eq_false (by kernel_rfl))];exact⟨rfl,rfl⟩)
  (λos started H enc _=>lifted os started H enc)
end sessionOwn
end Go.Proofs.YtdmgcnggnejnnaaGreat

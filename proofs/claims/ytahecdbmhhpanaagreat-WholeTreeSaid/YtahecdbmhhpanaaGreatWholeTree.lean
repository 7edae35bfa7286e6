/- The statement of WholeTree, proved: for every input the call returns true and leaves its arguments as they were. -/
import Derived.Test.YtahecdbmhhpanaaGreatMgF
import Derived.Test.YtahecdbmhhpanaaGreatRows
import Derived.Test.YtahecdbmhhpanaaGreatProg
import Derived.Ground.Names2Prog
import Derived.Ground.SlsfProg
namespace Go.Proofs.YtahecdbmhhpanaaGreat
set_option linter.unusedVariables false
set_option linter.unusedSimpArgs false
open _root_.Bool renaming false->aE
open _root_.ByteArray renaming empty->ait
open _root_.Go.ChangeSpec renaming witness6->aiu
open _root_.Go.OpenClaim renaming holds_of_wide->aiv
open _root_.Go.Proofs.Tryz renaming prog->aC
open _root_.Go.Value renaming slice->ak
open _root_.Option renaming some->ah,none->aj
namespace wholeTree
open Go.ChangeShapes Go.WideShapes Go.ChangeAt Go.RowKit
open Go.ChangeMaps (open_string shut_string)
set_option maxRecDepth 100000 in
theorem lifted(os:Os)(started:os.Started)(H:Type)(enc:TypeId×Value->H):
 ReturnsInHanded {} Tryz.checked os 3 .any (Rows.wholeTreeSpec.pre6 enc aC Tryz.f3 Rows.wholeTreeRow.domain aE) (Rows.wholeTreeSpec.post enc aC Tryz.f3 aE Bool.true aE aE):=by
 refine law.said (fn:=Tryz.f3) started (by kernel_rfl) Tryz.func3 ⟨rfl,λH ds h=>?_⟩ (by kernel_rfl) (by kernel_rfl)
  (aiu (enc:=enc) (C:=Tryz.checked) aE ⟨#[],#[Value.agg #[ak aj 0 0,ak aj 0 0],.string ait],[]⟩ 8 (by kernel_rfl) (by kernel_rfl) (by kernel_rfl) (by kernel_rfl)) ?_
 ·match ds,h with
  |[_,_],_=>rfl
 ·intro W base args ds p ⟨hval0,hA,hsz,H5⟩
  have hval:∀(j:Nat) t v,Tryz.f3.params[j]?=ah t->args[j]?=ah v->Value.okWide aC W .any base t v:=hval0;clear hval0;rw[Tryz.params3]at hA hval hsz;obtain⟨v0,vs0,d0,ds0,p0,q0,alw,rfl,rfl,h0,r0⟩:=trodAll_cons hA;obtain⟨v1,oF,d1,ds1,p1,q1,rfl,rfl,rfl,h1,r1⟩:=trodAll_cons r0;obtain⟨rfl,rfl,rfl⟩:=trodAll_nil r1;obtain rfl:args=#[v0,v1]:=by cases args;simp_all
  obtain⟨s0,h0,b0⟩:=cB.Sy (hval 0 25 v0 rfl rfl) h0 hsz 0 rfl rfl;obtain⟨a1,rfl,rfl,rfl,w1⟩:=open_string Tryz.underlying9 (hval 1 9 v1 rfl rfl) h1;have z1:a1.data.toList.length<=140737488351232:=sized_string hsz (j:=1) I I;rw[cB.Zn a1];exact cB.fin (walk W v0 s0 h0 b0 a1.data.toList z1)
theorem proved:Rows.WholeTreeSaid:=
 aiv 3 Tryz.f3 I I I I I I I ⟨rfl,rfl,rfl,rfl,rfl⟩ I I I I I (by kernel_rfl) Tryz.func3 (by kernel_rfl)
  (of_decide_eq_true (by kernel_rfl)) (by unfold Func.isWrapper;rw[if_neg (of_decide_eq_false (by kernel_rfl))];exact⟨rfl,rfl⟩)
  (λos started H enc _=>lifted os started H enc)
end wholeTree
end Go.Proofs.YtahecdbmhhpanaaGreat

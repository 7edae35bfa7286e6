/- The statement of SpecOne, proved: for every input the call returns true and leaves its arguments as they were. -/
import Derived.Test.YtldiodhdefnlaaaGreatMgG
import Derived.Test.YtldiodhdefnlaaaGreatRows
import Derived.Test.YtldiodhdefnlaaaGreatProg
import Derived.Ground.Names2Prog
import Derived.Ground.SlsfProg
namespace Go.Proofs.YtldiodhdefnlaaaGreat
set_option linter.unusedVariables false
set_option linter.unusedSimpArgs false
namespace specOne
open Go.ChangeShapes Go.WideShapes Go.ChangeAt Go.RowKit
open Go.ChangeMaps (open_string shut_string)
set_option maxRecDepth 100000 in
theorem lifted(os:Os)(started:os.Started)(H:Type)(enc:TypeId×Value->H):
 ReturnsInHanded {} Tryz.checked os 3 .any (Rows.specOneSpec.pre6 enc Tryz.prog Tryz.f3 Rows.specOneRow.domain false) (Rows.specOneSpec.post enc Tryz.prog Tryz.f3 false true false false):=by
 refine law.said (fn:=Tryz.f3) started (by kernel_rfl) Tryz.func3 ⟨rfl,fun H ds h=>?_⟩ (by kernel_rfl) (by kernel_rfl)
  (ChangeSpec.witness6 (enc:=enc) (C:=Tryz.checked) false ⟨#[],#[.agg #[.slice none 0 0,.slice none 0 0],.slice none 0 0],[]⟩ 8 (by kernel_rfl) (by kernel_rfl) (by kernel_rfl) (by kernel_rfl)) ?_
 ·match ds,h with
  |[_,_],_=>rfl
 ·intro W base args ds p ⟨hval0,hA,hsz,yB⟩
  have hval:∀(j:Nat) t v,Tryz.f3.params[j]?=some t->args[j]?=some v->Value.okWide Tryz.prog W .any base t v:=hval0;clear hval0;rw[Tryz.params3]at hA hval hsz;obtain⟨v0,vs0,d0,ds0,p0,q0,aal,rfl,rfl,h0,r0⟩:=trodAll_cons hA;obtain⟨v1,jY,d1,ds1,p1,q1,rfl,rfl,rfl,h1,r1⟩:=trodAll_cons r0;obtain⟨rfl,rfl,rfl⟩:=trodAll_nil r1;obtain rfl:args=#[v0,v1]:=by cases args;simp_all
  obtain⟨s0,h0,b0⟩:=bH.GU (hval 0 25 v0 rfl rfl) h0 hsz 0 rfl rfl;obtain⟨l1,e1,f1,g1⟩:=bL.open_ints Tryz.underlying26 Tryz.underlying3 (by kernel_rfl) (by kernel_rfl) (hval 1 26 v1 rfl rfl) h1 hsz 1 rfl rfl;exact bH.fin (walk W v0 s0 h0 b0 v1 l1 e1 f1 g1)
theorem proved:Rows.SpecOneSaid:=
 OpenClaim.holds_of_wide 3 Tryz.f3 rfl rfl rfl rfl rfl rfl rfl ⟨rfl,rfl,rfl,rfl,rfl⟩ rfl rfl rfl rfl rfl (by kernel_rfl) Tryz.func3 (by kernel_rfl)
  (of_decide_eq_true (by kernel_rfl)) (by unfold Func.isWrapper;rw[if_neg (of_decide_eq_false (by kernel_rfl))];exact⟨rfl,rfl⟩)
  (fun os started H enc _=>lifted os started H enc)
end specOne
end Go.Proofs.YtldiodhdefnlaaaGreat

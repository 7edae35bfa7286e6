/- The statement of SessionCredit (Upto), proved: for every input of the bounded bulk the call returns true and leaves its arguments as they were. -/
import Derived.Test.YtaobbfedlnddcaaGreatMgF
import Derived.Test.YtaobbfedlnddcaaGreatRows
import Derived.Test.YtaobbfedlnddcaaGreatProg
import Derived.Ground.Names2Prog
import Derived.Ground.SlsfProg
namespace Go.Proofs.YtaobbfedlnddcaaGreat
set_option linter.unusedVariables false
set_option linter.unusedSimpArgs false
open _root_.Bool renaming false->aE
open _root_.Go.OpenClaim renaming holds_of_cond->ae3
open _root_.Go.Proofs.Tryz renaming prog->aB
open _root_.Go.Value renaming slice->ap
open _root_.Option renaming some->aj,none->ak
namespace sessionCredit
open Go.ChangeShapes Go.WideShapes Go.ChangeAt Go.RowKit
open Go.ChangeMaps (open_string shut_string)
set_option maxRecDepth 100000 in
theorem lifted(os:Os)(started:os.Started)(H:Type)(enc:TypeId×Value->H)(F:Stop.Interp):
  ReturnsInHanded {} Tryz.checked os 4 .any ((Rows.OpenSpec.upto Rows.sessionCreditSpec).pre6 enc aB Tryz.f4 Rows.sessionCreditUptoRow.domain aE) (((Rows.OpenSpec.upto Rows.sessionCreditSpec).at F).post enc aB Tryz.f4 aE Bool.true aE aE):=by
 refine law.upto (fn:=Tryz.f4) started (by kernel_rfl) Tryz.func4 ⟨rfl,λH ds h=>?_⟩ (by kernel_rfl) (by kernel_rfl)
  (OpenSpec.witness (enc:=enc) (C:=Tryz.checked) (s:=Rows.OpenSpec.upto Rows.sessionCreditSpec) (k:=Rows.uptoSmall) I aE ⟨#[],#[Value.agg #[ap ak 0 0,ap ak 0 0],ap ak 0 0],[]⟩ 8 (by kernel_rfl) (by kernel_rfl) (by kernel_rfl)
   (x:=([.agg [.nil,.nil],.nil],[],[])) (by kernel_rfl) (by kernel_rfl) (by kernel_rfl)) ?_
 ·match ds,h with
  |[_,_],_=>rfl
 ·intro W base args ds p ⟨hval0,hA,hsz,Gc⟩ hk
  have hval:∀(j:Nat) t v,Tryz.f4.params[j]?=aj t->args[j]?=aj v->Value.okWide aB W .any base t v:=hval0;clear hval0;rw[Tryz.params4]at hA hval hsz;obtain⟨v0,vs0,d0,ds0,p0,q0,ahY,rfl,rfl,h0,r0⟩:=trodAll_cons hA;obtain⟨v1,nG,d1,ds1,p1,q1,rfl,rfl,rfl,h1,r1⟩:=trodAll_cons r0;obtain⟨rfl,rfl,rfl⟩:=trodAll_nil r1;obtain rfl:args=#[v0,v1]:=by cases args;simp_all
  obtain⟨s0,h0,b0⟩:=bZ.PF (hval 0 25 v0 rfl rfl) h0 hsz 0 rfl rfl;obtain⟨l1,w1,k1,z1⟩:=bZ.UW (hval 1 26 v1 rfl rfl) h1;exact bZ.fin (walk W v0 s0 h0 b0 v1 l1 w1 k1 z1 hk)
theorem proved:Rows.SessionCreditUptoSaid:=
 ae3 4 Tryz.f4 I I I I I I I ⟨rfl,rfl,rfl,rfl,rfl⟩ I I I I I (by kernel_rfl) Tryz.func4 (by kernel_rfl)
  (of_decide_eq_true (by kernel_rfl)) (by unfold Func.isWrapper;rw[if_neg (of_decide_eq_false (by kernel_rfl))];exact⟨rfl,rfl⟩)
  (λos started H enc _ F=>lifted os started H enc F)
end sessionCredit
end Go.Proofs.YtaobbfedlnddcaaGreat

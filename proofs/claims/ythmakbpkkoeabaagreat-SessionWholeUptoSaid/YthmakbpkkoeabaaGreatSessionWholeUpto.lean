/- The statement of SessionWhole (Upto), proved: for every input of the bounded bulk the call returns true and leaves its arguments as they were. -/
import Derived.Test.YthmakbpkkoeabaaGreatMgF
import Derived.Test.YthmakbpkkoeabaaGreatRows
import Derived.Test.YthmakbpkkoeabaaGreatProg
import Derived.Ground.Names2Prog
import Derived.Ground.SlsfProg
namespace Go.Proofs.YthmakbpkkoeabaaGreat
set_option linter.unusedVariables false
set_option linter.unusedSimpArgs false
open _root_.Bool renaming false->aF
open _root_.ByteArray renaming empty->ahB
open _root_.Go.OpenClaim renaming holds_of_cond->ahC
open _root_.Go.Proofs.Tryz renaming prog->aE
open _root_.Go.Value renaming slice->av
open _root_.Option renaming some->aj,none->ak
namespace sessionWhole
open Go.ChangeShapes Go.WideShapes Go.ChangeAt Go.RowKit
open Go.ChangeMaps (open_string shut_string)
set_option maxRecDepth 100000 in
theorem lifted(os:Os)(started:os.Started)(H:Type)(enc:TypeId×Value->H)(F:Stop.Interp):
  ReturnsInHanded {} Tryz.checked os 3 .any ((Rows.OpenSpec.upto Rows.sessionWholeSpec).pre6 enc aE Tryz.f3 Rows.sessionWholeUptoRow.domain aF) (((Rows.OpenSpec.upto Rows.sessionWholeSpec).at F).post enc aE Tryz.f3 aF Bool.true aF aF):=by
 refine law.upto (fn:=Tryz.f3) started (by kernel_rfl) Tryz.func3 ⟨rfl,λH ds h=>?_⟩ (by kernel_rfl) (by kernel_rfl)
  (OpenSpec.witness (enc:=enc) (C:=Tryz.checked) (s:=Rows.OpenSpec.upto Rows.sessionWholeSpec) (k:=Rows.uptoSmall) I aF ⟨#[],#[Value.agg #[av ak 0 0,av ak 0 0],.string ahB,av ak 0 0,av ak 0 0],[]⟩ 8 (by kernel_rfl) (by kernel_rfl) (by kernel_rfl)
   (x:=([.agg [.nil,.nil],.lit (.string []),.nil,.nil],[],[])) (by kernel_rfl) (by kernel_rfl) (by kernel_rfl)) ?_
 ·match ds,h with
  |[_,_,_,_],_=>rfl
 ·intro W base args ds p ⟨hval0,hA,hsz,Hp⟩ hk
  have hval:∀(j:Nat) t v,Tryz.f3.params[j]?=aj t->args[j]?=aj v->Value.okWide aE W .any base t v:=hval0;clear hval0;rw[Tryz.params3]at hA hval hsz;obtain⟨v0,vs0,d0,ds0,p0,q0,akN,rfl,rfl,h0,r0⟩:=trodAll_cons hA;obtain⟨v1,n9,d1,ds1,p1,q1,rfl,rfl,rfl,h1,r1⟩:=trodAll_cons r0;obtain⟨v2,lJ,d2,ds2,p2,q2,rfl,rfl,rfl,h2,r2⟩:=trodAll_cons r1;obtain⟨v3,vs3,d3,ds3,p3,q3,rfl,rfl,rfl,h3,r3⟩:=trodAll_cons r2;obtain⟨rfl,rfl,rfl⟩:=trodAll_nil r3;obtain rfl:args=#[v0,v1,v2,v3]:=by cases args;simp_all
  obtain⟨s0,h0,b0⟩:=bZ.Q_ (hval 0 25 v0 rfl rfl) h0 hsz 0 rfl rfl;obtain⟨a1,rfl,rfl,rfl,w1⟩:=open_string Tryz.underlying9 (hval 1 9 v1 rfl rfl) h1;have z1:a1.data.toList.length<=140737488351232:=sized_string hsz (j:=1) I I;obtain⟨l2,f2,o2,n2⟩:=bZ.Gp (hval 2 26 v2 rfl rfl) h2;obtain⟨l3,f3,o3,n3⟩:=bZ.Gp (hval 3 26 v3 rfl rfl) h3;rw[bZ.Yi a1];exact bZ.fin (walk W v0 s0 h0 b0 a1.data.toList z1 v2 l2 f2 o2 n2 v3 l3 f3 o3 n3 hk)
theorem proved:Rows.SessionWholeUptoSaid:=
 ahC 3 Tryz.f3 I I I I I I I ⟨rfl,rfl,rfl,rfl,rfl⟩ I I I I I (by kernel_rfl) Tryz.func3 (by kernel_rfl)
  (of_decide_eq_true (by kernel_rfl)) (by unfold Func.isWrapper;rw[if_neg (of_decide_eq_false (by kernel_rfl))];exact⟨rfl,rfl⟩)
  (λos started H enc _ F=>lifted os started H enc F)
end sessionWhole
end Go.Proofs.YthmakbpkkoeabaaGreat

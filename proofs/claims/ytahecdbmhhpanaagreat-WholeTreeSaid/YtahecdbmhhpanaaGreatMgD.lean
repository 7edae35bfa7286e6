/- Part 4 of what WholeTree needs: ItD, SortJ, ItE, ItF, ItG, ItA, ItP, OutA, WrG, Opens, CfgL, SpecL, SpecS, SpecI, SpecJ, CfgP, SmX, SmY, SmPL, SpecN, CfgQ, CfgR, SpecP, SmA, SmPk, SpecQ, SpecC, CountB, CountC, CountD, LlM, LrA. -/
import Derived.Test.YtahecdbmhhpanaaGreatMgC
import Derived.Shelf.SlGeneric
import Derived.Shelf.SlSortCmp.NoneTotal
import Derived.Ground.SlsfProg
import Derived.Lib.IndexMore
namespace Go.Proofs.YtahecdbmhhpanaaGreat
set_option linter.unusedVariables false
set_option linter.unusedSimpArgs false
open _root_.And renaming intro->cP
open _root_.Array renaming getElem?_eq_some_iff->lL,getElem?_toList->re,getElem?_eq_getElem->yA,length_toList->uj,getElem?_modify->EE,toList->abV,ext'->abW
open _root_.Array.mk renaming injEq->qc
open _root_.Bool renaming true->aB,false->aE,and_eq_true->eE,or_eq_true->ko,true_and->yY,false_and->Lf,false_eq_true->abX
open _root_.Decidable renaming of_not_not->rC
open _root_.False renaming elim->AY
open _root_.Go.Instr renaming build->da
open _root_.Go.IntKind renaming i64->av,wrap_u8->KN,u8->KO
open _root_.Go.Proofs.Tryz renaming prog->aC
open _root_.Go.Value renaming slice->ak,int->ap,pointer->aH,agg->aP,oneCell'->fV,cells->oX
open _root_.Go.Value.agg renaming injEq->nS
open _root_.Go.World renaming ownsRow_nil->Sm
open _root_.Int renaming toNat_natCast->de,eq_ofNat_of_zero_le->fJ,le_refl->jg,toNat_of_nonneg->uP
open _root_.List renaming getElem?_eq_getElem->bL,getD_eq_getElem?_getD->cH,length_append->bT,getElem_mem->bX,getElem?_eq_some_iff->dK,drop_eq_getElem_cons->dL,all_cons->cY,length_cons->dj,replicate->c_,all_nil->db,mem_cons->dw,mem_singleton->ez,take_succ_eq_append_getElem->ic,size_toArray->eT,append_assoc->eu,length_map->dY,map_append->eK,take_of_length_le->gD,flatMap_append->ie,append_nil->fj,not_mem_nil->fC,map_cons->fm,range->d_,nil_append->fD,getElem?_map->iN,getElem?_append_left->lP,mem_map->fE,mem_append->ib,mem_of_getElem?->kr,mem_iff_getElem->ku,getElem?_eq_none->nF,length_take->jr,take_length->nU,take_append_drop->oK,getElem?_toArray->oY,length_singleton->tu,ext_getElem?->mf,length_nil->nG,getElem_map->oR,all_eq_true->pB,cons_append->mg,drop_length->wj,getElem?_take->yD,map_nil->mU,mem_filterMap->BJ,map_singleton->Sn,map_replicate->Sq,range_succ->vD,flatten_append->abY,take->abZ,drop->ab0
open _root_.List.cons renaming injEq->fL,inj->yR
open _root_.Nat renaming le_refl->aX,zero_le->bC,zero_add->cU,le_trans->eL,lt_of_lt_of_le->jt,blt->dx,lt_succ_self->tv,mul_le_mul->oT,mul_le_mul_right->yf,succ_mul->oL,lt_irrefl->Lg,mod_lt->A9,blt_eq->Fy
open _root_.Option renaming some->ah,none->aj
open _root_.Option.some renaming injEq->dM,inj->pD
open _root_.True renaming intro->cZ
open _root_.UInt8 renaming ofNat->fN
open _root_.Vector renaming replicate->eg,getElem_ofFn->kC,ext->kD,getElem_set->vH,getElem_toList->BT,toList_replicate->Sr,ofFn->rp,toList_set->ab1
set_option maxHeartbeats 16000000
namespace cB
open Go.RowKit cL dV aL dI dA bK cX
def Gf(c:bK.Item->Nat)(x:bK.Item):Value:=ap av (c x:Int)
def BU(c:bK.Item->Nat)(it:bK.Item)(x:bK.Item):Nat:=if x=it then c x+1 else c x
structure sb(c:bK.Item->Nat)(out:List bK.Item)(b:Nat):Prop where
 zero:∀x,c x=0↔x∉out
 le:∀x,c x<=b
theorem sb.put{c:bK.Item->Nat}{out:List bK.Item}{b:Nat}(h:sb c out b)(it:bK.Item):sb (BU c it) (more out it) (b+2):=by
 refine⟨λx=>?_,λx=>?_⟩
 ·unfold BU
  by_cases e:x=it
  ·subst e
   rw[if_pos I]
   constructor
   intro h;omega;intro h;exact absurd (uN.2 (.inr I)) h
  rw[if_neg e,h.zero x];rw[uN]
  constructor
  intro h1 h2;exact h2.elim h1 e;intro h1 h2;exact h1 (.inl h2)
 unfold BU;have:=h.le x;split<;>omega
def HO(g5 gm g6 b:Nat)(v:Value)(c:bK.Item->Nat)(out:List bK.Item):List b_:=
 [aK g5 #[.map (ah gm)] 299,oP K3 gm (ap av 0) (Gf c) b,aK g6 #[v] 256,bm 261 3 v out.length (out.flatMap iS)]
theorem ae8(x:bK.Item):∀u∈iS x,u.oneCell'=true:=by
 intro u hu;simp only[iS,dw,fC,or_false]at hu;rcases hu with rfl|rfl|rfl<;>rfl
theorem Oj(g5 gm g6 b:Nat)(v:Value)(c:bK.Item->Nat)(out:List bK.Item)(it:bK.Item)(hit:K3.ok it)(hp:sb c out b)(hb:b+2<=1152921504606846976)(ho:out.length+1<=1000000)(w:World)(B:bV)(hm:Mem B (HO g5 gm g6 b v c out) w):
 Calls aC 139 #[aP (iS it).toArray,aH (ah ⟨g5,0,aj⟩),aH (ah ⟨g6,0,aj⟩)] w (dz ⟨λ_=>True,λ_=> .tuple #[],λv'=>HO g5 gm g6 (b+2) v' (BU c it) (more out it)⟩ B):=by
 unfold HO at hm;have hle:=hp.le it;have hz:=hp.zero it;obtain⟨n,hn⟩:∃n,c it=n:=⟨_,rfl⟩;obtain⟨F,hF⟩:∃F,Gf c=F:=⟨_,rfl⟩;obtain⟨F',hF'⟩:∃F',Gf (BU c it)=F':=⟨_,rfl⟩;have hcv:F it=ap av (n:Int):=by rw[<-hF,<-hn];rfl
 have hF1:F' it=ap av ((n+1:Nat):Int):=by rw[<-hF',<-hn];show ap .i64 ((BU c it it:Nat):Int)=_;unfold BU;rw[if_pos I]
 have w7:∀y,K3.ok y->F' y=if y=it then ap av ((n+1:Nat):Int)else F y:=λy _=>by
  rw[<-hF',<-hF,<-hn];show ap .i64 ((BU c it y:Nat):Int)=if y=it then _ else ap .i64 ((c y:Nat):Int)
  unfold BU
  by_cases e:y=it
  subst e;rw[if_pos I,if_pos I];rw[if_neg e,if_neg e]
 rw[hF]at hm;rw[hn]at hle hz;clear hp;refine dT hm (args:=[aP (iS it).toArray,aH (ah ⟨g5,0,aj⟩),aH (ah ⟨g6,0,aj⟩)]) (n:=18) Tryz.func139 I I I ?_;refine bZ (bx (bH I I I λg3=>?_));refine zL ?_
 try refine GA ?_
 (repeat refine bZ ?_)
 refine ml (ι:=Unit) (λ_=>True) (λ_=>[(1,aH (ah ⟨g5,0,aj⟩)),(2,aH (ah ⟨g6,0,aj⟩)),(3,aH (ah ⟨g3,0,aj⟩))]) (λ_=>[aK g5 #[.map (ah gm)] 299,oP K3 gm (ap av 0) F' (b+1+1),aK g6 #[v] 256,bm 261 3 v out.length (out.flatMap iS),aK g3 (iS it).toArray 261]) ?_ ?_
 ·refine dG ([aK g5 #[.map (ah gm)] 299,aK g3 (iS it).toArray 261]) (.calm 0 (.calm 1 (.two 2 (.calm 3 (.one 4 (.calm 5 (.one 6 (.done))))) 4 (.calm 5 (.one 2 (.calm 3 (.one 6 (.done)))))))) (bY [0,4]) ?_
  repeat(first|refine GW ?_|(refine GN ?_;first|refine QW (aw (v:= .map (ah gm)) aI.ty I (aD (i:=0) I I)) ?_|refine QW (aJ (i:=1) aI.ty I I I) ?_))
  refine e_ I I ?_ ?_
  ·refine dy (rO K3 bM.eq oH (i:=1) I I (x:=it) I hit hcv) I I I (aO (bY [0,4]) ?_)
   repeat(first|(refine GN ?_;first|refine QW QP ?_|refine QW (dN (r:=((n+1:Nat):Int)) I I J J J) ?_|refine GX ?_)|refine GW ?_)
   refine aM I (NK K3 bM.eq oH (i:=1) I I (x:=it) I hit J I λst=>aO (bY [0,4]) ?_)
   try refine GW ?_
   refine aM I (I3 K3 F' bM.eq (i:=1) I I I I hit J w7 (aO (bY [0,4]) ?_))
   try refine GW ?_
   exact eQ () trivial (by repeat' (first|exact cZ|refine cP I ?_)) I
  refine NK K3 bM.eq oH (i:=1) I I (x:=it) I hit J I λst=>aO (bY [0,4]) ?_
  try refine GW ?_
  refine aM I (dy (abl K3 bM.eq oH (i:=1) I I (x:=it) I hit hcv) I I I (aO (bY [0,4]) ?_))
  repeat(first|(refine GN ?_;first|refine QW QP ?_|refine QW (dN (r:=((n+1:Nat):Int)) I I J J J) ?_|refine GX ?_)|refine GW ?_)
  refine aM I (I3 K3 F' bM.eq (i:=1) I I I I hit J w7 (aO (bY [0,4]) ?_))
  try refine GW ?_
  exact eQ () trivial (by repeat' (first|exact cZ|refine cP I ?_)) I
 rintro⟨⟩ _
 by_cases c1:it∈out
 ·have hm1:more out it=out:=if_pos c1
  rw[hm1];have hn0:n≠0:=λe=>hz.1 e c1;clear w7 hcv
  repeat(first|refine GC ?_|refine gV (aw (v:= .map (ah gm)) aI.ty I (aD (i:=0) I I)) ?_|refine gV (aJ (i:=4) aI.ty I I I) ?_|refine gV (rO K3 bM.eq oH (i:=1) I I (x:=it) I hit hF1) ?_|refine gV (dc (b:=aE) I I (decide_eq_false J)) ?_|refine GB ?_)
  exact oO I λw hm=>hm.cg (S:=⟨λ(_:Value)=>True,λ_=> .tuple #[],λv'=>HO g5 gm g6 (b+2) v' (BU c it) out⟩) v trivial [0,1,2,3] alt (by unfold HO;rw[<-hF'];rfl)
 ·have hm1:more out it=out++[it]:=if_neg c1
  rw[hm1];have hn0:n=0:=hz.2 c1;clear w7 hcv
  repeat(first|refine GC ?_|refine gV (aw (v:= .map (ah gm)) aI.ty I (aD (i:=0) I I)) ?_|refine gV (aJ (i:=4) aI.ty I I I) ?_|refine gV (rO K3 bM.eq oH (i:=1) I I (x:=it) I hit hF1) ?_|refine gV (dc (b:=aB) I I (decide_eq_true J)) ?_|refine gV (aw (v:=v) aI.ty I (aD (i:=2) I I)) ?_|refine GB ?_)
  refine fz (cs:=(iS it).toArray) [aP (iS it).toArray] I I I (by intro v hv;simp only[dw,fC,or_false]at hv;subst hv;rfl) I I I λg16=>?_;refine zL ?_;refine eM (i:=3) (e:=261) (size:=3) (bytes:=24) (m:=out.length) (xs:=out.flatMap iS) (k:=1) (ys:=iS it) I (kT (i:=5) I (λj u h=>by simpa using h) (aX 1) alt) I I I (ae8 it) J J I λv'=>?_;refine zL ?_;refine aU (i:=3) I λjm mz=>?_;refine bD (i:=2) I I I jm mz I ?_;refine zL ?_
  try refine GA ?_
  exact oO I λw hm=>hm.cg (S:=⟨λ(_:Value)=>True,λ_=> .tuple #[],λv'=>HO g5 gm g6 (b+2) v' (BU c it) (out++[it])⟩) v' trivial [0,1,2,3] alt (by unfold HO;rw[<-hF',ie,bT];rfl)
open Go.Shelf
def Ss:Go.Shelf.Ren:=⟨λ|6=>142|15=>158|14=>159|28=>179|29=>180|20=>181|21=>182|22=>183|23=>184|24=>185|25=>186|26=>187|27=>188|46=>197|47=>193|48=>194|49=>198|50=>199|57=>201|n=>n,λ|22=>256|24=>261|25=>304|3=>3|39=>264|0=>0|53=>343|55=>92|4=>4|46=>337|45=>336|50=>154|5=>5|9=>9|66=>352|70=>124|76=>359|77=>360|n=>n,λ|n=>n⟩
theorem ab2:Go.Proofs.SlLaysF0.n6 aC Ss:={
 mixed:=by rfl
 f6:=⟨Tryz.f142.name,by rfl,Tryz.func142.trans (congrArg ah (by rfl))⟩
 f14:=⟨Tryz.f159.name,by rfl,Tryz.func159.trans (congrArg ah (by rfl))⟩
 f15:=Tryz.func158.trans (congrArg ah (by rfl))
 f20:=⟨Tryz.f181.name,by rfl,Tryz.func181.trans (congrArg ah (by rfl))⟩
 f21:=⟨Tryz.f182.name,by rfl,Tryz.func182.trans (congrArg ah (by rfl))⟩
 f22:=⟨Tryz.f183.name,by rfl,Tryz.func183.trans (congrArg ah (by rfl))⟩
 f23:=⟨Tryz.f184.name,by rfl,Tryz.func184.trans (congrArg ah (by rfl))⟩
 f24:=⟨Tryz.f185.name,by rfl,Tryz.func185.trans (congrArg ah (by rfl))⟩
 f25:=⟨Tryz.f186.name,by rfl,Tryz.func186.trans (congrArg ah (by rfl))⟩
 f26:=⟨Tryz.f187.name,by rfl,Tryz.func187.trans (congrArg ah (by rfl))⟩
 f27:=⟨Tryz.f188.name,by rfl,Tryz.func188.trans (congrArg ah (by rfl))⟩
 f28:=Tryz.func179.trans (congrArg ah (by rfl))
 f29:=Tryz.func180.trans (congrArg ah (by rfl))
 f46:=⟨Tryz.f197.name,by rfl,Tryz.func197.trans (congrArg ah (by rfl))⟩
 f47:=Tryz.func193.trans (congrArg ah (by rfl))
 f48:=Tryz.func194.trans (congrArg ah (by rfl))
 f49:=⟨Tryz.f198.name,by rfl,Tryz.func198.trans (congrArg ah (by rfl))⟩
 f50:=⟨Tryz.f199.name,by rfl,Tryz.func199.trans (congrArg ah (by rfl))⟩
 f57:=⟨Tryz.f201.name,by rfl,Tryz.func201.trans (congrArg ah (by rfl))⟩
 t0:=Tryz.underlying0
 a0:=Tryz.isAgg0
 z0:=Tryz.sizeOf0
 v0:=Tryz.zeroValue0
 t3:=Tryz.underlying3
 a3:=Tryz.isAgg3
 z3:=Tryz.sizeOf3
 v3:=Tryz.zeroValue3
 t4:=Tryz.underlying4
 a4:=Tryz.isAgg4
 z4:=Tryz.sizeOf4
 v4:=Tryz.zeroValue4
 t5:=Tryz.underlying5
 a5:=Tryz.isAgg5
 z5:=Tryz.sizeOf5
 v5:=Tryz.zeroValue5
 t9:=Tryz.underlying9
 a9:=Tryz.isAgg9
 z9:=Tryz.sizeOf9
 v9:=Tryz.zeroValue9
 t22:=Tryz.underlying256
 a22:=Tryz.isAgg256
 z22:=Tryz.sizeOf256
 v22:=Tryz.zeroValue256
 t25:=Tryz.underlying304
 a25:=Tryz.isAgg304
 z25:=Tryz.sizeOf304
 v25:=Tryz.zeroValue304
 t39:=Tryz.underlying264
 a39:=Tryz.isAgg264
 z39:=Tryz.sizeOf264
 v39:=Tryz.zeroValue264
 t45:=Tryz.underlying336
 a45:=Tryz.isAgg336
 z45:=Tryz.sizeOf336
 v45:=Tryz.zeroValue336
 t46:=Tryz.underlying337
 a46:=Tryz.isAgg337
 z46:=Tryz.sizeOf337
 v46:=Tryz.zeroValue337
 t50:=Tryz.underlying154
 a50:=Tryz.isAgg154
 z50:=Tryz.sizeOf154
 v50:=Tryz.zeroValue154
 t53:=Tryz.underlying343
 a53:=Tryz.isAgg343
 z53:=Tryz.sizeOf343
 v53:=Tryz.zeroValue343
 t55:=Tryz.underlying92
 a55:=Tryz.isAgg92
 z55:=Tryz.sizeOf92
 v55:=Tryz.zeroValue92
 t66:=Tryz.underlying352
 a66:=Tryz.isAgg352
 z66:=Tryz.sizeOf352
 v66:=Tryz.zeroValue352
 t70:=Tryz.underlying124
 a70:=Tryz.isAgg124
 z70:=Tryz.sizeOf124
 v70:=Tryz.zeroValue124
 t76:=Tryz.underlying359
 a76:=Tryz.isAgg359
 z76:=Tryz.sizeOf359
 v76:=Tryz.zeroValue359
 t77:=Tryz.underlying360
 a77:=Tryz.isAgg360
 z77:=Tryz.sizeOf360
 v77:=Tryz.zeroValue360}
end cB
namespace cB
open Go.RowKit cL dV bK Go.Sort
theorem Su(w:World)(n g:Nat)(d:Array Value)(os:Array Obj){k:Nat}(hk:k<w.heap.size)(hg:k≠g):(grow (putRow id (Go.Sort.ahead w n) g 0 d) os).heap[k]?=w.heap[k]?:=by
 rw[heap_grow_old _ _ (by rw[size_putRow];exact hk)];show(w.heap.modify g _)[k]?=w.heap[k]?
 rw[EE,if_neg (λh=>hg h.symm)]
theorem ab3{B:bV}{w:World}{e:TypeId}{g cap m size:Nat}{xs:List Value}(hm:Mem B [bm e size (ak (ah ⟨g,0,aj⟩) m cap) m xs] w)(d:Array Value)(hd:d.size=m*size)(n:Nat)(os:Array Obj):
 Mem B [bm e size (ak (ah ⟨g,0,aj⟩) m cap) m d.toList] (grow (putRow id (Go.Sort.ahead w n) g 0 d) os):=by
 have ho:w.ownsRow 0 e size (ak (ah ⟨g,0,aj⟩) m cap) m xs:=hm.get (i:=0) I;obtain⟨hl,hr⟩:=ho;rcases hr with⟨h,_⟩|⟨g2,ahf,oM,hv,_,hg,hc,hx,hs,ht⟩
 ·cases h
 cases hv
 have NA:B.may g:=(hm.owns.all 0 _ I).2 g (.inl I);have hgw:g<w.heap.size:=(lL.1 hg).1;have aaS:(grow (putRow id (Go.Sort.ahead w n) g 0 d) os).heap[g]?=ah (.cells (putCells id 0 d oM) e (0,0)):=by
  rw[heap_grow_old _ _ (by rw[size_putRow];exact hgw)];show(w.heap.modify g (onCells (putCells id 0 d)))[g]?=_
  rw[EE,if_pos I,hg];rfl
 have hle:m*size<=cap*size:=yf _ hc;refine⟨⟨hm.low.os,hm.low.tape,hm.low.output,?_,λk hk hx=>?_⟩,fg.one ⟨?_,.inr ⟨g,cap,_,rfl,bC _,aaS,hc,hx,?_,?_⟩⟩ λk hk=>?_⟩
 ·rw[size_grow,size_putRow];exact eL hm.low.size (Nat.le_add_right _ _)
 ·have hkg:k≠g:=λe=>by
   subst e;rcases NA with h|h
   omega;exact hx h
  rw[Su w n g d os (jt hk hm.low.size) hkg];exact hm.low.block k hk hx
 ·rw[uj,hd]
 ·unfold putCells;rw[Array.size_mapIdx];exact hs
 ·apply mf
  intro j;rw[yD]
  by_cases hj:j<m*size
  ·have hjc:j<oM.size:=by omega
   rw[if_pos hj,re,re];unfold putCells;rw[Array.getElem?_mapIdx,yA hjc,Option.map_some,if_pos ⟨bC _,by omega⟩,Nat.sub_zero,getElem!_pos d j J,yA (by omega:j<d.size)];rfl
  rw[if_neg hj,re,Array.getElem?_eq_none J]
 ·rcases hk with h|h
  simp only[bm,Value.ownBlock,dM]at h;subst h;exact NA;exact h.elim
theorem ahL:SWO (ltOf NU):=⟨UO,λ_ _ _ h1 h2=>ahx h1 h2,λx y z h1 h2=>by
 have h1:RV x y=false:=h1;have h2:RV y z=false:=h2;show RV x z=aE
 rw[RW]at*;omega⟩
theorem U3(l:List bK.Item):(flatK iS 3 l.toArray).toList=l.flatMap iS:=by
 have hL:(l.flatMap iS).length=l.length*3:=nD mc l;apply mf;intro t
 by_cases ht:t<l.length*3
 ·have hd:t/3<l.length:=by omega
  have h1:=get_flatK iS 3 l.toArray t (by simpa using ht);rw[getElem!_pos (flatK iS 3 l.toArray) t (by simpa using ht),getElem!_pos l.toArray (t/3) (by simpa using hd)]at h1;have h2:=uJ (c:=3) (l.map iS) (λx hx=>by obtain⟨y,_,rfl⟩:=fE.1 hx;exact mc y) (t/3) (t %3) (by simpa using hd) (A9 _ alt);rw[show t/3*3+t %3=t by omega,oR]at h2;rw[re,yA (by simpa using ht),h1];show _=(l.map iS).flatten[t]?
  rw[h2];have h3:t %3<(iS l[t/3]).length:=by rw[mc];exact A9 _ alt
  rw[bL h3];simp only[List.getElem_toArray];rw[getElem!_pos (iS l[t/3]) (t %3) h3]
 rw[nF (by rw[uj,size_flatK];simp;omega),nF J]
theorem Sv{w:World}{e:TypeId}{g cap m size:Nat}{xs:List Value}(ho:w.ownsRow 0 e size (ak (ah ⟨g,0,aj⟩) m cap) m xs)(d:Array Value)(hd:d.toList=xs):Holds id w g 0 d/\g<w.heap.size:=by
 obtain⟨hl,hr⟩:=ho;rcases hr with⟨h,_⟩|⟨g2,ahf,oM,hv,_,hg,hc,hx,hs,ht⟩
 cases h
 cases hv
 refine⟨λj hj=>?_,(lL.1 hg).1⟩;have hle:m*size<=cap*size:=yf _ hc;have hj2:j<xs.length:=by rw[<-hd];simpa using hj
 have hcj:oM[j]?=ah d[j]:=by
  have:=congrArg (λl=>l[j]?) ht;rw[yD,if_pos J,re,<-hd,re,yA hj]at this;exact this
 refine⟨?_,?_⟩;rw[cell_of_row w g (0+j) _ _ _ hg,cU,hcj,getElem!_pos d j hj];rfl;unfold World.frozen?;rw[hg];simp
def ae9:Prop:=∀(x y:bK.Item) (w:World),Calls aC 143 #[aP (iS x).toArray,aP (iS y).toArray] w λe w'=>e= .returned (ap av (NU x y))/\∃q os',w'=grow (w.drewN q) os'
theorem ae_(akP:ae9)(v:Value)(l:List bK.Item)(w:World)(B:bV)(hm:Mem B [bm 261 3 v l.length (l.flatMap iS)] w)(hl:l.length<4611686018427387904):
 Calls aC 142 #[v,.func (.func 143) #[] #[]] w (dz ⟨λ(_:Unit)=>True,λ_=> .tuple #[],λ_=>[bm 261 3 v l.length ((vX l).flatMap iS)]⟩ B):=by
 have ho:w.ownsRow 0 261 3 v l.length (l.flatMap iS):=hm.get (i:=0) I;have Be:=ho;rcases ho.2 with⟨rfl,h0⟩|⟨g,cap,oM,rfl,_,hg,hc,hx,hs,ht⟩
 ·obtain rfl:l=[]:=List.length_eq_zero_iff.1 h0
  refine(AnyF.slices_SortFunc_none ab2 aj 0 _ w).mono λe w' ⟨he,hw⟩=>⟨(),trivial,he,?_⟩;rw[hw];exact(by simpa[vX]using hm)
 ·obtain⟨h1,h2⟩:=Sv Be (flatK iS 3 l.toArray) (U3 l)
  have akQ:CmpLays aC 143 #[] iS 3 NU g 0 l.toArray.size w:=λm os dk _ x y=>by
   have h:=akP x y (sortWorldK iS 3 w g 0 m dk os)
   simpa using h
  have h:=AnyQ.slices_SortFunc_total ab2 3 Tryz.isAgg261 Tryz.sizeOf261 iS mc (λx v hv=>by simp only[iS,dw,fC,or_false]at hv;rcases hv with rfl|rfl|rfl<;>rfl) NU ahL 143 #[] g 0 cap l.toArray w aF.en akQ h1 h2 (by simpa using hl) W_;have hz:l.toArray.size=l.length:=by simp
  rw[hz]at h;refine h.mono λe w' ⟨he,n,os,hw⟩=>⟨(),trivial,he,?_⟩;have hlen:(vX l).length=l.length:=NW l;have hq:=ab3 hm (flatK iS 3 (vX l).toArray) (by rw[size_flatK];simp[hlen]) n os;rw[U3]at hq;rw[hw];exact hq
end cB
namespace cB
open Go.RowKit cL dV aL dI dA bK cX
def SlB(B:bV)(v:Value)(n:Nat)(xs:List Value):Prop:=
 ∃base cap,v=ak base n cap/\n<=cap/\cap<=maxLen/\(0<n->∃b off,base=ah ⟨b,off,aj⟩/\BD B b/\Rd B.w b off xs)
theorem U4{l:List aL.Prod}{w0:World}{W:bV}{vb:Nat->Value}{k dn:Nat}{x:Option Nat}{bb:Option Addr}{cc m:Nat}(ho:ly w0 W)(hv:Xh (λq=>q<w0.heap.size) w0 vb l)(hk:k<=l.length)(hx:x.isSome=decide (k=l.length))(hb:aeN vb k x=ak bb m cc)(hd:dn<(dR l (k:Int)).length):
 ∃b off,bb=ah ⟨b,off,aj⟩/\∀(L:List b_) (i:Nat),L[i]?=ah (BQ x)->∀j u,(dr (dR l (k:Int))[dn])[j]?=ah u->At W L ⟨b,off+dn*2+j,aj⟩ u:=by
 cases x with
 |some g=>
  have hk:k=l.length:=by simpa using hx
  subst hk;have e:dR l (l.length:Int)=[(2,0)]:=by unfold dR;rw[if_pos I]
  have hb:ak (ah ⟨g,0,aj⟩) 1 1=ak bb m cc:=hb
  cases hb
  refine⟨g,0,rfl,λL i hi j u hj=>?_⟩;have hd0:dn=0:=by rw[e]at hd;simpa using hd
  subst hd0;simp only[e,List.getElem_cons_zero]at hj;rw[show 0+0*2+j=j by omega];exact aD hi (by simpa[dr]using hj)
 | none=>
  have qD:k<l.length:=by
   have:¬k=l.length:=by simpa using hx
   omega
  have e:dR l (k:Int)=(a_ l (k:Int)).2:=by unfold dR;rw[if_neg J]
  have hs:=(hv k qD).flat (f:=dr) alt;have hb:vb k=ak bb m cc:=hb;rw[hb]at hs;obtain⟨base,cap,h1,_,_,h3⟩:=hs
  cases h1
  have PA:dn<(a_ l (k:Int)).2.length:=by rw[<-e];exact hd
  obtain⟨b,off,rfl,hr⟩:=h3 J;refine⟨b,off,rfl,λL i _ j u hj=>?_⟩;simp only[e]at hj;exact pI (W:=W) (L:=L) F3 (off:=off) (λq y hq=>eY ho (hr q y hq)) PA j u hj
theorem Xu(g:dD){it:bK.Item}(h:it.2.2.toNat<64):oV (kE g) it<18446744073709551616:=by
 have h1:kE g it.1 it.2.1<18446744073709551616:=UW alt;unfold oV;split;exact Nat.or_lt_two_pow (n:=64) (Nat.xor_lt_two_pow (n:=64) h1 alt) (Nat.pow_lt_pow_right alt h);exact h1
theorem yZ{i bits:Nat}{out:List bK.Item}:∀k,(fG i bits out k).length<=out.length+k
 |0=>aX _
 |k+1=>by
  rw[fG];have:=yZ (i:=i) (bits:=bits) (out:=out) k;have h2:(more (fG i bits out k) ((i:Int),0,(k:Int))).length<=(fG i bits out k).length+1:=by unfold more;split<;>simp
  split<;>omega
theorem Gg{l:List aL.Prod}{T:Nat}{N:Int}{bits:Nat}{out:List bK.Item}:∀i,(fH l T N bits out i).length<=out.length+i*(T+1)
 |0=>by rw[Nat.zero_mul];exact aX _
 |i+1=>by
  rw[fH,oL];have:=Gg (l:=l) (T:=T) (N:=N) (bits:=bits) (out:=out) i;have h2:=yZ (i:=i) (bits:=bits) (out:=fH l T N bits out i) (T+1);split<;>omega
theorem DG{L:List b_}{is:List Nat}{o:b_}(h:o∈is.filterMap λi=>L[i]?):o∈L:=by
 obtain⟨i,_,hi⟩:=BJ.1 h;exact kr hi
def opL(g:dD)(bp:Option Addr)(cp go gm:Nat)(f:RK->Option Value)(c:Nat):List b_:=[aK go (Cv g.aQ g.bB (ak bp g.az.length cp) gm).toArray 297,fq jc gm f c]
theorem Gh{κ:Type}[DecidableEq κ]:∀(l D:List κ),(dO D l).length<=D.length+l.length
 |[],D=>by simp[dO]
 |k::r,D=>by
  rw[dO];have:=Gh r (if k∈D then D else D++[k]);have h2:(if k∈D then D else D++[k]).length<=D.length+1:=by split<;>simp
  rw[dj];omega
theorem ab4{l:List aL.Prod}{T:Nat}{x:bK.Item}(h:ef l T x)(hl:l.length<=40)(hw:∀q∈l,q.2.length<=8)(hT:T<=30):K3.ok x:=by
 obtain⟨a1,a2,a3,a4,a5,a6⟩:=h;have:=ng (l:=l) (p:=x.1) hw;exact⟨⟨by omega,by omega⟩,⟨by omega,by omega⟩,by omega,by omega⟩
def wk(g:dD)(T:Nat)(l0:List bK.Item)(bp:Option Addr)(cp go gm c:Nat):Spec ((RK->Option Value)×Nat×Value):=
 ⟨λx=>jZ (kE g) x.1/\x.2.1<=c+12000,λx=>x.2.2,λx=>opL g bp cp go gm x.1 x.2.1++[bm 261 3 x.2.2 (jY g.az T (kE g) l0).length ((jY g.az T (kE g) l0).flatMap iS)]⟩
theorem aje{i j:Nat}(hi:i<=1000)(hj:j<=1000):K3.ok ((i:Int),0,(j:Int)):=by
 show(-9223372036854775808<=(i:Int)/\(i:Int)<=9223372036854775807)/\(-9223372036854775808<=(0:Int)/\(0:Int)<=9223372036854775807)/\(-9223372036854775808<=(j:Int)/\(j:Int)<=9223372036854775807)
 omega
theorem Jo(a c:Int)(w:World):(da 261 #[(0,ap av a),(2,ap av c)]).run aC w= .ok (aP #[ap av a,ap av 0,ap av c]) w:=by kernel_rfl
attribute [local irreducible] Op.shift Go.bits in
theorem wl(g:dD)(hg:cI g=0)(bp:Option Addr)(cp:Nat)(vb:Nat->Value)(w0:World)(hG:jS (λq=>q<w0.heap.size) w0 (du g.aQ g.bB (ak bp g.az.length cp)) g)(Cf:Xh (λq=>q<w0.heap.size) w0 vb g.az)(mQ:0<g.az.length->∃b off,bp=ah ⟨b,off,aj⟩/\∀i,i<g.az.length->Rd w0 b (off+i*2) [ap av (a_ g.az (i:Int)).1,vb i])
 (go gm c:Nat) (f:RK->Option Value) (T:Nat) (Lh:g.aQ=(T:Int)) (hT:T<=30) (l0:List bK.Item) (vl:Value) (h0:∀x∈l0,ef g.az T x) (hl0:l0.length<=20000) (hc:jZ (kE g) f) (hcc:c<=900000000000000) (w:World) (B:bV) (ho:ly w0 B) (hvl:SlB B vl l0.length (l0.flatMap iS))
 (hm:Mem B (opL g bp cp go gm f c) w):
 Calls aC 111 #[aH (ah ⟨go,0,aj⟩),vl] w (dz (wk g T l0 bp cp go gm c) B):=by
 obtain⟨-,-,-,-,wY,hgb⟩:=cz hg;have Mi:∀q∈g.az,q.2.length<=8:=λq hq=>(hgb q hq).1;have ab5:=λg5 Xv g6 b v cn out it hit hp hb hn w' B' pg=>Oj g5 Xv g6 b v cn out it hit hp hb hn w' B' pg;unfold opL at hm;obtain⟨bl,cl,rfl,rM,Eo,IY⟩:=hvl;unfold maxLen at Eo;refine dT hm (args:=[aH (ah ⟨go,0,aj⟩),ak bl l0.length cl]) (n:=117) Tryz.func111 I I I ?_
 try refine GA ?_
 refine T2 K3 (z:=ap av 0) I λXv=>?_;refine zL ?_
 try refine GA ?_
 refine aY I λg5=>?_;refine zL ?_;refine bD (i:=3) I I I I I I ?_;refine zL ?_
 try refine GA ?_
 refine aY I λg6=>?_;refine zL ?_
 repeat(first|refine GA ?_|refine gV (lA I I) ?_)
 conv=>arg 7;simp only[zA,zB,zC,zD,zE,zF,zG,zH,zI,df,ret,id_eq]
 refine oc (bm 261 3 (ak aj 0 0) 0 []) (λk hk=>hk.elim (λh=>by cases h) id) (λw=>⟨by decide,.inl ⟨rfl,rfl⟩⟩) ?_;refine tY [0,1,3,2,4,5] ?_
 conv=>arg 7;simp only[zA,zB,zC,zD,zE,zF,zG,zH,zI,df,ret,id_eq]
 refine dZ (ι:=Nat×Value×(bK.Item->Nat)) (λ(j,_,cn)=>j<=l0.length/\sb cn (dO [] (l0.take j)) (2*j)) (λ(j,_,_)=>[(0,aH (ah ⟨go,0,aj⟩)),(6,aH (ah ⟨g6,0,aj⟩)),(7,.func (.func 139) #[] #[aH (ah ⟨g5,0,aj⟩),aH (ah ⟨g6,0,aj⟩)]),(18,ak bl l0.length cl),(19,ap av (l0.length:Int)),(20,ap av (j:Int))])
  (λ(j,v,cn)=>[aK go (Cv g.aQ g.bB (ak bp g.az.length cp) gm).toArray 297,fq jc gm f c]++HO g5 Xv g6 (2*j) v cn (dO [] (l0.take j))) (λ(j,_,_)=>l0.length-j) (0,ak aj 0 0,λ_=>0) ⟨bC _,⟨λx=>by simp[dO],λx=>bC _⟩⟩ ?_
 rintro⟨j,v,cn⟩ ⟨j1,j2⟩;dsimp only at j1 j2⊢
 by_cases c1:j<l0.length
 ·obtain⟨b,off,rfl,HA,Qw⟩:=IY J
  have eC:=λL=>pI (W:=B) (L:=L) mc (off:=off) (λq u hq=>tf HA Qw q u hq) c1;have hx0:=h0 l0[j] (bX c1);have hxo:=ab4 hx0 wY Mi hT;have Qb:(dO [] (l0.take j)).length<=j:=eL (Gh _ _) (by rw[nG,jr];omega);have w7:more (dO [] (l0.take j)) l0[j]=dO [] (l0.take (j+1)):=by rw[ic c1,kU]
  have hpo:=j2.put l0[j];rw[w7]at hpo;have ab5:=λw' B' pg=>ab5 g5 Xv g6 (2*j) v cn (dO [] (l0.take j)) l0[j] hxo j2 J J w' B' pg;rw[w7]at ab5;generalize dO [] (l0.take j)=out at*;generalize hoq:dO [] (l0.take (j+1))=ab6 at*;generalize l0[j]=x at*
  repeat(first|refine GA ?_|refine gV (aR bM.eq aI.ty I I c1) ?_|refine gV (aW aI.ty I (mc x) (eC _)) ?_)
  refine aY I λg9=>?_;refine zL ?_;refine fR 6 (cs':=(iS x).toArray) ?_;refine zL ?_
  repeat(first|refine GA ?_|refine gV (aJ (i:=6) aI.ty I I I) ?_)
  refine bz [2,3,4,5] [0,1,6] alt I I (sD aF.en I I) (λw hm hb=>ab5 w _ hb) I I I ?_;intro v' _;refine zL ?_
  try refine GA ?_
  refine dq [0,1,3,4,5,6] ?_;exact bQ (j+1,v',BU cn x) ⟨by show j+1<=l0.length;omega,by show sb _ (dO [] (l0.take (j+1))) _;rw[hoq];exact hpo⟩ (by show l0.length-(j+1)<l0.length-j;omega) (hl:=by dsimp only;rw[hoq];rfl)
 ·obtain rfl:j=l0.length:=by omega
  rw[nU]at j2;have tU:(dO [] l0).length<=20000:=eL (Gh _ _) (by rw[nG];omega);clear IY
  try refine GA ?_
  conv=>arg 7;simp only[zA,zB,zC,zD,zE,zF,zG,zH,zI,df,ret,id_eq,nU,HO,mg,fD]
  refine dZ (ι:=Nat×List bK.Item×(RK->Option Value)×Nat×Value×(bK.Item->Nat)×Nat) (λ(n,out,f',c',_,cn',b)=>WkI g.az T (kE g) l0 n out/\tW g.az T (kE g) (12000-n) n out=tW g.az T (kE g) 12000 0 (dO [] l0)/\jZ (kE g) f'/\c'<=c+n/\sb cn' out b/\b<=40000+2480*n)
   (λ(n,_,_,_,_,_,_)=>[(0,aH (ah ⟨go,0,aj⟩)),(6,aH (ah ⟨g6,0,aj⟩)),(7,.func (.func 139) #[] #[aH (ah ⟨g5,0,aj⟩),aH (ah ⟨g6,0,aj⟩)]),(10,ap av (n:Int))])
   (λ(_,out,f',c',v',cn',b)=>[aK go (Cv g.aQ g.bB (ak bp g.az.length cp) gm).toArray 297,fq jc gm f' c',aK g5 #[.map (ah Xv)] 299,oP K3 Xv (ap av 0) (Gf cn') b,aK g6 #[v'] 256,bm 261 3 v' out.length (out.flatMap iS)]) (λ(n,_)=>12000-n) (0,dO [] l0,f,c,v,cn,2*l0.length) ⟨FR l0,rfl,hc,aX _,j2,by omega⟩ ?_
  rintro⟨n,out,f',c',v',cn',b⟩ ⟨i1,i2,i3,i4,i5,i6⟩;dsimp only at i1 i2 i3 i4 i5 i6⊢;have Ol:=BP Mi wY hT i1.nd λx hx=>Aj h0 (i1.cl x hx);refine ix (i:=5) I gj λfu=>?_;obtain⟨bv,cv,rfl,-,mE⟩:=fu
  by_cases c2:n<out.length
  ·obtain⟨gz,rfl⟩:=mE J
   have lI:=i1.cl out[n] (bX c2);have hxr:=Aj h0 lI;have eC:=λ(L:List b_) (i:Nat) (hL:L[i]?=ah (bm 261 3 (ak (ah ⟨gz,0,aj⟩) out.length cv) out.length (out.flatMap iS)))=>ow (W:=B) mc hL c2;have hwx:tW g.az T (kE g) (12000-(n+1)) (n+1) (vY g.az T (kE g) out[n] out)=tW g.az T (kE g) 12000 0 (dO [] l0):=by
    rw[<-i2,show 12000-n=(12000-(n+1))+1 by omega,tW,if_pos c2,cH,bL c2];rfl
   have hwk:=UP i1 c2;clear i2 lI;generalize hxx:out[n]=x at*;obtain⟨p,d,lo⟩:=x;have ahM:=hxr;obtain⟨r1,r2,r3,r4,r5,r6⟩:=ahM;dsimp only at r1 r2 r3 r4 r5 r6;obtain⟨k,rfl⟩:=fJ r1;obtain⟨dn,rfl⟩:=fJ r3;obtain⟨ln,rfl⟩:=fJ r5;have hk:k<=g.az.length:=by omega
   have Hl:=λw' (pg:Mem B [] w')=>tm g.aQ g.bB bp cp g.az vb w0 w' B k hk ho pg (λi hi=>let ⟨b,c,h,_⟩:=Cf i hi;⟨b,_,c,h⟩) mQ
   repeat(first|refine GC ?_|refine gV (aw (v:=ak (ah ⟨gz,0,aj⟩) out.length cv) aI.ty I (aD (i:=4) I I)) ?_|refine gV (dW (i:=5) bM.eq I I) ?_|refine GB ?_)
   refine dG ([aK go (Cv g.aQ g.bB (ak bp g.az.length cp) gm).toArray 297,aK g6 #[ak (ah ⟨gz,0,aj⟩) out.length cv] 256,bm 261 3 (ak (ah ⟨gz,0,aj⟩) out.length cv) out.length (out.flatMap iS)]) (.calm 0 (.calm 1 (.calm 2 (.calm 3 (.calm 4 (.calm 5 (.calm 6 (.calm 7 (.calm 8 (.one 9 (.calm 10 (.done)))))))))))) (bY [0,4,5]) ?_
   repeat(first|refine GW ?_|(refine GN ?_;first|refine QW (aW aI.ty I (cs:=[ap av g.aQ,ap av g.bB,ak bp g.az.length cp]) I (λj v h=>aD (i:=0) I (K4 h))) ?_|refine QW (aw (v:=ak (ah ⟨gz,0,aj⟩) out.length cv) aI.ty I (aD (i:=1) I I)) ?_|refine QW (aR bM.eq aI.ty I I c2) ?_|refine QW (aw (v:=ap av (k:Int)) aI.ty I (eC _ 2 I 0 _ I)) ?_))
   refine aM I ?_;refine aT (gh aF.en I I I) (λw hm=>Hl _ (hm.pick [] alt I)) I I I ?_;rintro xb hxb
   conv=>arg 8;simp only[zJ,df,ret,id_eq,Aq]
   conv=>arg 7;simp only[Aq]
   obtain⟨bb,cc,hbv,hlc,-⟩:=As (W:=B) (i:=6) (L:=[aK go (Cv g.aQ g.bB (ak bp g.az.length cp) gm).toArray 297,fq jc gm f' c',aK g5 #[.map (ah Xv)] 299,oP K3 Xv (ap av 0) (Gf cn') b,aK g6 #[ak (ah ⟨gz,0,aj⟩) out.length cv] 256,bm 261 3 (ak (ah ⟨gz,0,aj⟩) out.length cv) out.length (out.flatMap iS),BQ xb]) ho Cf hk hxb rfl;have ua:=λ(L:List b_) (i:Nat) (hi:L[i]?=ah (BQ xb))=>(As (W:=B) (L:=L) ho Cf hk hxb hi);rw[hbv]at ua⊢;have hb8:=ng (l:=g.az) (p:=(k:Int)) Mi;refine aO (bY [0,4,5]) ?_
   try refine GW ?_
   clear Hl
   by_cases c3:dn=(dR g.az (k:Int)).length
   ·repeat(first|refine GC ?_|refine gV (aw (v:=ak (ah ⟨gz,0,aj⟩) out.length cv) aI.ty I (aD (i:=4) I I)) ?_|refine gV (aR bM.eq aI.ty I I c2) ?_|refine gV (aw (v:=ap av (dn:Int)) aI.ty I (eC _ 5 I 1 _ I)) ?_|refine gV (dc (b:=aB) I I (decide_eq_true J)) ?_|refine GB ?_)
    have Xw:vY g.az T (kE g) ((k:Int),(dn:Int),(ln:Int)) out=out:=by
     unfold vY lg;dsimp only;rw[de,nF J]
    rw[Xw]at hwk hwx;refine dq [0,1,2,3,4,5] ?_;exact bQ (n+1,out,f',c',ak (ah ⟨gz,0,aj⟩) out.length cv,cn',b) ⟨hwk,hwx,i3,by show c'<=c+(n+1);omega,i5,by show b<=40000+2480*(n+1);omega⟩ (by show 12000-(n+1)<12000-n;omega)
   have hlt:dn<(dR g.az (k:Int)).length:=by omega
   obtain⟨b2,o2,rfl,hba⟩:=U4 ho Cf hk hxb hbv hlt;have w7:lg g.az ((k:Int),(dn:Int),(ln:Int))=ah (dR g.az (k:Int))[dn]:=by
    unfold lg;dsimp only;rw[de,bL hlt]
   generalize hyy:(dR g.az (k:Int))[dn]=y at*;obtain⟨yk,yn⟩:=y
   by_cases c4:yk=2
   ·subst c4
    have Xw:vY g.az T (kE g) ((k:Int),(dn:Int),(ln:Int)) out=fH g.az T yn (oV (kE g) ((k:Int),(dn:Int),(ln:Int))) out g.az.length:=by
     unfold vY;rw[w7];dsimp only;rw[if_pos I]
    rw[Xw]at hwk hwx
    repeat(first|refine GC ?_|refine gV (aw (v:=ak (ah ⟨gz,0,aj⟩) out.length cv) aI.ty I (aD (i:=4) I I)) ?_|refine gV (aR bM.eq aI.ty I I c2) ?_|refine gV (aR bM.eq aI.ty I I hlt) ?_|refine gV (aw (v:=ap av (dn:Int)) aI.ty I (eC _ 5 I 1 _ I)) ?_|refine gV (dc (b:=aE) I I (decide_eq_false J)) ?_|refine gV (aw (v:=ap av 2) aI.ty I (hba _ 6 I 0 _ I)) ?_|refine gV (dh (b:=aE) I I (decide_eq_false (λh=>h I))) ?_|refine gV (aW (cs:=iS ((k:Int),(dn:Int),(ln:Int))) aI.ty I I (eC _ 5 I)) ?_|refine GB ?_)
    refine bz [0,1] [2,3,4,5,6] alt I I (gh aF.en I I I) (λw hm hb=>N5 g hg bp cp vb w0 hG Cf mQ go gm c' f' ((k:Int),(dn:Int),(ln:Int)) T hT hxr (by dsimp only;rw[de];exact hlt) i3 J w _ (ho.on hm λo h=>DG h) hb) I I I ?_;rintro⟨f2,Sw⟩ ⟨Yq,ahN⟩;dsimp only at Yq ahN;refine zL ?_;have alN:=Xu g (it:=((k:Int),(dn:Int),(ln:Int))) (by show((ln:Int)).toNat<64;omega);generalize oV (kE g) ((k:Int),(dn:Int),(ln:Int))=bits at*
    repeat(first|refine GA ?_|refine gV (aw (v:=ak bp g.az.length cp) aI.ty I (aD (i:=5) I I)) ?_)
    refine tY [5,6,0,1,2,3,4] ?_
    conv=>arg 7;simp only[zA,zB,zC,zD,zE,zF,zG,zH,zI,df,ret,id_eq]
    refine dZ (ι:=Nat×Value×(bK.Item->Nat)×Nat) (λ(i,_,cn2,b3)=>i<=g.az.length/\sb cn2 (fH g.az T yn bits out i) b3/\b3<=b+62*i)
     (λ(i,_,_,_)=>[(0,aH (ah ⟨go,0,aj⟩)),(6,aH (ah ⟨g6,0,aj⟩)),(7,.func (.func 139) #[] #[aH (ah ⟨g5,0,aj⟩),aH (ah ⟨g6,0,aj⟩)]),(10,ap av (n:Int)),(11,ak (ah ⟨b2,o2,aj⟩) (dR g.az (k:Int)).length cc),(12,gZ bits),(74,ak bp g.az.length cp),(75,ap av (g.az.length:Int)),(76,ap av (i:Int))])
     (λ(i,v2,cn2,b3)=>[aK go (Cv g.aQ g.bB (ak bp g.az.length cp) gm).toArray 297,fq jc gm f2 Sw,aK g5 #[.map (ah Xv)] 299,oP K3 Xv (ap av 0) (Gf cn2) b3,aK g6 #[v2] 256,bm 261 3 v2 (fH g.az T yn bits out i).length ((fH g.az T yn bits out i).flatMap iS),BQ xb]) (λ(i,_)=>g.az.length-i) (0,ak (ah ⟨gz,0,aj⟩) out.length cv,cn',b) ⟨bC _,i5,by omega⟩ ?_
    rintro⟨i,v2,cn2,b3⟩ ⟨p1,p2,p3⟩;dsimp only at p1 p2 p3⊢
    by_cases c5:i<g.az.length
    ·obtain⟨E,hE⟩:=v8 (l:=g.az) (T:=T) yn bits out i
     have Qb:=Gg (l:=g.az) (T:=T) (N:=yn) (bits:=bits) (out:=out) i;have HP:fH g.az T yn bits out (i+1)=if(a_ g.az (i:Int)).1=yn then fG i bits (fH g.az T yn bits out i) (T+1)else fH g.az T yn bits out i:=rfl
     have alO:i*(T+1)<=40*31:=oT J J;generalize hou:fH g.az T yn bits out i=ou at*;have hno:n<ou.length:=by rw[hE,bT];omega
     have hox:ou[n]=((k:Int),(dn:Int),(ln:Int)):=by
      subst hE;rw[List.getElem_append_left c2];exact hxx
     refine ix (i:=5) I gj λfu=>?_;obtain⟨bv2,cv2,rfl,-,akR⟩:=fu;obtain⟨gz2,rfl⟩:=akR J;have ub:=λ(L:List b_) (i:Nat) (hL:L[i]?=ah (bm 261 3 (ak (ah ⟨gz2,0,aj⟩) ou.length cv2) ou.length (ou.flatMap iS)))=>ow (W:=B) mc hL hno;rw[hox]at ub;obtain⟨pb,po,rfl,hpr⟩:=mQ J;have hpi:=hpr i c5;have hvo:(vb i).oneCell'=true:=aeK (Cf i c5);generalize hhd:(a_ g.az (i:Int)).1=hd at*;generalize vb i=vbi at hpi hvo
     repeat(first|refine GA ?_|refine gV (aR bM.eq aI.ty I I c5) ?_|refine gV (aW aI.ty I (cs:=[ap av hd,vbi]) I (λj v h=>eY ho (hpi j v h))) ?_)
     refine aY I λg14=>?_;refine zL ?_
     try refine GA ?_
     refine aV (i:=7) (cs':=#[ap av hd,vbi]) I I I I (by simp only[cY,db,hvo];rfl) I ?_;refine zL ?_
     try refine GA ?_
     refine dG ([aK g14 #[ap av hd,vbi] 174,aK g6 #[ak (ah ⟨gz2,0,aj⟩) ou.length cv2] 256,bm 261 3 (ak (ah ⟨gz2,0,aj⟩) ou.length cv2) ou.length (ou.flatMap iS),BQ xb]) (.calm 0 (.calm 1 (.calm 2 (.calm 3 (.calm 4 (.calm 5 (.calm 6 (.calm 7 (.calm 8 (.calm 9 (.calm 10 (.calm 11 (.done))))))))))))) (bY [7,4,5,6]) ?_
     by_cases c6:hd=yn
     ·rw[if_pos c6]at HP
      repeat(first|(refine GN ?_;first|refine QW QP ?_|refine QW (aw (v:=ap av hd) aI.ty I (aD (i:=0) I I)) ?_|refine QW (aw (v:=ak (ah ⟨gz2,0,aj⟩) ou.length cv2) aI.ty I (aD (i:=1) I I)) ?_|refine QW (aR bM.eq aI.ty I I hno) ?_|refine QW (aw (v:=ap av (dn:Int)) aI.ty I (ub _ 2 I 1 _ I)) ?_|refine QW (aR bM.eq aI.ty I I hlt) ?_|refine QW (aw (v:=ap av yn) aI.ty I (hba _ 3 I 1 _ I)) ?_|refine QW (dh (b:=aE) I I (decide_eq_false (λh=>h c6))) ?_|refine GX ?_)|refine GW ?_)
      repeat(first|refine GC ?_|refine gV (aw (v:=ap av g.aQ) aI.ty I (aD (i:=0) I I)) ?_|refine gV (dN (r:=((T+1:Nat):Int)) I I J J J) ?_|refine GB ?_)
      refine tY [0,1,2,3,4,5,6] ?_
      conv=>arg 7;simp only[zA,zB,zC,zD,zE,zF,zG,zH,zI,df,ret,id_eq]
      refine dZ (ι:=Nat×Value×(bK.Item->Nat)×Nat) (λ(j,_,cn3,b4)=>j<=T+1/\sb cn3 (fG i bits ou j) b4/\b4<=b3+2*j)
       (λ(j,_,_,_)=>[(0,aH (ah ⟨go,0,aj⟩)),(6,aH (ah ⟨g6,0,aj⟩)),(7,.func (.func 139) #[] #[aH (ah ⟨g5,0,aj⟩),aH (ah ⟨g6,0,aj⟩)]),(10,ap av (n:Int)),(11,ak (ah ⟨b2,o2,aj⟩) (dR g.az (k:Int)).length cc),(12,gZ bits),(13,ap av (i:Int)),(74,ak (ah ⟨pb,po,aj⟩) g.az.length cp),(75,ap av (g.az.length:Int)),(76,ap av (i:Int)),(98,ap av ((T+1:Nat):Int)),(99,ap av (j:Int))])
       (λ(j,v3,cn3,b4)=>[aK go (Cv g.aQ g.bB (ak (ah ⟨pb,po,aj⟩) g.az.length cp) gm).toArray 297,fq jc gm f2 Sw,aK g5 #[.map (ah Xv)] 299,oP K3 Xv (ap av 0) (Gf cn3) b4,aK g6 #[v3] 256,bm 261 3 v3 (fG i bits ou j).length ((fG i bits ou j).flatMap iS),BQ xb]) (λ(j,_)=>T+1-j) (0,ak (ah ⟨gz2,0,aj⟩) ou.length cv2,cn2,b3) ⟨bC _,p2,by omega⟩ ?_
      rintro⟨j,v3,cn3,b4⟩ ⟨s1,s2,s3⟩;dsimp only at s1 s2 s3⊢
      by_cases c7:j<T+1
      ·have alP:=yZ (i:=i) (bits:=bits) (out:=ou) j
       have Xx:fG i bits ou (j+1)=if bits.testBit j=aB then more (fG i bits ou j) ((i:Int),0,(j:Int))else fG i bits ou j:=rfl
       have hpo:=s2.put ((i:Int),0,(j:Int));have hdv:bits/2^j<=bits:=Nat.div_le_self _ _;have ha1:=ahB (y:=bits/2^j) J;have Dk:∀w,(Op.shift .shr .u64 (bits:Int) .i64 (j:Int)).run aC w= .ok (.int .u64 ((bits/2^j:Nat):Int)) w:=λw=>abC bits j 64 .u64 .i64 I J w;have Hl:=Ar bits j;generalize hol:fG i bits ou j=ol at*;generalize bits/2^j=D1 at*
       by_cases c8:bits.testBit j=aB
       ·rw[if_pos c8]at Xx
        have HA:D1 %2=1:=by rw[c8]at Hl;simpa using Hl
        repeat(first|refine GC ?_|refine gV (pH I I Dk) ?_|refine gV (nC I I ha1) ?_|refine gV (dc (b:=aB) I I (decide_eq_true J)) ?_|refine gV (aZ I (Jo _ _)) ?_|refine GB ?_)
        refine bz [2,3,4,5] [0,1,6] alt I I (sD aF.en I I) (λw hm hb=>ab5 g5 Xv g6 b4 v3 cn3 ol ((i:Int),0,(j:Int)) (aje J J) s2 J J w _ hb) I I I ?_;intro v4 _
        conv=>arg 8;simp only[zJ,df,ret,id_eq,HO]
        try refine GA ?_
        refine dq [0,1,3,4,5,6,2] ?_;exact bQ (j+1,v4,BU cn3 ((i:Int),0,(j:Int)),b4+2) ⟨by show j+1<=T+1;omega,by show sb _ (fG i bits ou (j+1)) _;rw[Xx];exact hpo,by show b4+2<=b3+2*(j+1);omega⟩ (by show T+1-(j+1)<T+1-j;omega) (hl:=by dsimp only;rw[Xx];rfl)
       rw[if_neg c8]at Xx;have HA:¬D1 %2=1:=by rw[Bool.eq_false_iff.2 c8]at Hl;simpa using Hl
       repeat(first|refine GC ?_|refine gV (pH I I Dk) ?_|refine gV (nC I I ha1) ?_|refine gV (dc (b:=aE) I I (decide_eq_false J)) ?_|refine GB ?_)
       exact bQ (j+1,v3,cn3,b4) ⟨by show j+1<=T+1;omega,by show sb _ (fG i bits ou (j+1)) _;rw[Xx];exact s2,by show b4<=b3+2*(j+1);omega⟩ (by show T+1-(j+1)<T+1-j;omega) (hl:=by dsimp only;rw[Xx])
      obtain rfl:j=T+1:=by omega
      try refine GA ?_
      exact bQ (i+1,v3,cn3,b4) ⟨by show i+1<=g.az.length;omega,by show sb cn3 (fH g.az T yn bits out (i+1)) b4;rw[HP];exact s2,by show b4<=b+62*(i+1);omega⟩ (by show g.az.length-(i+1)<g.az.length-i;omega) (hl:=by dsimp only;rw[HP])
     rw[if_neg c6]at HP
     repeat(first|(refine GN ?_;first|refine QW QP ?_|refine QW (aw (v:=ap av hd) aI.ty I (aD (i:=0) I I)) ?_|refine QW (aw (v:=ak (ah ⟨gz2,0,aj⟩) ou.length cv2) aI.ty I (aD (i:=1) I I)) ?_|refine QW (aR bM.eq aI.ty I I hno) ?_|refine QW (aw (v:=ap av (dn:Int)) aI.ty I (ub _ 2 I 1 _ I)) ?_|refine QW (aR bM.eq aI.ty I I hlt) ?_|refine QW (aw (v:=ap av yn) aI.ty I (hba _ 3 I 1 _ I)) ?_|refine QW (dh (b:=aB) I I (decide_eq_true c6)) ?_|refine GX ?_)|refine GW ?_)
     try refine GA ?_
     refine dq [0,1,2,3,4,5,6] ?_;exact bQ (i+1,ak (ah ⟨gz2,0,aj⟩) ou.length cv2,cn2,b3) ⟨by show i+1<=g.az.length;omega,by show sb cn2 (fH g.az T yn bits out (i+1)) b3;rw[HP];exact p2,by show b3<=b+62*(i+1);omega⟩ (by show g.az.length-(i+1)<g.az.length-i;omega) (hl:=by dsimp only;rw[HP];rfl)
    obtain rfl:i=g.az.length:=by omega
    try refine GA ?_
    refine dq [0,1,2,3,4,5] ?_;exact bQ (n+1,fH g.az T yn bits out g.az.length,f2,Sw,v2,cn2,b3) ⟨hwk,hwx,Yq,by show Sw<=c+(n+1);omega,p2,by show b3<=40000+2480*(n+1);omega⟩ (by show 12000-(n+1)<12000-n;omega)
   repeat(first|refine GC ?_|refine gV (aw (v:=ak (ah ⟨gz,0,aj⟩) out.length cv) aI.ty I (aD (i:=4) I I)) ?_|refine gV (aR bM.eq aI.ty I I c2) ?_|refine gV (aR bM.eq aI.ty I I hlt) ?_|refine gV (aw (v:=ap av (dn:Int)) aI.ty I (eC _ 5 I 1 _ I)) ?_|refine gV (dc (b:=aE) I I (decide_eq_false J)) ?_|refine gV (aw (v:=ap av yk) aI.ty I (hba _ 6 I 0 _ I)) ?_|refine gV (dh (b:=aB) I I (decide_eq_true c4)) ?_|refine GB ?_)
   have Xw:vY g.az T (kE g) ((k:Int),(dn:Int),(ln:Int)) out=out:=by
    unfold vY;rw[w7];dsimp only;rw[if_neg c4]
   rw[Xw]at hwk hwx;refine dq [0,1,2,3,4,5] ?_;exact bQ (n+1,out,f',c',ak (ah ⟨gz,0,aj⟩) out.length cv,cn',b) ⟨hwk,hwx,i3,by show c'<=c+(n+1);omega,i5,by show b<=40000+2480*(n+1);omega⟩ (by show 12000-(n+1)<12000-n;omega)
  have hn:n=out.length:=by have:=i1.le;omega
  have hR:tW g.az T (kE g) 12000 0 (dO [] l0)=out:=by
   rw[<-i2,show 12000-n=(11999-n)+1 by omega,tW,if_neg c2]
  have hcI:jY g.az T (kE g) l0=vX out:=by unfold jY;rw[hR]
  repeat(first|refine GA ?_|refine gV (aw (v:=ak bv out.length cv) aI.ty I (aD (i:=4) I I)) ?_)
  refine bz [5] [0,1,2,3,4] alt I I (gh aF.en I I I) (λw hm hb=>ae_ aeP (ak bv out.length cv) out w _ hb J) I I I ?_;intro _ _;refine zL ?_
  repeat(first|refine GA ?_|refine gV (aw (v:=ak bv out.length cv) aI.ty I (aD (i:=4) I I)) ?_)
  exact cV I I λw hm=>hm.cg (S:=wk g T l0 bp cp go gm c) (f',c',ak bv out.length cv) ⟨i3,by show c'<=c+12000;omega⟩ [0,1,5] alt (by unfold wk opL;dsimp only;rw[hcI,NW];rfl)
theorem SlB.row{W:bV}{L Lx:List b_}{w:World}(hm:Mem W L w){i n size:Nat}{e:TypeId}{v:Value}{xs:List Value}(hi:L[i]?=ah (bm e size v n xs))(is:List Nat)(hL:Lx=is.filterMap λi=>L[i]?)(hni:i∉is):SlB (bV.on w Lx) v n xs:=by
 have hh:(bm e size v n xs).holds w:=hm.get hi;obtain⟨base,cap,rfl,h1,h2,h3⟩:=Sl.dF hh;refine⟨base,cap,rfl,h1,h2,λhn=>?_⟩;obtain⟨b,off,rfl,hr⟩:=h3 hn;have hf:(bm e size (ak (ah ⟨b,off,aj⟩) n cap) n xs).ft b:=by
  rcases(show w.ownsRow 0 e size _ n xs from hh).2 with⟨hv,_⟩|⟨g,cp,oM,hv,_⟩
  cases hv
  cases hv;exact .inl I
 refine⟨b,off,rfl,⟨(bm e size _ n xs).lt w hh b hf,?_⟩,hr⟩;rintro⟨o,ho,hfo⟩;subst hL;obtain⟨j,hj,TB⟩:=BJ.1 ho;exact hm.owns.apart i j _ _ (λh=>hni (h▸hj)) hi TB b hf hfo
theorem SlB.at{B:bV}{L:List b_}{α:Type}{f:α->List Value}{c:Nat}(hc:∀a,(f a).length=c){base:Option Addr}{cap n:Nat}{l:List α}(h:SlB B (ak base n cap) n (l.flatMap f))(hn:0<n):∃b off,base=ah ⟨b,off,aj⟩/\∀(k:Nat) (hk:k<l.length) (j:Nat) (u:Value),(f l[k])[j]?=ah u->At B L ⟨b,off+k*c+j,aj⟩ u:=by
 obtain⟨Om,Hr,h0,h1,h2,h3⟩:=h
 cases h0
 obtain⟨b,off,rfl,ho,hr⟩:=h3 hn;exact⟨b,off,rfl,λk hk j u hj=>pI (W:=B) (L:=L) hc (off:=off) (λq y hq=>tf ho hr q y hq) hk j u hj⟩
theorem Xy{l:List aL.Prod}{s:List bK.Item}{x:bJ}{k:Nat}(h:k<s.length):nh l (s.take (k+1)) x=if lg l s[k]=ah x then nh l (s.take k) x++[rz s[k]]else nh l (s.take k) x:=by
 unfold nh;rw[ic h,List.filter_append,eK]
 by_cases c:lg l s[k]=ah x
 rw[if_pos c,List.filter_cons_of_pos (by simpa using c)];rfl;rw[if_neg c,List.filter_cons_of_neg (by simpa using c)];simp
theorem On{l:List aL.Prod}{s:List bK.Item}{x:bJ}:(nh l s x).length<=s.length:=by
 unfold nh;rw[dY];exact List.length_filter_le _ _
theorem Li(g:dD)(hg:cI g=0)(bp:Option Addr)(cp:Nat)(vb:Nat->Value)(w0:World)(hG:jS (λq=>q<w0.heap.size) w0 (du g.aQ g.bB (ak bp g.az.length cp)) g)(Cf:Xh (λq=>q<w0.heap.size) w0 vb g.az)(mQ:0<g.az.length->∃b off,bp=ah ⟨b,off,aj⟩/\∀i,i<g.az.length->Rd w0 b (off+i*2) [ap av (a_ g.az (i:Int)).1,vb i])
 (go gm c:Nat) (f:RK->Option Value) (T:Nat) (Lh:g.aQ=(T:Int)) (hT:T<=30) (s:List bK.Item) (x:bJ) (vl:Value) (h0:∀it∈s,ef g.az T it) (hl0:s.length<=20000) (hc:jZ (kE g) f) (hcc:c<=900000000000000) (w:World) (B:bV) (ho:ly w0 B) (hvl:SlB B vl s.length (s.flatMap iS))
 (hm:Mem B (opL g bp cp go gm f c) w):
 Calls aC 113 #[aH (ah ⟨go,0,aj⟩),vl,aP (dr x).toArray] w (dz (wk g T (nh g.az s x) bp cp go gm c) B):=by
 have lI:=λv h2 h3 w' B' Hs xF pg=>wl g hg bp cp vb w0 hG Cf mQ go gm c f T Lh hT (nh g.az s x) v h2 h3 hc hcc w' B' Hs xF pg;have hol:=On (l:=g.az) (s:=s) (x:=x);have Me:=iB (l:=g.az) (T:=T) (x:=x) h0;obtain⟨bl,cl,rfl,rM,Eo,IY⟩:=id hvl;clear IY;unfold maxLen at Eo;unfold opL at hm;refine dT hm (args:=[aH (ah ⟨go,0,aj⟩),ak bl s.length cl,aP (dr x).toArray]) (n:=50) Tryz.func113 I I I ?_;refine bZ (bx (bH I I I λg5=>?_));refine zL ?_
 try refine GA ?_
 refine iJ 261 3 ?_
 conv=>arg 7;simp only[zA,zB,zC,zD,zE,zF,zG,zH,zI,df,ret,id_eq]
 refine dZ (ι:=Nat×Value) (λ(k,_)=>k<=s.length) (λ(k,v)=>[(0,aH (ah ⟨go,0,aj⟩)),(5,aH (ah ⟨g5,0,aj⟩)),(7,v),(11,ak bl s.length cl),(12,ap av s.length),(13,ap av (k:Int))])
  (λ(k,v)=>[aK go (Cv g.aQ g.bB (ak bp g.az.length cp) gm).toArray 297,fq jc gm f c,aK g5 (dr x).toArray 123,bm 261 3 v (nh g.az (s.take k) x).length ((nh g.az (s.take k) x).flatMap iS)]) (λ(k,_)=>s.length-k) (0,ak aj 0 0) (bC _) ?_
 rintro⟨k,v⟩ i1;dsimp only at i1⊢
 by_cases c1:k<s.length
 ·obtain⟨b,off,rfl,eC⟩:=hvl.at (L:=[]) mc J
  have F5:∀(L:List b_) (j:Nat) (u:Value),(iS s[k])[j]?=ah u->At B L ⟨b,off+k*3+j,aj⟩ u:=λL=>by
   obtain⟨b',Bn,he,h⟩:=hvl.at (L:=L) mc J
   cases he
   exact h k c1
  clear eC;have hxr:=h0 s[k] (bX c1);have w7:=Xy (l:=g.az) (x:=x) c1;have Jd:(nh g.az (s.take k) x).length<=20000:=eL On (by rw[jr];omega);generalize nh g.az (s.take k) x=ov at*;generalize HP:nh g.az (s.take (k+1)) x=ov' at*;clear lI Me hol;generalize s[k]=it at*;obtain⟨p,d,lo⟩:=it;have ahM:=hxr;obtain⟨r1,r2,r3,r4,r5,r6⟩:=ahM;dsimp only at r1 r2 r3 r4 r5 r6;obtain⟨kn,rfl⟩:=fJ r1;obtain⟨dn,rfl⟩:=fJ r3;obtain⟨ln,rfl⟩:=fJ r5;have hk:kn<=g.az.length:=by omega
  have Hl:=λw' (pg:Mem B [] w')=>tm g.aQ g.bB bp cp g.az vb w0 w' B kn hk ho pg (λi hi=>let ⟨b,c,h,_⟩:=Cf i hi;⟨b,_,c,h⟩) mQ;have Mi:∀q∈g.az,q.2.length<=8:=λq hq=>((cz hg).2.2.2.2.2 q hq).1;have hb8:=ng (l:=g.az) (p:=(kn:Int)) Mi
  repeat(first|refine GA ?_|refine gV (aR bM.eq aI.ty I I c1) ?_|refine gV (aW (cs:=iS ((kn:Int),(dn:Int),(ln:Int))) aI.ty I I (F5 _)) ?_)
  refine aY I λg9=>?_;refine zL ?_;refine fR 4 (cs':=(iS ((kn:Int),(dn:Int),(ln:Int))).toArray) ?_;refine zL ?_
  try refine GA ?_
  refine dG ([aK go (Cv g.aQ g.bB (ak bp g.az.length cp) gm).toArray 297,aK g9 (iS ((kn:Int),(dn:Int),(ln:Int))).toArray 261]) (.calm 0 (.calm 1 (.calm 2 (.calm 3 (.calm 4 (.calm 5 (.one 6 (.calm 7 (.done))))))))) (bY [0,4]) ?_
  repeat(first|refine GW ?_|(refine GN ?_;first|refine QW (aW aI.ty I (cs:=[ap av g.aQ,ap av g.bB,ak bp g.az.length cp]) I (λj v h=>aD (i:=0) I (K4 h))) ?_|refine QW (aw (v:=ap av (kn:Int)) aI.ty I (aD (i:=1) I I)) ?_))
  refine aM I ?_;refine aT (gh aF.en I I I) (λw hm=>Hl _ (hm.pick [] alt I)) I I I ?_;rintro xb hxb
  conv=>arg 8;simp only[zJ,df,ret,id_eq,Aq]
  conv=>arg 7;simp only[Aq]
  obtain⟨bb,cc,hbv,hlc,-⟩:=As (W:=B) (i:=5) (L:=[aK go (Cv g.aQ g.bB (ak bp g.az.length cp) gm).toArray 297,fq jc gm f c,aK g5 (dr x).toArray 123,bm 261 3 v ov.length (ov.flatMap iS),aK g9 (iS ((kn:Int),(dn:Int),(ln:Int))).toArray 261,BQ xb]) ho Cf hk hxb rfl;rw[hbv];refine aO (bY [0,4]) ?_
  try refine GW ?_
  clear Hl
  by_cases c2:dn<(dR g.az (kn:Int)).length
  ·obtain⟨b2,o2,rfl,hba⟩:=U4 ho Cf hk hxb hbv c2
   have hns:lg g.az ((kn:Int),(dn:Int),(ln:Int))=ah (dR g.az (kn:Int))[dn]:=by
    unfold lg;dsimp only;rw[de,bL c2]
   have J3:=λw=>aay (dR g.az (kn:Int))[dn] x w;generalize (dR g.az (kn:Int))[dn]=y at*;rw[hns]at w7
   try refine GA ?_
   refine dG ([aK g5 (dr x).toArray 123,aK g9 (iS ((kn:Int),(dn:Int),(ln:Int))).toArray 261,BQ xb]) (.calm 0 (.calm 1 (.calm 2 (.calm 3 (.calm 4 (.calm 5 (.calm 6 (.calm 7 (.calm 8 (.calm 9 (.calm 10 (.calm 11 (.calm 12 (.calm 13 (.done))))))))))))))) (bY [2,4,5]) ?_
   by_cases c3:y=x
   ·subst c3
    rw[if_pos I]at w7;rw[decide_eq_true I]at J3
    repeat(first|(refine GN ?_;first|refine QW QP ?_|refine QW (aw (v:=ap av (dn:Int)) aI.ty I (aD (i:=1) I I)) ?_|refine QW (aR bM.eq aI.ty I I c2) ?_|refine QW (aW (cs:=dr y) aI.ty I I (hba _ 2 I)) ?_|refine QW (aJ (i:=0) aI.ty I I I) ?_|refine QW (Ek I I (by kernel_rfl) J3) ?_|refine GX ?_)|refine GW ?_)
    repeat(first|refine GA ?_|refine gV (aw (v:=ap av (dn:Int)) aI.ty I (aD (i:=4) I I)) ?_)
    refine bD (i:=4) I I I I I I ?_;refine zL ?_
    repeat(first|refine GA ?_|refine gV (aJ (i:=4) aI.ty I I I) ?_)
    refine iU (i:=3) I I I I I I I (λz h=>by cases h;rfl) J J I λz v'=>?_;refine zL ?_
    try refine GA ?_
    refine dq [0,1,2,3] ?_;exact bQ (k+1,v') (by show k+1<=s.length;omega) (by show s.length-(k+1)<s.length-k;omega) (hl:=by dsimp only;rw[HP,w7,bT,ie];rfl)
   rw[if_neg (λh=>c3 (pD h))]at w7;rw[decide_eq_false c3]at J3
   repeat(first|(refine GN ?_;first|refine QW QP ?_|refine QW (aw (v:=ap av (dn:Int)) aI.ty I (aD (i:=1) I I)) ?_|refine QW (aR bM.eq aI.ty I I c2) ?_|refine QW (aW (cs:=dr y) aI.ty I I (hba _ 2 I)) ?_|refine QW (aJ (i:=0) aI.ty I I I) ?_|refine QW (Ek I I (by kernel_rfl) J3) ?_|refine GX ?_)|refine GW ?_)
   try refine GA ?_
   refine dq [0,1,2,3] ?_;exact bQ (k+1,v) (by show k+1<=s.length;omega) (by show s.length-(k+1)<s.length-k;omega) (hl:=by dsimp only;rw[HP,w7];rfl)
  have hns:lg g.az ((kn:Int),(dn:Int),(ln:Int))=none:=by
   unfold lg;dsimp only;rw[de,nF J]
  rw[hns,if_neg (λh=>by cases h)]at w7
  try refine GA ?_
  refine dG ([aK g5 (dr x).toArray 123,aK g9 (iS ((kn:Int),(dn:Int),(ln:Int))).toArray 261,BQ xb]) (.calm 0 (.calm 1 (.calm 2 (.calm 3 (.calm 4 (.calm 5 (.calm 6 (.calm 7 (.calm 8 (.calm 9 (.calm 10 (.calm 11 (.calm 12 (.calm 13 (.done))))))))))))))) (bY [2,4,5]) ?_
  repeat(first|refine GW ?_|(refine GN ?_;first|refine QW (aw (v:=ap av (dn:Int)) aI.ty I (aD (i:=1) I I)) ?_))
  try refine GA ?_
  refine dq [0,1,2,3] ?_;exact bQ (k+1,v) (by show k+1<=s.length;omega) (by show s.length-(k+1)<s.length-k;omega) (hl:=by dsimp only;rw[HP,w7];rfl)
 ·obtain rfl:k=s.length:=by omega
  rw[nU]
  try refine GA ?_
  refine bz [0,1] [2,3] alt I I (gh aF.en I I I) (λw hm hb=>lI v Me J w _ (ho.on hm λo h=>DG h) (SlB.row hm (i:=3) I [0,1] I alt) hb) I I I ?_;rintro⟨f2,c2,v2⟩ ⟨Yq,ahN⟩
  conv=>arg 8;simp only[zJ,df,ret,id_eq,wk,opL]
  conv=>arg 7;simp only[wk]
  try refine GA ?_
  exact cV I I λw hm=>hm.cg (S:=wk g T (nh g.az s x) bp cp go gm c) (f2,c2,v2) ⟨Yq,ahN⟩ [2,3,4] alt I
def jB(g:dD):List (List Int)×List (List bK.Item)×Int:=if cI g≠0 then([],[],cI g)else match allI g.az g.aQ.toNat g.bB.toNat (kE g)with
 |some (Nx,S)=>(Nx,S,0)
 |none=>([],[],8)
def ae'(g:dD):Spec (Value×Value×List Value×(Nat->Prop)×List Value×(Nat->Prop)):=⟨λ_=>True,λx=> .tuple #[aP #[x.1,x.2.1],ap av (jB g).2.2],λx=>[bm 256 1 x.1 (jB g).2.1.length x.2.2.1,eG (cO K7) x.2.2.2.1 (x.2.2.1.map λv=>[v]) (jB g).2.1,bm 26 1 x.2.1 (jB g).1.length x.2.2.2.2.1,eG (cO iv) x.2.2.2.2.2 (x.2.2.2.2.1.map λv=>[v]) (jB g).1]⟩
theorem Oo(w:World):(da 182 (#[]:Array (Nat×Value))).run aC w= .ok (aP #[ak aj 0 0,ak aj 0 0]) w:=by kernel_rfl
theorem wm{l:List aL.Prod}{T:Nat}{s:List bK.Item}(hw:∀q∈l,q.2.length<=8)(hl:l.length<=40)(hT:T<=30)(h:∀it∈s,ef l T it):w8 s:=λit hit=>by
 obtain⟨a1,a2,a3,a4,a5,a6⟩:=h it hit;have:=ng (l:=l) (p:=it.1) hw;omega
theorem SlB.els{W:bV}{L Lx:List b_}{w:World}(hm:Mem W L w){i n:Nat}{F:Nat->Prop}{w9:List Value}{S:List (List bK.Item)}(hi:L[i]?=ah (eG (cO K7) F (w9.map λv=>[v]) S))(is:List Nat)(hL:Lx=is.filterMap λi=>L[i]?)(hni:i∉is){s:List bK.Item}(hs:S[n]?=ah s){v:Value}(hv:w9[n]?=ah v):SlB (bV.on w Lx) v s.length (s.flatMap iS):=by
 obtain⟨hn,rfl⟩:=dK.1 hs;obtain⟨⟨h1,h2⟩,h3⟩:=hm.get hi;have hnv:n<w9.length:=(dK.1 hv).1;obtain⟨v',e,hs⟩:=h2 n hn (by rw[dY];exact hnv);rw[oR]at e;obtain rfl:v=v':=by
  have:=(dK.1 hv).2;rw[this]at e;exact(yR e).1
 obtain⟨base,cap,rfl,a1,a2,a3⟩:=hs;refine⟨base,cap,rfl,a1,a2,λh0=>?_⟩;obtain⟨b,off,rfl,hF,_⟩:=a3 h0;have tU:=jO.flat (f:=iS) (c:=3) (hc:=λ_=>rfl) (p:=λ_=>True) (F:=F) alt (⟨ah ⟨b,off,aj⟩,cap,rfl,a1,a2,a3⟩:jO K7 F w _ S[n]);obtain⟨Om,Hr,e',_,_,q⟩:=tU;obtain⟨b',Bn,e2,hr⟩:=q h0
 cases e'
 cases e2
 refine⟨b,off,rfl,⟨h3 b hF,?_⟩,hr⟩;rintro⟨o,ho,hfo⟩;subst hL;obtain⟨j,hj,TB⟩:=BJ.1 ho;exact hm.owns.apart i j _ _ (λh=>hni (h▸hj)) hi TB b (.inr hF) hfo
theorem ab7{a b c k:Nat}(h1:a<=b+12000)(h2:b<=c+12000*k):a<=c+12000*(k+1):=by rw[Nat.mul_succ,<-Nat.add_assoc];exact eL h1 (Nat.add_le_add_right h2 _)
theorem Gi:∀(l:List Value),(l.map λv=>[v]).flatten=l
 |[]=>rfl
 |v::l=>by rw[fm,List.flatten_cons,Gi l];rfl
theorem Cz{w:World}{v:Value}{l:List Int}(hp:∀x∈l,cL.dv x)(h:(bm 3 1 v l.length (l.map (ap .i64))).holds w):(cO iv).is (λk=>v.ownBlock=ah k) w [v] l:=
 ⟨v,rfl,jO.of_flat (by have:=Sl.dF h;rwa [show l.map (ap .i64)=l.flatMap (λn=>[ap .i64 n])by rw[List.map_eq_flatMap]]at this) hp (λ_ h=>h) (λa n cp hv=>by rw[hv];rfl)⟩
theorem Xz(v:Value)(g:dD)(w:World)(hG:jS (λk=>k<w.heap.size) w v g):
 Calls aC 67 #[v] w (cJ (ae' g) w):=by
 have hG0:=hG;have fS:=λw' (hg:Gr w w')=>im v g w' (hG.gr hg);obtain⟨vp,rfl,hp,ht,hn⟩:=hG;obtain⟨vb,bp,cp,rfl,-,-,Cf,mQ⟩:=abB hp;have Bb:=K5 g.aQ g.bB (ak bp g.az.length cp);have zm:=Oo;have hO:jB g=if cI g≠0 then([],[],cI g)else match allI g.az g.aQ.toNat g.bB.toNat (kE g)with
  |some (Nx,S)=>(Nx,S,0)
  |none=>([],[],8):=rfl
 unfold ae';refine enter (args:=[du g.aQ g.bB (ak bp g.az.length cp)]) (n:=81) Tryz.func67 I I I ?_;refine bZ (bx (bH I I I λg1=>?_));refine zL ?_
 try refine GA ?_
 refine aY I λg2=>?_;refine zL ?_
 repeat(first|refine GA ?_|refine gV (aJ (i:=0) aI.ty I I I) ?_)
 refine aT (lz aF.en I I) (λw hm=>fS w hm.below) I I I ?_;intro _ _;refine zL ?_
 by_cases c0:cI g=0
 ·rw[if_neg (by rw[c0];simp)]at hO
  rw[c0];obtain⟨hT1,hT2,hN1,hN2,wY,hgb⟩:=cz c0;have Mi:∀q∈g.az,q.2.length<=8:=λq hq=>(hgb q hq).1;obtain⟨T,Lh⟩:∃T:Nat,g.aQ=(T:Int):=⟨g.aQ.toNat,by omega⟩;obtain⟨N,hNn⟩:∃N:Nat,g.bB=(N:Int):=⟨g.bB.toNat,by omega⟩;rw[show g.aQ.toNat=T by omega,show g.bB.toNat=N by omega]at hO;have hT:T<=30:=by omega
  have ajf:0<g.az.length->∃b off,bp=ah ⟨b,off,aj⟩/\∀i,i<g.az.length->Rd w b (off+i*2) [ap av (a_ g.az (i:Int)).1,vb i]:=λh=>let ⟨b,off,h1,_,h3⟩:=mQ h;⟨b,off,h1,λi hi=>(h3 i hi).1⟩
  have lI:=λgo gm l0 vl h1 h2 w' B' Hs xF pg=>wl g c0 bp cp vb w hG0 Cf ajf go gm 0 (λ_=>aj) T Lh hT l0 vl h1 h2 (λx v h=>by cases h) J w' B' Hs xF pg;have hst:=λgo gm c f s x vl h1 h2 h3 h4 w' B' Hs xF pg=>Li g c0 bp cp vb w hG0 Cf ajf go gm c f T Lh hT s x vl h1 h2 h3 h4 w' B' Hs xF pg;have Jp:=HK T N J J (ak bp g.az.length cp)
  repeat(first|refine GA ?_|refine gV (aJ (i:=0) aI.ty I I I) ?_)
  refine aT (lz aF.en I I) (λw hm=>Bb w) I I I ?_;rintro⟨go,gm⟩ _
  conv=>arg 8;simp only[zJ,df,ret,id_eq,aeQ]
  conv=>arg 7;simp only[aeQ]
  try refine GA ?_
  refine Bp (K:=il) I λgq=>?_;refine zL ?_
  try refine GA ?_
  refine aY I λg6=>?_;refine zL ?_;refine bD (i:=5) I I I I I I ?_;refine zL ?_
  try refine GA ?_
  refine aY I λg7=>?_;refine zL ?_
  repeat(first|refine GA ?_|refine gV (lA I I) ?_|refine gV (aw (v:=ak bp g.az.length cp) aI.ty I (aD (i:=0) I I)) ?_|refine gV (aw (v:=ap av g.aQ) aI.ty I (aD (i:=0) I I)) ?_|refine gV (aZ I (Jo _ _)) ?_)
  refine gG (cs:=(iS ((g.az.length:Int),0,g.aQ)).toArray) I I I I I λg33=>?_;refine zL ?_;refine zt (i:=7) (m:=1) 3 I I alt ?_;refine zL ?_;have hsr:∀x∈[(((g.az.length:Int),0,g.aQ):bK.Item)],ef g.az T x:=by rw[Lh];exact fU wY hT
  try refine GA ?_
  refine bz [3,2] [0,1,4,5,6] alt I I (gh aF.en I I I) (λw' hm hb=>lI go gm [((g.az.length:Int),0,g.aQ)] _ hsr (by simp) w' _ ((ly.self w).on hm λo h=>DG h) (SlB.row hm (i:=7) I [3,2] I alt) hb) I I I ?_;rintro⟨f2,c2,v2⟩ ⟨Yq,Eo⟩
  conv=>arg 8;simp only[zJ,df,ret,id_eq,wk,opL]
  conv=>arg 7;simp only[wk]
  have yy:jY g.az T (kE g) [((g.az.length:Int),0,g.aQ)]=mB g.az T (kE g):=by rw[Lh];rfl
  rw[yy];have ahO:∀it∈mB g.az T (kE g),ef g.az T it:=jb Mi wY hT (fU wY hT);have ajg:=v_ (lk:=kE g) Mi wY hT (l0:=[((g.az.length:Int),0,(T:Int))]) (fU wY hT);have ajh:(mB g.az T (kE g)).length<=11439:=tk Mi wY hT (fU wY hT);dsimp only at Yq Eo;refine rK 256 1 ?_;refine MF (eG (cO K7) (λ_=>False) [] []) (λk hk=>hk.elim (λh=>by cases h) id) (λw=>kG) ?_;refine zL ?_;have hsm:=wm Mi wY hT ahO;have Dk:jj [] (mB g.az T (kE g))=(0,[mB g.az T (kE g)]):=if_neg (by simp)
  try refine GA ?_
  refine bz [3,2,4,8,9,7] [0,1,5,6] alt I I (sD aF.en I I) (λw' hm hb=>Cw g6 gq g7 (ak aj 0 0) (ak aj 0 0) [] (λ_=>False) [] v2 (mB g.az T (kE g)) (λt h=>by cases h) hsm (by simp) J w' _ hb) I I I ?_;rintro⟨vS,w9,F⟩ _
  conv=>arg 8;simp only[zJ,df,ret,id_eq,stL]
  rw[Dk];dsimp only;refine rK 26 1 ?_;refine MF (eG (cO iv) (λ_=>False) [] []) (λk hk=>hk.elim (λh=>by cases h) id) (λw=>kG) ?_;refine zL ?_
  try refine GA ?_
  refine dZ (ι:=Nat×List (List bK.Item)×List (List Int)×(RK->Option Value)×Nat×Value×Value×List Value×(Nat->Prop)×List Value×(Nat->Prop))
   (λ(n,S,Nx,f,c,_,_,_,_,_,_)=>n<=S.length/\Nx.length=n/\KZ g.az T (kE g) S/\S.length<=200/\xP g.az T N (kE g) (202-n) n Nx S=allI g.az T N (kE g)/\jZ (kE g) f/\c<=12000+1200000*n/\∀t∈S,t.length<=11439)
   (λ(n,_,_,_,_,_,_,_,_,_,_)=>[(1,aH (ah ⟨g1,0,aj⟩)),(2,aH (ah ⟨g2,0,aj⟩)),(5,aH (ah ⟨go,0,aj⟩)),(7,aH (ah ⟨g7,0,aj⟩)),(8,.func (.func 109) #[] #[aH (ah ⟨g6,0,aj⟩),aH (ah ⟨g7,0,aj⟩)]),(9,ap av (n:Int))])
   (λ(_,S,Nx,f,c,vS,vN,w9,F,CA,G)=>[aK g1 (du g.aQ g.bB (ak bp g.az.length cp)).cells 33,aK g2 #[ak aj 0 0,ak aj 0 0] 182,aK go (Cv g.aQ g.bB (ak bp g.az.length cp) gm).toArray 297,fq jc gm f c,aK g6 #[.map (ah gq)] 151,fq il gq (kW (S.map iu)) S.length,aK g7 #[vS,vN] 182,bm 256 1 vS S.length w9,eG (cO K7) F (w9.map λv=>[v]) S,bm 26 1 vN Nx.length CA,eG (cO iv) G (CA.map λv=>[v]) Nx]) (λ(n,_,_,_,_,_,_,_,_,_,_)=>202-n)
   (0,[mB g.az T (kE g)],[],f2,c2,vS,ak aj 0 0,w9,F,[],λ_=>False) ⟨bC _,rfl,⟨by simp,λs hs=>by rw[ez.1 hs];exact ahO,λs hs=>by rw[ez.1 hs];exact ajg⟩,by simp,rfl,Yq,by omega,λt ht=>by rw[ez.1 ht];exact ajh⟩ ?_
  clear lI ahO ajg ajh hsm Dk Yq Eo hsr yy Bb fS;rintro⟨n,S,Nx,f,c,vS,vN,w9,F,CA,G⟩ ⟨i1,i2,i3,i4,i5,i6,i7,i8⟩;dsimp only at i1 i2 i3 i4 i5 i6 i7 i8⊢;refine ix (i:=7) I gj λfu=>?_;obtain⟨aS,cS,rfl,-,haS⟩:=fu
  by_cases c1:n<S.length
  ·rw[show 202-n=(201-n)+1 by omega,xP,if_pos c1]at i5
   have UG:S.getD n []=S[n]:=by rw[cH,bL c1];rfl
   rw[UG]at i5;have hsr:=i3.right S[n] (bX c1);have hsn:S[n]?=ah S[n]:=bL c1;generalize TO:S[n]=s0 at*;have hyl:(lK T N).length=T+N:=Al T N;rw[<-Lh,<-hNn]at Jp;generalize lK T N=ys at*
   repeat(first|refine GA ?_|refine gV (aw (v:=ak aS S.length cS) aI.ty I (aD (i:=6) I I)) ?_|refine gV (aJ (i:=0) aI.ty I I I) ?_)
   refine aT (lz aF.en I I) (λw hm=>Jp w) I I I ?_;intro vy _
   conv=>arg 8;simp only[zJ,df,ret,id_eq,df]
   conv=>arg 7;simp only[df]
   refine mX (i:=11) I gj λfu=>?_;obtain⟨ay,cy,rfl,-,hay⟩:=fu
   try refine GA ?_
   refine iJ 3 1 ?_
   conv=>arg 7;simp only[zA,zB,zC,zD,zE,zF,zG,zH,zI,df,ret,id_eq]
   refine dZ (ι:=Nat×List Int×List (List bK.Item)×(RK->Option Value)×Nat×Value×List Value×(Nat->Prop)×Value)
    (λ(k,nx,S',f',c',_,_,_,_)=>k<=ys.length/\(∃E,S'=S++E)/\KZ g.az T (kE g) S'/\S'.length<=200/\Ak g.az T (kE g) s0 (ys.drop k) nx S'=Ak g.az T (kE g) s0 ys [] S/\jZ (kE g) f'/\c'<=c+12000*k/\nx.length=k/\(∀y∈nx,cL.dv y)/\∀t∈S',t.length<=11439)
    (λ(k,_,_,_,_,_,_,_,vx)=>[(1,aH (ah ⟨g1,0,aj⟩)),(2,aH (ah ⟨g2,0,aj⟩)),(5,aH (ah ⟨go,0,aj⟩)),(7,aH (ah ⟨g7,0,aj⟩)),(8,.func (.func 109) #[] #[aH (ah ⟨g6,0,aj⟩),aH (ah ⟨g7,0,aj⟩)]),(9,ap av (n:Int)),(10,vx),(44,ak ay ys.length cy),(45,ap av (ys.length:Int)),(46,ap av (k:Int))])
    (λ(_,nx,S',f',c',vS',C8,F',vx)=>[aK g1 (du g.aQ g.bB (ak bp g.az.length cp)).cells 33,aK g2 #[ak aj 0 0,ak aj 0 0] 182,aK go (Cv g.aQ g.bB (ak bp g.az.length cp) gm).toArray 297,fq jc gm f' c',aK g6 #[.map (ah gq)] 151,fq il gq (kW (S'.map iu)) S'.length,aK g7 #[vS',vN] 182,bm 256 1 vS' S'.length C8,eG (cO K7) F' (C8.map λv=>[v]) S',bm 26 1 vN Nx.length CA,eG (cO iv) G (CA.map λv=>[v]) Nx,bm 123 2 (ak ay ys.length cy) ys.length (ys.flatMap dr),bm 3 1 vx nx.length (nx.map (ap .i64))]) (λ(k,_,_,_,_,_,_,_,_)=>ys.length-k)
    (0,[],S,f,c,ak aS S.length cS,w9,F,ak aj 0 0) ⟨bC _,⟨[],(fj _).symm⟩,i3,i4,rfl,i6,by omega,rfl,(λy hy=>by cases hy),i8⟩ ?_
   clear Jp;rintro⟨k,nx,S',f',c',vS',C8,F',vx⟩ ⟨j1,⟨E,hE⟩,j3,j4,j5,j6,j7,j8,j9,j10⟩;dsimp only at j1 hE j3 j4 j5 j6 j7 j8 j9 j10⊢
   by_cases c2:k<ys.length
   ·have hn':n<S'.length:=by rw[hE,bT];omega
    have aji:S'[n]?=ah s0:=by rw[hE,lP c1];exact hsn
    refine ix (i:=7) I gj λfu=>?_;obtain⟨aS',cS',rfl,-,akS⟩:=fu;obtain⟨gS',rfl⟩:=akS J;refine ix (i:=8) I (λw h=>h.1.1) λhvl=>?_;rw[dY]at hvl;have hvn:C8[0+n]?=ah (C8[n]' J):=by rw[cU];exact bL _
    have ajj:C8[n]?=ah (C8[n]' J):=bL _;generalize C8[n]' J=vn at hvn ajj;obtain⟨gy,rfl⟩:=hay J;have eC:=λ(L:List b_) (i:Nat) (hL:L[i]?=ah (bm 123 2 (ak (ah ⟨gy,0,aj⟩) ys.length cy) ys.length (ys.flatMap dr)))=>ow (W:=(w:bV)) F3 hL c2;rw[dL c2,Ak]at j5;generalize ys[k]=x at*;have ua:s0.length<=11439:=j10 s0 (kr aji)
    repeat(first|refine GA ?_|refine gV (aR bM.eq aI.ty I I c2) ?_|refine gV (aW (cs:=dr x) aI.ty I I (eC _ 11 I)) ?_)
    refine aY I λg12=>?_;refine zL ?_;refine fR 13 (cs':=(dr x).toArray) ?_;refine zL ?_
    try refine GA ?_
    refine dG ([aK g7 #[ak (ah ⟨gS',0,aj⟩) S'.length cS',vN] 182,bm 256 1 (ak (ah ⟨gS',0,aj⟩) S'.length cS') S'.length C8,aK g12 (dr x).toArray 123]) (.calm 0 (.calm 1 (.calm 2 (.calm 3 (.calm 4 (.calm 5 (.calm 6 (.one 7 (.calm 8 (.done)))))))))) (bY [6,7,13]) ?_
    repeat(first|refine GW ?_|(refine GN ?_;first|refine QW (aw (v:=ak (ah ⟨gS',0,aj⟩) S'.length cS') aI.ty I (aD (i:=0) I I)) ?_|refine QW (bO bM.eq aI.ty I I hn') ?_|refine QW (aw (v:=vn) aI.ty I (kx (i:=1) I hvn)) ?_|refine QW (aJ (i:=2) aI.ty I I I) ?_))
    refine aM I ?_;refine bz [2,3] [0,1,4,5,6,7,8,9,10,11,12,13] alt I I (xE aF.en I I I I) (λw' hm hb=>hst go gm c' f' s0 x vn hsr J j6 J w' _ ((ly.self w).on hm λo h=>DG h) (SlB.els hm (i:=8) I [2,3] I alt aji ajj) hb) I I I ?_;rintro⟨f2,Sw,v2⟩ ⟨Yq,Eo⟩;dsimp only at Yq Eo
    conv=>arg 8;simp only[zJ,df,ret,id_eq,wk,opL]
    conv=>arg 7;simp only[wk]
    rw[show jY g.az T (kE g) (nh g.az s0 x)=hZ g.az T (kE g) s0 x from I];refine aO (bY [4,5,11]) ?_
    try refine GW ?_
    try refine GA ?_
    refine mX (i:=14) I gj λfu=>?_;obtain⟨a2,cv2,rfl,-,ha2⟩:=fu;obtain⟨hlE,hlC,hlS⟩:=I_ (lk:=kE g) Mi wY hT j3 hsr x;have hcc:Sw<=c+12000*(k+1):=ab7 Eo j7;have akT:∀it∈hZ g.az T (kE g) s0 x,ef g.az T it:=jb Mi wY hT (iB hsr);have akU:(hZ g.az T (kE g) s0 x).length<=11439:=tk Mi wY hT (iB hsr)
    by_cases c3:hZ g.az T (kE g) s0 x=[]
    ·have hcell:qV g.az T (kE g) s0 x S'=(-1,S'):=if_pos c3
     rw[hcell,if_neg (by show ¬200<S'.length;omega)]at j5;dsimp only at j5;have hl0:(hZ g.az T (kE g) s0 x).length=0:=by rw[c3];rfl
     repeat(first|refine GA ?_|refine gV (aw (v:=ak (ah ⟨gS',0,aj⟩) S'.length cS') aI.ty I (aD (i:=4) I I)) ?_)
     refine kf (i:=10) I I I I I I (λz h=>by cases h;rfl) J J I λz vx'=>?_;refine zL ?_
     try refine GA ?_
     refine dq [0,1,12,13,2,3,4,5,6,7,8,9,10] ?_;exact bQ (k+1,nx++[-1],S',f2,Sw,ak (ah ⟨gS',0,aj⟩) S'.length cS',C8,F',vx') ⟨by show k+1<=ys.length;omega,⟨E,hE⟩,j3,j4,j5,Yq,hcc,by show(nx++[-1]).length=k+1;rw[bT,j8];rfl,λy hy=>(ib.1 hy).elim (j9 y) λh=>by rw[ez.1 h];exact⟨by omega,by omega⟩,j10⟩ (by show ys.length-(k+1)<ys.length-k;omega) (hl:=by dsimp only;rw[bT,eK];rfl)
    have hcell:qV g.az T (kE g) s0 x S'=(((jj S' (hZ g.az T (kE g) s0 x)).1:Int),(jj S' (hZ g.az T (kE g) s0 x)).2):=if_neg c3;have hsm:=wm Mi wY hT akT;have hSm:∀t∈S',w8 t:=λt ht=>wm Mi wY hT (j3.right t ht);have uc:0<(hZ g.az T (kE g) s0 x).length:=List.length_pos_iff.2 c3;have hq:(jj S' (hZ g.az T (kE g) s0 x)).1<=S'.length:=by
     unfold jj;split
     ·rename_i hm;exact Nat.le_of_lt (mY hm)
     exact aX _
    rw[hcell]at j5 hlE hlC hlS;dsimp only at j5 hlE hlC hlS
    try refine GA ?_
    refine bz [2,3,4,5,6,14] [0,1,7,8,9,10,11,12,13] alt I I (sD aF.en I I) (λw' hm hb=>Cw g6 gq g7 (ak (ah ⟨gS',0,aj⟩) S'.length cS') vN C8 F' S' _ (hZ g.az T (kE g) s0 x) hSm hsm J J w' _ hb) I I I ?_;rintro⟨vS2,akV,F2⟩ _
    conv=>arg 8;simp only[zJ,df,ret,id_eq,stL]
    have Gj:∀t∈(jj S' (hZ g.az T (kE g) s0 x)).2,t.length<=11439:=by
     unfold jj;split;exact j10;intro t ht;rcases ib.1 ht with h|h
     exact j10 t h;rw[ez.1 h];exact akU
    generalize jj S' (hZ g.az T (kE g) s0 x)=R at*;obtain⟨q,S2⟩:=R;dsimp only at j5 hlE hlC hlS hq Gj⊢;refine mX (i:=12) I gj λfu=>?_;obtain⟨aS2,cS2,rfl,-,alQ⟩:=fu;obtain⟨E2,hE2⟩:=hlE
    by_cases c4:200<S2.length
    ·rw[if_pos c4]at j5
     rw[<-j5]at i5
     repeat(first|refine GC ?_|refine gV (aw (v:=ak aS2 S2.length cS2) aI.ty I (aD (i:=11) I I)) ?_|refine gV (eO (b:=aB) I I (decide_eq_true J)) ?_|refine gV (aZ I zm) ?_|refine GB ?_)
     have hOn:jB g=([],[],8):=by rw[hO,<-i5]
     rw[hOn];refine fR 1 ?_;refine zL ?_
     try refine GA ?_
     refine eI 256 1 (jP (eG (cO K7) (λ_=>False) [] []) (λk hk=>hk.elim (λh=>by cases h) id) (λw=>kG) (eI 26 1 (jP (eG (cO iv) (λ_=>False) [] []) (λk hk=>hk.elim (λh=>by cases h) id) (λw=>kG) ?_)));exact dH (i:=1) I I I I I λw hm=>hm.meets (S:=⟨λ(_:Value×Value×List Value×(Nat->Prop)×List Value×(Nat->Prop))=>True,λx=> .tuple #[aP #[x.1,x.2.1],ap av 8],λx=>[bm 256 1 x.1 0 x.2.2.1,eG (cO K7) x.2.2.2.1 (x.2.2.1.map λv=>[v]) [],bm 26 1 x.2.1 0 x.2.2.2.2.1,eG (cO iv) x.2.2.2.2.2 (x.2.2.2.2.1.map λv=>[v]) []]⟩) (ak aj 0 0,ak aj 0 0,[],λ_=>False,[],λ_=>False) trivial [14,15,16,17] alt I
    rw[if_neg c4]at j5
    repeat(first|refine GC ?_|refine gV (aw (v:=ak aS2 S2.length cS2) aI.ty I (aD (i:=11) I I)) ?_|refine gV (eO (b:=aE) I I (decide_eq_false J)) ?_|refine GB ?_)
    refine kf (i:=5) I I I I I I (λz h=>by cases h;rfl) J J I λz vx'=>?_;refine zL ?_
    try refine GA ?_
    refine dq [0,1,7,8,9,10,11,12,13,2,3,4,5] ?_;exact bQ (k+1,nx++[(q:Int)],S2,f2,Sw,ak aS2 S2.length cS2,akV,F2,vx') ⟨by show k+1<=ys.length;omega,⟨E++E2,by rw[hE2,hE,eu]⟩,hlS,by show S2.length<=200;omega,j5,Yq,hcc,by show(nx++[(q:Int)]).length=k+1;rw[bT,j8];rfl,λy hy=>(ib.1 hy).elim (j9 y) λh=>by rw[ez.1 h];exact⟨by omega,by omega⟩,λt ht=>Gj t ht⟩ (by show ys.length-(k+1)<ys.length-k;omega) (hl:=by dsimp only;rw[bT,eK];rfl)
   obtain rfl:k=ys.length:=by omega
   rw[List.drop_eq_nil_of_le (aX _),Ak]at j5;rw[<-j5]at i5;dsimp only at i5
   repeat(first|refine GA ?_|refine gV (aw (v:=vN) aI.ty I (aD (i:=6) I I)) ?_)
   refine aU (i:=12) I λIa Ig=>?_;refine kf (i:=9) I I Ia Ig I I (λz h=>by cases h;rfl) J J I λz vN'=>?_;refine zL ?_;refine uK (eG (cO iv) (λk=>G k\/vx.ownBlock=ah k) ((CA.map λv=>[v])++[[vx]]) (Nx++[nx])) 12 10 [0,1,2,3,4,5,6,7,8,9] alt I I I (λk hk=>hk.elim (λh=>by cases h) λh=>h.elim (λh=> .inr (.inr h)) λh=> .inl (.inl h)) (λw hr he=>pJ he (Cz j9 hr) (Au hr)) ?_;refine zL ?_
   try refine GA ?_
   refine aU (i:=9) I λjm mz=>bD (i:=6) I I I jm mz I ?_;refine zL ?_
   try refine GA ?_
   exact bQ (n+1,S',Nx++[nx],f',c',vS',vN',C8,F',CA++[vx],λk=>G k\/vx.ownBlock=ah k) ⟨by show n+1<=S'.length;rw[hE,bT];omega,by show(Nx++[nx]).length=n+1;rw[bT,i2];rfl,j3,j4,by show xP g.az T N (kE g) (202-(n+1)) (n+1) (Nx++[nx]) S'=_;rw[show 202-(n+1)=201-n by omega];exact i5,j6,by dsimp only;omega,j10⟩ (by show 202-(n+1)<202-n;omega) (hl:=by dsimp only;rw[bT,eK];rfl)
  have hA:allI g.az T N (kE g)=ah (Nx,S):=by rw[<-i5,show 202-n=(201-n)+1 by omega,xP,if_neg c1]
  rw[hA]at hO;have hO:jB g=(Nx,S,0):=hO;rw[hO];refine ix (i:=9) I gj λfu=>?_;obtain⟨aN,cN,rfl,-⟩:=fu
  repeat(first|refine GA ?_|refine gV (aw (v:=ak aS S.length cS) aI.ty I (aD (i:=6) I I)) ?_|refine gV (aJ (i:=6) aI.ty I I I) ?_)
  refine fR 1 (cs':=#[ak aS S.length cS,ak aN Nx.length cN]) ?_;refine zL ?_
  try refine GA ?_
  exact dH (i:=1) I I I I I λw hm=>hm.meets (S:=⟨λ(_:Value×Value×List Value×(Nat->Prop)×List Value×(Nat->Prop))=>True,λx=> .tuple #[aP #[x.1,x.2.1],ap av 0],λx=>[bm 256 1 x.1 S.length x.2.2.1,eG (cO K7) x.2.2.2.1 (x.2.2.1.map λv=>[v]) S,bm 26 1 x.2.1 Nx.length x.2.2.2.2.1,eG (cO iv) x.2.2.2.2.2 (x.2.2.2.2.1.map λv=>[v]) Nx]⟩) (ak aS S.length cS,ak aN Nx.length cN,w9,F,CA,G) trivial [7,8,9,10] alt I
 ·rw[if_pos c0]at hO
  rw[hO]
  repeat(first|refine GC ?_|refine gV (dh (b:=aB) I I (decide_eq_true c0)) ?_|refine gV (aZ I zm) ?_|refine GB ?_)
  refine fR 1 ?_;refine zL ?_
  try refine GA ?_
  refine eI 256 1 (jP (eG (cO K7) (λ_=>False) [] []) (λk hk=>hk.elim (λh=>by cases h) id) (λw=>kG) (eI 26 1 (jP (eG (cO iv) (λ_=>False) [] []) (λk hk=>hk.elim (λh=>by cases h) id) (λw=>kG) ?_)));exact dH (i:=1) I I I I I λw hm=>hm.meets (S:=⟨λ(_:Value×Value×List Value×(Nat->Prop)×List Value×(Nat->Prop))=>True,λx=> .tuple #[aP #[x.1,x.2.1],ap av (cI g)],λx=>[bm 256 1 x.1 0 x.2.2.1,eG (cO K7) x.2.2.2.1 (x.2.2.1.map λv=>[v]) [],bm 26 1 x.2.1 0 x.2.2.2.2.1,eG (cO iv) x.2.2.2.2.2 (x.2.2.2.2.1.map λv=>[v]) []]⟩) (ak aj 0 0,ak aj 0 0,[],λ_=>False,[],λ_=>False) trivial [2,3,4,5] alt I
end cB
namespace bK
open aL dI cX
section
variable{l:List aL.Prod}{T N:Nat}{lk:Int->Int->Nat}{Nx:List (List Int)}{S:List (List Item)}
theorem Oq{P:List Item->Prop}(hP:∀s x,(∀it∈s,ef l T it)->P s->P (hZ l T lk s x)){s:List Item}(hs:∀it∈s,ef l T it)(h0:P s):∀(xs:List bJ) (nx:List Int) (S:List (List Item)) (NY:List Int) (S':List (List Item)),(∀s∈S,P s)->Ak l T lk s xs nx S=ah (NY,S')->∀s∈S',P s
 | [],nx,S,NY,S',hS,h=>by
  simp_all[Ak]
 | x::xs,nx,S,NY,S',hS,h=>by
  rw[Ak]at h
  by_cases c:200<(qV l T lk s x S).2.length
  simp_all;rw[if_neg c]at h;refine Oq hP hs h0 xs _ _ NY S' ?_ h;intro s' xF;unfold qV at xF;split at xF;exact hS s' xF;unfold jj at xF;split at xF;exact hS s' xF;rcases ib.1 xF with h'|h'
  exact hS s' h';rw[ez.1 h'];exact hP s x hs h0
theorem Gk{P:List Item->Prop}(hw:∀q∈l,q.2.length<=8)(hl:l.length<=40)(hT:T<=30)(hP:∀s x,(∀it∈s,ef l T it)->P s->P (hZ l T lk s x)):∀(f n:Nat) (Nx:List (List Int)) (S:List (List Item)) (Nx':List (List Int)) (S':List (List Item)),(∀s∈S,P s/\∀it∈s,ef l T it)->xP l T N lk f n Nx S=ah (Nx',S')->∀s∈S',P s
 |0,_,_,_,_,_,_,h=>by cases h
 | f + 1,n,Nx,S,Nx',S',hS,h=>by
  rw[xP]at h
  by_cases c:n<S.length
  ·rw[if_pos c]at h
   have te:S.getD n []=S[n]:=by simp_all
   have hn:=hS _ (bX c);rw[<-te]at hn
   cases e:Ak l T lk (S.getD n []) (lK T N) [] S with
   |none=>simp_all
   | some r=>
    obtain⟨nx,S1⟩:=r;rw[e]at h;have hQ:∀s x,(∀it∈s,ef l T it)->(P s/\∀it∈s,ef l T it)->P (hZ l T lk s x)/\∀it∈hZ l T lk s x,ef l T it:=λs x h1 h2=>⟨hP s x h1 h2.1,jb hw hl hT (iB h1)⟩;exact Gk hw hl hT hP f (n+1) _ S1 Nx' S' (Oq hQ hn.2 hn (lK T N) [] S nx S1 hS e) h
  simp_all
theorem U5(hw:∀q∈l,q.2.length<=8)(hl:l.length<=40)(hT:T<=30)(h:allI l T N lk=ah (Nx,S)):∀q,q<S.length->∀it∈S.getD q [],it.1=(l.length:Int)->it.2.2=(T:Int):=by
 have TO:∀it∈mB l T lk,ef l T it:=jb hw hl hT (fU hl hT);have Xw:∀{it2 it:Item},C6 l T lk it2 it->it.1<(l.length:Int):=λ{it2 it} h=>by
  obtain⟨_,i,k,_,h2,_,_,_,rfl⟩:=h;show(i:Int)<_
  omega
 have:=Gk (P:=λs=>∀it∈s,it.1=(l.length:Int)->it.2.2=(T:Int)) (N:=N) hw hl hT (λs x hs hP it hit h1=>by
  have hm:=(eZ (lk:=lk) hw hl hT (iB (x:=x) hs) (x:=it)).1 hit
  cases hm with
  |base hb=>
   obtain⟨PE,h2,h3,rfl⟩:=An.1 hb;exact hP PE h2 h1
  |step _ h2=>grind) 202 0 [] [mB l T lk] Nx S (λs hs=>by
   rw[ez.1 hs];refine⟨λit hit h1=>?_,TO⟩;have hm:=(eZ (lk:=lk) hw hl hT (fU hl hT) (x:=it)).1 hit
   cases hm with
   |base hb=>simp_all
   |step _ h2=>grind) h
 grind
theorem afa(hw:∀q∈l,q.2.length<=8)(hl:l.length<=40)(hT:T<=30)(h:allI l T N lk=ah (Nx,S)):∀s∈S,s.length<=11439:=
 Gk (P:=λs=>s.length<=11439) (N:=N) hw hl hT (λs x hs _=>tk hw hl hT (iB hs)) 202 0 [] [mB l T lk] Nx S (λs hs=>by
  rw[ez.1 hs];exact⟨tk hw hl hT (fU hl hT),jb hw hl hT (fU hl hT)⟩) h
end
end bK
namespace cB
open Go.RowKit cL dV aL dI dA bK cX
theorem U6{g:dD}(h:(jB g).2.2=0):cI g=0/\allI g.az g.aQ.toNat g.bB.toNat (kE g)=ah ((jB g).1,(jB g).2.1):=by
 unfold jB at h⊢
 grind
theorem afb{g:dD}(h:(jB g).2.2≠0):(jB g).2.1=[]/\(jB g).1=[]:=by
 unfold jB at h⊢
 grind
def WrI(p:Nat->Nat->Prop)(v:Value):Prop:=v=ak aj 0 0\/∃g n cap,v=ak (ah ⟨g,0,aj⟩) n cap/\n<=cap/\cap<=9223372036854775807/\p g cap
theorem WrI.imp{p q:Nat->Nat->Prop}{v:Value}(h:WrI p v)(hpq:∀g cap,p g cap->q g cap):WrI q v:=
 h.elim .inl λ⟨g,n,cap,h1,h2,h3,h4⟩=> .inr ⟨g,n,cap,h1,h2,h3,hpq _ _ h4⟩
section
variable(e:TypeId)(sz:Nat)
def wrP(F:Nat->Prop)(w:World)(g cap:Nat):Prop:=F g/\∃cs:Array Value,w.heap[g]?=ah (.cells cs e (0,0))/\cs.size=cap*sz
variable{e sz}in
theorem wrP.stay{F:Nat->Prop}{w w':World}{g cap:Nat}(h:wrP e sz F w g cap)(hk:w'.heap[g]?=w.heap[g]?):wrP e sz F w' g cap:=
 let ⟨h1,cs,h2,h3⟩:=h;⟨h1,cs,by rw[hk];exact h2,h3⟩
end
section
variable{e:TypeId}{sz:Nat}
theorem ahP{v:Value}{n:Nat}{xs:List Value}{w:World}(hr:(bm e sz v n xs).holds w):WrI (wrP e sz (λk=>v.ownBlock=ah k) w) v:=by
 have h1:w.ownsRow 0 e sz v n xs:=hr;rcases h1.2 with⟨hv,h0⟩|⟨g,cap,cs,hv,hb,hg,Qu,hcm,hcs,Mh⟩
 exact .inl hv;exact .inr ⟨g,_,cap,hv,Qu,by unfold maxLen at hcm;omega,by rw[hv];rfl,cs,hg,hcs⟩
end
end cB
namespace rj
open aL dI eh dA
def Ot(o:bJ->Nat->Nat->Nat)(x:bJ)(pf:Nat)(A:Nat->Bool):Nat->Nat->Bool
 |0,_=>aE
 |k+1,b=>Ot o x pf A k b||(A (pf+k)&&decide (pf+k<=b)&&decide (0<o x (pf+k) b))
def ab8(p:Nat->Bool)(pf:Nat):Nat->Bool
 |0=>aE
 |k+1=>ab8 p pf k||p (pf+k)
def afc(o:bJ->Nat->Nat->Nat)(O:Nat->Nat->Bool)(n pf:Nat):List bJ->(Nat->Bool)->Bool
 |[],A=>A n
 |x::r,A=>if A n=aB then aB else if x.1=2/\ab8 (λa=>A a&&O x.2.toNat a) pf (n+1-pf)=aB then aB else afc o O n pf r (Ot o x pf A (n+1-pf))
def Lj(o:bJ->Nat->Nat->Nat)(O:Nat->Nat->Bool)(M:List Bool)(n pf:Nat)(l:List bJ):Bool:=if kz M l aB=aB then afc o O n pf l (λb=>decide (b=pf))else aE
section
variable{o:bJ->Nat->Nat->Nat}{x:bJ}{pf:Nat}{A:Nat->Bool}
theorem Jq{b:Nat}:∀{k:Nat},Ot o x pf A k b=aB↔∃i,i<k/\A (pf+i)=aB/\pf+i<=b/\0<o x (pf+i) b
 |0=>by simp[Ot]
 | k+1=>by
  rw[Ot,ko,Jq,eE,eE,decide_eq_true_iff,decide_eq_true_iff]
  grind
theorem Ou{p:Nat->Bool}:∀{k:Nat},ab8 p pf k=aB↔∃i,i<k/\p (pf+i)=aB
 |0=>by simp[ab8]
 | k+1=>by
  rw[ab8,ko,Ou]
  grind
end
section
variable{w:List Int}{l:List aL.Prod}{n:Nat}{c:eR}{O:Nat->Nat->Bool}
theorem Gm:∀(b:List bJ),(∀x∈b,∃ws,By l x ws)->∃ws,pS l b ws
 |[],_=>⟨[],.nil⟩
 |x::r,h=>by
  obtain⟨u,h1⟩:=h x (by simp);obtain⟨s,h2⟩:=Gm r λy hy=>h y (by grind);exact⟨u++s,.cons h1 h2⟩
theorem ab9{a b:Nat}(h:a<=b):cut w a b++w.drop b=w.drop a:=by
 grind[cut,List.drop_drop,oK]
theorem Gn(hc:AS w l n c)(hs:fY n l)(hO:∀(k:Nat) a,O k a=aB->a<=w.length->∃v,By l (2,(k:Int)) (w.drop a++v)){pf:Nat}(hf:pf<=w.length):∀(body:List bJ) (A:Nat->Bool) (pre:List bJ),(∀x∈body,(x.1=1\/(x.1=2/\0<=x.2/\x.2<(n:Int)))/\∃ws,By l x ws)->(∀b,pf<=b->b<=w.length->A b=aB->pS l pre (cut w pf b))->afc (cD c w) O w.length pf body A=aB->∃v,pS l (pre++body) (w.drop pf++v)
 | [],A,pre,_,hA,h=>by
  have:=hA w.length hf (aX _) h;rw[Dt I]at this;exact⟨[],by simp_all⟩
 | x ::r,A,pre,hx,hA,h=>by
  rw[afc]at h;split at h
  ·rename_i h1
   have h2:=hA w.length hf (aX _) h1;rw[Dt I]at h2;obtain⟨ws,h3⟩:=Gm (x::r) λy hy=>(hx y hy).2;exact⟨ws,h2.Q_ h3⟩
  split at h
  ·rename_i h1
   obtain⟨h1,h2⟩:=h1;obtain⟨i,h3,h4⟩:=Ou.1 h2;rw[eE]at h4;have hk:=((hx x (by simp)).1.resolve_left J).2;obtain⟨v,h5⟩:=hO _ _ h4.2 J;obtain⟨x1,x2⟩:=x;subst h1;rw[uP hk.1]at h5;obtain⟨ws,h6⟩:=Gm r λy hy=>(hx y (by grind)).2;refine⟨v++ws,?_⟩;have h7:=(hA (pf+i) J J h4.1).Q_ (pS.cons h5 h6);rw[eu (w.drop (pf+i)),<-eu (cut w pf (pf+i)),ab9 J]at h7;exact h7
  obtain⟨v,h1⟩:=Gn hc hs hO hf r _ (pre++[x]) (λy hy=>hx y (by grind)) (λb HA Qw hb=>by
   obtain⟨i,h3,h4,h5,h6⟩:=Jq.1 hb;rw[<-wV (by omega:pf<=pf+i) h5];exact(hA _ J J h4).Q_ (aaL (Q' hc hs (hx x (by simp)).1 h5 Qw h6))) h
  grind
theorem Lk{M:List Bool}(hM:∀i:Nat,M.getD i aE=aB->∃ws,By l (2,(i:Int)) ws)(hc:AS w l n c)(hs:fY n l)(hO:∀(k:Nat) a,O k a=aB->a<=w.length->∃v,By l (2,(k:Int)) (w.drop a++v)){pf:Nat}(hf:pf<=w.length){body:List bJ}(hx:∀x∈body,x.1=1\/(x.1=2/\0<=x.2/\x.2<(n:Int)))(h:Lj (cD c w) O M w.length pf body=aB):∃v,pS l body (w.drop pf++v):=by
 unfold Lj at h;split at h
 ·rename_i hm
  refine Gn hc hs hO hf body _ [] (λx hb=>⟨hx x hb,?_⟩) (λb _ _ hb=>?_) h
  ·unfold kz at hm
   have:=pB.1 hm x hb;rcases hx x hb with c1|⟨c1,c2,_⟩
   exact⟨_,.pO c1⟩;rw[if_neg J,if_pos c1]at this;obtain⟨ws,hw⟩:=hM _ this;obtain⟨x1,x2⟩:=x;subst c1;rw[uP c2]at hw;exact⟨ws,hw⟩
  have:b=pf:=by simp_all
  subst this;rw[Fe];exact .nil
 cases h
end
end rj
namespace aL
abbrev Tx:=List UInt8
def dec(n:Nat):Tx:=if n<10 then [fN (48+n)]else [fN (48+n/10),fN (48+n %10)]
def xu(c:UInt8):Tx->Tx×Tx×Bool
 |[]=>([],[],aE)
 |b::r=>if b=c then([],r,aB)else(b::(xu c r).1,(xu c r).2.1,(xu c r).2.2)
def ab_(x:bJ):Tx:=32::(if x.1=1 then 116 else 110)::dec x.2.toNat
theorem afd(n:Nat):0<(dec n).length/\(dec n).length<=2:=by grind[dec]
theorem wV{c:UInt8}:∀{a:Tx} (b:Tx),(∀x∈a,x≠c)->xu c (a++c::b)=(a,b,aB)
 |[],b,_=>by rw[fD,xu,if_pos I]
 |x::a,b,h=>by
  rw[mg,xu,if_neg (h x (List.mem_cons_self ..)),wV b λy hy=>h y (List.mem_cons_of_mem _ hy)]
theorem aca{c:UInt8}:∀{s:Tx},(xu c s).2.2=aB->s=(xu c s).1++c::(xu c s).2.1
 |[],h=>by cases h
 | b::r,h=>by
  rw[xu]at h⊢;split at h
  simp_all
  rename_i e
  rw[if_neg e];show b::r=b::((xu c r).1++c::(xu c r).2.1)
  rw[<-aca (s:=r) h]
theorem Uk{c:UInt8}{s:Tx}(h:(xu c s).2.2=aB):(xu c s).1.length+(xu c s).2.1.length+1=s.length:=by
 have:=congrArg List.length (aca h);rw[bT,dj]at this;omega
theorem afe(x:bJ):0<(ab_ x).length/\(ab_ x).length<=4:=by simp[afd,ab_]
theorem Al:∀l:List bJ,l.length<=(l.flatMap ab_).length/\(l.flatMap ab_).length<=4*l.length
 |[]=>⟨aX _,aX _⟩
 |x::l=>by
  have h1:=afe x;have h2:=Al l;rw[List.flatMap_cons,bT,dj];omega
end aL
namespace iK
open dg gv
open aL (xu wV)
abbrev Bs:=List UInt8
abbrev Wd:=Bs×Rx
abbrev Rl:=Bs×List Bs
structure Sp where
 words:List Wd
 rules:List Rl
def xR(b:UInt8):Bool:=decide (97<=b.toNat)&&decide (b.toNat<=122)
def tw(s:Bs):Bool:=decide (s≠[])&&decide (s.length<=12)&&s.all xR
def lY:List Wd->List Bs->Int×List Bs
 |[],of=>(0,of)
 |w::r,of=>if w.1≠[]/\tw w.1=aE then(1,of)else if cB.ZW w.2≠0 then(cB.ZW w.2,of)else if w.1∈of then(11,of)else lY r (if w.1=[]then of else of++[w.1])
def rD:List Rl->List Bs->Int
 |[],_=>0
 |r::l,of=>if tw r.1=aE then 1 else if r.1∈of then 11 else rD l of
def BV(of hd:List Bs)(l:List Bs):Bool:=l.all λx=>decide (x∈of)||decide (x∈hd)
def sc(of hd:List Bs)(l:List Rl):Bool:=l.all λr=>BV of hd r.2
def ql(s:Sp):Int:=
 if 60<s.words.length\/60<s.words.length+s.rules.length then 2
 else if(lY s.words []).1≠0 then(lY s.words []).1
 else if rD s.rules (lY s.words []).2≠0 then rD s.rules (lY s.words []).2
 else if sc (lY s.words []).2 (s.rules.map (·.1)) s.rules=aB then 0 else 11
end iK
namespace cB
open Go.RowKit cL dV dg gv iK
def Ay:yt Wd:=ZQ V3 yw
def Jr:yt Rl:=ZQ V3 (cO V3)
def bsC(s:Bs):List Value:=[str s]
theorem U7(s:Bs):(bsC s).length=1:=rfl
def XA(F:Nat->Prop)(w:World)(v:Value)(s:Sp):Prop:=∃vw vr,v=aP #[vw,vr]/\jO Ay F w vw s.words/\jO Jr F w vr s.rules
theorem acb{α:Type}{s:yt α}{w w':World}{v:Value}{l:List α}(h:jO s (rP w) w v l)(hg:Gr w w'):jO s (rP w') w' v l:=
 (h.stay λk hk=>hg.block k hk).mono λ_ hk=>jt hk hg.size
theorem XA.gr{w w':World}{v:Value}{s:Sp}(h:XA (rP w) w v s)(hg:Gr w w'):XA (rP w') w' v s:=by
 obtain⟨vw,vr,h1,h2,h3⟩:=h;exact⟨vw,vr,h1,acb h2 hg,acb h3 hg⟩
def zk(n:Bs)(k:Int)(c:C4)(v:Value):List Value:=str n::mL k c v
theorem Sx{n:Bs}{k:Int}{c:C4}{vk:Value}{j:Nat}{v:Value}(h:(mL k c vk)[j]?=ah v):(zk n k c vk).toArray[0+1+j]?=ah v:=by
 rw[oY,cU,Nat.add_comm];exact h
theorem U8{F:Nat->Prop}{w:World}{b off:Nat}{l:List Wd}(h:∀i (h:i<l.length),∃cs,Ay.is F w cs l[i]/\Rd w b (off+i*Ay.c) cs){k:Nat}(hk:k<l.length):
 ∃base cap,Rd w b (off+k*7) (zk l[k].1 l[k].2.kind l[k].2.uF (.slice base l[k].2.kids.length cap))/\oQ F w (ra l[k].2.kind l[k].2.uF (.slice base l[k].2.kids.length cap)) l[k].2/\l[k].1.length<=9223372036854775807:=by
 obtain⟨cs,⟨c1,c2,rfl,⟨rfl,h1⟩,h2⟩,h3⟩:=h k hk;have h2:kH F w c2 l[k].2:=h2;have h4:=h2.r;obtain⟨vk,e,-,hs⟩:=h4;obtain⟨base,cap,rfl,-⟩:=hs;have e2:c2=mL l[k].2.kind l[k].2.uF (.slice base l[k].2.kids.length cap):=by
  unfold ra at e;simp only[nS]at e
  simpa using congrArg abV e
 subst e2;exact⟨base,cap,h3,h2.r,h1⟩
theorem DH{F:Nat->Prop}{w:World}{b off:Nat}{l:List Rl}(h:∀i (h:i<l.length),∃cs,Jr.is F w cs l[i]/\Rd w b (off+i*Jr.c) cs){k:Nat}(hk:k<l.length):
 ∃base cap,Rd w b (off+k*2) [str l[k].1,.slice base l[k].2.length cap]/\jO V3 F w (.slice base l[k].2.length cap) l[k].2/\l[k].1.length<=9223372036854775807:=by
 obtain⟨cs,⟨c1,c2,rfl,⟨rfl,h1⟩,v,rfl,hs⟩,h3⟩:=h k hk;have TO:=hs;obtain⟨base,cap,rfl,-⟩:=hs;exact⟨base,cap,h3,TO,h1⟩
theorem XB{b:UInt8}{r:Bs}:(b::r).all xR=(xR b&&r.all xR):=rfl
theorem Js{b:UInt8}:xR b=aB↔¬((b.toNat:Int)<97)/\¬((b.toNat:Int)>122):=by
 unfold xR;simp only[eE,decide_eq_true_eq];omega
theorem CC(s:Bs)(w:World):Calls aC 55 #[str s] w (cJ (ret (.bool (tw s))) w):=by
 refine enter (args:=[str s]) (n:=27) Tryz.func55 I I I ?_
 try refine GA ?_
 by_cases c0:s=[]
 ·subst c0
  repeat(first|refine GC ?_|refine gV (uB (b:=aB) I I I) ?_|refine GB ?_)
  exact eN I I I
 by_cases c1:12<s.length
 ·repeat(first|refine GC ?_|refine gV (uB (b:=aE) I I (decide_eq_false c0)) ?_|refine GB ?_)
  exact eN I I (by unfold tw;rw[decide_eq_false (show ¬s.length<=12 by omega)];simp)
 have hB:tw s=s.all xR:=by unfold tw;rw[decide_eq_true c0,decide_eq_true (show s.length<=12 by omega)];rfl
 repeat(first|refine GC ?_|refine gV (uB (b:=aE) I I (decide_eq_false c0)) ?_|refine GB ?_)
 refine dZ (ι:=Nat) (λk=>k<=s.length/\(s.drop k).all xR=s.all xR) (λk=>[(0,str s),(12,ap av s.length),(13,ap av (k:Int))]) (λ_=>[]) (λk=>s.length-k) 0 ⟨bC _,rfl⟩ ?_;rintro k ⟨i1,i2⟩
 by_cases c2:k<s.length
 ·rw[dL c2,XB]at i2
  have hk:=bL c2;rw[hB];generalize s[k]=b at*
  cases hb:xR b with
  | true=>
   obtain⟨b1,b2⟩:=Js.1 hb;rw[hb,yY]at i2
   repeat(first|refine GA ?_|refine gV (wL (b:=b) bM.eq I I J hk) ?_)
   exact bQ (k+1) ⟨by omega,i2⟩ (by show s.length-(k+1)<s.length-k;omega)
  | false=>
   rw[hb,Lf]at i2;rw[<-i2]
   by_cases b1:(b.toNat:Int)<97
   ·repeat(first|refine GA ?_|refine gV (wL (b:=b) bM.eq I I J hk) ?_)
    exact eN I I I
   have b2:(b.toNat:Int)>122:=by
    by_cases b2:(b.toNat:Int)>122
    exact b2;rw[Js.2 ⟨b1,b2⟩]at hb;cases hb
   repeat(first|refine GA ?_|refine gV (wL (b:=b) bM.eq I I J hk) ?_)
   exact eN I I I
 have e:k=s.length:=by omega
 subst e;rw[wj]at i2;rw[hB,<-i2]
 try refine GA ?_
 exact eN I I I
def KeysOf(m:Bs->Option Value)(of:List Bs):Prop:=∀y,(m y).isSome=decide (y∈of)
theorem sd{m:Bs->Option Value}{of:List Bs}{y:Bs}{v:Value}(h:KeysOf m of)(e:m y=ah v):y∈of:=by
 have:=h y;rw[e]at this;exact of_decide_eq_true this.symm
theorem se{m:Bs->Option Value}{of:List Bs}{y:Bs}(h:KeysOf m of)(e:m y=aj):y∉of:=by
 have:=h y;rw[e]at this;exact of_decide_eq_false this.symm
theorem Ov{m:Bs->Option Value}{of:List Bs}{x:Bs}{v:Value}(h:KeysOf m of):KeysOf (λy=>if y=x then ah v else m y) (of++[x]):=λy=>by
 by_cases e:y=x
 subst e;simp;dsimp only;rw[if_neg e,h y];simp[e]
theorem h_(w:World):(zeroValue 3).run aC w= .ok (ap av 0) w:=by kernel_rfl
def tA(gm:Nat)(r:Int×List Bs):Spec ((Bs->Option Value)×Nat):=⟨λx=>KeysOf x.1 r.2/\x.2<=60,λ_=>ap av r.1,λx=>[fq il gm x.1 x.2]⟩
theorem Ow(vw vr:Value)(l:List Wd)(gm:Nat)(w0:World)(hw:jO Ay (rP w0) w0 vw l)(hl:l.length<=60)(w:World)(B:bV)(ho:ly w0 B)(hm:Mem B [fq il gm (λ_=>aj) 0] w):
 Calls aC 54 #[aP #[vw,vr],.map (ah gm)] w (dz (tA gm (lY l [])) B):=by
 obtain⟨bw,cw,rfl,-,-,gu⟩:=hw;have hnm:=λs w=>CC s w;refine dT hm (args:=[aP #[ak bw l.length cw,vr],.map (ah gm)]) (n:=49) Tryz.func54 I I I ?_;refine bZ (bx (bH I I I λg2=>?_));refine zL ?_
 repeat(first|refine GA ?_|refine gV (aw (v:=ak bw l.length cw) aI.ty I (aD (i:=1) I I)) ?_)
 refine tY [0] ?_;generalize jh:lY l []=fin;refine dZ (ι:=Nat×List Bs×(Bs->Option Value)×Nat) (λ(k,of,m,n)=>k<=l.length/\n<=k/\KeysOf m of/\lY (l.drop k) of=fin) (λ(k,_,_,_)=>[(1,.map (ah gm)),(11,ak bw l.length cw),(12,ap av l.length),(13,ap av (k:Int))]) (λ(_,_,m,n)=>[fq il gm m n]) (λ(k,_)=>l.length-k) (0,[],λ_=>aj,0) ⟨bC _,aX _,λy=>rfl,jh⟩ ?_;clear hm jh;rintro⟨k,of,m,n⟩ ⟨i1,i2,i3,i4⟩;dsimp only at i1 i2 i3 i4⊢
 by_cases c1:k<l.length
 ·obtain⟨b,off,rfl,_,hr⟩:=gu J
  obtain⟨bk,ck,q1,q2,q3⟩:=U8 hr c1;rw[dL c1,lY]at i4;have eC:∀(L:List b_) (j:Nat) (u:Value),(zk l[k].1 l[k].2.kind l[k].2.uF (.slice bk l[k].2.kids.length ck))[j]?=ah u->At B L ⟨b,off+k*7+j,aj⟩ u:=λL j u hj=>eY ho (q1 j u hj);have fS:=λw' (hg:Gr w0 w')=>uL _ _ w' (q2.gr hg);clear hr gu q1 q2;generalize l[k]=wd at*;obtain⟨nm,r⟩:=wd;dsimp only at*;generalize ZW r=er at*;generalize r.kind=rk at*;generalize r.uF=rc at*;generalize r.kids.length=rn at*
  repeat(first|refine GA ?_|refine gV (aR bM.eq aI.ty I I c1) ?_|refine gV (aW (cs:=zk nm rk rc (ak bk rn ck)) aI.ty I I (eC _)) ?_)
  clear eC;refine aY I λg6=>?_;refine zL ?_
  try refine GA ?_
  refine fR 1 (cs':=(zk nm rk rc (ak bk rn ck)).toArray) ?_;refine zL ?_
  repeat(first|refine GA ?_|refine gV (aw (v:=str nm) aI.ty I (aD (i:=1) I I)) ?_)
  by_cases e0:nm=[]
  ·subst e0
   rw[if_neg (λh=>h.1 I)]at i4
   repeat(first|refine GC ?_|refine gV (zr (b:=aE) I I I) ?_|refine gV (aW (cs:=mL rk rc (ak bk rn ck)) aI.ty I I (λj v hj=>aD (i:=1) I (Sx hj))) ?_|refine GB ?_)
   refine aT (lz aF.en I I) (λw hm=>fS _ (ho.mem hm)) I I I ?_;intro _ _;refine zL ?_
   by_cases e1:er=0
   ·subst e1
    rw[if_neg (by simp)]at i4
    repeat(first|refine GA ?_|refine gV (aw (v:=str []) aI.ty I (aD (i:=1) I I)) ?_)
    cases Cx:m []with
    | some v=>
     have J2:=sd i3 Cx;rw[if_pos J2]at i4
     repeat(first|refine GA ?_|refine gV (aw (v:=str []) aI.ty I (aD (i:=1) I I)) ?_|refine gV (jQ il (x:=([]:Bs)) bM.eq h_ (i:=0) I I I q3 Cx) ?_)
     subst i4;exact cV I I λw hm=>hm.cg (S:=tA gm _) (m,n) ⟨i3,by show n<=60;omega⟩ [0] alt I
    | none=>
     have J2:=se i3 Cx;rw[if_neg J2,if_pos I]at i4
     repeat(first|refine GC ?_|refine gV (aw (v:=str []) aI.ty I (aD (i:=1) I I)) ?_|refine gV (jR il (x:=([]:Bs)) bM.eq h_ (i:=0) I I I q3 Cx) ?_|refine gV (zr (b:=aE) I I I) ?_|refine GB ?_)
     refine dq [0] ?_;exact bQ (k+1,of,m,n) ⟨by omega,by show n<=k+1;omega,i3,i4⟩ (by show l.length-(k+1)<l.length-k;omega)
   rw[if_pos e1]at i4
   repeat(first|refine GC ?_|refine gV (dh (b:=aB) I I (decide_eq_true e1)) ?_|refine GB ?_)
   subst i4;exact cV I I λw hm=>hm.cg (S:=tA gm _) (m,n) ⟨i3,by show n<=60;omega⟩ [0] alt I
  repeat(first|refine GC ?_|refine gV (zr (b:=aB) I I (decide_eq_true e0)) ?_|refine gV (aw (v:=str nm) aI.ty I (aD (i:=1) I I)) ?_|refine GB ?_)
  refine l5 (lz aF.en I I) (λw hm=>hnm nm w) I I I I I ?_;intro _ _;refine zL ?_
  cases hb:tw nm with
  | false=>
   rw[if_pos ⟨e0,hb⟩]at i4
   try refine GA ?_
   subst i4;exact cV I I λw hm=>hm.cg (S:=tA gm _) (m,n) ⟨i3,by show n<=60;omega⟩ [0] alt I
  | true=>
   rw[if_neg (λh=>by rw[hb]at h;cases h.2)]at i4
   repeat(first|refine GA ?_|refine gV (aW (cs:=mL rk rc (ak bk rn ck)) aI.ty I I (λj v hj=>aD (i:=1) I (Sx hj))) ?_)
   refine aT (lz aF.en I I) (λw hm=>fS _ (ho.mem hm)) I I I ?_;intro _ _;refine zL ?_
   by_cases e1:er=0
   ·subst e1
    rw[if_neg (by simp)]at i4
    repeat(first|refine GA ?_|refine gV (aw (v:=str nm) aI.ty I (aD (i:=1) I I)) ?_)
    cases Cx:m nm with
    | some v=>
     have J2:=sd i3 Cx;rw[if_pos J2]at i4
     repeat(first|refine GA ?_|refine gV (aw (v:=str nm) aI.ty I (aD (i:=1) I I)) ?_|refine gV (jQ il (x:=nm) bM.eq h_ (i:=0) I I I q3 Cx) ?_)
     subst i4;exact cV I I λw hm=>hm.cg (S:=tA gm _) (m,n) ⟨i3,by show n<=60;omega⟩ [0] alt I
    | none=>
     have J2:=se i3 Cx;rw[if_neg J2,if_neg e0]at i4
     repeat(first|refine GC ?_|refine gV (aw (v:=str nm) aI.ty I (aD (i:=1) I I)) ?_|refine gV (jR il (x:=nm) bM.eq h_ (i:=0) I I I q3 Cx) ?_|refine gV (zr (b:=aB) I I (decide_eq_true e0)) ?_|refine GB ?_)
     refine mD (i:=0) (x:=nm) (v:=ap av (k:Int)) il bM.eq I I I I q3 J ?_;refine zL ?_
     try refine GA ?_
     refine dq [0] ?_;exact ik (k+1,of++[nm],_,_) ⟨by omega,by rw[Cx];show n+1<=k+1;omega,Ov i3,i4⟩ (by show l.length-(k+1)<l.length-k;omega) (by repeat' (first|exact cZ|refine cP I ?_)) I
   rw[if_pos e1]at i4
   repeat(first|refine GC ?_|refine gV (dh (b:=aB) I I (decide_eq_true e1)) ?_|refine GB ?_)
   subst i4;exact cV I I λw hm=>hm.cg (S:=tA gm _) (m,n) ⟨i3,by show n<=60;omega⟩ [0] alt I
 ·obtain rfl:k=l.length:=by omega
  rw[wj]at i4
  try refine GA ?_
  subst i4;exact cV I I λw hm=>hm.cg (S:=tA gm _) (m,n) ⟨i3,by show n<=60;omega⟩ [0] alt I
open Go.ChangeShapes Go.WideShapes Go.ChangeAt
set_option maxRecDepth 100000
theorem Gp{α:Type}{s:yt α}{is:List Value->α->Prop}{w:World}{v:Value}{l:List α}(h:SlX w is s.c v l)(hi:∀cs a,is cs a->s.is (rP w) w cs a)(h0:0<s.c):jO s (rP w) w v l:=by
 obtain⟨base,cap,h1,h2,h3,h4⟩:=h;refine⟨base,cap,h1,h2,h3,λhl=>?_⟩;obtain⟨b,off,h5,h6⟩:=h4 hl;refine⟨b,off,h5,?_,λi qw=>let ⟨cs,h7,h8⟩:=h6 i qw;⟨cs,hi _ _ h7,h8⟩⟩;obtain⟨cs,h7,h8⟩:=h6 0 hl;have hlen:=s.len (hi _ _ h7);have hc:=h8 0 (cs[0]' J) (bL J);exact World.block_lt_of_cell? w _ hc
theorem Ox{H:Type}{M:Msr aC H}{enc0:TypeId×Value->H}{W:World}:kS M enc0 W 100 (λcs x=>Ay.is (rP W) W cs x):=λfuel cs x h hm=>by
 obtain⟨hl,T7⟩:=Bf Tryz.underlying100 h hm;have hl7:cs.length=7:=hl;obtain⟨n,⟨e0,n1⟩,-⟩:=T7 0 _ rfl (yr Tryz.underlying9);obtain⟨r,h1⟩:=T7 1 _ rfl (λfuel=>ED (M:=M) (enc0:=enc0) (W:=W) fuel fuel (aX _))
 replace e0:(cs.drop 0).take 1=[str n]:=e0
 replace h1:kH (rP W) W ((cs.drop 1).take 6) r:=h1
 refine⟨(n,r),[str n],(cs.drop 1).take 6,?_,⟨rfl,n1⟩,h1⟩;rw[<-e0];have e:(cs.drop 1).take 6=cs.drop 1:=gD (by rw[List.length_drop];omega);rw[e,List.drop_zero,oK]
theorem Oy{H:Type}{M:Msr aC H}{enc0:TypeId×Value->H}{W:World}:kS M enc0 W 102 (λcs x=>Jr.is (rP W) W cs x/\M.lim 9 x.2.length):=λfuel cs x h hm=>by
 obtain⟨hl,T7⟩:=Bf Tryz.underlying102 h hm;have Ig:cs.length=2:=hl;obtain⟨n,⟨e0,n1⟩,-⟩:=T7 0 _ rfl (yr Tryz.underlying9);obtain⟨l,⟨v,e1,hs⟩,Kd⟩:=T7 1 _ rfl (sL (c:=1) Tryz.underlying63 (by rfl) alt (yr Tryz.underlying9) λcs a h=>by rw[h.1.1];rfl)
 replace e0:(cs.drop 0).take 1=[str n]:=e0
 replace e1:(cs.drop 1).take 1=[v]:=e1
 refine⟨(n,l),⟨[str n],[v],?_,⟨rfl,n1⟩,v,rfl,Gp (s:=V3) hs (λcs a h=>⟨h.1.1,h.1.2⟩) alt⟩,Kd⟩
 match cs,Ig with
 |[x,y],_=>
  simp_all
theorem Oz{H:Type}{M:Msr aC H}{enc0:TypeId×Value->H}{W:World}:kS M enc0 W 25 (λcs s=>XA (rP W) W (aP cs.toArray) s/\∀r∈s.rules,M.lim 9 r.2.length):=λfuel cs x h hm=>by
 obtain⟨hl,T7⟩:=Bf Tryz.underlying25 h hm;have Ig:cs.length=2:=hl;obtain⟨ws,⟨vw,e0,h0⟩,-⟩:=T7 0 _ rfl (sL (c:=7) Tryz.underlying22 (by rfl) alt Ox λcs a h=>Ay.len h);obtain⟨rs,⟨vr,e1,h1⟩,-⟩:=T7 1 _ rfl (sL (c:=2) Tryz.underlying23 (by rfl) alt Oy λcs a h=>Jr.len h.1)
 replace e0:(cs.drop 0).take 1=[vw]:=e0
 replace e1:(cs.drop 1).take 1=[vr]:=e1
 refine⟨⟨ws,rs⟩,⟨vw,vr,?_,Gp (s:=Ay) h0 (λcs a h=>h) alt,Gp (s:=Jr) h1 (λcs a h=>h.1) alt⟩,λr hr=>?_⟩
 ·match cs,Ig with
  |[x,y],_=>
   simp_all
 obtain⟨i,hi,rfl⟩:=ku.1 hr;have hi:i<rs.length:=hi;obtain⟨base,cap,_,_,_,h4⟩:=h1;obtain⟨b,off,_,h6⟩:=h4 J;obtain⟨cs,h7,_⟩:=h6 i hi;exact h7.2
end cB
namespace cB
open Go.RowKit cL dV dg gv iK Go.ChangeShapes Go.WideShapes Go.ChangeAt
set_option maxRecDepth 100000
theorem Sy{H:Type}{enc0:TypeId×Value->H}{W:World}{base:Nat}{v:Value}{d:DataW H}{ps:List MemPlace}(hv:Value.okWide aC W .any base 25 v)(h:DataW.Trod enc0 aC W 0 (λ_=>aB) aB 25 v d ps){ts:List TypeId}{ds:List (DataW H)}(hsz:(DataW.weightsEach aC ts ds).all (· <=reachBytes)=aB)(j:Nat)(hj:ts[j]?=ah 25)(hd:ds[j]?=ah d):
 ∃s:Sp,XA (rP W) W v s/\∀r∈s.rules,r.2.length*16<=140737488351232:=by
 obtain⟨cs,s,rfl,h1,h2⟩:=ZM (M:=TY aC H) Tryz.underlying25 hv h Oz (MD hsz j hj hd);rw[Array.toArray_toList]at h1;exact⟨s,h1,h2⟩
end cB
namespace cB
open Go.RowKit cL dV aL
theorem OA(k q:Int)(w:World):(da 123 #[(0,ap av k),(1,ap av q)]).run aC w= .ok (aP #[ap av k,ap av q]) w:=by
 go_simp
open zP cX
def y0(R:List Row)(tags:List Int):List Row:=if lZ R tags=0 then(nr (eJ R tags) (dl (eJ R tags))).2 else []
def y6(R:List Row)(tags:List Int):List Int:=if lZ R tags=0 then(nr (eJ R tags) (dl (eJ R tags))).1.map (eJ R tags).tag else []
theorem U9{R:List Row}{tags:List Int}(h:lZ R tags=0):(y0 R tags).length=(y6 R tags).length/\(y0 R tags).length=(qj (eJ R tags)).n:=by
 obtain⟨hA,_⟩:=oW h;have:=(F8 (bl:=dl (eJ R tags)) hA).2.len;unfold y0 y6;rw[if_pos h,if_pos h,dY];exact⟨this,this⟩
theorem U_{R:List Row}{tags:List Int}(h:lZ R tags=0):eJ (y0 R tags) (y6 R tags)=qj (eJ R tags):=by
 have hl:=(U9 h).2;have e1:y0 R tags=(nr (eJ R tags) (dl (eJ R tags))).2:=if_pos h;have e2:y6 R tags=(nr (eJ R tags) (dl (eJ R tags))).1.map (eJ R tags).tag:=if_pos h;show t_.mk (y0 R tags).length _ _=_
 rw[hl];rw[e1,e2];rfl
theorem DI{R:List Row}{tags:List Int}(h:lZ R tags=0):lZ (y0 R tags) (y6 R tags)=0:=by
 refine K' ?_ (U9 h).1.symm;rw[U_ h];exact DE (oW h).1
def wo(bl:Nat->Nat)(Q:List Nat)(b:Nat):Int:=if b∈Q.map bl then(idx (Q.map bl) b:Int)+1 else 0
theorem acd{bl:Nat->Nat}{Q:List Nat}{q:Nat}(hn:bl q∉Q.map bl)(b:Nat):wo bl (Q++[q]) b=if b=bl q then(Q.length:Int)+1 else wo bl Q b:=by
 unfold wo;rw[eK,Sn]
 by_cases c:b=bl q
 ·subst c
  rw[if_pos (by simp),if_pos I];have:=rQ (D:=Q.map bl) (k:=bl q);unfold more at this;rw[if_neg hn,if_neg hn]at this;rw[this,dY]
 rw[if_neg c]
 by_cases c2:b∈Q.map bl
 rw[if_pos c2,if_pos (List.mem_append_left _ c2),qH c2];rw[if_neg c2,if_neg];rw[ib,ez];rintro(h|h);exact c2 h;exact c h
def BW(l:List Int):Row:=rp λb:Fin 256=>if b<l.length then l.getD b 0 else-1
theorem ace:BW []=eg 256 (-1):=by
 refine kD λj hj=>?_;unfold BW;simp
theorem acf{l:List Int}(h:l.length=256):BW l=vec l:=by
 refine kD λj hj=>?_;unfold BW vec;simp[h,hj]
theorem Gq(l:List Int)(x:Int)(h:l.length<256):(BW l).set l.length x=BW (l++[x]):=by
 refine kD λj hj=>?_;unfold BW;rw[vH,kC,kC];simp only[bT,tu];split
 ·rename_i e;subst e
  rw[if_pos J,sR (aX _),Nat.sub_self];rfl
 by_cases c:j<l.length
 rw[if_pos c,if_pos J,lC c];rw[if_neg c,if_neg J]
theorem XC(l:List Int)(h:l.length<256):BW (l++[-1])=BW l:=by
 rw[<-Gq l (-1) h];refine kD λj hj=>?_;rw[vH];split
 ·rename_i e;subst e;unfold BW;simp
 rfl
structure acg(R:List Row)(tags:List Int)(f n:Nat)(Q:List Nat)(out:List Row):Prop where
 eq:nr (eJ R tags) (dl (eJ R tags))=xQ (eJ R tags) (dl (eJ R tags)) f n Q out
 ok:Xl (eJ R tags) (dl (eJ R tags)) Q
 outs:Xm (eJ R tags) (dl (eJ R tags)) n Q out
 fuel:(eJ R tags).n+1<=f+n
theorem ajk{R:List Row}{tags:List Int}(hA:(eJ R tags).Ok):acg R tags (R.length+1) 0 [0] []:=⟨rfl,ai_ hA,⟨rfl,bC _,λk hk=>by omega⟩,aX _⟩
theorem XD{R:List Row}{tags:List Int}(hA:(eJ R tags).Ok){f n:Nat}{Q:List Nat}{out:List Row}(h:acg R tags f n Q out)(hn:n<Q.length):∃f',f=f'+1/\acg R tags f' (n+1) (lG (eJ R tags) (dl (eJ R tags)) (Q.getD n 0) Q 256).1 (out++[vec (lG (eJ R tags) (dl (eJ R tags)) (Q.getD n 0) Q 256).2]):=by
 have h1:=h.ok.len;have h2:=h.fuel;obtain⟨f',rfl⟩:∃f',f=f'+1:=⟨f-1,by omega⟩;have e:=h.eq;unfold xQ at e;rw[if_pos hn]at e;exact⟨f',rfl,e,DD hA h.ok (h.ok.lt _ (wb hn)) 256 (aX _),Je hA h.outs hn,by omega⟩
theorem ach{R:List Row}{tags:List Int}{f n:Nat}{Q:List Nat}{out:List Row}(h:acg R tags f n Q out)(hn:¬n<Q.length):nr (eJ R tags) (dl (eJ R tags))=(Q,out)/\n=Q.length:=by
 have h1:=h.outs.le;refine⟨?_,by omega⟩;rw[h.eq]
 cases f with
 |zero=>rfl
 |succ f=>unfold xQ;rw[if_neg hn]
def aff(R:List Row)(tags:List Int):Spec (Value×Value):=⟨λ_=>True,λx=> .tuple #[iH x.1 x.2,ap av (lZ R tags)],λx=>[bm 240 256 x.1 (y0 R tags).length ((y0 R tags).flatMap eX),bm 3 1 x.2 (y6 R tags).length ((y6 R tags).flatMap cL.eP)]⟩
theorem Sz(w:World):(da 162 #[]).run aC w= .ok (iH (ak aj 0 0) (ak aj 0 0)) w:=by kernel_rfl
set_option maxRecDepth 100000 in
theorem HQ(vr vt:Value)(R:List Row)(tags:List Int)(w:World)(h:HL w vr vt R tags):
 Calls aC 59 #[iH vr vt] w (cJ (aff R tags) w):=by
 have fS:=λw' (hg:Gr w w')=>Gb vr vt R tags w' (h.gr hg);have V':=λw' (hg:Gr w w') hc=>Lb vr vt R tags w' (h.gr hg) hc;obtain⟨bt,ct,rfl,ht1,ht2,Mb⟩:=h.hT;obtain⟨br,cr,rfl,Wg,qE,xG⟩:=h.hR;have afg:=h.rng;unfold maxLen at qE ht2;clear h
 by_cases hc:lZ R tags=0
 ·obtain⟨hA,hlt⟩:=oW hc
  have hbo:=Iu hA;have en:(eJ R tags).n=R.length:=rfl;have uc:0<R.length:=hA.pos;have hle:R.length<=200:=hA.le;obtain⟨b,off,rfl,hr⟩:=xG uc;obtain⟨bb,og,rfl,hrt⟩:=Mb J;clear xG Mb;unfold aff;have er:y0 R tags=(nr (eJ R tags) (dl (eJ R tags))).2:=if_pos hc;have et:y6 R tags=(nr (eJ R tags) (dl (eJ R tags))).1.map (eJ R tags).tag:=if_pos hc;rw[er,et];clear er et;have ajl:=hbo.le 0 uc;rw[en]at ajl;rw[hc]at fS⊢;refine enter (args:=[iH (ak (ah ⟨b,off,aj⟩) R.length cr) (ak (ah ⟨bb,og,aj⟩) tags.length ct)]) (n:=113) Tryz.func59 I I I ?_;refine bZ (bx (bH I I I λg1=>?_));refine aY I λg2=>?_;refine zL ?_
  repeat(first|refine GA ?_|refine gV (aw aI.ty I (aD (i:=0) I I)) ?_|refine gV (aJ (i:=0) aI.ty I I I) ?_)
  refine aT (lz aF.en I I) (λw hm=>fS _ hm.below) I I I ?_;intro _ _
  repeat(first|refine GA ?_|refine gV (aJ (i:=0) aI.ty I I I) ?_)
  refine aT (lz aF.en I I) (λw hm=>V' _ hm.below hc) I I I ?_;intro g5 _;refine zL ?_
  repeat(first|refine GA ?_|refine gV (aw aI.ty I (aD (i:=0) I I)) ?_)
  refine pM (m:=R.length+1) lX 0 (by rfl) (by rfl) J J I λg6=>?_;refine zL ?_
  try refine GA ?_
  refine aY I λg7=>?_;refine zL ?_
  try refine GA ?_
  refine gG I I I I I λg8=>?_;refine zL ?_;refine zt (i:=5) (m:=1) 1 I I alt ?_;refine zL ?_
  repeat(first|refine GA ?_|refine gV (bO (j:=0) bM.eq aI.ty I I uc) ?_|refine gV (aw aI.ty I (gi (i:=2) I uc)) ?_|refine gV (bO (j:=dl (eJ R tags) 0) bM.eq aI.ty I I J) ?_)
  refine iR (i:=3) (off:=dl (eJ R tags) 0) (v:=1) (wo (dl (eJ R tags)) [0]) aI.ty I I I I I J (λj hj=>?_) ?_
  ·by_cases e:j=dl (eJ R tags) 0
   subst e;simp[wo,idx];rw[if_neg e];unfold wo;rw[if_neg (by simpa using e)]
  refine zL ?_
  try refine GA ?_
  refine iJ 240 256 ?_;refine iJ 3 1 ?_
  conv=>arg 7;simp only[zA,zB,zC,zD,zE,zF,zG,zH,zI,df,ret,id_eq]
  have yy:=ajk (tags:=tags) hA;have jh:=λf n Q out=>@ach R tags f n Q out;have nw:=λf n Q out=>@XD R tags hA f n Q out;have akW:=hbo.le;clear ajl hbo V' fS;generalize akX:dl (eJ R tags)=nk at*;refine dZ (ι:=Nat×Nat×List Nat×List Row×Value×Value×Value) (λ(f,n,Q,out,_)=>acg R tags f n Q out) (λ(_,n,_,_,vQ,_,_)=>[(1,aH (ah ⟨g1,0,aj⟩)),(2,aH (ah ⟨g2,0,aj⟩)),(5,ak (ah ⟨g5,0,aj⟩) R.length R.length),(6,ak (ah ⟨g6,0,aj⟩) (R.length+1) (R.length+1)),(7,aH (ah ⟨g7,0,aj⟩)),(8,vQ),(9,ap av (n:Int))])
   (λ(_,n,Q,out,vQ,vR,vT)=>[aK g1 (iH (ak (ah ⟨b,off,aj⟩) R.length cr) (ak (ah ⟨bb,og,aj⟩) tags.length ct)).cells 162,aK g2 (iH (ak aj 0 0) (ak aj 0 0)).cells 162,fA 3 lX g5 R.length λi=>(nk i:Int),fA 3 lX g6 (R.length+1) (wo nk Q),aK g7 (iH vR vT).cells 162,bm 3 1 vQ Q.length (Q.map λq:Nat=>lX q),bm 240 256 vR out.length (out.flatMap eX),bm 3 1 vT n (((Q.take n).map (eJ R tags).tag).flatMap cL.eP)]) (λ(f,_)=>f) (R.length+1,0,[0],[],ak (ah ⟨g8,0,aj⟩) 1 1,ak aj 0 0,ak aj 0 0) yy ?_
  rintro⟨f,n,Q,out,vQ,vR,vT⟩ hw;dsimp only at hw⊢;have hQ:=hw.ok;have hQl:=hQ.len;have alR:=hw.outs.len;rw[akX]at hQ;rw[en]at hQl
  by_cases c1:n<Q.length
  ·obtain⟨f',rfl,uf⟩:=nw _ _ _ _ hw c1
   have hq:=hQ.lt _ (wb c1);have hqc:(Q.map λq:Nat=>lX q)[0+n]?=ah (lX (Q.getD n 0)):=by rw[cU,iN,cH,bL c1];rfl
   rw[en]at hq;have q9:=Cy (-1);have PD:=λk hk=>DD (bl:=nk) hA hQ (q:=Q.getD n 0) (by rw[en];exact hq) k hk;have ahQ:=K_ (A:=eJ R tags) (bl:=nk) (Q.getD n 0) Q;have IY:=K9 (A:=eJ R tags) (bl:=nk) (Q.getD n 0) Q;have hst:∀k,k<256->St (eJ R tags) ((eJ R tags).d (Q.getD n 0) k):=λk hk=>hA.step _ hq k hk;have hd:∀(k:Nat) (hk:k<256),(eJ R tags).d (Q.getD n 0) k=(R[Q.getD n 0]'hq)[k]:=λk hk=>N9 hq hk;have Ll:Q.getD n 0<tags.length:=by omega
   have htg:(eJ R tags).tag (Q.getD n 0)=tags[Q.getD n 0]'Ll:=Aw Ll;have SA:=λ(L:List b_)=>gK (W:=w) (L:=L) dE hr hq;have OB:=λ(L:List b_)=>gK (W:=w) (L:=L) (c:=1) (f:=cL.eP) (λ_=>rfl) hrt Ll 0 _ I;have hQn:Q.getD n 0=Q[n]:=by rw[cH,bL c1];rfl
   clear jh nw hw;generalize hqq:Q.getD n 0=q at*;generalize hrr:R[q]=r at*
   repeat(first|refine GC ?_|refine gV (dW (i:=5) bM.eq I I) ?_|refine GB ?_)
   refine aT (lz aF.en I I) (λw hm=>q9 _) I I I ?_;intro _ _
   try refine GA ?_
   refine aY I λg10=>?_;refine zL ?_;refine aV (i:=8) (cs':=(eX (eg 256 (-1))).toArray) I I I (by rw[eT,dE]) (by simpa using r8 (eg 256 (-1))) (by kernel_rfl) ?_;refine zL ?_
   try refine GA ?_
   refine yx (i:=5) I J λgQ cQ hv hcQ alS=>?_;subst hv
   (repeat refine bZ ?_)
   refine dG ([aK g1 (iH (ak (ah ⟨b,off,aj⟩) R.length cr) (ak (ah ⟨bb,og,aj⟩) tags.length ct)).cells 162,bm 3 1 (ak (ah ⟨gQ,0,aj⟩) Q.length cQ) Q.length (Q.map λq:Nat=>lX q)]) (.calm 0 (.calm 1 (.calm 2 (.calm 3 (.calm 4 (.calm 5 (.calm 6 (.calm 7 (.calm 8 (.done)))))))))) (bY [0,5]) ?_
   repeat(first|refine GW ?_|(refine GN ?_;first|refine QW (aw aI.ty I (aD (i:=0) I I)) ?_|refine QW (bO (j:=n) bM.eq aI.ty I I c1) ?_|refine QW (aw aI.ty I (kx (i:=1) I hqc)) ?_|refine QW (aR (j:=q) bM.eq aI.ty I I hq) ?_|refine QW (aW aI.ty I (dE r) (SA _)) ?_))
   try refine GA ?_
   rw[<-ace];refine tY [0,1,2,3,4,6,7,8,5] ?_;refine dZ (ι:=Nat×Value) (λ(k,_)=>k<=256) (λ(k,vK)=>[(1,aH (ah ⟨g1,0,aj⟩)),(2,aH (ah ⟨g2,0,aj⟩)),(5,ak (ah ⟨g5,0,aj⟩) R.length R.length),(6,ak (ah ⟨g6,0,aj⟩) (R.length+1) (R.length+1)),(7,aH (ah ⟨g7,0,aj⟩)),(8,vK),(9,ap av (n:Int)),(10,aH (ah ⟨g10,0,aj⟩)),(46,C7 r),(47,ap av (k:Int))])
    (λ(k,vK)=>[aK g1 (iH (ak (ah ⟨b,off,aj⟩) R.length cr) (ak (ah ⟨bb,og,aj⟩) tags.length ct)).cells 162,aK g2 (iH (ak aj 0 0) (ak aj 0 0)).cells 162,fA 3 lX g5 R.length λi=>(nk i:Int),fA 3 lX g6 (R.length+1) (wo nk (lG (eJ R tags) nk q Q k).1),aK g7 (iH vR vT).cells 162,bm 240 256 vR out.length (out.flatMap eX),bm 3 1 vT n (((Q.take n).map (eJ R tags).tag).flatMap cL.eP),aK g10 (eX (BW (lG (eJ R tags) nk q Q k).2)).toArray 240,bm 3 1 vK (lG (eJ R tags) nk q Q k).1.length ((lG (eJ R tags) nk q Q k).1.map λq:Nat=>lX q)]) (λ(k,_)=>256-k) (0,ak (ah ⟨gQ,0,aj⟩) Q.length cQ) (bC _) ?_
   rintro⟨k,vK⟩ hk;dsimp only at hk⊢
   by_cases c2:k<256
   ·have hcell:(eX r).toArray[k]?=ah (.int .i16 r[k]):=by rw[oY];exact qk r c2
    have hx:=hd k c2;have hsx:=hst k c2;have mP:=PD k hk;have hlen:=IY k;have HR:=(N6 mP hsx).len;have nw:lG (eJ R tags) nk q Q (k+1)=((qi nk (lG (eJ R tags) nk q Q k).1 ((eJ R tags).d q k)).1,(lG (eJ R tags) nk q Q k).2++[(qi nk (lG (eJ R tags) nk q Q k).1 ((eJ R tags).d q k)).2]):=rfl;rw[hx]at nw hsx HR;clear hx hst PD ahQ IY hd SA OB;generalize r[k]=x at*;generalize lG (eJ R tags) nk q Q k=RQ at*;obtain⟨Qk,vk⟩:=RQ;dsimp only at mP hlen HR nw⊢;subst hlen;unfold St at hsx;rw[en]at hsx
    by_cases c3:val nk x=0
    ·have e:qi nk Qk x=(Qk,-1):=by unfold qi;rw[if_pos c3]
     rw[e]at nw;have aci:∀(S:List b_),S=[aK g1 (iH (ak (ah ⟨b,off,aj⟩) R.length cr) (ak (ah ⟨bb,og,aj⟩) tags.length ct)).cells 162,aK g2 (iH (ak aj 0 0) (ak aj 0 0)).cells 162,fA 3 lX g5 R.length λi=>(nk i:Int),fA 3 lX g6 (R.length+1) (wo nk Qk),aK g7 (iH vR vT).cells 162,bm 240 256 vR out.length (out.flatMap eX),bm 3 1 vT n (((Q.take n).map (eJ R tags).tag).flatMap cL.eP),aK g10 (eX (BW vk)).toArray 240,bm 3 1 vK Qk.length (Qk.map λq:Nat=>lX q)]->S=[aK g1 (iH (ak (ah ⟨b,off,aj⟩) R.length cr) (ak (ah ⟨bb,og,aj⟩) tags.length ct)).cells 162,aK g2 (iH (ak aj 0 0) (ak aj 0 0)).cells 162,fA 3 lX g5 R.length λi=>(nk i:Int),fA 3 lX g6 (R.length+1) (wo nk (lG (eJ R tags) nk q Q (vk.length+1)).1),aK g7 (iH vR vT).cells 162,bm 240 256 vR out.length (out.flatMap eX),bm 3 1 vT n (((Q.take n).map (eJ R tags).tag).flatMap cL.eP),aK g10 (eX (BW (lG (eJ R tags) nk q Q (vk.length+1)).2)).toArray 240,bm 3 1 vK (lG (eJ R tags) nk q Q (vk.length+1)).1.length ((lG (eJ R tags) nk q Q (vk.length+1)).1.map λq:Nat=>lX q)]:=λS h=>by
      rw[nw];dsimp only;rw[XC vk c2];exact h
     by_cases c4:x<0
     ·repeat(first|refine GA ?_|refine gV (jw bM.eq aI.ty I I c2 hcell) ?_)
      exact ik (vk.length+1,vK) (by show vk.length+1<=256;omega) (by show 256-(vk.length+1)<256-vk.length;omega) (by repeat' (first|exact cZ|refine cP I ?_)) (aci _ I)
     obtain⟨m,rfl⟩:∃m:Nat,x=m:=⟨x.toNat,by omega⟩;have hm:m<R.length:=by omega
     rw[Av]at c3
     repeat(first|refine GC ?_|refine gV (jw bM.eq aI.ty I I c2 hcell) ?_|refine gV (bO (j:=m) bM.eq aI.ty I I hm) ?_|refine gV (aw aI.ty I (gi (i:=2) I hm)) ?_|refine gV (dc (b:=aB) I I (decide_eq_true J)) ?_|refine GB ?_)
     exact ik (vk.length+1,vK) (by show vk.length+1<=256;omega) (by show 256-(vk.length+1)<256-vk.length;omega) (by repeat' (first|exact cZ|refine cP I ?_)) (aci _ I)
    have c4:¬x<0:=λe=>c3 (by unfold val;rw[if_pos e]);obtain⟨m,rfl⟩:∃m:Nat,x=m:=⟨x.toNat,by omega⟩;have hm:m<R.length:=by omega
    rw[Av]at c3;have hbm:=akW m hm;rw[en]at hbm;have e:qi nk Qk (m:Int)=(F6 nk Qk (m:Int),(idx ((F6 nk Qk (m:Int)).map nk) (nk m):Int)):=by unfold qi;rw[Av,if_neg c3,de]
    rw[e]at nw HR;dsimp only at HR nw;rw[en]at HR;unfold F6 at nw HR;rw[de]at nw HR
    by_cases c5:nk m∈Qk.map nk
    ·rw[if_pos c5]at nw HR
     have hid:=mY c5;rw[dY]at hid;have acj:wo nk Qk (nk m)=(idx (Qk.map nk) (nk m):Int)+1:=by unfold wo;rw[if_pos c5]
     generalize idx (Qk.map nk) (nk m)=z at*
     repeat(first|refine GC ?_|refine gV (jw bM.eq aI.ty I I c2 hcell) ?_|refine gV (bO (j:=m) bM.eq aI.ty I I hm) ?_|refine gV (aw aI.ty I (gi (i:=2) I hm)) ?_|refine gV (dc (b:=aE) I I (decide_eq_false J)) ?_|refine gV (bO (j:=nk m) bM.eq aI.ty I I J) ?_|refine gV (aw aI.ty I (gi (i:=3) I (show nk m<R.length+1 by omega))) ?_|refine gV (ey (r:=(z:Int)) I I J J J) ?_|refine gV (iT bM.eq bM.eq I (Se J J)) ?_|refine gV (ij bM.eq aI.ty I I c2) ?_|refine GB ?_)
     refine r9 (i:=7) I I I c2 ?_;rw[Gq vk z c2];refine zL ?_
     try refine GA ?_
     exact bQ (vk.length+1,vK) (by show vk.length+1<=256;omega) (by show 256-(vk.length+1)<256-vk.length;omega) (hl:=by dsimp only;rw[nw])
    rw[if_neg c5]at nw HR;have acj:wo nk Qk (nk m)=0:=by unfold wo;rw[if_neg c5]
    have HG:=acd (q:=m) c5;have ajm:wo nk (Qk++[m]) (nk m)=(Qk.length:Int)+1:=by rw[HG,if_pos I]
    have ahs:idx ((Qk++[m]).map nk) (nk m)=Qk.length:=by
     have h1:=ajm;unfold wo at h1;rw[if_pos (by simp)]at h1;omega
    rw[ahs]at nw;rw[bT,tu]at HR
    repeat(first|refine GC ?_|refine gV (jw bM.eq aI.ty I I c2 hcell) ?_|refine gV (bO (j:=m) bM.eq aI.ty I I hm) ?_|refine gV (aw aI.ty I (gi (i:=2) I hm)) ?_|refine gV (dc (b:=aE) I I (decide_eq_false (show ¬(nk m:Int)=0 by omega))) ?_|refine gV (bO (j:=nk m) bM.eq aI.ty I I J) ?_|refine gV (aw aI.ty I (gi (i:=3) I (show nk m<R.length+1 by omega))) ?_|refine gV (dc (b:=aB) I I (decide_eq_true acj)) ?_|refine gV (iT bM.eq bM.eq I (n9 J J)) ?_|refine GB ?_)
    refine kf (i:=8) I I I I I I (λz h=>by cases h;rfl) J J I λz v2=>?_;refine zL ?_
    repeat(first|refine GC ?_|refine gV (bO (j:=m) bM.eq aI.ty I I hm) ?_|refine gV (aw aI.ty I (gi (i:=2) I hm)) ?_|refine gV (bO (j:=nk m) bM.eq aI.ty I I J) ?_|refine gV (dW (i:=8) bM.eq I I) ?_|refine GB ?_)
    refine iR (i:=3) (off:=nk m) (v:=((Qk.length+1:Nat):Int)) (wo nk (Qk++[m])) aI.ty I I I I I J (λj hj=>by rw[HG];rfl) ?_;refine zL ?_
    repeat(first|refine GC ?_|refine gV (bO (j:=m) bM.eq aI.ty I I hm) ?_|refine gV (aw aI.ty I (gi (i:=2) I hm)) ?_|refine gV (bO (j:=nk m) bM.eq aI.ty I I J) ?_|refine gV (aw aI.ty I (gi (i:=3) I (show nk m<R.length+1 by omega))) ?_|refine gV (ey (r:=(Qk.length:Int)) I I J J J) ?_|refine gV (iT bM.eq bM.eq I (Se J J)) ?_|refine gV (ij bM.eq aI.ty I I c2) ?_|refine GB ?_)
    refine r9 (i:=7) I I I c2 ?_;rw[Gq vk (Qk.length:Int) c2];refine zL ?_
    try refine GA ?_
    exact bQ (vk.length+1,v2) (by show vk.length+1<=256;omega) (by show 256-(vk.length+1)<256-vk.length;omega) (hl:=by dsimp only;rw[nw];simp)
   obtain rfl:k=256:=by omega
   have mP:=(PD 256 (aX _)).len;obtain⟨E,hE⟩:=ahQ 256;have hv:=IY 256;clear PD ahQ IY hst hd SA;generalize lG (eJ R tags) nk q Q 256=RQ at*;obtain⟨Qe,ve⟩:=RQ;dsimp only at mP hE hv uf⊢;subst hE;rw[acf hv];rw[en]at mP;have hqe:((Q++E).map λq:Nat=>lX q)[0+n]?=ah (lX q):=by
    rw[cU,iN,lP c1,bL c1,<-hQn];rfl
   have Mh:(((Q++E).take (n+1)).map (eJ R tags).tag).flatMap cL.eP=((Q.take n).map (eJ R tags).tag).flatMap cL.eP++[lX tags[q]]:=by
    rw[List.take_append_of_le_length J,ic c1,<-hQn,eK,ie,Sn,List.flatMap_singleton,htg];rfl
   rw[bT]at mP;have ajn:n<(Q++E).length:=by rw[bT];omega
   repeat(first|refine GA ?_|refine gV (aw aI.ty I (aD (i:=4) I I)) ?_|refine gV (aJ (i:=7) aI.ty I I (by rw[eT,dE])) ?_)
   refine iU (i:=5) I I (by rw[eT,dE]) I (by simpa using r8 (vec ve)) I I (λz h=>by cases h;rfl) J J I λz v2=>?_;refine zL ?_
   try refine GA ?_
   refine aU (i:=5) I λrM zv=>?_;refine bD (i:=4) I I I rM zv I ?_;refine zL ?_
   try refine GA ?_
   refine yx (i:=8) I J λgQ' cQ' hv' alT alq=>?_;subst hv'
   (repeat refine bZ ?_)
   refine dG ([aK g1 (iH (ak (ah ⟨b,off,aj⟩) R.length cr) (ak (ah ⟨bb,og,aj⟩) tags.length ct)).cells 162,bm 3 1 (ak (ah ⟨gQ',0,aj⟩) (Q++E).length cQ') (Q++E).length ((Q++E).map λq:Nat=>lX q)]) (.calm 0 (.calm 2 (.calm 3 (.calm 4 (.calm 5 (.calm 6 (.calm 7 (.calm 8 (.calm 9 (.two 1 (.one 10 (.one 11 (.calm 12 (.one 13 (.done))))) 10 (.one 1 (.one 11 (.calm 12 (.one 13 (.done))))))))))))))) (bY [0,8]) ?_
   repeat(first|refine GW ?_|(refine GN ?_;first|refine QW (aw aI.ty I (aD (i:=0) I I)) ?_|refine QW (bO (j:=n) bM.eq aI.ty I I ajn) ?_|refine QW (aw aI.ty I (kx (i:=1) I hqe)) ?_|refine QW (aR (j:=q) bM.eq aI.ty I I Ll) ?_|refine QW (aw aI.ty I (OB _)) ?_))
   refine e_ I I ?_ ?_
   ·refine dy (aw aI.ty I (aD (i:=4) I I)) I I I (aO (bY [0,8]) ?_)
    refine aM I (gG I I I I I λakY=>aO (bY [0,8]) ?_);refine aM I (l6 (i:=6) (q:=9) I I I I I I J J I λv3=>aO (bY [0,8]) ?_)
    try refine GW ?_
    refine aM I (aU (i:=6) I λEo Be=>bD (i:=4) I I I Eo Be I (aO (bY [0,8]) ?_))
    try refine GW ?_
    try refine GA ?_
    refine dq [0,1,2,3,4,8,5,6] ?_;exact bQ (f',n+1,Q++E,out++[vec ve],ak (ah ⟨gQ',0,aj⟩) (Q++E).length cQ',v2,v3) uf (tv f') (hl:=by dsimp only;rw[Mh];simp;rfl)
   refine gG I I I I I λakY=>aO (bY [0,8]) ?_;refine aM I (dy (aw aI.ty I (aD (i:=4) I I)) I I I (aO (bY [0,8]) ?_));refine aM I (l6 (i:=6) (q:=9) I I I I I I J J I λv3=>aO (bY [0,8]) ?_)
   try refine GW ?_
   refine aM I (aU (i:=6) I λEo Be=>bD (i:=4) I I I Eo Be I (aO (bY [0,8]) ?_))
   try refine GW ?_
   try refine GA ?_
   refine dq [0,1,2,3,4,8,5,6] ?_;exact bQ (f',n+1,Q++E,out++[vec ve],ak (ah ⟨gQ',0,aj⟩) (Q++E).length cQ',v2,v3) uf (tv f') (hl:=by dsimp only;rw[Mh];simp;rfl)
  obtain⟨e,rfl⟩:=jh _ _ _ _ hw c1;rw[e]
  repeat(first|refine GC ?_|refine gV (dW (i:=5) bM.eq I I) ?_|refine gV (aJ (i:=4) aI.ty I I I) ?_|refine GB ?_)
  refine aU (i:=6) I λrM zv=>?_;refine aU (i:=7) I λEo Be=>?_;refine aV (i:=1) (cs':=(iH vR vT).cells) I I I I (by show([vR,vT].all fV)=aB;simp[zv,Be]) I ?_;refine zL ?_
  try refine GA ?_
  refine dH (i:=1) I I I I I λw hm=>?_;exact hm.meets (S:=⟨λ(_:Value×Value)=>True,λx=> .tuple #[iH x.1 x.2,ap av 0],λx=>[bm 240 256 x.1 out.length (out.flatMap eX),bm 3 1 x.2 (Q.map (eJ R tags).tag).length ((Q.map (eJ R tags).tag).flatMap cL.eP)]⟩) (vR,vT) trivial [6,7] alt (by simp)
 ·have er:y0 R tags=[]:=if_neg hc
  have et:y6 R tags=[]:=if_neg hc;unfold aff;rw[er,et];generalize lZ R tags=e at*;refine enter (args:=[iH (ak br R.length cr) (ak bt tags.length ct)]) (n:=113) Tryz.func59 I I I ?_;refine bZ (bx (bH I I I λg1=>?_));refine aY I λg2=>?_;refine zL ?_
  repeat(first|refine GA ?_|refine gV (aJ (i:=0) aI.ty I I I) ?_)
  refine aT (lz aF.en I I) (λw hm=>fS _ hm.below) I I I ?_;intro _ _
  repeat(first|refine GC ?_|refine gV (aZ I Sz) ?_|refine gV (dh (b:=aB) I I (decide_eq_true hc)) ?_|refine GB ?_)
  refine fR 1 ?_;refine zL ?_
  try refine GA ?_
  refine eI 240 256 (eI 3 1 ?_);refine dH (i:=1) I I I I I λw hm=>?_;exact hm.meets (S:=⟨λ(_:Value×Value)=>True,λx=> .tuple #[iH x.1 x.2,ap av e],λx=>[bm 240 256 x.1 0 [],bm 3 1 x.2 0 []]⟩) (ak aj 0 0,ak aj 0 0) trivial [2,3] alt I
theorem U'{R:List Row}{tags:List Int}(h:lZ R tags=0):(∀r∈R,∀x∈r.toList,-32768<=x/\x<=32767)/\∀x∈tags,cL.dv x:=by
 obtain⟨hA,hl⟩:=oW h;have hle:R.length<=200:=hA.le;refine⟨λr hr x hx=>?_,λx hx=>?_⟩
 ·obtain⟨i,hi,rfl⟩:=ku.1 hr
  obtain⟨b,hb,rfl⟩:=ku.1 hx;have Mn:b<256:=by grind
  have:=hA.step i hi b Mn;rw[N9 hi Mn]at this;have e:(eJ R tags).n=R.length:=rfl;rw[BT];omega
 obtain⟨i,hi,rfl⟩:=ku.1 hx;have:=hA.tags i (by show i<R.length;omega);rw[Aw hi]at this;exact⟨by omega,by omega⟩
theorem Mem.ajo{B:bV}{w:World}{L:List b_}{i j:Nat}{vr vt:Value}{R:List Row}{tags:List Int}(hm:Mem B L w)(hi:L[i]?=ah (bm 240 256 vr R.length (R.flatMap eX)))(hj:L[j]?=ah (bm 3 1 vt tags.length (tags.flatMap cL.eP)))(hc:lZ R tags=0):HL w vr vt R tags:=
 ⟨lT hi _ hm,lT hj _ hm,(U' hc).1,(U' hc).2⟩
theorem DJ{R:List Row}{tags:List Int}{s:List UInt8}(h:lZ R tags=0):ph R tags s=(tg (eJ R tags) (go (eJ R tags) 0 s),0):=if_pos h
theorem ack{R:List Row}{tags:List Int}{s:List UInt8}(h:lZ R tags=0):ph (y0 R tags) (y6 R tags) s=(tg (eJ R tags) (go (eJ R tags) 0 s),0):=by
 simp_all[DJ,DI,U_,Xn,oW]
def fP(R:List Row)(i b:Nat):Int:=(R.getD i xt).toList.getD b 0
theorem sf{R:List Row}{i b:Nat}(h:i<R.length)(hb:b<256):fP R i b=(R[i])[b]:=N9 (tags:=[]) h hb
def HT(R:List Row)(b k:Nat):DF:=rp λi:Fin 200=>if i<k then fP R i b else 0
def sg(R:List Row)(b:Nat):DF:=HT R b R.length
theorem ahR(R:List Row)(b:Nat):HT R b 0=eg 200 0:=by
 refine kD λi hi=>?_;unfold HT;simp
theorem acm(R:List Row)(b k:Nat)(h:k<200):(HT R b k).set k (fP R k b)=HT R b (k+1):=by
 refine kD λi hi=>?_;unfold HT;rw[vH,kC,kC];split
 ·rename_i e;subst e;simp
 have:i<k↔i<k+1:=by omega
 simp only[this]
theorem afh(c:DF){i:Nat}(h:i<200)(x:Int):(yW c).toArray.setIfInBounds i (.int .i16 x)=(yW (c.set i x)).toArray:=by
 simp[yW,ab1]
theorem acn:(c_ 200 (ap .i16 0)).toArray=(yW (eg 200 0)).toArray:=by
 unfold yW;rw[Sr,Sq]
theorem Gs(R:List Row)(b i:Nat)(h:i<R.length)(h2:R.length<=200):(sg R b).toList.getD i 0=fP R i b:=by
 unfold sg HT;rw[cH,bL (by grind),Option.getD_some,BT,kC];simp[h]
theorem afi{R:List Row}(hr:∀r∈R,∀x∈r.toList,-32768<=x/\x<=32767){b:Nat}(hb:b<256):abK (sg R b):=by
 intro i hi;unfold sg HT;rw[kC];split
 ·rename_i h
  rw[sf h hb];exact hr R[i] (bX h) _ (by simp)
 omega
def nV(R:List Row)(k:Nat):List DF:=dO [] ((d_ k).map (sg R))
theorem Az(R:List Row)(k:Nat):nV R (k+1)=more (nV R k) (sg R k):=by
 simp[nV,vD,kU]
theorem Va{R:List Row}{k:Nat}(h:sg R k∈nV R k):nV R (k+1)=nV R k:=by
 rw[Az];exact if_pos h
theorem Vb{R:List Row}{k:Nat}(h:sg R k∉nV R k):nV R (k+1)=nV R k++[sg R k]:=by
 rw[Az];exact if_neg h
theorem DK(R:List Row):∀k,(nV R k).length<=k
 |0=>aX _
 |k+1=>by
  have:=DK R k
  by_cases c:sg R k∈nV R k
  grind[Va];rw[Vb c,bT,tu];omega
theorem Vc(R:List Row)(k:Nat):∀j,k<=j->∃E,nV R j=nV R k++E
 |0,h=>⟨[],by simp_all⟩
 | j+1,h=>by
  by_cases c:k=j+1
  simp_all;obtain⟨E,hE⟩:=Vc R k j J;obtain⟨E',hE'⟩:=Ex (nV R j) (sg R j);exact⟨E++E',by rw[Az,hE',hE,eu]⟩
theorem DL(R:List Row){b k:Nat}(h:b<k):sg R b∈nV R k:=kV.2 (.inr (fE.2 ⟨b,by simp_all,rfl⟩))
def pkN(R:List Row)(b:Nat):Nat:=idx (nV R 256) (sg R b)
theorem ahS{R:List Row}{k:Nat}(h:k<256):pkN R k=if sg R k∈nV R k then idx (nV R k) (sg R k)else(nV R k).length:=by
 obtain⟨E,hE⟩:=Vc R (k+1) 256 J;unfold pkN;rw[hE,qH (DL R (tv k)),Az,rQ]
 simp
theorem aco(R:List Row){b:Nat}(h:b<256):pkN R b<(nV R 256).length:=mY (DL R h)
theorem Vd(R:List Row){b:Nat}(h:b<256):pkN R b<256:=jt (aco R h) (DK R 256)
abbrev Of:=Vector Nat 256
def wq(R:List Row)(k:Nat):Of:=rp λb:Fin 256=>if b<k then pkN R b else 0
theorem agj(R:List Row):wq R 0=eg 256 0:=by
 refine kD λi hi=>?_;unfold wq;simp
theorem afj(R:List Row)(k:Nat)(h:k<256):(wq R k).set k (pkN R k)=wq R (k+1):=by
 refine kD λi hi=>?_;unfold wq;rw[vH,kC,kC];split
 ·rename_i e;subst e;simp
 have:i<k↔i<k+1:=by omega
 simp only[this]
def AV(D:List DF)(i:Nat):List Int:=D.map λc=>c.toList.getD i 0
def SB(R:List Row):List (List Int):=(d_ R.length).map (AV (nV R 256))
def jk(o:Of)(vn vt:Value):List Value:=o.toList.map (λn:Nat=> .int .u8 (n:Int))++[vn,vt]
def PF(o:Of)(vn vt:Value):Value:=aP (jk o vn vt).toArray
theorem iE(o:Of)(vn vt:Value):(jk o vn vt).length=258:=by simp[jk]
theorem j0(o:Of)(vn vt:Value):(jk o vn vt).toArray.size=258:=by rw[eT,iE]
theorem ajp(o:Of)(vn vt:Value){b:Nat}(h:b<256):(jk o vn vt).toArray[b]?=ah (.int .u8 (o[b]:Int)):=by
 simp_all[jk,lP]
theorem oh(o:Of)(vn vt:Value):(jk o vn vt).toArray[256]?=ah vn:=by
 simp[jk]
theorem pq(o:Of)(vn vt:Value):(jk o vn vt).toArray[257]?=ah vt:=by
 simp[jk]
theorem y7(o:Of){vn vt:Value}(h1:vn.oneCell'=aB)(h2:vt.oneCell'=aB):(jk o vn vt).toArray.toList.all fV=true:=by
 refine pB.2 λu hu=>?_;unfold jk at hu;simp only[ib,fE,dw,fC,or_false]at hu;rcases hu with⟨n,_,rfl⟩|rfl|rfl
 rfl;exact h1;exact h2
theorem ahT(o:Of)(vn vt:Value){b:Nat}(h:b<256)(x:Nat):(jk o vn vt).toArray.setIfInBounds b (.int .u8 (x:Int))=(jk (o.set b x) vn vt).toArray:=by
 simp_all[jk,ab1]
theorem Lm:(c_ 256 (ap .u8 0)++([ak aj 0 0,ak aj 0 0]:List Value)).toArray=(jk (eg 256 0) (ak aj 0 0) (ak aj 0 0)).toArray:=by
 unfold jk;rw[Sr,Sq];rfl
theorem XE(w:World):(da 30 #[]).run aC w= .ok (PF (eg 256 0) (ak aj 0 0) (ak aj 0 0)) w:=by kernel_rfl
theorem OC(g h n m cap:Nat)(w:World):(da 30 #[(1,ak (ah ⟨g,0,aj⟩) n n),(2,ak (ah ⟨h,0,aj⟩) m cap)]).run aC w= .ok (PF (eg 256 0) (ak (ah ⟨g,0,aj⟩) n n) (ak (ah ⟨h,0,aj⟩) m cap)) w:=by kernel_rfl
end cB
namespace iK
open dg gv
open aL (bJ Prod dD)
abbrev OD:=Bs->Option bJ
def HU(m:OD)(x:Bs)(s:bJ):OD:=λy=>if y=x then ah s else m y
abbrev WS:=List Int×Int×OD
def ja(s:WS)(w:Wd):WS:=if w.1=[]then(s.1++[-1],s.2)else(s.1++[s.2.1],s.2.1+1,HU s.2.2 w.1 (1,s.2.1))
abbrev HS:=Int×OD
def tX(s:HS)(r:Rl):HS:=if(s.2 r.1).isSome then s else(s.1+1,HU s.2 r.1 (2,s.1))
def qB(m:OD)(x:Bs):bJ:=(m x).getD (0,0)
def AA(m:OD)(r:Rl):Prod:=((qB m r.1).2,r.2.map (qB m))
def ws0:WS:=([],0,λ_=>aj)
def Ln(l:List Wd):WS:=l.foldl ja ws0
def hsN(s:Sp):HS:=s.rules.foldl tX (0,(Ln s.words).2.2)
def cT(s:Sp):dD:=⟨(Ln s.words).2.1,(hsN s).1,s.rules.map (AA (hsN s).2)⟩
def wt(s:Sp):Int:=if aL.cI (cT s)≠0 then 2 else 0
def Small(m:OD):Prop:=∀y s,m y=ah s->0<=s.1/\s.1<=2/\0<=s.2/\s.2<=1000
theorem XF:Small λ_=>none:=λ_ _ h=>by cases h
theorem Jt{m:OD}(h:Small m){x:Bs}{s:bJ}(h1:0<=s.1/\s.1<=2/\0<=s.2/\s.2<=1000):Small (HU m x s):=λy z hz=>by
 unfold HU at hz;split at hz
 simp_all
 exact h y z hz
theorem Ju{m:OD}(h:Small m)(x:Bs):0<=(qB m x).1/\(qB m x).1<=2/\0<=(qB m x).2/\(qB m x).2<=1000:=by
 unfold qB
 cases hx:m x with
 |none=>simp
 |some s=>exact h x s hx
theorem step_take{α σ:Type}(f:σ->α->σ)(s:σ)(l:List α){k:Nat}(h:k<l.length):(l.take (k+1)).foldl f s=f ((l.take k).foldl f s) l[k]:=by
 rw[ic h,List.foldl_append];rfl
theorem acp(s:WS)(w:Wd)(k:Nat)(h:k<60)(a1:s.1.length=k)(a2:0<=s.2.1)(a3:s.2.1<=k)(a4:Small s.2.2):
 (ja s w).1.length=k+1/\0<=(ja s w).2.1/\(ja s w).2.1<=((k+1:Nat):Int)/\Small (ja s w).2.2:=by
 unfold ja;split
 grind
 ·exact⟨by simp_all,by grind,by simp_all,Jt a4 ⟨(by decide:(0:Int)<=1),(by decide:(1:Int)<=2),a2,by omega⟩⟩
theorem acq(l:List Wd):∀k,k<=l.length->k<=60->((l.take k).foldl ja ws0).1.length=k/\0<=((l.take k).foldl ja ws0).2.1/\((l.take k).foldl ja ws0).2.1<=k/\Small ((l.take k).foldl ja ws0).2.2
 |0,_,_=>⟨rfl,jg _,jg _,XF⟩
 |k+1,h,h60=>by
  obtain⟨a1,a2,a3,a4⟩:=acq l k J J;rw[step_take _ _ _ (show k<l.length by omega)];exact acp _ _ k J a1 a2 a3 a4
theorem acr(s:HS)(r:Rl)(k:Nat)(h:k<60)(a2:0<=s.1)(a3:s.1<=k)(a4:Small s.2):
 0<=(tX s r).1/\(tX s r).1<=((k+1:Nat):Int)/\Small (tX s r).2:=by
 grind[tX,Jt]
theorem agk(l:List Rl)(m:OD)(hm:Small m):∀k,k<=l.length->k<=60->0<=((l.take k).foldl tX (0,m)).1/\((l.take k).foldl tX (0,m)).1<=k/\Small ((l.take k).foldl tX (0,m)).2
 |0,_,_=>⟨jg _,jg _,hm⟩
 |k+1,h,h60=>by
  obtain⟨a2,a3,a4⟩:=agk l m hm k J J;rw[step_take _ _ _ (show k<l.length by omega)];exact acr _ _ k J a2 a3 a4
end iK
namespace cB
open Go.RowKit cL dV iK
def km(vo:Value)(pk tl:List Value):List Value:=vo::(pk++tl)
def jC(t n:Int)(vp:Value)(mode:Int)(rows dB gt:Value):List Value:=[ap av t,ap av n,vp,ap av mode,rows,dB,gt]
def Yr:List Value:=jk (eg 256 0) (ak aj 0 0) (ak aj 0 0)
theorem j_:Yr.length=258:=iE _ _ _
def HV:List Value:=km (ak aj 0 0) Yr (jC 0 0 (ak aj 0 0) 0 (ak aj 0 0) (ak aj 0 0) (ak aj 0 0))
theorem w_:(([ak aj 0 0]:List Value)++c_ 256 (ap .u8 0)++([ak aj 0 0,ak aj 0 0,ap av 0,ap av 0,ak aj 0 0,ap av 0,ak aj 0 0,ak aj 0 0,ak aj 0 0]:List Value)).toArray=HV.toArray:=by
 have e:∀z:List Value,(([ak aj 0 0]:List Value)++z++([ak aj 0 0,ak aj 0 0,iV 0,iV 0,ak aj 0 0,iV 0,ak aj 0 0,ak aj 0 0,ak aj 0 0]:List Value)).toArray=((ak aj 0 0:Value)::((z++[ak aj 0 0,ak aj 0 0])++jC 0 0 (ak aj 0 0) 0 (ak aj 0 0) (ak aj 0 0) (ak aj 0 0))).toArray:=λz=>by simp[jC]
 unfold HV km Yr jk;rw[Sr,Sq];exact e _
theorem XG(w:World):(da 38 #[]).run aC w= .ok (aP HV.toArray) w:=by
 rw[<-w_];kernel_rfl
theorem jH{vo:Value}{pk tl:List Value}(j:Nat)(hp:pk.length=258){k:Nat}{v:Value}(h:tl[j]?=ah v)(hk:k=j+259):(km vo pk tl).toArray[k]?=ah v:=by
 simp_all[km,List.getElem?_append_right]
theorem ahU{vo:Value}{pk tl:List Value}(j:Nat)(hp:pk.length=258){k:Nat}(v:Value)(hk:k=j+259):(km vo pk tl).toArray.setIfInBounds k v=(km vo pk (tl.set j v)).toArray:=by
 simp_all[km]
theorem kJ{vo:Value}{pk tl:List Value}(hp:pk.length=258)(ht:tl.length=7):(km vo pk tl).toArray.size=266:=by
 grind[km]
theorem BX{vo:Value}{pk tl:List Value}(h1:vo.oneCell'=aB)(h2:pk.all fV=aB)(h3:tl.all fV=aB):(km vo pk tl).toArray.toList.all fV=true:=by
 simp_all[km]
theorem Ve:Yr.all fV=true:=by
 have:=y7 (eg 256 0) (vn:=ak aj 0 0) (vt:=ak aj 0 0) I I
 simpa[Yr]using this
theorem om{vo:Value}{pk:List Value}(hp:pk.length=258){t n mode:Int}{vp rows dB gt v:Value}{j:Nat}(h:[ap av t,ap av n,vp][j]?=ah v):(km vo pk (jC t n vp mode rows dB gt)).toArray[0+259+j]?=ah v:=by
 match j,h with
 |0,h=>exact jH 0 hp h I
 |1,h=>exact jH 1 hp h I
 |2,h=>exact jH 2 hp h I
 |n+3,h=>cases h
section
variable{P:Program}{n:Nat}{W:bV}{fr:Fr}{L:List b_}{Q:Exit->Act->World->Prop}{ops:Array Oper}{rest:List Oper}{ty:TypeId}{pos:String}{after:Array Edge}{t:TypeId}{p x:Operand}{i g k:Nat}{vo:Value}{pk tl:List Value}{T:TypeId}{agg:Bool}{v:Value}
theorem nW(j:Nat)[hT:aI P t agg 1](hi:L[i]?=ah (aK g (km vo pk tl).toArray T))(hp:ev fr p=ah (aH (ah ⟨g,k,aj⟩)))(hx:ev fr x=ah v)(hv:v.cells=#[v])(h1:v.oneCell'=aB)(hk:k=j+259)(ji:pk.length=258)(hj:dx j tl.length=aB)
 (h:TL P n W ops Q rest fr (L.set i (aK g (km vo pk (tl.set j v)).toArray T))):TL P n W ops Q (⟨aj,.store t p x,ty,pos,after,aj⟩::rest) fr L:=by
 have hj:j<tl.length:=Nat.le_of_ble_eq_true hj;refine bD hi hp hx hv h1 ?_ ?_
 ·rw[eT,km,dj,bT]
  exact Nat.ble_eq_true_of_le J
 grind[ahU]
theorem Gt[hT:aI P t agg 1](hi:L[i]?=ah (aK g (km vo pk tl).toArray T))(hp:ev fr p=ah (aH (ah ⟨g,k,aj⟩)))(hx:ev fr x=ah v)(hv:v.cells=#[v])(h1:v.oneCell'=aB)(hk:k=0)
 (h:TL P n W ops Q rest fr (L.set i (aK g (km v pk tl).toArray T))):TL P n W ops Q (⟨aj,.store t p x,ty,pos,after,aj⟩::rest) fr L:=by
 subst hk;exact bD hi hp hx hv h1 I<|h
theorem SC{pk':List Value}[hT:aI P t agg 258](hi:L[i]?=ah (aK g (km vo pk tl).toArray T))(hp:ev fr p=ah (aH (ah ⟨g,k,aj⟩)))(hx:ev fr x=ah (aP pk'.toArray))(h1:pk'.all fV=aB)(hk:k=1)(ji:pk.length=258)(alU:pk'.length=258)
 (h:TL P n W ops Q rest fr (L.set i (aK g (km vo pk' tl).toArray T))):TL P n W ops Q (⟨aj,.store t p x,ty,pos,after,aj⟩::rest) fr L:=by
 subst hk;refine uC hT.ty hi hp hx (by simp_all[oX]) (by simp_all[oX]) (by grind[km]) ?_ h;apply abW;show vo::(pk'++tl)=abZ 1 (vo::(pk++tl))++pk'++ab0 (1+258) (vo::(pk++tl))
 simp_all
theorem SD{a b c d e f f' u u':Value}[hT:aI P t agg 2](hi:L[i]?=ah (aK g (km vo pk [a,b,c,d,e,f,f']).toArray T))(hp:ev fr p=ah (aH (ah ⟨g,k,aj⟩)))(hx:ev fr x=ah (aP #[u,u']))(h1:u.oneCell'=aB)(h2:u'.oneCell'=aB)(hk:k=264)(ji:pk.length=258)
 (h:TL P n W ops Q rest fr (L.set i (aK g (km vo pk [a,b,c,d,e,u,u']).toArray T))):TL P n W ops Q (⟨aj,.store t p x,ty,pos,after,aj⟩::rest) fr L:=by
 subst hk;refine uC hT.ty hi hp hx I (by grind[oX]) (by simp_all[km]) ?_ h;apply abW;show vo::(pk++[a,b,c,d,e,u,u'])=abZ (263+1) (vo::(pk++[a,b,c,d,e,f,f']))++[u,u']++ab0 (265+1) (vo::(pk++[a,b,c,d,e,f,f']))
 simp_all[List.take_append,gD]
end
open aL
theorem SE(h:Int)(w:World):(da 174 #[(0,ap av h)]).run aC w= .ok (aP #[ap av h,ak aj 0 0]) w:=by
 go_simp
theorem gok{x:Int}(h:0<=x/\x<1000000000):cL.dv x:=by grind[cL.dv]
theorem y8{F:Nat->Prop}{vp:Value}{l:List aL.Prod}{w:World}{t n:Int}(ht:cL.dv t)(hn:cL.dv n)(h:(sT F vp l).holds w):jS (λk=>k<w.heap.size) w (du t n vp) ⟨t,n,l⟩:=by
 obtain⟨⟨v',hv,h1⟩,h2⟩:=h;simp only[fL,and_true]at hv;subst hv;exact⟨vp,rfl,h1.mono h2,ht,hn⟩
open dg gv
def AB(s:bJ):Value:=aP (dr s).toArray
theorem xc(w:World):(zeroValue 123).run aC w= .ok (AB (0,0)) w:=by kernel_rfl
theorem SF(s:bJ)(w:World):(Instr.field 123 (AB s) 1).run aC w= .ok (ap av s.2) w:=by
 obtain⟨a,b⟩:=s
 kernel_rfl
theorem OE{P:Program}{k:TypeId}{κ:Type}{K:yu P k κ}{W:bV}{fr:Fr}{L:List b_}{n:Nat}{dst:Option Tmp}{ty:TypeId}{pos:String}{after:Array Edge}{guard:Option (Nat×Bool)}{i g c:Nat}{t e:TypeId}{m:κ->Option Value}{x:κ}{z v:Value}{xm xk:Operand}(ht:P.underlying t=ah (.map k e))(hz:∀w,(zeroValue e).run P w= .ok z w)(hi:L[i]?=ah (fq K g m c))(hm:ev fr xm=ah (.map (ah g)))(hk:ev fr xk=ah (K.kv x))(hx:K.ok x)(hv:(m x).getD z=v):RR P n W ⟨dst,.lookup t xm xk aE,ty,pos,after,guard⟩ fr L v:=by
 subst hv;exact ad6 K ht hz hi hm hk hx
def CD(m:Bs->Option Value)(M:OD):Prop:=∀y,m y=(M y).map AB
theorem XH:CD (λ_=>aj) (λ_=>aj):=λ_=>rfl
theorem Jv{m:Bs->Option Value}{M:OD}(h:CD m M){x:Bs}{s:bJ}{v:Value}(hv:v=AB s):CD (λy=>if y=x then ah v else m y) (HU M x s):=λy=>by
 unfold HU;dsimp only;subst hv
 by_cases e:y=x
 rw[if_pos e,if_pos e];rfl;rw[if_neg e,if_neg e];exact h y
theorem Jw{m:Bs->Option Value}{M:OD}(h:CD m M)(x:Bs):(m x).getD (AB (0,0))=AB (qB M x):=by
 rw[h x];unfold qB
 cases M x<;>rfl
theorem SG{m:Bs->Option Value}{M:OD}(h:CD m M){x:Bs}(hx:M x=aj):m x=none:=by rw[h x,hx];rfl
theorem SH{m:Bs->Option Value}{M:OD}(h:CD m M){x:Bs}{s:bJ}(hx:M x=ah s):m x=ah (AB s):=by rw[h x,hx];rfl
def Gu(gp:Nat)(e:Int)(len:Nat)(of:List Int)(g:dD):Spec (Value×Value×(Nat->Prop)):=
 ⟨λx=>x.1.oneCell'=aB/\x.2.1.oneCell'=aB,λ_=>ap av e,λx=>[aK gp (km x.1 Yr (jC g.aQ g.bB x.2.1 0 (ak aj 0 0) (ak aj 0 0) (ak aj 0 0))).toArray 38,bm 3 1 x.1 len (of.map (ap .i64)),sT x.2.2 x.2.1 g.az]⟩
def Lo(gp:Nat)(s:Sp):Spec (Value×Value×(Nat->Prop)):=Gu gp (wt s) s.words.length (Ln s.words).1 (cT s)
theorem HW(vw vr:Value)(s:Sp)(gp:Nat)(w0:World)(hv:XA (rP w0) w0 (aP #[vw,vr]) s)(hlw:s.words.length<=60)(Qh:s.rules.length<=60)(Hl:∀r∈s.rules,r.2.length<=8796093021952)(w:World)(B:bV)(ho:ly w0 B)(hm:Mem B [aK gp HV.toArray 38] w):
 Calls aC 57 #[aP #[vw,vr],aH (ah ⟨gp,0,aj⟩)] w (dz (Lo gp s) B):=by
 obtain⟨vw',Dx,hvv,hw,hr⟩:=hv;obtain⟨rfl,rfl⟩:vw=vw'/\vr=Dx:=by simpa using hvv
 clear hvv;obtain⟨words,rules⟩:=s;dsimp only at*;obtain⟨bw,cw,rfl,-,-,SI⟩:=hw;obtain⟨br,cr,rfl,-,-,acs⟩:=hr;refine dT hm (args:=[aP #[ak bw words.length cw,ak br rules.length cr],aH (ah ⟨gp,0,aj⟩)]) (n:=153) Tryz.func57 I I I ?_;refine bZ (bx (bH I I I λg2=>?_));refine zL ?_
 try refine GA ?_
 refine yv il I λgm=>?_;refine zL ?_
 repeat(first|refine GA ?_|refine gV (aw (v:=ak bw words.length cw) aI.ty I (aD (i:=1) I I)) ?_)
 refine iJ 3 1 ?_;refine dZ (ι:=Nat×List Int×Int×OD×Value×(Bs->Option Value)×Nat)
  (λ(k,of,t,M,vo,m,n)=>k<=words.length/\n<=k/\(words.take k).foldl ja ws0=(of,t,M)/\CD m M/\vo.oneCell'=aB)
  (λ(k,_,_,_,_,_,_)=>[(1,aH (ah ⟨gp,0,aj⟩)),(2,aH (ah ⟨g2,0,aj⟩)),(5,.map (ah gm)),(19,ak bw words.length cw),(20,ap av words.length),(21,ap av (k:Int))])
  (λ(k,of,t,_,vo,m,n)=>[aK gp (km vo Yr (jC t 0 (ak aj 0 0) 0 (ak aj 0 0) (ak aj 0 0) (ak aj 0 0))).toArray 38,aK g2 #[ak bw words.length cw,ak br rules.length cr] 25,fq il gm m n,bm 3 1 vo k (of.map (ap .i64))])
  (λ(k,_,_,_,_,_,_)=>words.length-k) (0,[],0,λ_=>aj,ak aj 0 0,λ_=>aj,0) ⟨bC _,aX _,rfl,XH,rfl⟩ ?_
 clear hm;rintro⟨k,of,t,M,vo,m,n⟩ ⟨i1,i2,i3,i4,i5⟩;dsimp only at i1 i2 i3 i4 i5⊢;have hws:=acq words k i1 J;rw[i3]at hws;obtain⟨s1,s2,s3,s4⟩:=hws;dsimp only at s1 s2 s3 s4
 by_cases c1:k<words.length
 ·obtain⟨b,off,rfl,_,hr⟩:=SI J
  obtain⟨bk,ck,q1,q2,q3⟩:=U8 hr c1;have hst:=step_take ja ws0 words c1;rw[i3]at hst;have eC:∀(L:List b_) (j:Nat) (u:Value),(zk words[k].1 words[k].2.kind words[k].2.uF (.slice bk words[k].2.kids.length ck))[j]?=ah u->At B L ⟨b,off+k*7+j,aj⟩ u:=λL j u hj=>eY ho (q1 j u hj);clear hr SI acs q1 q2;generalize words[k]=wd at*;obtain⟨nm,r⟩:=wd;dsimp only at*;generalize r.kind=rk at*;generalize r.uF=rc at*;generalize r.kids.length=rn at*
  repeat(first|refine GA ?_|refine gV (aR bM.eq aI.ty I I c1) ?_|refine gV (aW (cs:=zk nm rk rc (ak bk rn ck)) aI.ty I I (eC _)) ?_)
  clear eC;refine aY I λg7=>?_;refine zL ?_;refine fR 4 (cs':=(zk nm rk rc (ak bk rn ck)).toArray) ?_;refine zL ?_
  by_cases e0:nm=[]
  ·subst e0
   repeat(first|refine GC ?_|refine gV (aw (v:=str []) aI.ty I (aD (i:=4) I I)) ?_|refine gV (uB (b:=aB) I I I) ?_|refine gV (aw (v:=vo) aI.ty I (aD (i:=0) I I)) ?_|refine GB ?_)
   refine kf (i:=3) I I I I I I (λz h=>by cases h;rfl) J J I λz' v'=>?_;refine zL ?_
   try refine GA ?_
   refine aU (i:=3) I λrM zv=>?_;refine Gt (i:=0) I I I rM zv I ?_;refine zL ?_
   try refine GA ?_
   refine dq [0,1,2,3] ?_;exact bQ (k+1,of++[-1],t,M,v',m,n) ⟨by omega,by show n<=k+1;omega,hst,i4,zv⟩ (by show words.length-(k+1)<words.length-k;omega) (hl:=by dsimp only;rw[eK];rfl)
  rw[show ja (of,t,M) (nm,r)=(of++[t],t+1,HU M nm (1,t))from if_neg e0]at hst
  repeat(first|refine GC ?_|refine gV (aw (v:=str nm) aI.ty I (aD (i:=4) I I)) ?_|refine gV (uB (b:=aE) I I (decide_eq_false e0)) ?_|refine GB ?_)
  (repeat refine bZ ?_)
  refine dG ([aK gp (km vo Yr (jC t 0 (ak aj 0 0) 0 (ak aj 0 0) (ak aj 0 0) (ak aj 0 0))).toArray 38,aK g7 (zk nm rk rc (ak bk rn ck)).toArray 100]) (.calm 0 (.calm 1 (.calm 2 (.calm 3 (.calm 4 (.calm 5 (.calm 6 (.calm 7 (.calm 8 (.one 9 (.done))))))))))) (bY [0,4]) ?_
  repeat(first|refine GW ?_|(refine GN ?_;first|refine QW (aw (v:=str nm) aI.ty I (aD (i:=1) I I)) ?_|refine QW (aw (v:=ap av t) aI.ty I (aD (i:=0) I (jH 0 j_ I I))) ?_|refine QW (aZ I (OA _ _)) ?_))
  refine aM I (mD (i:=2) (x:=nm) (v:=AB (1,t)) il bM.eq I I I I q3 J (aO (bY [0,4]) ?_));refine zL ?_
  try refine GW ?_
  try refine GA ?_
  (repeat refine bZ ?_)
  refine dG ([]) (.calm 0 (.calm 1 (.calm 2 (.calm 3 (.calm 5 (.calm 6 (.calm 7 (.calm 8 (.two 4 (.one 9 (.one 10 (.one 11 (.calm 12 (.calm 13 (.one 14 (.done))))))) 9 (.two 4 (.one 10 (.one 11 (.calm 12 (.calm 13 (.one 14 (.done)))))) 10 (.one 4 (.one 11 (.calm 12 (.calm 13 (.one 14 (.done)))))))))))))))) (bY []) ?_
  try refine GW ?_
  refine e_ I I ?a1 ?a2
  case' a2=>
   refine dy (aw (v:=ap av t) aI.ty I (aD (i:=0) I (jH 0 j_ I I))) I I I (aO (bY []) ?_);refine e_ I I ?a3 ?a4
  case' a4=>
   refine gG (cs:=#[ap av t]) I I I I I λg56=>aO (bY []) ?_;refine aM I (dy (aw (v:=vo) aI.ty I (aD (i:=0) I I)) I I I (aO (bY []) ?_))
  case' a3=>
   refine dy (aw (v:=vo) aI.ty I (aD (i:=0) I I)) I I I (aO (bY []) ?_);refine aM I (gG (cs:=#[ap av t]) I I I I I λg56=>aO (bY []) ?_)
  case' a1=>
   refine dy (aw (v:=vo) aI.ty I (aD (i:=0) I I)) I I I (aO (bY []) ?_);refine aM I (dy (aw (v:=ap av t) aI.ty I (aD (i:=0) I (jH 0 j_ I I))) I I I (aO (bY []) ?_));refine aM I (gG (cs:=#[ap av t]) I I I I I λg56=>aO (bY []) ?_)
  all_goals
   refine zL ?_;refine aM I (l6 (i:=3) (q:=5) I I I I I I J J I λv'=>aO (bY []) ?_);refine zL ?_
   try refine GW ?_
   refine aM I (aU (i:=3) I λrM zv=>Gt (i:=0) I I I rM zv I (aO (bY []) ?_));refine zL ?_
   try refine GW ?_
   repeat(first|refine GA ?_|refine gV (aw (v:=ap av t) aI.ty I (aD (i:=0) I (jH 0 j_ I I))) ?_)
   refine nW 0 (i:=0) I I I I I I j_ I ?_;refine zL ?_
   try refine GA ?_
   refine dq [0,1,2,3] ?_;exact ik (k+1,of++[t],t+1,HU M nm (1,t),v',_,_) ⟨by omega,by show(if(m nm).isSome then n else n+1)<=k+1;split<;>omega,hst,Jv i4 I,zv⟩ (by show words.length-(k+1)<words.length-k;omega) (by repeat' (first|exact cZ|refine cP I ?_)) (by dsimp only;rw[eK];rfl)
 ·obtain rfl:k=words.length:=by omega
  rw[nU]at i3;have hW:Ln words=(of,t,M):=i3;clear SI
  repeat(first|refine GA ?_|refine gV (aw (v:=ak br rules.length cr) aI.ty I (aD (i:=1) I I)) ?_)
  refine dZ (ι:=Nat×Int×OD×(Bs->Option Value)×Nat)
   (λ(j,N,M2,m2,n2)=>j<=rules.length/\n2<=60+j/\(rules.take j).foldl tX (0,M)=(N,M2)/\CD m2 M2)
   (λ(j,_,_,_,_)=>[(1,aH (ah ⟨gp,0,aj⟩)),(2,aH (ah ⟨g2,0,aj⟩)),(5,.map (ah gm)),(71,ak br rules.length cr),(72,ap av rules.length),(73,ap av (j:Int))])
   (λ(_,N,_,m2,n2)=>[aK gp (km vo Yr (jC t N (ak aj 0 0) 0 (ak aj 0 0) (ak aj 0 0) (ak aj 0 0))).toArray 38,aK g2 #[ak bw words.length cw,ak br rules.length cr] 25,fq il gm m2 n2,bm 3 1 vo words.length (of.map (ap .i64))])
   (λ(j,_,_,_,_)=>rules.length-j) (0,0,M,m,n) ⟨bC _,by omega,rfl,i4⟩ ?_
  clear i4;rintro⟨j,N,M2,m2,n2⟩ ⟨j1,j2,j3,j4⟩;dsimp only at j1 j2 j3 j4⊢;have hhs:=agk rules M s4 j j1 J;rw[j3]at hhs;obtain⟨u1,u2,u3⟩:=hhs;dsimp only at u1 u2 u3
  by_cases c2:j<rules.length
  ·obtain⟨b,off,rfl,_,gu⟩:=acs J
   obtain⟨bk,ck,q1,-,q3⟩:=DH gu c2;have hst:=step_take tX (0,M) rules c2;rw[j3]at hst;have eC:∀(L:List b_) (j':Nat) (u:Value),([str rules[j].1,.slice bk rules[j].2.length ck]:List Value)[j']?=ah u->At B L ⟨b,off+j*2+j',aj⟩ u:=λL j' u hj=>eY ho (q1 j' u hj);clear gu q1 acs;generalize rules[j]=r at*;obtain⟨nm,bd⟩:=r;dsimp only at*;generalize bd.length=bn at*
   repeat(first|refine GA ?_|refine gV (aR bM.eq aI.ty I I c2) ?_|refine gV (aW (cs:=[str nm,ak bk bn ck]) aI.ty I I (eC _)) ?_)
   clear eC;refine aY I λg9=>?_;refine zL ?_;refine fR 4 (cs':=#[str nm,ak bk bn ck]) ?_;refine zL ?_
   cases hM:M2 nm with
   | some x=>
    rw[show tX (N,M2) (nm,bd)=(N,M2)from if_pos (by show(M2 nm).isSome=aB;rw[hM];rfl)]at hst
    repeat(first|refine GA ?_|refine gV (aw (v:=str nm) aI.ty I (aD (i:=4) I I)) ?_|refine gV (jQ il (x:=nm) bM.eq xc (i:=2) I I I q3 (SH j4 hM)) ?_)
    refine aY I λg10=>?_;refine zL ?_;refine fR 5 (cs':=(dr x).toArray) ?_;refine zL ?_
    try refine GA ?_
    refine dq [0,1,2,3] ?_;exact bQ (j+1,N,M2,m2,n2) ⟨by omega,by show n2<=60+(j+1);omega,hst,j4⟩ (by show rules.length-(j+1)<rules.length-j;omega)
   | none=>
    rw[show tX (N,M2) (nm,bd)=(N+1,HU M2 nm (2,N))from if_neg (by show ¬(M2 nm).isSome=aB;rw[hM];decide)]at hst
    repeat(first|refine GA ?_|refine gV (aw (v:=str nm) aI.ty I (aD (i:=4) I I)) ?_|refine gV (jR il (x:=nm) bM.eq xc (i:=2) I I I q3 (SG j4 hM)) ?_)
    refine aY I λg10=>?_;refine zL ?_;refine fR 5 (cs':=(dr (0,0)).toArray) ?_;refine zL ?_
    try refine GA ?_
    (repeat refine bZ ?_)
    refine dG ([aK gp (km vo Yr (jC t N (ak aj 0 0) 0 (ak aj 0 0) (ak aj 0 0) (ak aj 0 0))).toArray 38,aK g9 #[str nm,ak bk bn ck] 102]) (.calm 0 (.calm 1 (.calm 2 (.calm 3 (.calm 4 (.calm 5 (.calm 6 (.calm 7 (.calm 8 (.one 9 (.done))))))))))) (bY [0,4]) ?_
    repeat(first|refine GW ?_|(refine GN ?_;first|refine QW (aw (v:=str nm) aI.ty I (aD (i:=1) I I)) ?_|refine QW (aw (v:=ap av N) aI.ty I (aD (i:=0) I (jH 1 j_ I I))) ?_|refine QW (aZ I (OA _ _)) ?_))
    refine aM I (mD (i:=2) (x:=nm) (v:=AB (2,N)) il bM.eq I I I I q3 J (aO (bY [0,4]) ?_));refine zL ?_
    try refine GW ?_
    repeat(first|refine GA ?_|refine gV (aw (v:=ap av N) aI.ty I (aD (i:=0) I (jH 1 j_ I I))) ?_)
    refine nW 1 (i:=0) I I I I I I j_ I ?_;refine zL ?_
    try refine GA ?_
    refine dq [0,1,2,3] ?_;exact ik (j+1,N+1,HU M2 nm (2,N),_,_) ⟨by omega,by show(if(m2 nm).isSome then n2 else n2+1)<=60+(j+1);split<;>omega,hst,Jv j4 I⟩ (by show rules.length-(j+1)<rules.length-j;omega) (by repeat' (first|exact cZ|refine cP I ?_)) I
  obtain rfl:j=rules.length:=by omega
  rw[nU]at j3;have hH:hsN ⟨words,rules⟩=(N,M2):=by unfold hsN;rw[hW];exact j3
  repeat(first|refine GA ?_|refine gV (aw (v:=ak br rules.length cr) aI.ty I (aD (i:=1) I I)) ?_)
  refine iJ 174 2 (oc (eG oB (λ_=>False) [] []) (λk hk=>hk.elim (λh=>by cases h) id) (λw=>kG) ?_);refine tY [0,2,3,4,5] ?_;refine dZ (ι:=Nat×List aL.Prod×Value×List (List Value)×(Nat->Prop))
   (λ(j,ps,vp,gY,F)=>j<=rules.length/\ps=(rules.take j).map (AA M2)/\vp.oneCell'=aB)
   (λ(j,_,_,_,_)=>[(1,aH (ah ⟨gp,0,aj⟩)),(5,.map (ah gm)),(106,ak br rules.length cr),(107,ap av rules.length),(108,ap av (j:Int))])
   (λ(j,ps,vp,gY,F)=>[aK gp (km vo Yr (jC t N vp 0 (ak aj 0 0) (ak aj 0 0) (ak aj 0 0))).toArray 38,fq il gm m2 n2,bm 3 1 vo words.length (of.map (ap .i64)),bm 174 2 vp ps.length gY.flatten,eG oB F gY ps])
   (λ(j,_,_,_,_)=>rules.length-j) (0,[],ak aj 0 0,[],λ_=>False) ⟨bC _,rfl,rfl⟩ ?_
  rintro⟨j,ps,vp,gY,F⟩ ⟨k1,k2,k3⟩;dsimp only at k1 k2 k3⊢
  by_cases c3:j<rules.length
  ·obtain⟨b,off,rfl,_,gu⟩:=acs J
   obtain⟨bk,ck,q1,q2,q3⟩:=DH gu c3;have hps:(rules.take (j+1)).map (AA M2)=ps++[AA M2 rules[j]]:=by rw[ic c3,eK,<-k2];rfl
   have wY:ps.length=j:=by rw[k2,dY,jr];omega
   have eC:∀(L:List b_) (j':Nat) (u:Value),([str rules[j].1,.slice bk rules[j].2.length ck]:List Value)[j']?=ah u->At B L ⟨b,off+j*2+j',aj⟩ u:=λL j' u hj=>eY ho (q1 j' u hj);have ua:=q2.flat alt;have mP:=q2.okp;have Yo:=Hl _ (bX c3);clear gu q1 q2 acs;generalize rules[j]=r at*;obtain⟨nm,bd⟩:=r;dsimp only at*;obtain⟨b2,Sw,mz,Eo,VM,Gv⟩:=ua
   cases mz
   unfold maxLen at VM;have hsm:=Ju u3 nm
   repeat(first|refine GA ?_|refine gV (aR bM.eq aI.ty I I c3) ?_|refine gV (aW (cs:=[str nm,ak bk bd.length ck]) aI.ty I I (eC _)) ?_)
   clear eC;refine aY I λg13=>?_;refine zL ?_;refine fR 5 (cs':=#[str nm,ak bk bd.length ck]) ?_;refine zL ?_
   repeat(first|refine GA ?_|refine gV (aw (v:=str nm) aI.ty I (aD (i:=5) I I)) ?_|refine gV (OE (K:=il) (x:=nm) bM.eq xc (i:=1) I I I q3 (Jw j4 nm)) ?_|refine gV (Uu I (SF _)) ?_|refine gV (aZ I (SE _)) ?_)
   refine aY I λg14=>?_;refine zL ?_;refine fR 6 (cs':=#[ap av (qB M2 nm).2,ak aj 0 0]) ?_;refine zL ?_
   repeat(first|refine GA ?_|refine gV (aw (v:=ak bk bd.length ck) aI.ty I (aD (i:=5) I I)) ?_)
   refine iJ 123 2 ?_;refine tY [0,1,2,3,4,6,7] ?_;refine dZ (ι:=Nat×Value) (λ(i,vb)=>i<=bd.length/\vb.oneCell'=aB)
    (λ(i,vb)=>[(1,aH (ah ⟨gp,0,aj⟩)),(5,.map (ah gm)),(14,aH (ah ⟨g14,0,aj⟩)),(106,ak (ah ⟨b,off,aj⟩) rules.length cr),(107,ap av rules.length),(108,ap av (j:Int)),(119,ak bk bd.length ck),(120,ap av bd.length),(121,ap av (i:Int))])
    (λ(i,vb)=>[aK gp (km vo Yr (jC t N vp 0 (ak aj 0 0) (ak aj 0 0) (ak aj 0 0))).toArray 38,fq il gm m2 n2,bm 3 1 vo words.length (of.map (ap .i64)),bm 174 2 vp ps.length gY.flatten,eG oB F gY ps,aK g14 #[ap av (qB M2 nm).2,vb] 174,bm 123 2 vb i (((bd.take i).map (qB M2)).flatMap dr)])
    (λ(i,_)=>bd.length-i) (0,ak aj 0 0) ⟨bC _,rfl⟩ ?_
   rintro⟨i,vb⟩ ⟨l1,l2⟩;dsimp only at l1 l2⊢
   by_cases c4:i<bd.length
   ·obtain⟨b3,HD,rfl,xG⟩:=Gv J
    have eC:=λL=>pI (W:=B) (L:=L) U7 (λj u hj=>eY ho (xG j u hj)) c4 0 _ I;have hlen:=mP bd[i] (bX c4);have Mh:((bd.take (i+1)).map (qB M2)).flatMap dr=((bd.take i).map (qB M2)).flatMap dr++dr (qB M2 bd[i]):=by
     rw[ic c4,eK,ie];simp
    clear xG Gv;generalize bd[i]=x at*
    repeat(first|refine GA ?_|refine gV (aR bM.eq aI.ty I I c4) ?_|refine gV (aw (v:=str x) aI.ty I (eC _)) ?_|refine gV (aw (v:=vb) aI.ty I (aD (i:=5) I I)) ?_|refine gV (OE (K:=il) (x:=x) bM.eq xc (i:=1) I I I hlen (Jw j4 x)) ?_)
    refine iU (i:=6) (cs:=(dr (qB M2 x)).toArray) I I I I I I I (λz h=>by cases h;rfl) J J I λz vb'=>?_;refine zL ?_
    try refine GA ?_
    refine aU (i:=6) I λrM zv=>?_;refine bD (i:=5) I I I rM zv I ?_;refine zL ?_
    try refine GA ?_
    exact bQ (i+1,vb') ⟨by omega,zv⟩ (by show bd.length-(i+1)<bd.length-i;omega) (hl:=by dsimp only;rw[Mh];rfl)
   obtain rfl:i=bd.length:=by omega
   rw[nU];clear Gv;have V':(bd.map (qB M2)).length=bd.length:=dY ..;rw[<-V'];have akZ:AA M2 (nm,bd)=((qB M2 nm).2,bd.map (qB M2)):=rfl;have Jp:∀x∈bd.map (qB M2),aax x:=λx hx=>by
    obtain⟨y,-,rfl⟩:=fE.1 hx;have:=Ju u3 y;exact⟨gok ⟨this.1,by omega⟩,gok ⟨this.2.2.1,by omega⟩⟩
   generalize qB M2 nm=hd at*;generalize bd.map (qB M2)=body at*
   try refine GA ?_
   (repeat refine bZ ?_)
   refine dG ([aK g14 #[ap av hd.2,vb] 174]) (.calm 0 (.calm 1 (.calm 2 (.calm 3 (.calm 4 (.calm 6 (.two 5 (.one 7 (.one 8 (.calm 9 (.calm 10 (.calm 11 (.one 12 (.done))))))) 7 (.one 5 (.one 8 (.calm 9 (.calm 10 (.calm 11 (.one 12 (.done)))))))))))))) (bY [5]) ?_
   repeat(first|refine GW ?_|(refine GN ?_;first|refine QW (aJ (i:=0) aI.ty I I I) ?_))
   refine e_ I I ?b1 ?b2
   case' b1=>
    refine dy (aw (v:=vp) aI.ty I (aD (i:=0) I (jH 2 j_ I I))) I I I (aO (bY [5]) ?_);refine aM I (gG (cs:=#[ap av hd.2,vb]) I I I I I λg15=>aO (bY [5]) ?_)
   case' b2=>
    refine gG (cs:=#[ap av hd.2,vb]) I I I I I λg15=>aO (bY [5]) ?_;refine aM I (dy (aw (v:=vp) aI.ty I (aD (i:=0) I (jH 2 j_ I I))) I I I (aO (bY [5]) ?_))
   all_goals
    refine zL ?_;refine aM I (n_ (i:=3) (q:=7) I I I I I (by simp only[cY,db,l2];rfl) J J I λv'=>aO (bY [5]) ?_);refine zL ?_
    try refine GW ?_
    refine aM I (aU (i:=3) I λrM zv=>nW 2 (i:=0) I I I rM zv I j_ I (aO (bY [5]) ?_));refine zL ?_
    try refine GW ?_
    refine Dj (eG oB (λk=>F k\/vb.ownBlock=ah k) (gY++[[ap av hd.2,vb]]) (ps++[(hd.2,body)])) 6 4 [0,1,2,3] alt I I I (λk hk=>hk.elim (λh=>by cases h) λh=>h.elim (λh=> .inr (.inr h)) λh=> .inl (.inl h)) (λw hr he=>?_) ?_
    ·exact pJ he (MW (gok ⟨hsm.2.2.1,by omega⟩) Jp hr) λk hk=>(bm 123 2 vb body.length (body.flatMap dr)).lt w hr k (.inl hk)
    try refine GA ?_
    exact bQ (j+1,ps++[(hd.2,body)],v',gY++[[ap av hd.2,vb]],λk=>F k\/vb.ownBlock=ah k) ⟨by omega,by rw[hps,akZ],zv⟩ (by show rules.length-(j+1)<rules.length-j;omega) (hl:=by rw[bT,abY];rfl)
  obtain rfl:j=rules.length:=by omega
  rw[nU]at k2;subst k2;have hG:cT ⟨words,rules⟩=⟨t,N,rules.map (AA M2)⟩:=by unfold cT;rw[hW,hH]
  have hE:wt ⟨words,rules⟩=if cI ⟨t,N,rules.map (AA M2)⟩≠0 then 2 else 0:=by unfold wt;rw[hG]
  have hS:∀e,wt ⟨words,rules⟩=e->Lo gp ⟨words,rules⟩=Gu gp e words.length of ⟨t,N,rules.map (AA M2)⟩:=λe he=>by
   show Gu gp (wt _) words.length (Ln words).1 (cT _)=_
   rw[hW,hG,he]
  clear hG;generalize rules.map (AA M2)=ps at*
  repeat(first|refine GA ?_|refine gV (aW (cs:=[ap av t,ap av N,vp]) aI.ty I I (λj v h=>aD (i:=0) I (om j_ h))) ?_)
  refine uK (sT (Or1 F vp) vp ps) 3 4 [0,2] alt I I I (λk hk=>hk.elim (λh=>by cases h) λh=>h.elim (λh=> .inr (.inr h)) λh=> .inl (.inl h)) (λw hr he=>⟨⟨vp,rfl,Er hr he alt⟩,Es hr he⟩) ?_;refine zL ?_;refine aT (lz aF.en I I) (λw hm=>im _ ⟨t,N,ps⟩ w (y8 (gok ⟨s2,by omega⟩) (gok ⟨u1,by omega⟩) (hm.get (i:=2) I))) I I I ?_;intro _ _;refine zL ?_;generalize cI ⟨t,N,ps⟩=e at*
  by_cases c:e≠0
  ·rw[if_pos c]at hE
   rw[hS _ hE]
   repeat(first|refine GC ?_|refine gV (dh (b:=aB) I I (decide_eq_true c)) ?_|refine GB ?_)
   exact cV I I λw hm=>hm.cg (S:=Gu gp 2 words.length of ⟨t,N,ps⟩) (vo,vp,Or1 F vp) ⟨i5,k3⟩ [0,1,2] alt I
  rw[if_neg c]at hE;rw[hS _ hE]
  repeat(first|refine GC ?_|refine gV (dh (b:=aE) I I (decide_eq_false c)) ?_|refine GB ?_)
  exact cV I I λw hm=>hm.cg (S:=Gu gp 0 words.length of ⟨t,N,ps⟩) (vo,vp,Or1 F vp) ⟨i5,k3⟩ [0,1,2] alt I
open zP cX
section
end
theorem acu{k:Nat}(h:k<256):KO.wrap (k:Int)=(k:Int):=by
 grind[KN]
end cB
namespace cB
open Go.RowKit cL dV zP cX
def XI:Nat->Nat×Nat
 |0=>(0,0)
 | n+1=>match XI n with
  |(a,0)=>(0,a+1)
  |(a,b+1)=>(a+1,b)
theorem Gw:∀(s a b:Nat),a+b=s->∃n,XI n=(a,b)
 |0,a,b,h=>⟨0,by obtain rfl:a=0:=J;obtain rfl:b=0:=J;rfl⟩
 |s+1,0,b,h=>by
  obtain rfl:b=s+1:=by omega
  obtain⟨n,hn⟩:=Gw s s 0 J;exact⟨n+1,by simp[XI,hn]⟩
 |s+1,a+1,b,h=>by
  obtain⟨n,hn⟩:=Gw (s+1) a (b+1) J;exact⟨n+1,by simp[XI,hn]⟩
def qm(m x:Nat):Value:=ak (ah ⟨(XI x).1,0,aj⟩) m (XI x).2
section
variable{P:Program}{n:Nat}{W:bV}{fr:Fr}{ops:Array Oper}
theorem afk{i d:Nat}{α:Type}(val:α->Value)(z:α){t e ty:TypeId}{pos:String}{after:Array Edge}{x y:Operand}{bytes m:Nat}{k k':IntKind}[sw P t e 1 bytes][eH P e #[val z]](ho:ops[i]?=ah ⟨ah d,.makeSlice t x y,ty,pos,after,aj⟩)(hx:ev fr x=ah (.int k (m:Int)))(hy:ev fr y=ah (.int k' (m:Int)))(hb:bytes*m<=281474976710656)(xi:m<=9223372036854775807)(hn:dx d n=aB):
 Io P n W ops fr ⟨i,d,λg=>ak (ah ⟨g,0,aj⟩) m m,λg=>fA e val g m λ_=>z⟩:=
 ⟨_,ho,λ_ _ _ hl h=>pM val z (zN hl hx) (zN hl hy) hb xi hn h⟩
theorem SJ{i d:Nat}{o:Oper}{f:FuncId}{args:Array Value}{e:TypeId}{size m:Nat}{xs:List Value}(ho:ops[i]?=ah o)(he:∀Hk,(∀q v,look fr q=ah v->look Hk q=ah v)->∀a w,mK n a Hk->(execOp a.eval o).run P w= .ok (.enter f args) w)
 (hc:∀(L:List b_) w,Mem W L w->Calls P f args w (cJ (df e size m xs id) w)) (hm:0<m) (hg:o.guard=aj) (hd:o.dst=ah d) (hn:dx d n=aB):
 Io P n W ops fr ⟨i,d,qm m,λx=>bm e size (qm m x) m xs⟩:=
 ⟨o, ho,λQ Hk L hl h=>aT (he Hk hl) (λw hw=>hc L w hw) hg hd hn λv _=> .mk λa w hr hw=>by
  have uf:(bm e size v m xs).holds w:=hw.get (i:=L.length) (by simp[df]);obtain⟨G,cap,hv,_,_,_⟩:=MH uf
  cases G with
  | none=>
   rcases uf.2 with⟨_,h0⟩|⟨g,Hr,oM,hv',_⟩
   omega;rw[hv']at hv;cases hv
  | some g=>
   obtain⟨x,hx⟩:=Gw _ g cap rfl;have e:v=qm m x:=by rw[hv];unfold qm;rw[hx];rfl
   have:=h x;dsimp only at this;rw[<-e]at this;exact this.go a w hr hw⟩
end
theorem OF{P:Program}{n:Nat}{W:bV}{fr:Fr}{L:List b_}{Q:Exit->Act->World->Prop}{ops:Array Oper}{rest:List Oper}{ty:TypeId}{pos:String}{after:Array Edge}{t:TypeId}{p x:Operand}{i g b:Nat}{c:DF}{T:TypeId}{agg:Bool}{z:Int}[hT:aI P t agg 1](hi:L[i]?=ah (aK g (yW c).toArray T))(hp:ev fr p=ah (aH (ah ⟨g,0+b,aj⟩)))(hx:ev fr x=ah (.int .i16 z))(hb:b<200)
 (h:TL P n W ops Q rest fr (L.set i (aK g (yW (c.set b z)).toArray T))):TL P n W ops Q (⟨aj,.store t p x,ty,pos,after,aj⟩::rest) fr L:=by
 rw[cU]at hp;refine bD hi hp hx I I ?_ ?_
 ·rw[eT,sa];exact Fy▸hb
 ·rw[afh c hb];exact h
abbrev y9(v:Value):Value:=v
def acv(n:Nat):Mk:=⟨3,24,λg=>ak (ah ⟨g,0,aj⟩) n n,λg=>fA 26 y9 g n λ_=>ak aj 0 0⟩
def acw(tags:List Int):Mk:=⟨6,27,qm tags.length,λx=>bm 3 1 (qm tags.length x) tags.length (tags.flatMap cL.eP)⟩
def afl:Mk:=⟨8,5,λg=>aH (ah ⟨g,0,aj⟩),λg=>aK g (c_ 256 (ap .u8 0)++([ak aj 0 0,ak aj 0 0]:List Value)).toArray 30⟩
def XJ(n:Nat)(D:List DF)(vs:Nat->Value):b_:=jn (λi=>i<n) λi=>bm 3 1 (vs i) D.length ((AV D i).flatMap cL.eP)
def nxM(n:Nat)(D:List DF)(col:DF)(j:Nat)(vs:Nat->Value):b_:=jn (λi=>i<n) λi=>bm 3 1 (vs i) (if i<j then D++[col]else D).length ((AV (if i<j then D++[col]else D) i).flatMap cL.eP)
theorem ajq(n:Nat)(D:List DF)(col:DF)(vs:Nat->Value):nxM n D col 0 vs=XJ n D vs:=by
 unfold nxM XJ;simp
theorem Vf(n:Nat)(D:List DF)(col:DF)(vs:Nat->Value)(i:Nat)(h:i<n):(λi=>bm 3 1 (vs i) (D++[col]).length ((AV (D++[col]) i).flatMap cL.eP)) i=(λi=>bm 3 1 (vs i) (if i<n then D++[col]else D).length ((AV (if i<n then D++[col]else D) i).flatMap cL.eP)) i:=by
 dsimp only;rw[if_pos h]
theorem Gx{P:Program}{n:Nat}{W:bV}{fr:Fr}{L:List b_}{Q:Exit->Act->World->Prop}{ops:Array Oper}{rest:List Oper}{ty:TypeId}{pos:String}{after:Array Edge}{t:TypeId}{p x:Operand}{i g b z:Nat}{o:Of}{vn vt:Value}{T:TypeId}{agg:Bool}[hT:aI P t agg 1](hi:L[i]?=ah (aK g (jk o vn vt).toArray T))(hp:ev fr p=ah (aH (ah ⟨g,0+b,aj⟩)))(hx:ev fr x=ah (.int .u8 (z:Int)))(hb:b<256)
 (h:TL P n W ops Q rest fr (L.set i (aK g (jk (o.set b z) vn vt).toArray T))):TL P n W ops Q (⟨aj,.store t p x,ty,pos,after,aj⟩::rest) fr L:=by
 rw[cU]at hp;refine bD hi hp hx I I ?_ ?_
 ·rw[j0];exact Fy▸J
 ·rw[ahT o vn vt hb];exact h
theorem acx{j:Nat}{D:List DF}{col:DF}{vs:Nat->Value}{v2:Value}{x:Int}(h:AV (D++[col]) j=AV D j++[x])(q:Nat):
  (λi=>bm 3 1 ((λi=>if i=j then v2 else vs i) i) (if i<j+1 then D++[col]else D).length ((AV (if i<j+1 then D++[col]else D) i).flatMap cL.eP)) q
   =Wj (λi=>bm 3 1 (vs i) (if i<j then D++[col]else D).length ((AV (if i<j then D++[col]else D) i).flatMap cL.eP)) j (bm 3 1 v2 (D.length+1) ((AV D j).flatMap cL.eP++[ap av x])) q:=by
 unfold Wj;dsimp only
 by_cases c:q=j
 ·subst c
  rw[if_pos I,if_pos I,if_pos (tv q),h,bT,ie];rfl
 ·rw[if_neg c,if_neg c]
  have e:q<j+1↔q<j:=by omega
  simp only[e]
def acy(R:List Row)(tags:List Int):Spec (Nat×(Nat->Value)×Value):=⟨λ_=>True,λx=> .tuple #[PF (wq R 256) (ak (ah ⟨x.1,0,aj⟩) R.length R.length) x.2.2,ap av 0],
 λx=>[fA 26 y9 x.1 R.length x.2.1,XJ R.length (nV R 256) x.2.1,bm 3 1 x.2.2 tags.length (tags.flatMap cL.eP)]⟩
set_option maxRecDepth 100000 in
theorem SK(vr vt:Value)(R:List Row)(tags:List Int)(w:World)(h:HL w vr vt R tags)(hc:lZ R tags=0):
 Calls aC 60 #[iH vr vt] w (cJ (acy R tags) w):=by
 have fS:=λw' (hg:Gr w w')=>Gb vr vt R tags w' (h.gr hg);rw[hc]at fS;have lI:=λw' (hg:Gr w w') hl=>C0 vt tags w' (h.hT.gr hg) hl;obtain⟨bt,ct,rfl,ht1,ht2,Mb⟩:=h.hT;obtain⟨br,cr,rfl,Wg,qE,xG⟩:=h.hR;have afg:=h.rng;unfold maxLen at qE ht2;clear h;obtain⟨hA,hlt⟩:=oW hc;have uc:0<R.length:=hA.pos;have hle:R.length<=200:=hA.le;clear hA hc;obtain⟨b,off,rfl,hr⟩:=xG uc;obtain⟨bb,og,rfl,hrt⟩:=Mb J;clear xG Mb hrt;have lI:=λw' hg=>lI w' hg J;have zm:=XE;refine enter (args:=[iH (ak (ah ⟨b,off,aj⟩) R.length cr) (ak (ah ⟨bb,og,aj⟩) tags.length ct)]) (n:=91) Tryz.func60 I I I ?_;refine bZ (bx (bH I I I λg1=>?_));refine aY I λg2=>?_;rw[Lm];refine zL ?_
 repeat(first|refine GA ?_|refine gV (aJ (i:=0) aI.ty I I I) ?_)
 refine aT (lz aF.en I I) (λw hm=>fS _ hm.below) I I I ?_;intro _ _
 try refine GA ?_
 (repeat refine bZ ?_)
 refine ml (ι:=Nat×Nat×Nat) (λ_=>True) (λ(_,_,g5)=>[(1,aH (ah ⟨g1,0,aj⟩)),(2,aH (ah ⟨g2,0,aj⟩)),(5,aH (ah ⟨g5,0,aj⟩))])
  (λ(gN,x,g5)=>[aK g1 (iH (ak (ah ⟨b,off,aj⟩) R.length cr) (ak (ah ⟨bb,og,aj⟩) tags.length ct)).cells 162,aK g2 (jk (eg 256 0) (ak aj 0 0) (ak aj 0 0)).toArray 30,fA 26 y9 gN R.length (λ_=>ak aj 0 0),bm 3 1 (qm tags.length x) tags.length (tags.flatMap cL.eP),aK g5 (jk (wq R 0) (ak (ah ⟨gN,0,aj⟩) R.length R.length) (qm tags.length x)).toArray 30]) ?_ ?_
 ·refine Z2 [aK g1 (iH (ak (ah ⟨b,off,aj⟩) R.length cr) (ak (ah ⟨bb,og,aj⟩) tags.length ct)).cells 162] (bY [0]) (by kernel_rfl) (by kernel_rfl) (by intro c a d v w h;cases d<;>exact h) ?_
  refine rb 0 (by kernel_rfl) I (aiC dS.fld I I) I I I ?_;refine rb 1 (by kernel_rfl) I (aw aI.ty I (aD (i:=0) I I)) I I I ?_;refine rb 2 (by kernel_rfl) I (ad1 bM.eq I) I I I ?_;refine rb 4 (by kernel_rfl) I (aiC dS.fld I I) I I I ?_;refine rb 5 (by kernel_rfl) I (aw aI.ty I (aD (i:=0) I I)) I I I ?_;refine MN [acv R.length,acw tags,afl] (λm=>!Nat.beq m.i 8) 2 (by kernel_rfl) (by kernel_rfl) ?_ (λq=>?_) λq=>?_
  ·intro m hm
   simp only[dw,fC,or_false]at hm;rcases hm with rfl|rfl|rfl
   exact afk y9 _ I I I J J I;exact SJ I (λHk hl=>lz aF.en I (zN hl I)) (λL w hm=>lI w hm.below) J I I I;exact Iq I I
  ·simp only[acv,acw,afl,fm,mU]
   generalize q 3=gN;generalize q 6=x;generalize q 8=g5;clear q;rw[Lm];refine Dn (.calm 7 (.one 9 .done)) (by kernel_rfl) I ?_
   repeat(first|refine GW ?_|(refine GN ?_;first|refine QW (aZ I (OC _ _ _ _ _)) ?_))
   refine aM I ?_;refine aV (i:=4) (cs':=(jk (eg 256 0) (ak (ah ⟨gN,0,aj⟩) R.length R.length) (qm tags.length x)).toArray) I I I (j0 _ _ _) (y7 _ I I) (j0 _ _ _) ?_;refine aO (bY [0]) ?_
   try refine GW ?_
   exact eQ (gN,x,g5) trivial (by repeat' (first|exact cZ|refine cP I ?_)) (by rw[agj];rfl)
  rw[show List.filter (λm:Mk=>!Nat.beq m.i 8) [acv R.length,acw tags,afl]=[acv R.length,acw tags]from I];simp only[acv,acw,afl,fm,mU];generalize q 3=gN;generalize q 6=x;clear q;refine Dn (.calm 7 (.one 8 (.one 9 .done))) (by kernel_rfl) (by kernel_rfl) ?_
  repeat(first|refine GW ?_|(refine GN ?_;first|refine QW (aZ I (OC _ _ _ _ _)) ?_))
  refine aM I ?_;refine aY I λg5=>?_;refine aO (bY [0]) ?_;rw[Lm];refine aM I ?_;refine aV (i:=4) (cs':=(jk (eg 256 0) (ak (ah ⟨gN,0,aj⟩) R.length R.length) (qm tags.length x)).toArray) I I I (j0 _ _ _) (y7 _ I I) (j0 _ _ _) ?_;refine aO (bY [0]) ?_
  try refine GW ?_
  exact eQ (gN,x,g5) trivial (by repeat' (first|exact cZ|refine cP I ?_)) (by rw[agj];rfl)
 rintro⟨gN,xT,g5⟩ _;dsimp only;generalize hvT:qm tags.length xT=vT
 try refine GA ?_
 refine Bp (K:=Oa) I λg6=>?_;refine zL ?_
 try refine GA ?_
 refine oc (XJ R.length [] λ_=>ak aj 0 0) (λk hk=>?_) (λw=>⟨λi _=>Sm _ _ _ _,λi j _ _ _ k hk=>?_⟩) ?_
 ·rcases hk with hk|⟨i,_,hk⟩
  cases hk
  rcases hk with hk|hk<;>cases hk
 ·rcases hk with hk|hk<;>cases hk
 conv=>arg 7;simp only[zA,zB,zC,zD,zE,zF,zG,zH,zI,df,ret,id_eq]
 refine dZ (ι:=Nat×(Nat->Value)) (λ(k,_)=>k<=256) (λ(k,_)=>[(1,aH (ah ⟨g1,0,aj⟩)),(2,aH (ah ⟨g2,0,aj⟩)),(5,aH (ah ⟨g5,0,aj⟩)),(6,.map (ah g6)),(30,ap av (k:Int))])
  (λ(k,vs)=>[aK g1 (iH (ak (ah ⟨b,off,aj⟩) R.length cr) (ak (ah ⟨bb,og,aj⟩) tags.length ct)).cells 162,aK g2 (jk (eg 256 0) (ak aj 0 0) (ak aj 0 0)).toArray 30,fA 26 y9 gN R.length vs,bm 3 1 vT tags.length (tags.flatMap cL.eP),aK g5 (jk (wq R k) (ak (ah ⟨gN,0,aj⟩) R.length R.length) vT).toArray 30,fq Oa g6 (kW (nV R k)) (nV R k).length,XJ R.length (nV R k) vs]) (λ(k,_)=>256-k) (0,λ_=>ak aj 0 0) (bC _) ?_
 rintro⟨k,vs⟩ hk;dsimp only at hk⊢
 by_cases c1:k<256
 ·try refine GA ?_
  refine aY I λg8=>?_;refine zL ?_;rw[acn,<-ahR R k]
  repeat(first|refine GA ?_|refine gV (aw aI.ty I (aD (i:=0) I I)) ?_)
  refine dZ (ι:=Nat) (λj=>j<=R.length) (λj=>[(1,aH (ah ⟨g1,0,aj⟩)),(2,aH (ah ⟨g2,0,aj⟩)),(5,aH (ah ⟨g5,0,aj⟩)),(6,.map (ah g6)),(7,ap av (k:Int)),(8,aH (ah ⟨g8,0,aj⟩)),(30,ap av (k:Int)),(34,ak (ah ⟨b,off,aj⟩) R.length cr),(35,ap av (R.length:Int)),(36,ap av (j:Int))])
   (λj=>[aK g1 (iH (ak (ah ⟨b,off,aj⟩) R.length cr) (ak (ah ⟨bb,og,aj⟩) tags.length ct)).cells 162,aK g2 (jk (eg 256 0) (ak aj 0 0) (ak aj 0 0)).toArray 30,fA 26 y9 gN R.length vs,bm 3 1 vT tags.length (tags.flatMap cL.eP),aK g5 (jk (wq R k) (ak (ah ⟨gN,0,aj⟩) R.length R.length) vT).toArray 30,fq Oa g6 (kW (nV R k)) (nV R k).length,XJ R.length (nV R k) vs,aK g8 (yW (HT R k j)).toArray 246]) (λj=>R.length-j) 0 (bC _) ?_
  intro j hj
  by_cases c2:j<R.length
  ·have SA:=λ(L:List b_)=>gK (W:=w) (L:=L) dE hr c2
   have hcell:(eX R[j]).toArray[0+k]?=ah (.int .i16 (fP R j k)):=by rw[cU,oY,qk _ c1,sf c2 c1]
   have xj:=acm R k j J;generalize R[j]=r at*;generalize fP R j k=x at*
   repeat(first|refine GA ?_|refine gV (aR bM.eq aI.ty I I c2) ?_|refine gV (aW aI.ty I (dE r) (SA _)) ?_)
   refine aY I λg10=>?_;refine zL ?_
   try refine GA ?_
   refine aV (i:=8) (cs':=(eX r).toArray) I I I (by rw[eT,dE]) (by simpa using r8 r) (by kernel_rfl) ?_;refine zL ?_
   repeat(first|refine GA ?_|refine gV (ij bM.eq aI.ty I I c1) ?_|refine gV (aw aI.ty I (aD (i:=8) I hcell)) ?_|refine gV (ij bM.eq aI.ty I I J) ?_)
   refine OF (i:=7) (b:=j) I I I J ?_;rw[xj];refine zL ?_
   try refine GA ?_
   refine dq [0,1,2,3,4,5,6,7] ?_;exact bQ (j+1) J (by show R.length-(j+1)<R.length-j;omega)
  obtain rfl:j=R.length:=by omega
  rw[show HT R k R.length=sg R k from I];have mP:=afi afg c1;have hnk:=ahS (R:=R) c1;have acz:=Vd R c1;have OG:=afj R k c1;have hdl:=DK R k;have hzero:∀w:World,(zeroValue 3).run aC w= .ok (ap av 0) w:=abL
  by_cases c2:sg R k∈nV R k
  ·have hD:=Va c2
   rw[if_pos c2]at hnk;generalize sg R k=col at*
   repeat(first|refine GA ?_|refine gV (aJ (i:=7) aI.ty I I (by rw[eT,sa])) ?_|refine gV (uS (K:=Oa) (x:=col) bM.eq hzero (i:=5) I I I mP c2) ?_)
   have hwr:=acu (k:=idx (nV R k) col) (by rw[<-hnk];exact acz);rw[hnk]at OG;clear hnk acz afg;generalize nV R k=D at*
   repeat(first|refine GA ?_|refine gV (iT bM.eq bM.eq I hwr) ?_|refine gV (ij bM.eq aI.ty I I c1) ?_)
   refine Gx (i:=4) (b:=k) I I I c1 ?_;rw[OG];refine zL ?_
   try refine GA ?_
   refine dq [0,1,2,3,4,5,6] ?_;exact bQ (k+1,vs) (by show k+1<=256;omega) (by show 256-(k+1)<256-k;omega) (hl:=by dsimp only;rw[hD];rfl)
  have hD:=Vb c2;rw[if_neg c2]at hnk;have hcg:=λi hi=>Gs R k i hi hle;have hwr:=acu (k:=(nV R k).length) J;rw[hnk]at OG;clear hnk acz;generalize sg R k=col at*;generalize hDk:nV R k=D at*
  repeat(first|refine GC ?_|refine gV (aJ (i:=7) aI.ty I I (by rw[eT,sa])) ?_|refine gV (uT (K:=Oa) (x:=col) bM.eq hzero (i:=5) I I I mP c2) ?_|refine gV (wO Oa bM.eq (i:=5) I I) ?_|refine GB ?_)
  refine Bq (K:=Oa) (i:=5) (x:=col) bM.eq I I I I mP c2 J ?_;refine zL ?_
  repeat(first|refine GA ?_|refine gV (aw aI.ty I (aD (i:=0) I I)) ?_)
  refine tY [0,1,2,3,4,5,6] ?_;rw[<-ajq R.length D col vs];refine dZ (ι:=Nat×(Nat->Value)) (λ(j,_)=>j<=R.length) (λ(j,_)=>[(1,aH (ah ⟨g1,0,aj⟩)),(2,aH (ah ⟨g2,0,aj⟩)),(5,aH (ah ⟨g5,0,aj⟩)),(6,.map (ah g6)),(7,ap av (k:Int)),(11,ap av (D.length:Int)),(30,ap av (k:Int)),(61,ak (ah ⟨b,off,aj⟩) R.length cr),(62,ap av (R.length:Int)),(63,ap av (j:Int))])
   (λ(j,vs)=>[aK g1 (iH (ak (ah ⟨b,off,aj⟩) R.length cr) (ak (ah ⟨bb,og,aj⟩) tags.length ct)).cells 162,aK g2 (jk (eg 256 0) (ak aj 0 0) (ak aj 0 0)).toArray 30,fA 26 y9 gN R.length vs,bm 3 1 vT tags.length (tags.flatMap cL.eP),aK g5 (jk (wq R k) (ak (ah ⟨gN,0,aj⟩) R.length R.length) vT).toArray 30,fq Oa g6 (kW (D++[col])) (D++[col]).length,nxM R.length D col j vs]) (λ(j,_)=>R.length-j) (0,vs) (bC _) ?_
  rintro⟨j,vs⟩ hj;dsimp only at hj⊢
  by_cases c3:j<R.length
  ·have SA:=λ(L:List b_)=>gK (W:=w) (L:=L) dE hr c3
   have hcell:(eX R[j]).toArray[0+k]?=ah (.int .i16 (fP R j k)):=by rw[cU,oY,qk _ c1,sf c3 c1]
   have hx:=afg R[j] (bX c3) (fP R j k) (by rw[sf c3 c1,<-BT (h:=by simpa using c1)];exact bX _);have hcj:=hcg j c3;clear hcg;generalize R[j]=r at*;generalize fP R j k=x at*
   repeat(first|refine GA ?_|refine gV (aR bM.eq aI.ty I I c3) ?_|refine gV (aW aI.ty I (dE r) (SA _)) ?_)
   refine aY I λg14=>?_;refine zL ?_
   try refine GA ?_
   refine aV (i:=7) (cs':=(eX r).toArray) I I I (by rw[eT,dE]) (by simpa using r8 r) (by kernel_rfl) ?_;refine zL ?_
   try refine GA ?_
   unfold nxM;refine Q0 (q:=6) j I c3 ?_;rw[if_neg (Lg j)]
   conv=>arg 7;simp only[zA,zB,zC,zD,zE,zF,zG,zH,zI,df,ret,id_eq]
   (repeat refine bZ ?_)
   refine dG ([aK g1 (iH (ak (ah ⟨b,off,aj⟩) R.length cr) (ak (ah ⟨bb,og,aj⟩) tags.length ct)).cells 162,aK g5 (jk (wq R k) (ak (ah ⟨gN,0,aj⟩) R.length R.length) vT).toArray 30,aK g14 (eX r).toArray 240]) (.calm 0 (.calm 1 (.calm 2 (.calm 3 (.calm 4 (.calm 5 (.calm 6 (.calm 8 (.calm 9 (.calm 10 (.calm 11 (.two 7 (.one 12 (.one 13 (.calm 14 (.one 15 (.done))))) 12 (.one 7 (.one 13 (.calm 14 (.one 15 (.done))))))))))))))))) (bY [0,4,7]) ?_
   repeat(first|refine GW ?_|(refine GN ?_;first|refine QW (aw aI.ty I (aD (i:=1) I (oh _ _ _))) ?_|refine QW (bO (j:=j) bM.eq aI.ty I I c3) ?_|refine QW (ij bM.eq aI.ty I I c1) ?_|refine QW (aw aI.ty I (aD (i:=2) I hcell)) ?_|refine QW (iT bM.eq bM.eq I (n9 J J)) ?_))
   have hnj:AV (D++[col]) j=AV D j++[x]:=by unfold AV;rw[eK,Sn,hcj]
   have hst:∀v2:Value,∀i,i<R.length->(λi=>if i=j then v2 else vs i) i=if i=j then v2 else vs i:=λ_ _ _=>rfl
   refine e_ I I ?_ ?_
   ·refine dy (aw aI.ty I (gi (i:=2) I c3)) I I I (aO (bY [0,4,7]) ?_)
    refine aM I (gG I I I I I λg80=>aO (bY [0,4,7]) ?_);refine aM I (l6 (i:=8) (q:=9) I I I I I I J J I λv2=>aO (bY [0,4,7]) ?_)
    repeat(first|refine GW ?_|(refine GN ?_;first|refine QW (bO (j:=j) bM.eq aI.ty I I c3) ?_))
    refine aM I (aU (i:=8) I λrM zv=>iR (i:=2) (val:=y9) (off:=j) (v:=v2) (λi=>if i=j then v2 else vs i) aI.ty I I I rM zv c3 (hst v2) (aO (bY [0,4,7]) ?_))
    try refine GW ?_
    try refine GA ?_
    refine Ua j 6 8 [0,1,2,3,4,5] alt I I I (λh=>h.2 I) (D':=λi=>i<R.length) (f':=λi=>bm 3 1 ((λi=>if i=j then v2 else vs i) i) (if i<j+1 then D++[col]else D).length ((AV (if i<j+1 then D++[col]else D) i).flatMap cL.eP)) (λq hq=>(by by_cases e:q=j;exact .inr e;exact .inl ⟨hq,e⟩)) (λq hq=>?_) ?_;exact acx hnj q;exact bQ (j+1,λi=>if i=j then v2 else vs i) (by show j+1<=R.length;omega) (by show R.length-(j+1)<R.length-j;omega)
   refine gG I I I I I λg80=>aO (bY [0,4,7]) ?_;refine aM I (dy (aw aI.ty I (gi (i:=2) I c3)) I I I (aO (bY [0,4,7]) ?_));refine aM I (l6 (i:=8) (q:=9) I I I I I I J J I λv2=>aO (bY [0,4,7]) ?_)
   repeat(first|refine GW ?_|(refine GN ?_;first|refine QW (bO (j:=j) bM.eq aI.ty I I c3) ?_))
   refine aM I (aU (i:=8) I λrM zv=>iR (i:=2) (val:=y9) (off:=j) (v:=v2) (λi=>if i=j then v2 else vs i) aI.ty I I I rM zv c3 (hst v2) (aO (bY [0,4,7]) ?_))
   try refine GW ?_
   try refine GA ?_
   refine Ua j 6 8 [0,1,2,3,4,5] alt I I I (λh=>h.2 I) (D':=λi=>i<R.length) (f':=λi=>bm 3 1 ((λi=>if i=j then v2 else vs i) i) (if i<j+1 then D++[col]else D).length ((AV (if i<j+1 then D++[col]else D) i).flatMap cL.eP)) (λq hq=>(by by_cases e:q=j;exact .inr e;exact .inl ⟨hq,e⟩)) (λq hq=>?_) ?_;exact acx hnj q;exact bQ (j+1,λi=>if i=j then v2 else vs i) (by show j+1<=R.length;omega) (by show R.length-(j+1)<R.length-j;omega)
  obtain rfl:j=R.length:=by omega
  refine T4 (XJ R.length (D++[col]) vs) (i:=6) I (Br (λ_ h=>h) (Vf _ _ _ _)) (EN (λ_ h=>h) (Vf _ _ _ _)) ?_
  conv=>arg 7;simp only[zA,zB,zC,zD,zE,zF,zG,zH,zI,df,ret,id_eq]
  repeat(first|refine GA ?_|refine gV (iT bM.eq bM.eq I hwr) ?_|refine gV (ij bM.eq aI.ty I I c1) ?_)
  refine Gx (i:=4) (b:=k) I I I c1 ?_;rw[OG];refine zL ?_
  try refine GA ?_
  exact bQ (k+1,vs) (by show k+1<=256;omega) (by show 256-(k+1)<256-k;omega) (hl:=by dsimp only;rw[hD])
 ·obtain rfl:k=256:=by omega
  repeat(first|refine GA ?_|refine gV (aJ (i:=4) aI.ty I I (j0 _ _ _)) ?_)
  refine aU (i:=3) I λrM zv=>?_;refine aV (i:=1) (cs':=(jk (wq R 256) (ak (ah ⟨gN,0,aj⟩) R.length R.length) vT).toArray) I I I (j0 _ _ _) (y7 _ I zv) (j0 _ _ _) ?_;refine zL ?_
  try refine GA ?_
  refine dH (i:=1) I I I (j0 _ _ _) I λw hm=>?_;exact hm.meets (S:=acy R tags) (gN,vs,vT) trivial [2,6,3] alt I
open dg gv iK aL ep nP
def qn(s:Sp):List Rx:=s.words.map (·.2)
def Vg(s:Sp)(r:Int×List Row×List Int):Prop:=
  (∃k:Int,k≠0/\I0 (qn s) (k,.zero)/\r=(k,[],[]))\/
  ∃ (es:List Re) (m:MS),qn s=es.map l7/\(∀e∈es,Fit e 1 0)/\0<es.length/\es.length<=20/\l9 0 .zero es=(0,m)/\I0 (qn s) (0,m)/\
    ((wt s≠0/\r=(wt s,[],[]))\/(wt s=0/\(tp m).2.2≠0/\r=((tp m).2.2,[],[]))\/
      (wt s=0/\(tp m).2.2=0/\lZ (tp m).1 (tp m).2.1=0/\r=(0,y0 (tp m).1 (tp m).2.1,y6 (tp m).1 (tp m).2.1)))
theorem ahV(s:Sp):∃r,Vg s r:=by
  rcases WW (qn s)with⟨k,h1,h2⟩|⟨es,m,h1,h2,h3,h4,h5,h6⟩
  exact⟨_,.inl ⟨k,h1,h2,rfl⟩⟩
  by_cases c1:wt s=0
  · by_cases c2:(tp m).2.2=0
    · refine⟨_,.inr ⟨es,m,h1,h2,h3,h4,h5,h6,.inr (.inr ⟨c1,c2,?_,rfl⟩)⟩⟩
      cases hd:vz m with
      |none=>rw[Sh hd]at c2;cases c2
      | some y=>
        obtain⟨R,d⟩:=y;rw[yX hd];exact abT (Dw h3 h4 h5) (BS hd)
    exact⟨_,.inr ⟨es,m,h1,h2,h3,h4,h5,h6,.inr (.inl ⟨c1,c2,rfl⟩)⟩⟩
  exact⟨_,.inr ⟨es,m,h1,h2,h3,h4,h5,h6,.inl ⟨c1,rfl⟩⟩⟩
theorem acA{F:Nat->Prop}{w:World}{b off:Nat}{l:List Wd}(h:∀i (h:i<l.length),∃cs,Ay.is F w cs l[i]/\Rd w b (off+i*Ay.c) cs){k:Nat}(hk:k<l.length):
 ∃base cap,Rd w b (off+k*7) (zk l[k].1 l[k].2.kind l[k].2.uF (.slice base l[k].2.kids.length cap))/\kH F w (mL l[k].2.kind l[k].2.uF (.slice base l[k].2.kids.length cap)) l[k].2:=by
 obtain⟨cs,⟨c1,c2,rfl,⟨rfl,h1⟩,h2⟩,h3⟩:=h k hk;have h2:kH F w c2 l[k].2:=h2;have h4:=h2.r;obtain⟨vk,e,-,hs⟩:=h4;obtain⟨base,cap,rfl,-⟩:=hs;have e2:c2=mL l[k].2.kind l[k].2.uF (.slice base l[k].2.kids.length cap):=by
  unfold ra at e;simp only[nS]at e
  simpa using congrArg abV e
 subst e2;exact⟨base,cap,h3,h2⟩
def DN(w0:World)(words:List Wd)(gY:List (List Value)):Prop:=∀i c,gY[i]?=ah c->∃h:i<words.length,yw.is (rP w0) w0 c words[i].2
theorem SL{w0:World}{words:List Wd}{gY:List (List Value)}{c:List Value}(h:DN w0 words gY)(hk:gY.length<words.length)(hc:yw.is (rP w0) w0 c words[gY.length].2):DN w0 words (gY++[c]):=λi x hx=>by
 rcases Nat.lt_trichotomy i gY.length with h1|h1|h1
 rw[lP h1]at hx;exact h i x hx
 ·subst h1
  rw[List.getElem?_concat_length]at hx
  cases hx
  exact⟨hk,hc⟩
 rw[nF (by rw[bT,tu];omega)]at hx;cases hx
theorem Jx{w0 w:World}(hg:Gr w0 w){words:List Wd}{gY:List (List Value)}{v:Value}(hl:gY.length=words.length)(h:DN w0 words gY)(hr:(bm 97 6 v words.length gY.flatten).holds w):jO yw (rP w) w v (words.map (·.2)):=by
 have he:(eG yw (rP w0) gY (words.map (·.2))).holds w:=⟨⟨by rw[hl,dY],λi h1 h2=>by
  obtain⟨h3,h4⟩:=h i _ (bL h2);rw[oR];exact yw.stay h4 λk hk=>hg.block k hk⟩,λk hk=>jt hk hg.size⟩
 have hr:(bm 97 yw.c v (words.map (·.2)).length gY.flatten).holds w:=by rw[dY];exact hr
 exact(Er hr he alt).mono λk hk=>Es hr he k hk
def OH(gp:Nat)(s:Sp)(R:List Row)(T:List Int):Spec (Value×Value×(Nat->Prop)×Nat×(Nat->Value)×Value):=
 ⟨λx=>x.1.oneCell'=aB/\x.2.1.oneCell'=aB/\x.2.2.2.2.2.oneCell'=aB,λ_=>ap av 0,λx=>[aK gp (km x.1 (jk (wq R 256) (ak (ah ⟨x.2.2.2.1,0,aj⟩) R.length R.length) x.2.2.2.2.2) (jC (cT s).aQ (cT s).bB x.2.1 0 (ak aj 0 0) (ak aj 0 0) (ak aj 0 0))).toArray 38,bm 3 1 x.1 s.words.length ((Ln s.words).1.map (ap .i64)),sT x.2.2.1 x.2.1 (cT s).az,
  fA 26 y9 x.2.2.2.1 R.length x.2.2.2.2.1,XJ R.length (nV R 256) x.2.2.2.2.1,bm 3 1 x.2.2.2.2.2 T.length (T.flatMap cL.eP)]⟩
def Jy(gp:Nat)(s:Sp)(r:Int×List Row×List Int):Spec (Value×Value×(Nat->Prop)×Nat×(Nat->Value)×Value):=
 if r.1=0 then OH gp s r.2.1 r.2.2 else⟨λ_=>True,λ_=>ap av r.1,λ_=>[]⟩
set_option maxRecDepth 100000 in
theorem OI(vw vr:Value)(s:Sp)(r:Int×List Row×List Int)(hx:Vg s r)(gp:Nat)(w0:World)(hv:XA (rP w0) w0 (aP #[vw,vr]) s)(hlw:s.words.length<=60)(Qh:s.rules.length<=60)(Hl:∀r∈s.rules,r.2.length<=8796093021952)(w:World)(B:bV)(ho:ly w0 B)(hm:Mem B [aK gp HV.toArray 38] w):
 Calls aC 23 #[aP #[vw,vr],aH (ah ⟨gp,0,aj⟩)] w (dz (Jy gp s r) B):=by
 have acj:=λw' B' Hs pg=>HW vw vr s gp w0 hv hlw Qh Hl w' B' Hs pg;obtain⟨vw',Dx,hvv,hw,-⟩:=hv;obtain⟨rfl,rfl⟩:vw=vw'/\vr=Dx:=by simpa using hvv
 clear hvv Hl;obtain⟨bw,cw,rfl,-,-,SI⟩:=hw;have IY:qn s=s.words.map (·.2):=rfl
 refine dT hm (args:=[aP #[ak bw s.words.length cw,vr],aH (ah ⟨gp,0,aj⟩)]) (n:=60) Tryz.func23 I I I ?_;refine bZ (bx (bH I I I λg2=>?_));refine zL ?_
 repeat(first|refine GA ?_|refine gV (aw (v:=ak bw s.words.length cw) aI.ty I (aD (i:=1) I I)) ?_)
 refine iJ 97 6 ?_;refine dZ (ι:=Nat×List (List Value)×Value) (λ(k,gY,vl)=>k<=s.words.length/\gY.length=k/\DN w0 s.words gY)
  (λ(k,_,vl)=>[(1,aH (ah ⟨gp,0,aj⟩)),(2,aH (ah ⟨g2,0,aj⟩)),(5,vl),(13,ak bw s.words.length cw),(14,ap av s.words.length),(15,ap av (k:Int))])
  (λ(k,gY,vl)=>[aK gp HV.toArray 38,aK g2 #[ak bw s.words.length cw,vr] 25,bm 97 6 vl k gY.flatten])
  (λ(k,_,_)=>s.words.length-k) (0,[],ak aj 0 0) ⟨bC _,rfl,λi c h=>by cases h⟩ ?_
 clear hm;rintro⟨k,gY,vl⟩ ⟨i1,i2,i3⟩;dsimp only at i1 i2 i3⊢
 by_cases c1:k<s.words.length
 ·obtain⟨b,off,rfl,_,hr⟩:=SI J
  obtain⟨bk,ck,q1,q2⟩:=acA hr c1;have eC:∀(L:List b_) (j:Nat) (u:Value),(zk s.words[k].1 s.words[k].2.kind s.words[k].2.uF (.slice bk s.words[k].2.kids.length ck))[j]?=ah u->At B L ⟨b,off+k*7+j,aj⟩ u:=λL j u hj=>eY ho (q1 j u hj);clear hr SI q1 hx acj;subst i2;have hsn:=SL i3 c1 q2;clear q2;generalize s.words[gY.length].1=nm at*;generalize s.words[gY.length].2.kind=rk at*;generalize s.words[gY.length].2.uF=rc at*;generalize s.words[gY.length].2.kids.length=rn at*
  repeat(first|refine GA ?_|refine gV (aR bM.eq aI.ty I I c1) ?_|refine gV (aW (cs:=zk nm rk rc (ak bk rn ck)) aI.ty I I (eC _)) ?_)
  clear eC;refine aY I λg7=>?_;refine zL ?_;refine fR 3 (cs':=(zk nm rk rc (ak bk rn ck)).toArray) ?_;refine zL ?_
  repeat(first|refine GA ?_|refine gV (aW (cs:=mL rk rc (ak bk rn ck)) aI.ty I I (λj v hj=>aD (i:=3) I (Sx hj))) ?_)
  refine iU (i:=2) I I I I I I I (λz h=>by cases h;rfl) J J I λz UC=>?_;refine zL ?_
  try refine GA ?_
  refine dq [0,1,2] ?_;exact bQ (gY.length+1,gY++[mL rk rc (ak bk rn ck)],UC) ⟨by omega,by rw[bT];rfl,hsn⟩ (by show s.words.length-(gY.length+1)<s.words.length-gY.length;omega) (hl:=by dsimp only;rw[abY];simp)
 ·obtain rfl:k=s.words.length:=by omega
  clear SI;rcases hx with⟨k,hk,hR,rfl⟩|⟨es,m,hes,Mv,h0,h20,hlp,hR,hx⟩
  ·have Il:=λw' (ua:jO yw (rP w') w' vl (qn s))=>Fv vl (qn s) (k,.zero) w' ua hR
   rw[show Jy gp s (k,[],[])=⟨λ_=>True,λ_=>ap av k,λ_=>[]⟩from if_neg hk]
   try refine GA ?_
   refine aT (lz aF.en I I) (λw hm=>Il _ (Jx (ho.mem hm) i2 i3 (hm.get (i:=2) I))) I I I ?_;rintro⟨ug,uh,vf1,gL,ui,ve1,oF,F1⟩ kL
   conv=>arg 8;simp only[zJ,df,ret,id_eq,rm,Rp,Rq]
   conv=>arg 7;simp only[rm,Rq]
   refine aU (i:=3) I λ_ a1=>aU (i:=4) I λ_ a2=>aU (i:=5) I λ_ a3=>aU (i:=6) I λ_ a4=>aU (i:=8) I λ_ a5=>aU (i:=9) I λ_ a6=>?_
   try refine GA ?_
   refine aY I λg4=>?_;refine zL ?_;refine aV (i:=10) (cs':=#[ug,uh,vf1,gL,ui,ve1]) I I I I (by simp only[cY,db,a1,a2,a3,a4,a5,a6];rfl) I ?_;refine zL ?_
   repeat(first|refine GC ?_|refine gV (dh (b:=aB) I I (decide_eq_true hk)) ?_|refine GB ?_)
   exact cV I I λw hm=>hm.cg (S:=⟨λ_=>True,λ_=>ap av k,λ_=>[]⟩) (vl,vl,λ_=>False,0,λ_=>vl,vl) trivial [] alt I
  have Il:=λw' (ua:jO yw (rP w') w' vl (qn s))=>Fv vl (qn s) (0,m) w' ua hR;have mP:=Dw h0 h20 hlp;have hdm:=λv' w' h=>HM v' m w' h mP;unfold U1 at hdm
  try refine GA ?_
  refine aT (lz aF.en I I) (λw hm=>Il _ (Jx (ho.mem hm) i2 i3 (hm.get (i:=2) I))) I I I ?_;rintro⟨ug,uh,vf1,gL,ui,ve1,oF,F1⟩ kL;have kL:oF.length=m.ps.follow.length:=kL
  conv=>arg 8;simp only[zJ,df,ret,id_eq,rm,Rp,Rq]
  conv=>arg 7;simp only[rm,Rq]
  refine aU (i:=3) I λ_ a1=>aU (i:=4) I λ_ a2=>aU (i:=5) I λ_ a3=>aU (i:=6) I λ_ a4=>aU (i:=8) I λ_ a5=>aU (i:=9) I λ_ a6=>?_
  try refine GA ?_
  refine aY I λg4=>?_;refine zL ?_;refine aV (i:=10) (cs':=#[ug,uh,vf1,gL,ui,ve1]) I I I I (by simp only[cY,db,a1,a2,a3,a4,a5,a6];rfl) I ?_;refine zL ?_;clear a1 a2 a3 a4 a5 a6
  repeat(first|refine GC ?_|refine gV (dh (b:=aE) I I (decide_eq_false (by simp))) ?_|refine gV (aJ (i:=1) aI.ty I I I) ?_|refine GB ?_)
  refine bz [0] [3,4,5,6,7,8,9,10] alt I I (gh aF.en I I I) (λw' pg hb=>acj w' _ (ly.on ho pg (λo ho=>by simp at ho;subst ho;simp)) hb) I I I ?_;rintro⟨vo,vp,F⟩ ⟨k1,k2⟩
  conv=>arg 8;simp only[zJ,df,ret,id_eq,Lo,Gu]
  conv=>arg 7;simp only[Lo,Gu]
  have oz:∀e:Int,e≠0->Jy gp s (e,[],[])=⟨λ_=>True,λ_=>ap av e,λ_=>[]⟩:=λe he=>if_neg he;have uR:∀R T,Jy gp s (0,R,T)=OH gp s R T:=λR T=>if_pos I
  by_cases d1:wt s≠0
  ·obtain rfl:r=(wt s,[],[]):=by
    rcases hx with⟨-,h⟩|⟨h,-⟩|⟨h,-⟩
    exact h;exact absurd h d1;exact absurd h d1
   rw[oz _ d1]
   repeat(first|refine GC ?_|refine gV (dh (b:=aB) I I (decide_eq_true d1)) ?_|refine GB ?_)
   exact cV I I λw hm=>hm.cg (S:=⟨λ_=>True,λ_=>ap av (wt s),λ_=>[]⟩) (vl,vl,λ_=>False,0,λ_=>vl,vl) trivial [] alt I
  have d1:wt s=0:=rC d1;rw[d1];have hx:=hx.resolve_left (λh=>h.1 d1);generalize tp m=D at*;obtain⟨R,T,e⟩:=D;dsimp only at hdm hx⊢
  repeat(first|refine GC ?_|refine gV (dh (b:=aE) I I (decide_eq_false (by simp))) ?_|refine gV (aJ (i:=7) aI.ty I I I) ?_|refine GB ?_)
  refine aT (lz aF.en I I) (λw hm=>hdm _ w (hm.akz (x:=⟨ug,uh,vf1,gL,ui,ve1,oF,F1⟩) 0 kL I (by simp))) I I I ?_;rintro⟨vrr,vtt⟩ _
  conv=>arg 8;simp only[zJ,df,ret,id_eq,iH]
  conv=>arg 7;simp only[iH]
  refine aU (i:=11) I λ_ a1=>aU (i:=12) I λ_ a2=>?_
  try refine GA ?_
  refine aY I λg6=>?_;refine zL ?_;refine aV (i:=13) (cs':=#[vrr,vtt]) I I I I (by simp only[cY,db,a1,a2];rfl) I ?_;refine zL ?_;clear a1 a2
  by_cases d2:e≠0
  ·obtain rfl:r=(e,[],[]):=by
    rcases hx with⟨-,-,h⟩|⟨-,h,-⟩
    exact h;exact absurd h d2
   rw[oz _ d2]
   repeat(first|refine GC ?_|refine gV (dh (b:=aB) I I (decide_eq_true d2)) ?_|refine GB ?_)
   exact cV I I λw hm=>hm.cg (S:=⟨λ_=>True,λ_=>ap av e,λ_=>[]⟩) (vl,vl,λ_=>False,0,λ_=>vl,vl) trivial [] alt I
  have d2:e=0:=rC d2;subst d2;obtain⟨rM,rfl⟩:lZ R T=0/\r=(0,y0 R T,y6 R T):=by
   rcases hx with⟨-,h,-⟩|⟨-,-,h,h2⟩
   exact absurd I h;exact⟨h,h2⟩
  rw[uR];have ahW:=λvr vt w' h=>HQ vr vt R T w' h;have Qu:=DI rM;unfold aff at ahW;rw[rM]at ahW;generalize y0 R T=MR at*;generalize y6 R T=MT at*;have hpc:=λvr vt w' h=>SK vr vt MR MT w' h Qu;unfold acy at hpc
  repeat(first|refine GC ?_|refine gV (dh (b:=aE) I I (decide_eq_false (by simp))) ?_|refine gV (aJ (i:=13) aI.ty I I I) ?_|refine GB ?_)
  refine aT (lz aF.en I I) (λw hm=>ahW _ _ w (hm.ajo (i:=11) (j:=12) I (by rw[rX];rfl) rM)) I I I ?_;rintro⟨mr,mt⟩ _;refine zL ?_;dsimp only;refine aU (i:=14) I λ_ d1=>aU (i:=15) I λ_ d2=>?_
  try refine GA ?_
  refine aV (i:=13) (cs':=(iH mr mt).cells) I I I I (by show([mr,mt].all fV)=aB;simp[d1,d2]) I ?_;refine zL ?_
  repeat(first|refine GA ?_|refine gV (aJ (i:=13) aI.ty I I I) ?_)
  refine aT (lz aF.en I I) (λw hm=>hpc _ _ w (hm.ajo (i:=14) (j:=15) I I Qu)) I I I ?_;rintro⟨gP,vsP,vTP⟩ _;refine zL ?_;dsimp only;refine aU (i:=18) I λ_ d3=>?_
  try refine GA ?_
  refine SC (i:=8) (pk':=jk (wq MR 256) (ak (ah ⟨gP,0,aj⟩) MR.length MR.length) vTP) I I I (by have:=y7 (wq MR 256) (vn:=ak (ah ⟨gP,0,aj⟩) MR.length MR.length) (vt:=vTP) I d3;simpa using this) I j_ (iE _ _ _) ?_;refine zL ?_
  try refine GA ?_
  exact cV I I λw hm=>hm.cg (S:=OH gp s MR MT) (vo,vp,F,gP,vsP,vTP) ⟨k1,k2,d3⟩ [8,9,10,16,17,18] alt I
theorem SM(r:Rl)(l:List Rl)(of:List Bs):rD (r::l) of=if tw r.1=aE then 1 else if r.1∈of then 11 else rD l of:=rfl
theorem XK(of hd:List Bs)(x:Bs)(l:List Bs):BV of hd (x::l)=((decide (x∈of)||decide (x∈hd))&&BV of hd l):=rfl
theorem OJ(of hd:List Bs)(r:Rl)(l:List Rl):sc of hd (r::l)=(BV of hd r.2&&sc of hd l):=rfl
theorem HX(v:Value)(s:Sp)(w:World)(h:XA (rP w) w v s):Calls aC 22 #[v] w (cJ (ret (ap av (ql s))) w):=by
 obtain⟨vw,vr,rfl,hw,hr⟩:=h;have hnm:=λs w=>CC s w;have hwd:=λgm w' B ho hl hm=>Ow vw vr s.words gm w hw hl w' B ho hm;obtain⟨bw,cw,rfl,-⟩:=hw;obtain⟨br,cr,rfl,hcr,hmr,hrr⟩:=hr;unfold maxLen at hmr;have hC:ql s=if 60<s.words.length\/60<s.words.length+s.rules.length then 2 else if(lY s.words []).1≠0 then(lY s.words []).1 else if rD s.rules (lY s.words []).2≠0 then rD s.rules (lY s.words []).2 else if sc (lY s.words []).2 (s.rules.map (·.1)) s.rules=aB then 0 else 11:=rfl
 obtain⟨words,rules⟩:=s;dsimp only at*;refine enter (args:=[aP #[ak bw words.length cw,ak br rules.length cr]]) (n:=99) Tryz.func22 I I I ?_;refine bZ (bx (bH I I I λg1=>?_));refine zL ?_
 by_cases c0:60<words.length
 ·rw[if_pos (.inl c0)]at hC
  rw[hC]
  repeat(first|refine GA ?_|refine gV (aw (v:=ak bw words.length cw) aI.ty I (aD (i:=0) I I)) ?_)
  exact eN I I I
 by_cases c1:60<words.length+rules.length
 ·rw[if_pos (.inr c1)]at hC
  rw[hC]
  repeat(first|refine GA ?_|refine gV (aw (v:=ak bw words.length cw) aI.ty I (aD (i:=0) I I)) ?_|refine gV (aw (v:=ak br rules.length cr) aI.ty I (aD (i:=0) I I)) ?_)
  exact eN I I I
 rw[if_neg J]at hC;rw[hC]
 repeat(first|refine GA ?_|refine gV (aw (v:=ak bw words.length cw) aI.ty I (aD (i:=0) I I)) ?_|refine gV (aw (v:=ak br rules.length cr) aI.ty I (aD (i:=0) I I)) ?_)
 refine yv il I λg3=>?_;refine zL ?_;refine yv il I λg4=>?_;refine zL ?_
 repeat(first|refine GA ?_|refine gV (aJ (i:=0) aI.ty I I I) ?_)
 refine bz [1] [0,2] alt I I (gh aF.en I I I) (λw' pg hb=>hwd g3 w' _ (ly.on (ly.self w) pg (λo ho=>by simp at ho;subst ho;simp)) J hb) I I I ?_;rintro⟨m,n⟩ ⟨k1,k2⟩
 conv=>arg 8;simp only[zJ,df,ret,id_eq,tA]
 conv=>arg 7;simp only[tA]
 generalize lY words []=W at*;obtain⟨e,of⟩:=W;dsimp only at k1 k2⊢
 by_cases e0:e=0
 ·subst e0
  rw[if_neg (by simp)]
  repeat(first|refine GA ?_|refine gV (aw (v:=ak br rules.length cr) aI.ty I (aD (i:=0) I I)) ?_)
  generalize jh:rD rules of=fin;refine dZ (ι:=Nat×(Bs->Option Value)×Nat) (λ(k,m2,n2)=>k<=rules.length/\n2<=k/\KeysOf m2 ((rules.take k).map (·.1))/\rD (rules.drop k) of=fin) (λ(k,_,_)=>[(1,aH (ah ⟨g1,0,aj⟩)),(3,.map (ah g3)),(4,.map (ah g4)),(41,ak br rules.length cr),(42,ap av rules.length),(43,ap av (k:Int))])
   (λ(_,m2,n2)=>[aK g1 #[ak bw words.length cw,ak br rules.length cr] 25,fq il g4 m2 n2,fq il g3 m n]) (λ(k,_)=>rules.length-k) (0,λ_=>aj,0) ⟨bC _,aX _,λy=>rfl,jh⟩ ?_
  rintro⟨k,m2,n2⟩ ⟨i1,i2,i3,i4⟩;dsimp only at i1 i2 i3 i4⊢
  by_cases c2:k<rules.length
  ·obtain⟨b,off,rfl,_,gu⟩:=hrr J
   obtain⟨bk,ck,q1,-,q3⟩:=DH gu c2;rw[dL c2,SM]at i4;have Mh:(rules.take (k+1)).map (·.1)=(rules.take k).map (·.1)++[rules[k].1]:=by rw[ic c2,eK];rfl
   have eC:∀(L:List b_) (j:Nat) (u:Value),([str rules[k].1,.slice bk rules[k].2.length ck]:List Value)[j]?=ah u->At w L ⟨b,off+k*2+j,aj⟩ u:=λL j u hj=>jL (q1 j u hj);clear gu q1;generalize rules[k]=r at*;obtain⟨nm,bd⟩:=r;dsimp only at*;generalize bd.length=bn at*
   repeat(first|refine GA ?_|refine gV (aR bM.eq aI.ty I I c2) ?_|refine gV (aW (cs:=[str nm,ak bk bn ck]) aI.ty I I (eC _)) ?_)
   clear eC;refine aY I λg7=>?_;refine zL ?_
   try refine GA ?_
   refine fR 3 (cs':=#[str nm,ak bk bn ck]) ?_;refine zL ?_
   repeat(first|refine GA ?_|refine gV (aw (v:=str nm) aI.ty I (aD (i:=3) I I)) ?_)
   refine aT (lz aF.en I I) (λw hm=>hnm nm w) I I I ?_;intro _ _;refine zL ?_
   cases hb:tw nm with
   | false=>
    rw[if_pos hb]at i4;subst i4;rw[if_pos alt]
    try refine GA ?_
    exact eN I I I
   | true=>
    rw[if_neg (by rw[hb];decide)]at i4
    cases Cx:m nm with
    | some u=>
     rw[if_pos (sd k1 Cx)]at i4;subst i4;rw[if_pos alt]
     repeat(first|refine GA ?_|refine gV (aw (v:=str nm) aI.ty I (aD (i:=3) I I)) ?_|refine gV (jQ il (x:=nm) bM.eq h_ (i:=2) I I I q3 Cx) ?_)
     exact eN I I I
    | none=>
     rw[if_neg (se k1 Cx)]at i4
     repeat(first|refine GA ?_|refine gV (aw (v:=str nm) aI.ty I (aD (i:=3) I I)) ?_|refine gV (jR il (x:=nm) bM.eq h_ (i:=2) I I I q3 Cx) ?_)
     refine mD (i:=1) (x:=nm) (v:=ap av (k:Int)) il bM.eq I I I I q3 J ?_;refine zL ?_
     try refine GA ?_
     refine dq [0,1,2] ?_;exact ik (k+1,_,_) ⟨by omega,by show(if(m2 nm).isSome then n2 else n2+1)<=k+1;split<;>omega,by show KeysOf _ ((rules.take (k+1)).map (·.1));rw[Mh];exact Ov i3,i4⟩ (by show rules.length-(k+1)<rules.length-k;omega) (by repeat' (first|exact cZ|refine cP I ?_)) I
  obtain rfl:k=rules.length:=by omega
  rw[wj]at i4;subst i4;rw[nU]at i3;rw[if_neg (by simp[rD])];generalize rules.map (·.1)=hd at*
  repeat(first|refine GA ?_|refine gV (aw (v:=ak br rules.length cr) aI.ty I (aD (i:=0) I I)) ?_)
  refine tY [1,2] ?_;generalize jh:sc of hd rules=fin;refine dZ (ι:=Nat) (λk=>k<=rules.length/\sc of hd (rules.drop k)=fin) (λk=>[(3,.map (ah g3)),(4,.map (ah g4)),(66,ak br rules.length cr),(67,ap av rules.length),(68,ap av (k:Int))])
   (λ_=>[fq il g4 m2 n2,fq il g3 m n]) (λk=>rules.length-k) 0 ⟨bC _,jh⟩ ?_
  rintro k ⟨i5,i6⟩
  by_cases c2:k<rules.length
  ·obtain⟨b,off,rfl,_,gu⟩:=hrr J
   obtain⟨bk,ck,q1,q2,q3⟩:=DH gu c2;rw[dL c2,OJ]at i6;have eC:∀(L:List b_) (j:Nat) (u:Value),([str rules[k].1,.slice bk rules[k].2.length ck]:List Value)[j]?=ah u->At w L ⟨b,off+k*2+j,aj⟩ u:=λL j u hj=>jL (q1 j u hj);have ua:=q2.flat alt;have mP:=q2.okp;clear gu q1 q2;generalize rules[k]=r at*;obtain⟨nm,bd⟩:=r;dsimp only at*;obtain⟨b2,Sw,mz,Eo,VM,Gv⟩:=ua
   cases mz
   unfold maxLen at VM
   repeat(first|refine GA ?_|refine gV (aR bM.eq aI.ty I I c2) ?_|refine gV (aW (cs:=[str nm,ak bk bd.length ck]) aI.ty I I (eC _)) ?_)
   clear eC;refine aY I λg11=>?_;refine zL ?_;refine fR 2 (cs':=#[str nm,ak bk bd.length ck]) ?_;refine zL ?_
   repeat(first|refine GA ?_|refine gV (aw (v:=ak bk bd.length ck) aI.ty I (aD (i:=2) I I)) ?_)
   refine tY [0,1] ?_;generalize ajr:BV of hd bd=ajs at i6;refine dZ (ι:=Nat) (λi=>i<=bd.length/\BV of hd (bd.drop i)=ajs) (λi=>[(3,.map (ah g3)),(4,.map (ah g4)),(66,ak (ah ⟨b,off,aj⟩) rules.length cr),(67,ap av rules.length),(68,ap av (k:Int)),(73,ak bk bd.length ck),(74,ap av bd.length),(75,ap av (i:Int))])
    (λ_=>[fq il g4 m2 n2,fq il g3 m n]) (λi=>bd.length-i) 0 ⟨bC _,ajr⟩ ?_
   rintro i ⟨i7,i8⟩
   by_cases c3:i<bd.length
   ·obtain⟨b3,HD,rfl,xG⟩:=Gv J
    have eC:=gK (L:=([fq il g4 m2 n2,fq il g3 m n]:List b_)) U7 xG c3 0 _ I;rw[dL c3,XK]at i8;have hlen:=mP bd[i] (bX c3);clear xG mP Gv;generalize bd[i]=x at*
    repeat(first|refine GA ?_|refine gV (aR bM.eq aI.ty I I c3) ?_|refine gV (aw (v:=str x) aI.ty I eC) ?_)
    cases Cx:m x with
    | some u=>
     rw[decide_eq_true (sd k1 Cx),Bool.true_or,yY]at i8
     cases SN:m2 x with
     | some u2=>
      repeat(first|refine GA ?_|refine gV (jQ il (x:=x) bM.eq h_ (i:=1) I I I hlen Cx) ?_|refine gV (jQ il (x:=x) bM.eq h_ (i:=0) I I I hlen SN) ?_)
      exact bQ (i+1) ⟨by omega,i8⟩ (by show bd.length-(i+1)<bd.length-i;omega)
     | none=>
      repeat(first|refine GA ?_|refine gV (jQ il (x:=x) bM.eq h_ (i:=1) I I I hlen Cx) ?_|refine gV (jR il (x:=x) bM.eq h_ (i:=0) I I I hlen SN) ?_)
      exact bQ (i+1) ⟨by omega,i8⟩ (by show bd.length-(i+1)<bd.length-i;omega)
    | none=>
     cases SN:m2 x with
     | some u2=>
      rw[decide_eq_true (sd i3 SN),Bool.or_true,yY]at i8
      repeat(first|refine GA ?_|refine gV (jR il (x:=x) bM.eq h_ (i:=1) I I I hlen Cx) ?_|refine gV (jQ il (x:=x) bM.eq h_ (i:=0) I I I hlen SN) ?_)
      exact bQ (i+1) ⟨by omega,i8⟩ (by show bd.length-(i+1)<bd.length-i;omega)
     | none=>
      rw[decide_eq_false (se k1 Cx),decide_eq_false (se i3 SN),Bool.or_false,Lf]at i8;subst i8;rw[Lf]at i6;rw[<-i6,if_neg alt]
      repeat(first|refine GA ?_|refine gV (jR il (x:=x) bM.eq h_ (i:=1) I I I hlen Cx) ?_|refine gV (jR il (x:=x) bM.eq h_ (i:=0) I I I hlen SN) ?_)
      exact eN I I I
   obtain rfl:i=bd.length:=by omega
   rw[wj]at i8;have i8:aB=ajs:=i8;rw[<-i8,yY]at i6
   try refine GA ?_
   exact bQ (k+1) ⟨by omega,i6⟩ (by show rules.length-(k+1)<rules.length-k;omega)
  obtain rfl:k=rules.length:=by omega
  rw[wj]at i6;have i6:aB=fin:=i6;rw[<-i6,if_pos I]
  try refine GA ?_
  exact eN I I I
 rw[if_pos e0]
 repeat(first|refine GC ?_|refine gV (dh (b:=aB) I I (decide_eq_true e0)) ?_|refine GB ?_)
 exact eN I I I
end cB
namespace cB
open Go.RowKit cL dV aL eh
def BY(n:Nat):Value:=ap av (n:Int)
def tB(g len:Nat)(f:Nat->Nat):b_:=bm 3 1 (ak (ah ⟨g,0,aj⟩) len len) len ((mb len f).map BY)
theorem Gy{W:bV}{L:List b_}{i g len k:Nat}{f:Nat->Nat}(hi:L[i]?=ah (tB g len f))(hk:k<len):At W L ⟨g,0+k,aj⟩ (BY (f k)):=kx hi (by rw[cU,iN,Kq f hk];rfl)
theorem acB{g len k v:Nat}{f f':Nat->Nat}(h:∀i,i<len->f' i=if i=k then v else f i):bm 3 1 (ak (ah ⟨g,0,aj⟩) len len) len (((mb len f).map BY).set k (BY v))=tB g len f':=by
 unfold tB;rw[<-List.map_set,aeg f f' k v h]
theorem BZ(len:Nat):(mb len λ_=>0).map BY=c_ len (ap av 0):=by
 unfold mb;rw[List.map_map];apply mf;intro i
 by_cases h:i<len<;>simp[h,BY]
theorem B1{P:Program}{n:Nat}{W:bV}{fr:Fr}{L:List b_}{Q:Exit->Act->World->Prop}{ops:Array Oper}{rest:List Oper}{ty:TypeId}{pos:String}{after:Array Edge}{t:TypeId}{p x:Operand}{i g off len v:Nat}{f:Nat->Nat}(f':Nat->Nat)(hT:Ty P t aE 1)(hi:L[i]?=ah (tB g len f))(hp:ev fr p=ah (aH (ah ⟨g,0+off,aj⟩)))(hx:ev fr x=ah (BY v))(hk:off<len)(hf:∀i,i<len->f' i=if i=off then v else f i)
 (h:TL P n W ops Q rest fr (L.set i (tB g len f'))):TL P n W ops Q (⟨aj,.store t p x,ty,pos,after,aj⟩::rest) fr L:=
 kR hT hi hp hx I I I (by rw[dY,Kp,cU];exact hk) (by rw[cU,acB hf];exact h)
theorem xS(m:Nat)(w:World):Calls aC 116 #[ap av (m:Int)] w (cJ (ret (BY (min m 2))) w):=by
 have h:=KX (m:Int) w;rw[show min (m:Int) 2=((min m 2:Nat):Int)by omega]at h;exact h
theorem Jz(gc gm:Nat)(t n:Int)(vp vw vb:Value)(word:List Int)(c:eR)(B:Nat)(body:List bJ)(a b:Nat)(w:World)(h:ChR w gc gm t n vp vw word c B)(hs:Sl w vb body.length (body.flatMap dr))(mP:∀x∈body,cL.dv x.2)(hc:∀x,c x<=2)(mE:a<=b)(hb:b<=word.length)(hw:word.length<=20):
 Calls aC 76 #[aH (ah ⟨gc,0,aj⟩),vb,ap av (a:Int),ap av (b:Int)] w (cJ (ret (ap av (jT (cD c word) body a b:Nat))) w):=by
 have lh:=λx a' b' w' (hg:Gr w w')=>I9 gc gm t n vp vw word c B x a' b' w' (h.gr hg);obtain⟨bb,cb,rfl,h4,h5,h6⟩:=hs;unfold maxLen at h5;obtain⟨d,rfl⟩:∃d,b=a+d:=⟨b-a,by omega⟩;have ho:=aej hc word;unfold jT;rw[show a+d-a=d by omega];generalize cD c word=o at*;refine enter (args:=[aH (ah ⟨gc,0,aj⟩),ak bb body.length cb,ap av (a:Int),ap av ((a+d:Nat):Int)]) (n:=79) Tryz.func76 I I I ?_
 repeat(first|refine GC ?_|refine gV (ey (r:=(d:Int)) I I J J J) ?_|refine gV (dN (r:=((d+1:Nat):Int)) I I J J J) ?_|refine GB ?_)
 refine sN I I J J I λg0=>?_;rw[<-BZ]
 repeat(first|refine GA ?_|refine gV (bO (j:=0) bM.eq aI.ty I I J) ?_)
 refine B1 (i:=0) (len:=d+1) (f:=λ_=>0) (v:=1) EQ aI.ty I I I J (λi _=>rfl) ?_;refine zL ?_
 try refine GA ?_
 refine dZ (ι:=Nat×Nat×(Nat->Nat)) (λ(k,g,f)=>k<=body.length/\(∀b,f b<=2)/\qL o a (body.drop k) f d=qL o a body EQ d) (λ(k,g,f)=>[(0,aH (ah ⟨gc,0,aj⟩)),(2,ap av (a:Int)),(3,ap av ((a+d:Nat):Int)),(9,ak (ah ⟨g,0,aj⟩) (d+1) (d+1)),(23,ak bb body.length cb),(24,ap av body.length),(25,ap av (k:Int))])
  (λ(k,g,f)=>[tB g (d+1) f]) (λ(k,_,_)=>body.length-k) (0,g0,EQ) ⟨bC _,M0,rfl⟩ ?_
 rintro⟨k,g,f⟩ ⟨i1,i2,i3⟩;dsimp only at i1 i2 i3⊢;rw[<-i3];clear i3
 by_cases c6:k<body.length
 ·obtain⟨b',off,rfl,hr⟩:=h6 J
  have eC:=λL=>gK (L:=L) kh hr c6;have W1:=mP body[k] (bX c6);rw[dL c6,qL];clear hr h6;have hox:=ho body[k];have lh:=λa' b' w' hg=>lh body[k] a' b' w' hg W1;generalize body[k]=x at*;obtain⟨q,m⟩:=x
  repeat(first|refine GA ?_|refine gV (aR bM.eq aI.ty I I c6) ?_|refine gV (aW aI.ty I I (eC _)) ?_)
  refine aY I λg11=>?_;refine fR 1 ?_;refine zL ?_
  try refine GA ?_
  refine sN I I J J I λg12=>?_;rw[<-BZ];refine zL ?_
  try refine GA ?_
  generalize hO:(λi j=>o (q,m) (a+i) (a+j))=O;refine kO (ι:=Nat) (λi=>i<=d+1) (λi=>[(0,aH (ah ⟨gc,0,aj⟩)),(2,ap av (a:Int)),(3,ap av ((a+d:Nat):Int)),(9,ak (ah ⟨g,0,aj⟩) (d+1) (d+1)),(11,aH (ah ⟨g11,0,aj⟩)),(12,ak (ah ⟨g12,0,aj⟩) (d+1) (d+1)),(23,ak (ah ⟨b',off,aj⟩) body.length cb),(24,ap av body.length),(25,ap av (k:Int)),(32,ak (ah ⟨g,0,aj⟩) (d+1) (d+1)),(33,ap av ((d+1:Nat):Int)),(34,ap av (i:Int))])
   (λi=>[tB g (d+1) f,aK g11 (dr (q,m)).toArray 123,tB g12 (d+1) (kX O f i)]) (λi=>d+1-i) 0 (bC _) (by repeat' (first|exact cZ|refine cP I ?_)) (by rw[show kX O f 0=λ_=>0 from funext (aeh O f)];rfl) ?_
  intro i j1
  by_cases c7:i<d+1
  ·have Yk:=i2 i
   repeat(first|refine GA ?_|refine gV (bO bM.eq aI.ty I I c7) ?_|refine gV (aw aI.ty I (Gy (i:=0) I c7)) ?_)
   refine kO (ι:=Nat) (λb=>i<=b/\b<=d+1) (λb=>[(0,aH (ah ⟨gc,0,aj⟩)),(2,ap av (a:Int)),(3,ap av ((a+d:Nat):Int)),(9,ak (ah ⟨g,0,aj⟩) (d+1) (d+1)),(11,aH (ah ⟨g11,0,aj⟩)),(12,ak (ah ⟨g12,0,aj⟩) (d+1) (d+1)),(13,ap av (i:Int)),(14,BY (f i)),(15,ap av (b:Int)),(23,ak (ah ⟨b',off,aj⟩) body.length cb),(24,ap av body.length),(25,ap av (k:Int)),(32,ak (ah ⟨g,0,aj⟩) (d+1) (d+1)),(33,ap av ((d+1:Nat):Int)),(34,ap av (i:Int))])
    (λb=>[tB g (d+1) f,aK g11 (dr (q,m)).toArray 123,tB g12 (d+1) (zU O f i b)]) (λb=>d+1-b) i ⟨aX _,by omega⟩ (by repeat' (first|exact cZ|refine cP I ?_)) (by rw[ahd]) ?_
   rintro b ⟨b1,b2⟩
   by_cases c8:f i=0
   ·rw[Wk O f c8]
    rw[c8]at*
    by_cases c9:b<d+1
    ·try refine GA ?_
     exact bQ (i+1) J (by show d+1-(i+1)<d+1-i;omega)
    try refine GA ?_
    exact bQ (i+1) J (by show d+1-(i+1)<d+1-i;omega)
   by_cases c9:b<d+1
   ·have hp:=MZ O f i b
    have hst:=ET O f b1;have hld:∀L:List b_,L[2]?=ah (tB g12 (d+1) (zU O f i b))->At w L ⟨g12,0+b,aj⟩ (BY (kX O f i b)):=λL h=>by rw[<-aei O f i b];exact Gy h c9
    have hsf:=Wl O f i b;have lh:=λw' hg=>lh (a+i) (a+b) w' hg J J hw;have hob:=hox (a+i) (a+b);have he:o (q,m) (a+i) (a+b)=O i b:=by rw[<-hO]
    rw[he]at lh hob;have hm:((f i:Nat):Int)*((O i b:Nat):Int)=((f i*O i b:Nat):Int):=by simp
    have hmb:f i*O i b<=4:=oT Yk hob;have hc8:0<f i:=by omega
    generalize f i=fi at*;generalize O i b=oo at*;generalize fi*oo=pr at*;rw[hst]at hsf;clear hst;generalize kX O f i b=p at*
    try refine GA ?_
    refine dG ([aK g11 (dr (q,m)).toArray 123]) (.calm 0 (.calm 1 (.calm 2 (.calm 3 (.calm 4 (.calm 6 (.calm 7 (.calm 8 (.calm 9 (.calm 10 (.calm 11 (.calm 12 (.calm 13 (.calm 14 (.calm 15 (.calm 16 (.one 5 (.calm 17 (.calm 18 (.calm 19 (.one 20 (.done)))))))))))))))))))))) (bY [1]) ?_
    repeat(first|(refine GN ?_;first|refine QW QP ?_|refine QW (bO bM.eq aI.ty I I c9) ?_|refine QW (aJ (i:=0) aI.ty I I I) ?_|refine QW (dN (r:=((a+i:Nat):Int)) I I J J J) ?_|refine QW (dN (r:=((a+b:Nat):Int)) I I J J J) ?_|refine GX ?_)|refine GW ?_)
    refine o9 I (Bc aF.en I I I I I) (λw hm=>lh _ hm.below) I I I ?_
    repeat(first|(refine GN ?_;first|refine QW QP ?_|refine QW (Mr (r:=(pr:Int)) I I (by rw[hm];omega) (by rw[hm];omega) hm) ?_|refine GX ?_)|refine GW ?_)
    refine aM I (dy (aw aI.ty I (hld _ I)) I I I (aO (bY [1]) ?_))
    repeat(first|(refine GN ?_;first|refine QW QP ?_|refine QW (dN (r:=((p+pr:Nat):Int)) I I J J J) ?_|refine GX ?_)|refine GW ?_)
    refine o9 I (lz aF.en I I) (λw hm=>xS (p+pr) w) I I I ?_
    repeat(first|refine GW ?_|(refine GN ?_;first|refine QW (bO bM.eq aI.ty I I c9) ?_))
    refine aM I (B1 (i:=2) (v:=min (p+pr) 2) (zU O f i (b+1)) aI.ty I I I c9 (λj _=>hsf j) ?_);refine zL ?_;refine aO (bY [1]) ?_
    try refine GW ?_
    try refine GA ?_
    exact bQ (b+1) ⟨by omega,by omega⟩ (by show d+1-(b+1)<d+1-b;omega)
   try refine GA ?_
   exact bQ (i+1) J (by show d+1-(i+1)<d+1-i;omega) (hl:=by unfold tB;rw[aaA O f (show d+1<=b by omega)])
  try refine GA ?_
  refine dq [2] ?_;have e1:mb (d+1) (kX O f i)=mb (d+1) (ki O f):=Ix λj hj=>Iy O f J;exact bQ (k+1,g12,ki O f) ⟨by omega,ES O f,rfl⟩ (by show body.length-(k+1)<body.length-k;omega) (hl:=by unfold tB;rw[e1];rfl)
 ·rw[List.drop_of_length_le J,qL]
  repeat(first|refine GC ?_|refine gV (ey (r:=(d:Int)) I I J J J) ?_|refine gV (bO bM.eq aI.ty I I (show d<d+1 by omega)) ?_|refine gV (aw aI.ty I (Gy (i:=0) I (show d<d+1 by omega))) ?_|refine GB ?_)
  exact dQ
def Vh(n:Nat)(l:List aL.Prod):Prop:=∀p∈l,0<=p.1/\p.1<(n:Int)/\∀x∈p.2,cL.dv x.2
attribute [local irreducible] Instr.build in
theorem Lp(w0:World)(gc gm n:Nat)(t:Int)(vp vw:Value)(word:List Int)(az:List aL.Prod)(c:eR)(Bd a b:Nat)(hG:jO oB (λk=>k<w0.heap.size) w0 vp az)(hW:Sl w0 vw word.length (word.map (.int .i64)))(lJ:Vh n az)(hn:n<=20)(hlen:az.length<=40)(hc:∀x,c x<=2)(mE:a<=b)(hb:b<=word.length)(hw:word.length<=20)(hBd:Bd<=10000000)(w:World)(B:bV)(ho:ly w0 B)(hm:Mem B [aK gc (zj t (n:Int) vp vw gm) 119,xp gm c Bd] w):
 Calls aC 115 #[aH (ah ⟨gc,0,aj⟩),ap av (a:Int),ap av (b:Int)] w (dz ⟨λ(_:Unit)=>True,λ_=> .bool (uX c word az a b n),λ_=>[aK gc (zj t (n:Int) vp vw gm) 119,xp gm (gH c word az n a b n) (Bd+n)]⟩ B):=by
 have fu:=λvb body w' L (hm:Mem B L w') h1 h2 hs ok=>Jz gc gm t (n:Int) vp vw vb word c Bd body a b w' ⟨h1,h2,hW.gr (ho.mem hm)⟩ hs ok hc mE hb hw;obtain⟨bp,cp,rfl,MV,Cg,mQ⟩:=hG;unfold maxLen at Cg;refine dT hm (args:=[aH (ah ⟨gc,0,aj⟩),ap av (a:Int),ap av (b:Int)]) (n:=75) Tryz.func115 I I I ?_;clear hm
 repeat(first|refine GA ?_|refine gV (aw aI.ty I (aD (i:=0) I I)) ?_)
 refine sN I I J J I λg7=>?_;rw[<-BZ];refine zL ?_
 repeat(first|refine GA ?_|refine gV (aw aI.ty I (aD (i:=0) I I)) ?_)
 refine kO (ι:=Nat) (λk=>k<=az.length) (λk=>[(0,aH (ah ⟨gc,0,aj⟩)),(1,ap av (a:Int)),(2,ap av (b:Int)),(7,ak (ah ⟨g7,0,aj⟩) n n),(24,ak bp az.length cp),(25,ap av az.length),(26,ap av (k:Int))])
  (λk=>[aK gc (zj t (n:Int) (ak bp az.length cp) vw gm) 119,xp gm c Bd,tB g7 n (i_ (cD c word) (az.take k) a b)]) (λk=>az.length-k) 0 (bC _) (by repeat' (first|exact cZ|refine cP I ?_)) (by rw[show i_ (cD c word) (az.take 0) a b=λ_=>0 from funext λi=>by simp[i_,mu]];rfl) ?_
 intro k i1
 by_cases c6:k<az.length
 ·obtain⟨b',off,rfl,_,hr⟩:=mQ J
  obtain⟨bb,cb,q1,q2,q3⟩:=jp hr c6;have ji:=lJ az[k] (bX c6);have Mh:az.take (k+1)=az.take k++[az[k]]:=ic c6;have eC:∀(L:List b_) (j:Nat) (v:Value),([ap av az[k].1,.slice bb az[k].2.length cb]:List Value)[j]?=ah v->At B L ⟨b',off+k*2+j,aj⟩ v:=λL j v hj=>eY ho (q1 j v hj);have tU:=q3.flat alt;clear hr mQ q1 lJ q3;generalize az[k]=p at*;obtain⟨hd,body⟩:=p;obtain⟨p1,p2,p3⟩:=ji;dsimp only at*;obtain⟨h,rfl⟩:∃h:Nat,hd=h:=⟨hd.toNat,by omega⟩;have hh:h<n:=by omega
  have fu:=λw' L (hm:Mem B L w') h1 h2=>fu (ak bb body.length cb) body w' L hm h1 h2 (tU.gr (ho.mem hm)) p3;have hsn:=λi=>Wm (cD c word) a b ((h:Int),body) (az.take k) (h:=h) I i;dsimp only at hsn;rw[<-Mh]at hsn;have IY:=aek (cD c word) body a b;have hnl:=wQ (cD c word) (az.take k) a b h;generalize jT (cD c word) body a b=r at*;have hld:∀L:List b_,L[2]?=ah (tB g7 n (i_ (cD c word) (az.take k) a b))->At B L ⟨g7,0+h,aj⟩ (BY (i_ (cD c word) (az.take k) a b h)):=λL hL=>Gy hL hh;generalize i_ (cD c word) (az.take k) a b h=q at*
  repeat(first|refine GA ?_|refine gV (aR bM.eq aI.ty I I c6) ?_|refine gV (aW aI.ty I I (eC _)) ?_)
  clear eC;refine aY I λg9=>?_;refine fR 3 ?_;refine zL ?_
  try refine GA ?_
  refine dG ([aK gc (zj t (n:Int) (ak (ah ⟨b',off,aj⟩) az.length cp) vw gm) 119,xp gm c Bd,aK g9 #[ap av (h:Int),ak bb body.length cb] 174]) (.calm 0 (.calm 1 (.calm 2 (.calm 3 (.calm 4 (.calm 5 (.calm 6 (.calm 8 (.calm 9 (.calm 10 (.calm 11 (.calm 12 (.calm 13 (.one 7 (.calm 14 (.calm 15 (.calm 16 (.one 17 (.done))))))))))))))))))) (bY [0,1,3]) ?_
  repeat(first|refine GW ?_|(refine GN ?_;first|refine QW (aw aI.ty I (aD (i:=2) I I)) ?_|refine QW (bO bM.eq aI.ty I I hh) ?_))
  refine o9 I (Bc aF.en I I I I I) (λw hm=>fu _ _ hm (hm.get (i:=0) I) (hm.get (i:=1) I)) I I I ?_;refine aM I (dy (aw aI.ty I (hld _ I)) I I I (aO (bY [0,1,3]) ?_))
  repeat(first|(refine GN ?_;first|refine QW QP ?_|refine QW (dN (r:=((q+r:Nat):Int)) I I J J J) ?_|refine GX ?_)|refine GW ?_)
  refine o9 I (lz aF.en I I) (λw hm=>xS (q+r) w) I I I ?_
  repeat(first|refine GW ?_|(refine GN ?_;first|refine QW (bO bM.eq aI.ty I I hh) ?_))
  refine aM I (B1 (i:=2) (v:=min (q+r) 2) (i_ (cD c word) (az.take (k+1)) a b) aI.ty I I I hh (λj _=>hsn j) ?_);refine zL ?_;refine aO (bY [0,1,3]) ?_
  try refine GW ?_
  try refine GA ?_
  refine dq [0,1,2] ?_;exact bQ (k+1) J (by show az.length-(k+1)<az.length-k;omega)
 ·obtain rfl:k=az.length:=by omega
  rw[nU];clear mQ fu i1 c6
  try refine GA ?_
  refine kO (ι:=Nat) (λk=>k<=n) (λk=>[(0,aH (ah ⟨gc,0,aj⟩)),(1,ap av (a:Int)),(2,ap av (b:Int)),(10,.bool (uX c word az a b k)),(48,ak (ah ⟨g7,0,aj⟩) n n),(49,ap av (n:Int)),(50,ap av (k:Int))])
   (λk=>[aK gc (zj t (n:Int) (ak bp az.length cp) vw gm) 119,xp gm (gH c word az n a b k) (Bd+k),tB g7 n (i_ (cD c word) az a b)]) (λk=>n-k) 0 (bC _) (by repeat' (first|exact cZ|refine cP I ?_)) (by rw[aaB];rfl) ?_
  intro k i1
  by_cases c6:k<n
  ·have hsp:xO.ok ((k:Int),(a:Int),(b:Int)):=KW ⟨by omega,by omega⟩ J J
   have hst:=M4 c word az (a:=a) (b:=b) c6;have eC:=Wn c word az n a b k;have Hv:uX c word az a b (k+1)=(uX c word az a b k||!decide (c ((k:Int),(a:Int),(b:Int))=i_ (cD c word) az a b k)):=rfl;have hld:∀L:List b_,L[2]?=ah (tB g7 n (i_ (cD c word) az a b))->At B L ⟨g7,0+k,aj⟩ (BY (i_ (cD c word) az a b k)):=λL hL=>Gy hL c6;generalize i_ (cD c word) az a b k=v at*;generalize hcv:c ((k:Int),(a:Int),(b:Int))=u at*
   repeat(first|refine GA ?_|refine gV (bO bM.eq aI.ty I I c6) ?_|refine gV (aw aI.ty I (hld _ I)) ?_|refine gV (aZ I (yV _ _ _)) ?_)
   refine aY I λg13=>?_;refine fR 3 ?_;refine zL ?_
   try refine GA ?_
   by_cases c7:u=v
   ·rw[decide_eq_true c7]at Hv
    have Hv:uX c word az a b (k+1)=uX c word az a b k:=by rw[Hv];simp
    refine dG ([aK gc (zj t (n:Int) (ak bp az.length cp) vw gm) 119,xp gm (gH c word az n a b k) (Bd+k),tB g7 n (i_ (cD c word) az a b),aK g13 #[ap av (k:Int),ap av (a:Int),ap av (b:Int)] 121]) (.calm 0 (.calm 1 (.calm 2 (.calm 3 (.calm 4 (.calm 5 (.calm 6 (.calm 7 (.done))))))))) (λ_ h=>h) ?_
    repeat(first|refine GW ?_|(refine GN ?_;first|refine QW (aw aI.ty I (aD (i:=0) I I)) ?_|refine QW (aJ (i:=3) aI.ty I I I) ?_|refine QW (rO (x:=((k:Int),(a:Int),(b:Int))) (i:=1) xO bM.eq Ai I I I hsp (by rw[eC])) ?_))
    try refine GA ?_
    refine dq [0,1,2] ?_;refine ag6 (o:=xp gm (gH c word az n a b k) (Bd+k)) (xp gm (gH c word az n a b (k+1)) (Bd+(k+1))) (i:=1) I (λw h=>Ij (K:=xO) J (λx _=>?_) w h) (λq h=>h) (λq h=>AY h) ?_
    ·rw[hst x]
     split
     ·rename_i e;rw[e,eC,c7]
     rfl
    exact ik (k+1) J (by show n-(k+1)<n-k;omega) ⟨rfl,rfl,rfl,by rw[Hv];rfl,rfl,rfl,rfl,trivial⟩ I
   rw[decide_eq_false c7]at Hv;have Hv:uX c word az a b (k+1)=true:=by rw[Hv];simp
   refine dG ([aK gc (zj t (n:Int) (ak bp az.length cp) vw gm) 119,xp gm (gH c word az n a b k) (Bd+k),tB g7 n (i_ (cD c word) az a b),aK g13 #[ap av (k:Int),ap av (a:Int),ap av (b:Int)] 121]) (.calm 0 (.calm 1 (.calm 2 (.calm 3 (.calm 4 (.calm 5 (.calm 6 (.calm 7 (.done))))))))) (λ_ h=>h) ?_
   repeat(first|refine GW ?_|(refine GN ?_;first|refine QW (aw aI.ty I (aD (i:=0) I I)) ?_|refine QW (aJ (i:=3) aI.ty I I I) ?_|refine QW (rO (x:=((k:Int),(a:Int),(b:Int))) (i:=1) xO bM.eq Ai I I I hsp (by rw[eC])) ?_))
   try refine GA ?_
   refine dG ([aK gc (zj t (n:Int) (ak bp az.length cp) vw gm) 119,aK g13 #[ap av (k:Int),ap av (a:Int),ap av (b:Int)] 121]) (.calm 0 (.calm 1 (.calm 2 (.calm 3 (.calm 4 (.calm 5 (.one 6 (.done)))))))) (bY [0,3]) ?_
   repeat(first|refine GW ?_|(refine GN ?_;first|refine QW (aw aI.ty I (aD (i:=0) I I)) ?_|refine QW (aJ (i:=1) aI.ty I I I) ?_))
   refine aM I (Qx (x:=((k:Int),(a:Int),(b:Int))) (v:=BY v) (i:=1) xO (λy=>ap av (gH c word az n a b (k+1) y:Int)) bM.eq I I I I hsp J (λy _=>?_) ?_)
   ·rw[hst y]
    split<;>rfl
   refine zL ?_;refine aO (bY [0,3]) ?_
   try refine GW ?_
   try refine GA ?_
   refine dq [0,1,2] ?_;exact ik (k+1) J (by show n-(k+1)<n-k;omega) ⟨rfl,rfl,rfl,by rw[Hv];rfl,rfl,rfl,rfl,trivial⟩ I
  obtain rfl:k=n:=by omega
  try refine GA ?_
  exact cV I I λw hm=>hm.cg (S:=⟨λ(_:Unit)=>True,λ_=> .bool (uX c word az a b k),λ_=>[aK gc (zj t (k:Int) (ak bp az.length cp) vw gm) 119,xp gm (gH c word az k a b k) (Bd+k)]⟩) () trivial [0,1] alt I
theorem SO(w0:World)(gc gm n:Nat)(t:Int)(vp vw:Value)(word:List Int)(az:List aL.Prod)(hG:jO oB (λk=>k<w0.heap.size) w0 vp az)(hW:Sl w0 vw word.length (word.map (.int .i64)))(lJ:Vh n az)(J2:ri n az)(hn:n<=20)(hlen:az.length<=40)(hw:word.length<=20)(w:World)(B:bV)(ho:ly w0 B)(hm:Mem B [aK gc (zj t (n:Int) vp vw gm) 119,xp gm (λ_=>0) 0] w):
 Calls aC 75 #[aH (ah ⟨gc,0,aj⟩)] w (dz ⟨λ(x:eR×Nat)=>AS word az n x.1/\x.2<=1000000,λ_=> .tuple #[],λx=>[aK gc (zj t (n:Int) vp vw gm) 119,xp gm x.1 x.2]⟩ B):=by
 have ahX:=λc Bd a b hc mE hb hBd w' B' ho hm=>Lp w0 gc gm n t vp vw word az c Bd a b hG hW lJ hn hlen hc mE hb hw hBd w' B' ho hm;obtain⟨bw,cw,rfl,_⟩:=hW;refine dT hm (args:=[aH (ah ⟨gc,0,aj⟩)]) (n:=32) Tryz.func75 I I I ?_;clear hm
 try refine GA ?_
 refine dZ (ι:=Nat×eR×Nat) (λ(s,c,Bd)=>s<=word.length+1/\EW word az n (λi j=>j-i<s) c/\Bd<=1700*(s*22)) (λ(s,_,_)=>[(0,aH (ah ⟨gc,0,aj⟩)),(2,ap av (s:Int))])
  (λ(_,c,Bd)=>[aK gc (zj t (n:Int) vp (ak bw word.length cw) gm) 119,xp gm c Bd]) (λ(s,_,_)=>word.length+1-s) (0,λ_=>0,0) ⟨by omega,agG,by omega⟩ ?_
 rintro⟨s,c,Bd⟩ ⟨i1,i2,i3⟩;dsimp only at i1 i2 i3⊢
 by_cases c6:s<=word.length
 ·repeat(first|refine GA ?_|refine gV (aw aI.ty I (aD (i:=0) I I)) ?_)
  refine dZ (ι:=Nat×eR×Nat) (λ(f,c,Bd)=>f+s<=word.length+1/\EW word az n (λi j=>j-i<s\/(j-i=s/\i<f)) c/\Bd<=1700*(s*22+f)) (λ(f,_,_)=>[(0,aH (ah ⟨gc,0,aj⟩)),(2,ap av (s:Int)),(3,ap av (f:Int))])
   (λ(_,c,Bd)=>[aK gc (zj t (n:Int) vp (ak bw word.length cw) gm) 119,xp gm c Bd]) (λ(f,_,_)=>word.length+1-f) (0,c,Bd) ⟨by omega,i2.same λi j _ _=>by omega,by omega⟩ ?_
  clear i2 i3;rintro⟨f,c,Bd⟩ ⟨j1,i2,i3⟩;dsimp only at j1 i2 i3⊢
  by_cases c7:f+s<=word.length
  ·repeat(first|refine GA ?_|refine gV (aw aI.ty I (aD (i:=0) I I)) ?_)
   refine dZ (ι:=eR×Nat×Bool) (λ(c,Bd,m)=>Kr word az n (λi j=>j-i<s\/(j-i=s/\i<f)) f (f+s) c/\(m=aE->Ws word az n c f (f+s))/\Bd+20*(2*zV n c f (f+s)+(if m=aB then 1 else 0))<=1700*(s*22+f)+1620) (λ(_,_,m)=>[(0,aH (ah ⟨gc,0,aj⟩)),(2,ap av (s:Int)),(3,ap av (f:Int)),(4,.bool m)])
    (λ(c,Bd,_)=>[aK gc (zj t (n:Int) vp (ak bw word.length cw) gm) 119,xp gm c Bd]) (λ(c,_,m)=>2*zV n c f (f+s)+(if m=aB then 1 else 0)) (c,Bd,aB) ⟨i2.begin J c7 J,λh=>(by cases h),by have:=aaC n c f (f+s);rw[if_pos I];omega⟩ ?_
   clear i2 i3;rintro⟨c,Bd,m⟩ ⟨i2,i3,i4⟩;dsimp only at i2 i3 i4⊢
   cases m
   ·have i3:=i3 I
    try refine GA ?_
    exact bQ (f+1,c,Bd) ⟨by omega,i2.done i3 λi j _ _=>by omega,by rw[if_neg alt]at i4;dsimp only;omega⟩ (by show word.length+1-(f+1)<word.length+1-f;omega)
   have hinv:=Wu J2 i2 J c7 (by intro i j h;omega);have ak0:=Wv J2 i2 J;have Hx:=EZ i2 n (aX _);rw[if_pos I]at i4
   try refine GA ?_
   refine bz [0,1] [] alt I I (xE aF.en I I I I) (λw hm hb=>ahX c Bd f (f+s) i2.le2 J c7 J w _ (ho.on hm (by intro o ho;simpa using ho)) hb) I I I ?_;intro _ _;refine zL ?_
   try refine GA ?_
   refine bQ (gH c word az n f (f+s) n,Bd+n,uX c word az f (f+s) n) ⟨hinv,ak0,?_⟩ ?_
   ·dsimp only
    by_cases c8:uX c word az f (f+s) n=aB
    have:=Hx.2 c8;rw[if_pos c8];omega;have:=Hx.1;rw[if_neg c8];omega
   dsimp only;rw[if_pos I]
   by_cases c8:uX c word az f (f+s) n=aB
   have:=Hx.2 c8;rw[if_pos c8];omega;have:=Hx.1;rw[if_neg c8];omega
  repeat(first|refine GA ?_|refine gV (aw aI.ty I (aD (i:=0) I I)) ?_)
  exact bQ (s+1,c,Bd) ⟨by omega,i2.same λi j _ _=>by omega,by dsimp only;omega⟩ (by show word.length+1-(s+1)<word.length+1-s;omega)
 ·repeat(first|refine GA ?_|refine gV (aw aI.ty I (aD (i:=0) I I)) ?_)
  exact oO I λw hm=>hm.cg (S:=⟨λ(x:eR×Nat)=>AS word az n x.1/\x.2<=1000000,λ_=> .tuple #[],λx=>[aK gc (zj t (n:Int) vp (ak bw word.length cw) gm) 119,xp gm x.1 x.2]⟩) (c,Bd) ⟨i2.lfp λi j _ _=>by omega,by dsimp only;omega⟩ [0,1] alt I
theorem OK(t n:Int)(b b':Option Addr)(m c m' c' gm:Nat)(w:World):(da 119 #[(0,du t n (ak b m c)),(1,ak b' m' c'),(2,.map (ah gm))]).run aC w= .ok (.agg (zj t n (ak b m c) (ak b' m' c') gm)) w:=by
 unfold du zj
 go_simp
def Lr(g:dD)(word:List Int)(vp vw:Value):Spec (Nat×Nat×eR×Nat):=⟨λx=>AS word g.az g.bB.toNat x.2.2.1/\x.2.2.2<=1000000,λx=>aH (ah ⟨x.1,0,aj⟩),λx=>[aK x.1 (zj g.aQ g.bB vp vw x.2.1) 119,xp x.2.1 x.2.2.1 x.2.2.2]⟩
theorem Gz{g:dD}{n:Nat}(h:cI g=0)(hn:g.bB=n):Vh n g.az/\ri n g.az:=by
 obtain⟨a1,a2,a3,a4,a5,a6⟩:=cz h;refine⟨λp hp=>?_,λp hp x hx h2=>?_⟩
 ·obtain⟨b1,b2,b3,b4⟩:=a6 p hp
  refine⟨b2,by omega,λx hx=>?_⟩;have:=b4 x hx;unfold right at this;split at this;simp at this;exact⟨by omega,by omega⟩;split at this;simp at this;exact⟨by omega,by omega⟩;simp at this
 have:=(a6 p hp).2.2.2 x hx;unfold right at this;rw[if_neg J,if_pos h2]at this;simp at this;omega
attribute [local irreducible] Instr.build in
theorem Lt(vp vw:Value)(g:dD)(word:List Int)(w:World)(h:jS (λk=>k<w.heap.size) w (du g.aQ g.bB vp) g)(hs:Sl w vw word.length (word.map (.int .i64)))(fS:iP g word=0):
 Calls aC 33 #[du g.aQ g.bB vp,vw] w (cJ (Lr g word vp vw) w):=by
 obtain⟨hg,hl,hw⟩:=lD fS;obtain⟨a1,a2,a3,a4,a5,a6⟩:=cz hg;obtain⟨n,hn⟩:∃n:Nat,g.bB=n:=⟨g.bB.toNat,by omega⟩;obtain⟨f1,f2⟩:=Gz hg hn;obtain⟨vp',he,h1,_⟩:=h;obtain⟨t,nn,az⟩:=g;dsimp only at*;simp only[du,nS,qc,fL,true_and,and_true]at he;subst he hn;have rJ:=λgc gm w' B ho hm=>SO w gc gm n t vp vw word az h1 hs f1 f2 J a5 hl w' B ho hm;obtain⟨bp,cp,rfl,_⟩:=h1;obtain⟨bw,cw,rfl,_⟩:=hs;refine enter (args:=[du t (n:Int) (ak bp az.length cp),ak bw word.length cw]) (n:=14) Tryz.func33 I I I ?_;refine bZ (bx (bH I I I λg2=>?_))
 repeat(first|refine GA ?_|refine gV (aJ (i:=0) aI.ty I I I) ?_)
 refine T2 (z:=ap av 0) xO I λgm=>?_
 repeat(first|refine GA ?_|refine gV (aZ I (OK _ _ _ _ _ _ _ _ _)) ?_)
 refine bH I I I λgc=>?_;refine zL ?_
 try refine GA ?_
 refine bz [2,1] [0] alt I I (lz aF.en I I) (λw' hm hb=>rJ gc gm w' _ ((ly.self w).on hm (by intro o ho;simp at ho⊢;rcases ho with h|h<;>simp[h])) hb) I I I ?_;rintro⟨c,Bd⟩ hx;refine zL ?_
 try refine GA ?_
 exact cV I I λw hm=>hm.meets (S:=Lr ⟨t,n,az⟩ word (ak bp az.length cp) (ak bw word.length cw)) (gc,gm,c,Bd) hx [1,2] alt I
open dI dA rj wX
attribute [local irreducible] Op.shift Go.bits in
theorem XL(t:Nat)(n:Int)(vp:Value)(col:Nat)(w:World)(ht:t<=30)(hc:col<=t)(hv:∃b m c,vp=ak b m c):
 Calls aC 66 #[du (t:Int) n vp,ap av (col:Int)] w (cJ (ret (gZ (Kx t col))) w):=by
 obtain⟨b,m,c,rfl⟩:=hv;have hsh:=λw=>aeH (P:=aC) col J w;unfold Kx;refine enter (args:=[du (t:Int) n (ak b m c),ap av (col:Int)]) (n:=11) Tryz.func66 I I I ?_;refine bZ (bx (bH I I I λg2=>?_))
 by_cases e:col=t
 ·rw[if_pos e]
  repeat(first|refine GA ?_|refine gV (aw aI.ty I (aD (i:=0) I I)) ?_)
  exact dQ
 ·rw[if_neg e]
  repeat(first|refine GA ?_|refine gV (aw aI.ty I (aD (i:=0) I I)) ?_|refine gV (Ei I I hsh) ?_)
  exact dQ
def clC(x:Cl):List Value:=[ap av x.1,ap av x.2.1,ap av x.2.2.1,ap av x.2.2.2]
theorem acC(a b c d:Int)(w:World):(da 179 #[(0,ap av a),(1,ap av b),(2,ap av c),(3,ap av d)]).run aC w= .ok (aP (clC (a,b,c,d)).toArray) w:=by
 unfold clC;go_simp
abbrev wu(v:Value):Value:=v
def ahY(n:Int):Value:=ap av n
def C9(T n c j:Nat):Nat:=if j<n then T+1 else if j=n then c else 0
def ny(l:List aL.Prod)(may:Nat->Nat)(T:Nat)(vs:Nat->Value)(n c:Nat)(j:Nat):b_:=bm 3 1 (vs j) (C9 T n c j) ((mq (C9 T n c j) (wX.rowAt l may T j)).map ahY)
def acD(N T:Nat)(l:List aL.Prod)(may:Nat->Nat):Spec (Nat×(Nat->Value)×Value):=
 ⟨λ_=>True,λx=> .tuple #[ak (ah ⟨x.1,0,aj⟩) N N,x.2.2,ap av 0],λx=>[fA 26 wu x.1 N x.2.1,jn (λj=>j<N) (ny l may T x.2.1 N 0),bm 179 4 x.2.2 (k9 l may T N).length ((k9 l may T N).flatMap clC)]⟩
def nX(n:Nat)(l:List aL.Prod)(i:Nat):Nat:=eA (nf n l).E (BO n l) (a_ l (i:Int)).2 ((C3 n l).getD (a_ l (i:Int)).1.toNat 0)
section
variable{l:List aL.Prod}{may:Nat->Nat}{T:Nat}
theorem GF(n col:Nat):∀(k:Nat) (out:List Cl),(vj l may T n col k out).length<=out.length+k
 |0,out=>by rw[vj];omega
 | k +1,out=>by
  have:=GF n col k out;rw[vj];split
  ·split
   omega;rw[bT];simp;omega
  omega
theorem GG(n:Nat):∀(c:Nat) (out:List Cl),(Ad l may T n c out).length<=out.length+c*l.length
 |0,out=>by rw[Ad];omega
 |c+1,out=>by
  have h1:=GG n c out;have h2:=GF (l:=l) (may:=may) (T:=T) n c l.length (Ad l may T n c out);rw[Ad,oL];omega
theorem OL:∀(N:Nat),(k9 l may T N).length<=N*((T+1)*l.length)
 |0=>by rw[k9];simp
 |N+1=>by
  have h1:=OL N;have h2:=GG (l:=l) (may:=may) (T:=T) N (T+1) (k9 l may T N);rw[k9,oL];omega
end
theorem acE{g:dD}{n:Nat}(fS:cI g=0)(hn:g.bB=n):yH n (C3 n g.az):=by
 obtain⟨_,_,a3,_⟩:=cz fS;have hf:=wT fS hn;have hF:=(KV fS hn).2;have tU:=Q8 (E:=(nf n g.az).E) hF hf;obtain⟨s',h1,h2,h3⟩:=qN tU _ ((c_ n 0).set 0 9223372036854775808) ⟨by simp,λx hx=>by
  rcases List.mem_or_eq_of_mem_set hx with h|h
  rw[List.eq_of_mem_replicate h];decide;rw[h];decide⟩ (aX _)
 obtain⟨_,h4,h5⟩:=vh _ _ _ h2;have h6:C3 n g.az=s':=by unfold C3 vU;rw[h3];exact h4
 rw[h6];exact h1
attribute [local irreducible] Op.shift Go.bits Instr.build in
set_option maxRecDepth 100000 in
theorem Lu(v:Value)(g:dD)(w:World)(h:jS (λk=>k<w.heap.size) w v g)(hg:cI g=0)(T N:Nat)(hT:g.aQ=T)(hN:g.bB=N):
    Calls aC 26 #[v] w (cJ (acD N T g.az (nX N g.az)) w):=by
  obtain⟨a1,a2,a3,a4,a5,a6⟩:=cz hg;have HJ:=λw' (zh:Gr w w')=>FO v g w' (h.gr zh) hg N hN;have hbe:∀body:List bJ,body∈g.az.map (·.2)->vV g body=0/\∀b,C5 g body b=eA (nf N g.az).E (BO N g.az) body b:=λbody hb=>by
    obtain⟨p,hp,rfl⟩:=fE.1 hb;obtain⟨b1,b2,b3,b4⟩:=a6 p hp;have e:vV g p.2=0:=by
      unfold vV;rw[if_neg (by simpa using hg),if_neg J];exact KU b4
    refine⟨e,λb=>?_⟩;unfold C5;rw[if_pos e,show g.bB.toNat=N by omega]
  have hBg:=λvb body b w' (hg:Gr w w') hs=>r7 v vb g body b w' (h.gr hg) hs;obtain⟨_,hF⟩:=KV hg hN;have hWW:=acE hg hN;have Yk:=Gz hg hN;have NA:nX N g.az=λi:Nat=>eA (nf N g.az).E (BO N g.az) (a_ g.az (i:Int)).2 ((C3 N g.az).getD (a_ g.az (i:Int)).1.toNat 0):=rfl;have ak1:∀i,nX N g.az i<18446744073709551616:=λi=>by
    refine px hF (qO hWW _) λx hx h1=>?_
    by_cases c:i<g.az.length
    · rw[k7 c]at hx
      have:=(a6 _ (bX c)).2.2.2 x hx;unfold right at this;rw[if_pos h1]at this;simp at this;omega
    unfold a_ at hx;rw[de,cH,nF J]at hx
    cases hx
  generalize uA:nX N g.az=may at*;obtain⟨vp,rfl,h1,_⟩:=h;obtain⟨t,nn,az⟩:=g;dsimp only at*;subst hT hN;have h10:=h1;obtain⟨bp,cp,rfl,MV,Cg,mQ⟩:=h1;unfold maxLen at Cg;refine enter (args:=[du (T:Int) (N:Int) (ak bp az.length cp)]) (n:=119) Tryz.func26 I I I ?_;refine bZ (bx (bH I I I λg1=>?_));refine zL ?_
  repeat(first|refine GA ?_|refine gV (aJ (i:=0) aI.ty I I I) ?_)
  refine aT (lz aF.en I I) (λw' hm=>(HJ w' hm.below).mono λe w2 h=>FP h) I I I ?_;intro x _
  conv=>arg 8;simp only[zJ,df,ret,id_eq,FM.val]
  refine H9 [0,3] ?_
  try refine GA ?_
  refine aY I λg5=>?_;refine fR 2 ?_;refine zL ?_
  repeat(first|refine GA ?_|refine gV (aw aI.ty I (aD (i:=0) I I)) ?_)
  have hz:eH aC 92 #[gZ 0]:=(inferInstance:eH aC 92 #[.int .u64 0]);refine pM gZ 0 I I J J I λg7=>?_;refine zL ?_
  repeat(first|refine GA ?_|refine gV (aw aI.ty I (aD (i:=0) I I)) ?_)
  refine kO (ι:=Nat) (λk=>k<=az.length) (λk=>[(1,aH (ah ⟨g1,0,aj⟩)),(5,aH (ah ⟨g5,0,aj⟩)),(7,ak (ah ⟨g7,0,aj⟩) az.length az.length),(30,ak bp az.length cp),(31,ap av az.length),(32,ap av (k:Int))])
    (λk=>[aK g1 (du (T:Int) (N:Int) (ak bp az.length cp)).cells 33,iA N x.gW x.cW (C3 N az),aK g5 (mO (dC N x.gE x.cE) (dC N x.gF x.cF) (dC N x.gW x.cW) (dC N x.gR x.cR) (dC N x.gM x.cM)).cells 82,fA 92 gZ g7 az.length (λj=>if j<k then may j else 0)]) (λk=>az.length-k) 0 (bC _) (by repeat' (first|exact cZ|refine cP I ?_)) (by rw[show(λj=>if j<0 then may j else 0)=λ_=>0 from funext λj=>if_neg J];rfl) ?_
  intro k k1
  by_cases c7:k<az.length
  · obtain⟨b,off,rfl,_,hr⟩:=mQ J
    obtain⟨bb,cb,y1,y2,y3⟩:=jp hr c7;have eC:∀(L:List b_) (j:Nat) (v:Value),([ap av az[k].1,.slice bb az[k].2.length cb]:List Value)[j]?=ah v->At w L ⟨b,off+k*2+j,aj⟩ v:=λL j v hj=>jL (y1 j v hj);have tU:=y3.flat alt;obtain⟨b1,b2,b3,b4⟩:=a6 _ (bX c7);obtain⟨HA,Qw⟩:=hbe az[k].2 (fE.2 ⟨_,bX c7,rfl⟩);have Il:may k=eA (nf N az).E (BO N az) az[k].2 ((C3 N az).getD az[k].1.toNat 0):=by rw[NA];dsimp only;rw[k7 c7]
    clear y1 y3 hr hbe mQ;generalize az[k]=pd at*;obtain⟨hd,body⟩:=pd;dsimp only at*;obtain⟨hn,rfl⟩:∃hn:Nat,hd=hn:=⟨hd.toNat,by omega⟩;have hlt:hn<N:=by omega
    rw[de]at Il;have ak2:((C3 N az).map gZ)[0+hn]?=ah (gZ ((C3 N az).getD hn 0)):=by rw[cU];exact KR (by rw[hWW.1];exact hlt)
    have ak3:=qO hWW hn;have hBg:=λw' hg hs=>hBg (ak bb body.length cb) body ((C3 N az).getD hn 0) w' hg hs ak3;rw[HA,Qw,<-Il]at hBg;generalize (C3 N az).getD hn 0=wv at*
    repeat(first|refine GA ?_|refine gV (aR bM.eq aI.ty I I c7) ?_|refine gV (aW aI.ty I I (eC _)) ?_)
    refine aY I λg9=>?_
    try refine GA ?_
    refine fR 4 ?_;refine zL ?_
    try refine GA ?_
    refine dG ([aK g1 (du (T:Int) (N:Int) (ak (ah ⟨b,off,aj⟩) az.length cp)).cells 33,iA N x.gW x.cW (C3 N az),aK g5 (mO (dC N x.gE x.cE) (dC N x.gF x.cF) (dC N x.gW x.cW) (dC N x.gR x.cR) (dC N x.gM x.cM)).cells 82,aK g9 #[ap av (hn:Int),ak bb body.length cb] 174]) (.calm 0 (.calm 1 (.calm 2 (.calm 3 (.calm 4 (.calm 5 (.calm 6 (.calm 7 (.calm 8 (.calm 9 (.calm 10 (.calm 11 (.calm 12 (.calm 13 (.calm 14 (.calm 15 (.one 16 (.done)))))))))))))))))) (bY [0,1,2,4]) ?_
    repeat(first|refine GW ?_|(refine GN ?_;first|refine QW (aJ (i:=0) aI.ty I I I) ?_|refine QW (aw aI.ty I (aD (i:=3) I I)) ?_|refine QW (aw aI.ty I (aD (i:=2) I I)) ?_|refine QW (bO bM.eq aI.ty I I hlt) ?_|refine QW (aw aI.ty I (kx (i:=1) I ak2)) ?_))
    refine o9 I (xE aF.en I I I I) (λw hm=>hBg _ hm.below (tU.gr hm.below)) I I I ?_
    repeat(first|refine GW ?_|(refine GN ?_;first|refine QW (bO bM.eq aI.ty I I c7) ?_))
    refine aM I ?_;refine iR (i:=3) (v:=may k) (λj=>if j<k+1 then may j else 0) aI.ty I I I I I c7 (λj _=>by
      by_cases e:j=k
      subst e;simp
      by_cases e2:j<k
      simp[e,e2,show j<k+1 by omega];simp[e,e2,show ¬j<k+1 by omega]) ?_
    refine zL ?_;refine aO (bY [0,1,2,4]) ?_
    try refine GW ?_
    try refine GA ?_
    refine dq [0,1,2,3] ?_;exact bQ (k+1) J J
  · obtain rfl:k=az.length:=by omega
    rw[show fA 92 gZ g7 az.length (λj=>if j<az.length then may j else 0)=fA 92 gZ g7 az.length may from pL λj hj=>if_pos hj];clear hBg hbe HJ NA
    repeat(first|refine GA ?_|refine gV (aw aI.ty I (aD (i:=0) I I)) ?_)
    refine pM wu (ak aj 0 0) I I J J I λg10=>?_;refine zL ?_
    try refine GA ?_
    refine tY [0,3,4] ?_;refine oc (jn (λj=>j<N) (ny az may T (λ_=>ak aj 0 0) 0 0)) (λk hk=>hk.elim (λh=>by cases h) λ⟨i,hi,h⟩=>h.elim (λh=>by cases h) id) (λw=>⟨λi hi=>?_,λi j _ _ _ k h=>h.elim (λh=>by cases h) AY⟩) ?_
    · unfold ny C9
      rw[if_neg J,ite_self];exact Sm _ _ _ _
    refine iJ 179 4 ?_;refine dZ (ι:=Nat×(Nat->Value)×Value) (λ(n,_,_)=>n<=N) (λ(n,_,vo)=>[(1,aH (ah ⟨g1,0,aj⟩)),(7,ak (ah ⟨g7,0,aj⟩) az.length az.length),(10,ak (ah ⟨g10,0,aj⟩) N N),(11,vo),(58,ap av (N:Int)),(59,ap av (n:Int))])
      (λ(n,vs,vo)=>[aK g1 (du (T:Int) (N:Int) (ak bp az.length cp)).cells 33,fA 92 gZ g7 az.length may,fA 26 wu g10 N vs,jn (λj=>j<N) (ny az may T vs n 0),bm 179 4 vo (k9 az may T n).length ((k9 az may T n).flatMap clC)]) (λ(n,_,_)=>N-n) (0,λ_=>ak aj 0 0,ak aj 0 0) (bC _) ?_
    rintro⟨n,vs,vo⟩ n1;dsimp only at n1⊢
    by_cases c8:n<N
    · repeat(first|refine GC ?_|refine gV (aw aI.ty I (aD (i:=0) I I)) ?_|refine gV (dN (r:=((T+1:Nat):Int)) I I J J J) ?_|refine GB ?_)
      refine dZ (ι:=Nat×(Nat->Value)×Value) (λ(c,_,_)=>c<=T+1) (λ(c,_,vo)=>[(1,aH (ah ⟨g1,0,aj⟩)),(7,ak (ah ⟨g7,0,aj⟩) az.length az.length),(10,ak (ah ⟨g10,0,aj⟩) N N),(11,vo),(12,ap av (n:Int)),(58,ap av (N:Int)),(59,ap av (n:Int)),(64,ap av ((T+1:Nat):Int)),(65,ap av (c:Int))])
        (λ(c,vs,vo)=>[aK g1 (du (T:Int) (N:Int) (ak bp az.length cp)).cells 33,fA 92 gZ g7 az.length may,fA 26 wu g10 N vs,jn (λj=>j<N) (ny az may T vs n c),bm 179 4 vo (Ad az may T n c (k9 az may T n)).length ((Ad az may T n c (k9 az may T n)).flatMap clC)]) (λ(c,_,_)=>T+1-c) (0,vs,vo) (bC _) ?_
      rintro⟨c,vs,vo⟩ cc;dsimp only at cc⊢
      by_cases c9:c<T+1
      · have alr:=GG (l:=az) (may:=may) (T:=T) n c (k9 az may T n)
        have als:=OL (l:=az) (may:=may) (T:=T) n;have hm1:c*az.length<=31*40:=oT J a5;have VM:(T+1)*az.length<=31*40:=oT J a5;have hm3:n*((T+1)*az.length)<=20*(31*40):=oT J VM;have ak4:k9 az may T (n+1)=Ad az may T n (T+1) (k9 az may T n):=rfl;have ajt:Ad az may T n (c+1) (k9 az may T n)=vj az may T n c az.length (Ad az may T n c (k9 az may T n)):=rfl;have hbc:Kx T c<18446744073709551616:=by
          unfold Kx;split
          decide
          exact Nat.lt_of_le_of_lt (Nat.pow_le_pow_right alt (show c<=30 by omega)) alt
        have aer:=λw=>XL T (N:Int) (ak bp az.length cp) c w J J ⟨_,_,_,rfl⟩;generalize Ad az may T n c (k9 az may T n)=AC at*
        repeat(first|refine GA ?_|refine gV (aw aI.ty I (aD (i:=0) I I)) ?_)
        refine dZ (ι:=Nat×Value) (λ(k,_)=>k<=az.length) (λ(k,vo)=>[(1,aH (ah ⟨g1,0,aj⟩)),(7,ak (ah ⟨g7,0,aj⟩) az.length az.length),(10,ak (ah ⟨g10,0,aj⟩) N N),(11,vo),(12,ap av (n:Int)),(13,ap av (c:Int)),(14,ap av (fF az may T n c k)),(58,ap av (N:Int)),(59,ap av (n:Int)),(64,ap av ((T+1:Nat):Int)),(65,ap av (c:Int)),(69,ak bp az.length cp),(70,ap av az.length),(71,ap av (k:Int))])
          (λ(k,vo)=>[aK g1 (du (T:Int) (N:Int) (ak bp az.length cp)).cells 33,fA 92 gZ g7 az.length may,fA 26 wu g10 N vs,jn (λj=>j<N) (ny az may T vs n c),bm 179 4 vo (vj az may T n c k AC).length ((vj az may T n c k AC).flatMap clC)]) (λ(k,_)=>az.length-k) (0,vo) (bC _) ?_
        rintro⟨k,vo⟩ kk;dsimp only at kk⊢
        by_cases ck:k<az.length
        · obtain⟨b,off,rfl,_,hr⟩:=mQ J
          obtain⟨bb,cb,y1,y2,y3⟩:=jp hr ck;have eC:∀(L:List b_) (j:Nat) (v:Value),([ap av az[k].1,.slice bb az[k].2.length cb]:List Value)[j]?=ah v->At w L ⟨b,off+k*2+j,aj⟩ v:=λL j v hj=>jL (y1 j v hj);have hol:=GF (l:=az) (may:=may) (T:=T) n c k AC;have hf:fF az may T n c (k+1)=if fF az may T n c k<0 then(if qQ az may T n c k=aB then(k:Int)else fF az may T n c k)else fF az may T n c k:=rfl
          have ho:vj az may T n c (k+1) AC=if qQ az may T n c k=aB then(if fF az may T n c k<0 then vj az may T n c k AC else vj az may T n c k AC++[((n:Int),(c:Int),fF az may T n c k,(k:Int))])else vj az may T n c k AC:=rfl
          have Vi:qQ az may T n c k=(decide (az[k].1=(n:Int))&&!decide ((may k&&&Kx T c)=0)):=by unfold qQ;rw[k7 ck]
          have hand:=W6 (ak1 k) hbc;have hfk:=pU (l:=az) (may:=may) (T:=T) n c k;clear y1 y3 hr mQ;generalize az[k]=pd at*;obtain⟨hd,body⟩:=pd;dsimp only at*;generalize hzz:may k&&&Kx T c=z at*;generalize fF az may T n c k=fk at*;generalize vj az may T n c k AC=ok at*
          repeat(first|refine GA ?_|refine gV (aR bM.eq aI.ty I I ck) ?_|refine gV (aW aI.ty I I (eC _)) ?_)
          refine aY I λg16=>?_
          try refine GA ?_
          refine fR 5 ?_;refine zL ?_
          try refine GA ?_
          refine dG ([aK g1 (du (T:Int) (N:Int) (ak (ah ⟨b,off,aj⟩) az.length cp)).cells 33,fA 92 gZ g7 az.length may,aK g16 #[ap av hd,ak bb body.length cb] 174]) (.calm 0 (.calm 1 (.calm 2 (.calm 3 (.calm 4 (.calm 5 (.calm 6 (.calm 7 (.calm 8 (.calm 9 (.calm 10 (.calm 11 (.calm 12 (.calm 13 (.calm 14 (.calm 15 (.done))))))))))))))))) (bY [0,1,5]) ?_
          by_cases e1:hd=(n:Int)
          · by_cases e2:z=0
            · rw[decide_eq_true e1,decide_eq_true e2]at Vi
              rw[Vi]at hf ho;simp only[Bool.not_true,Bool.and_false,abX,if_false,ite_self]at hf ho
              repeat(first|refine GW ?_|(refine GN ?_;first|refine QW (aw aI.ty I (aD (i:=2) I I)) ?_|refine QW (bO bM.eq aI.ty I I ck) ?_|refine QW (aw aI.ty I (gi (i:=1) I ck)) ?_|refine QW (aJ (i:=0) aI.ty I I I) ?_))
              refine zw I (gh aF.en I I I) (λw hm=>aer _) I I I I I ?_
              repeat(first|refine GW ?_|(refine GN ?_;first|refine QW (nC I I hand) ?_))
              try refine GA ?_
              refine dq [0,1,2,3,4] ?_;exact ik (k+1,vo) (by show k+1<=az.length;omega) (by show az.length-(k+1)<az.length-k;omega) (by dsimp only;rw[hf];repeat' (first|exact cZ|refine cP I ?_)) (by dsimp only;rw[ho];rfl)
            rw[decide_eq_true e1,decide_eq_false e2]at Vi;rw[Vi]at hf ho;simp only[Bool.not_false,Bool.and_true,if_true]at hf ho
            repeat(first|refine GW ?_|(refine GN ?_;first|refine QW (aw aI.ty I (aD (i:=2) I I)) ?_|refine QW (bO bM.eq aI.ty I I ck) ?_|refine QW (aw aI.ty I (gi (i:=1) I ck)) ?_|refine QW (aJ (i:=0) aI.ty I I I) ?_))
            refine zw I (gh aF.en I I I) (λw hm=>aer _) I I I I I ?_
            repeat(first|refine GW ?_|(refine GN ?_;first|refine QW (nC I I hand) ?_))
            by_cases e3:fk<0
            · rw[if_pos e3]at hf ho
              try refine GA ?_
              refine dq [0,1,2,3,4] ?_;exact ik (k+1,vo) (by show k+1<=az.length;omega) (by show az.length-(k+1)<az.length-k;omega) (by dsimp only;rw[hf];repeat' (first|exact cZ|refine cP I ?_)) (by dsimp only;rw[ho];rfl)
            rw[if_neg e3]at hf ho
            repeat(first|refine GA ?_|refine gV (aZ I (acC _ _ _ _)) ?_)
            refine iU (i:=4) I I I I I I I (λz h=>by cases h;rfl) J J I λz' v2=>?_;refine zL ?_
            try refine GA ?_
            refine dq [0,1,2,3,4] ?_;exact ik (k+1,v2) (by show k+1<=az.length;omega) (by show az.length-(k+1)<az.length-k;omega) (by dsimp only;rw[hf];repeat' (first|exact cZ|refine cP I ?_)) (by dsimp only;rw[ho,ie,bT];rfl)
          rw[decide_eq_false e1]at Vi;rw[Vi]at hf ho;simp only[Lf,abX,if_false,ite_self]at hf ho
          repeat(first|refine GW ?_|(refine GN ?_;first|refine QW (aw aI.ty I (aD (i:=2) I I)) ?_))
          try refine GA ?_
          refine dq [0,1,2,3,4] ?_;exact ik (k+1,vo) (by show k+1<=az.length;omega) (by show az.length-(k+1)<az.length-k;omega) (by dsimp only;rw[hf];repeat' (first|exact cZ|refine cP I ?_)) (by dsimp only;rw[ho];rfl)
        obtain rfl:k=az.length:=by omega
        rw[<-ajt];have hra:fF az may T n c az.length=wX.rowAt az may T n c:=rfl;rw[hra];clear ajt ak4 hra;have hcn:ny az may T vs n c n=bm 3 1 (vs n) c ((mq c (wX.rowAt az may T n)).map ahY):=by
          unfold ny C9;rw[if_neg (Lg n),if_pos I]
        repeat(first|refine GA ?_|refine gV (bO bM.eq aI.ty I I c8) ?_|refine gV (aw aI.ty I (gi (i:=2) I c8)) ?_)
        refine T_ (q:=3) n I c8 ?_;rw[hcn];refine zL ?_;refine TP [ap av (wX.rowAt az may T n c)] I I I (by intro v hv;simp at hv;subst hv;rfl) I I λalV=>?_;refine zL ?_;refine l6 (i:=5) (q:=6) I I I I I I J J I λv3=>?_;refine zL ?_;refine aU (i:=5) I λjm mz=>?_
        repeat(first|refine GA ?_|refine gV (bO bM.eq aI.ty I I c8) ?_)
        refine iR (i:=2) (v:=v3) (λj=>if j=n then v3 else vs j) aI.ty I I I jm mz c8 (λj _=>rfl) ?_;refine zL ?_;refine aau (D':=λj=>j<N) (f':=ny az may T (λj=>if j=n then v3 else vs j) n (c+1)) n 3 5 [0,1,2,4] alt I I I (λh=>h.2 I) (λj hj=>by
          by_cases e:j=n
          exact .inr e;exact .inl ⟨hj,e⟩) (λj hj=>by
          by_cases e:j=n
          · subst e
            rw[Bu];unfold ny C9;rw[if_neg (Lg j),if_pos I];dsimp only;rw[if_pos I]
            congr 1
            unfold mq;rw[vD,eK,eK];rfl
          rw[Bt e];have:C9 T n (c+1) j=C9 T n c j:=by unfold C9;rw[if_neg e,if_neg e]
          unfold ny;rw[this];dsimp only;rw[if_neg e]) ?_
        refine zL ?_;refine H9 [0,1,2,4,3] ?_
        try refine GA ?_
        exact bQ (c+1,λj=>if j=n then v3 else vs j,vo) (by show c+1<=T+1;omega) (by show T+1-(c+1)<T+1-c;omega)
      obtain rfl:c=T+1:=by omega
      have ak5:ny az may T vs n (T+1)=ny az may T vs (n+1) 0:=funext λj=>by
        have:C9 T n (T+1) j=C9 T (n+1) 0 j:=by
          unfold C9
          by_cases e:j<n
          rw[if_pos e,if_pos J];rw[if_neg e]
          by_cases e2:j=n
          rw[if_pos e2,if_pos J];rw[if_neg e2,if_neg J,ite_self]
        unfold ny;rw[this]
      try refine GA ?_
      exact bQ (n+1,vs,vo) (by show n+1<=N;omega) (by show N-(n+1)<N-n;omega) (hl:=by rw[ak5];rfl)
    obtain rfl:n=N:=by omega
    try refine GA ?_
    exact mW I I I I λw hm=>hm.meets (S:=acD n T az may) (g10,vs,vo) trivial [2,3,4] alt I
open bK cX
def lm(x:bK.Act):List Value:=[ap av x.1,ap av x.2]
theorem si(x:bK.Act):(lm x).length=2:=rfl
def gC(l:List aL.Prod)(T:Nat)(nx:List Int)(t:Nat)(s:List bK.Item)(c:Nat):List bK.Act:=(if c<t/\0<=nx.getD c 0 then [(1,nx.getD c 0)]else [])++s.filterMap (wa l c)
theorem JA{l:List aL.Prod}{T:Nat}{nx:List Int}{s:List bK.Item}{c:Nat}:gC l T nx T s c=jA l T s nx c:=rfl
def oZ(vs:Nat->Value)(A:Nat->List bK.Act)(j:Nat):b_:=bm 187 2 (vs j) (A j).length ((A j).flatMap lm)
def OM(T:Nat)(A:Nat->List bK.Act):Spec (Nat×(Nat->Value)):=⟨λ_=>True,λx=>ak (ah ⟨x.1,0,aj⟩) (T+1) (T+1),λx=>[fA 185 wu x.1 (T+1) x.2,jn (λj=>j<T+1) (oZ x.2 A)]⟩
theorem SP(n:Int)(w:World):(da 187 #[(0,ap av 1),(1,ap av n)]).run aC w= .ok (aP (lm (1,n)).toArray) w:=by kernel_rfl
theorem SQ(n:Int)(w:World):(da 187 #[(0,ap av 2),(1,ap av n)]).run aC w= .ok (aP (lm (2,n)).toArray) w:=by kernel_rfl
theorem SR(w:World):(da 187 #[(0,ap av 3)]).run aC w= .ok (aP (lm (3,0)).toArray) w:=by kernel_rfl
theorem B2{l:List aL.Prod}{T:Nat}{nx:List Int}{t:Nat}{s:List bK.Item}{c:Nat}:(gC l T nx t s c).length<=1+s.length:=by
 unfold gC;rw[bT];have:=List.length_filterMap_le (wa l c) s;split;rw[tu];omega;rw[nG];omega
theorem Lv(v:Value)(g:dD)(T:Nat)(Lh:g.aQ=(T:Int))(hT:T<=30)(bS oS lS cS bN oN lN cN n:Nat)(oF vn1:Value)(s:List bK.Item)(nx:List Int)(w:World)(hG:jS (λk=>k<w.heap.size) w v g)(wY:g.az.length<=40)(hnS:n<lS)(hcS:w.cell? ⟨bS,oS+n,aj⟩=ah oF)(Dk:Sl w oF s.length (s.flatMap iS))(hnN:n<lN)(hcN:w.cell? ⟨bN,oN+n,aj⟩=ah vn1)(hn1:Sl w vn1 nx.length (nx.map (ap .i64)))(hnl:T<=nx.length)(hr:∀it∈s,ef g.az T it)(ua:s.length<=20000)(_:n<=1000000):
 Calls aC 68 #[v,aP #[ak (ah ⟨bS,oS,aj⟩) lS cS,ak (ah ⟨bN,oN,aj⟩) lN cN],ap av (n:Int)] w (cJ (OM T (jA g.az T s nx)) w):=by
 obtain⟨vp,rfl,hp,-,-⟩:=hG;obtain⟨bp,cp,rfl,MV,Cg,mQ⟩:=hp;obtain⟨bs,cs,rfl,-,hmS,hrS⟩:=Dk;obtain⟨bn,cn,rfl,-,hmN,hrN⟩:=hn1;unfold maxLen at hmS hmN;rw[Lh];have HA:=SP;have Qw:=SQ;have hb3:=SR;refine enter (args:=[du (T:Int) g.bB (ak bp g.az.length cp),aP #[ak (ah ⟨bS,oS,aj⟩) lS cS,ak (ah ⟨bN,oN,aj⟩) lN cN],ap av (n:Int)]) (n:=113) Tryz.func68 I I I ?_;refine bZ (bx (bH I I I λg3=>?_));refine zL ?_;refine bH I I I λg4=>?_;refine zL ?_
 repeat(first|refine GC ?_|refine gV (aw (v:=ap av (T:Int)) aI.ty I (aD (i:=0) I I)) ?_|refine gV (dN (r:=((T+1:Nat):Int)) I I J J J) ?_|refine GB ?_)
 refine pM (m:=T+1) wu (ak aj 0 0) I I J J I λg7=>?_;refine zL ?_
 repeat(first|refine GA ?_|refine gV (aw (v:=ap av (T:Int)) aI.ty I (aD (i:=0) I I)) ?_)
 refine oc (jn (λj=>j<T+1) (oZ (λ_=>ak aj 0 0) (gC g.az T nx 0 []))) (λk hk=>hk.elim (λh=>by cases h) λ⟨i,hi,h⟩=>h.elim (λh=>by cases h) id) (λw=>⟨λi hi=>?_,λi j _ _ _ k h=>h.elim (λh=>by cases h) AY⟩) ?_
 ·unfold oZ gC
  rw[if_neg J];exact Sm _ _ _ _
 conv=>arg 7;simp only[zA,zB,zC,zD,zE,zF,zG,zH,zI,df,ret,id_eq]
 refine dZ (ι:=Nat×(Nat->Value)) (λ(t,_)=>t<=T) (λ(t,_)=>[(2,ap av (n:Int)),(3,aH (ah ⟨g3,0,aj⟩)),(4,aH (ah ⟨g4,0,aj⟩)),(7,ak (ah ⟨g7,0,aj⟩) (T+1) (T+1)),(17,ap av (T:Int)),(18,ap av (t:Int))])
  (λ(t,vs)=>[aK g3 (du (T:Int) g.bB (ak bp g.az.length cp)).cells 33,aK g4 (aP #[ak (ah ⟨bS,oS,aj⟩) lS cS,ak (ah ⟨bN,oN,aj⟩) lN cN]).cells 182,fA 185 wu g7 (T+1) vs,jn (λj=>j<T+1) (oZ vs (gC g.az T nx t []))]) (λ(t,_)=>T-t) (0,λ_=>ak aj 0 0) (bC _) ?_
 rintro⟨t,vs⟩ i1;dsimp only at i1⊢
 by_cases c1:t<T
 ·obtain⟨b,off,rfl,gu⟩:=hrN J
  have hny:(nx.map (ap .i64))[t]?=ah (ap av (nx.getD t 0)):=by
   rw[iN,cH,bL J];rfl
  have eC:=λ(L:List b_)=>jE (W:=w) (L:=L) gu hny;have htl:t<nx.length:=by omega
  have SS:∀j,j≠t->gC g.az T nx (t+1) [] j=gC g.az T nx t [] j:=λj hj=>by
   unfold gC;have:(j<t+1/\0<=nx.getD j 0)↔(j<t/\0<=nx.getD j 0):=by constructor<;>(rintro⟨h1,h2⟩;exact⟨by omega,h2⟩)
   simp only[this]
  have CE:gC g.az T nx (t+1) [] t=if 0<=nx.getD t 0 then [(1,nx.getD t 0)]else []:=by
   unfold gC
   by_cases c:0<=nx.getD t 0
   rw[if_pos ⟨tv t,c⟩,if_pos c];rfl;rw[if_neg (λh=>c h.2),if_neg c];rfl
  have acF:gC g.az T nx t [] t=[]:=by unfold gC;rw[if_neg (λh=>Lg t h.1)];rfl
  generalize nx.getD t 0=y at*
  repeat(first|refine GA ?_|refine gV (aw (v:=ak (ah ⟨bN,oN,aj⟩) lN cN) aI.ty I (aD (i:=1) I I)) ?_|refine gV (bO bM.eq aI.ty I I hnN) ?_|refine gV (aw (v:=ak (ah ⟨b,off,aj⟩) nx.length cn) aI.ty I (jL hcN)) ?_|refine gV (bO bM.eq aI.ty I I htl) ?_|refine gV (aw (v:=ap av y) aI.ty I (eC _)) ?_)
  by_cases c2:0<=y
  ·rw[if_pos c2]at CE
   repeat(first|refine GC ?_|refine gV (fX (b:=aB) I I (decide_eq_true c2)) ?_|refine gV (bO bM.eq aI.ty I I (show t<T+1 by omega)) ?_|refine gV (aw aI.ty I (gi (i:=2) I (show t<T+1 by omega))) ?_|refine gV (aZ I (HA _)) ?_|refine GB ?_)
   refine T_ (q:=3) t I (show t<T+1 by omega) ?_;have hFt:oZ vs (gC g.az T nx t []) t=bm 187 2 (vs t) 0 []:=by unfold oZ;rw[acF];rfl
   rw[hFt];refine zL ?_;refine iU (i:=4) I I I I I I I (λz h=>by cases h;rfl) J J I λz v3=>?_;refine zL ?_
   repeat(first|refine GA ?_|refine gV (bO bM.eq aI.ty I I (show t<T+1 by omega)) ?_)
   refine aU (i:=4) I λjm mz=>?_;refine iR (i:=2) (v:=v3) (λj=>if j=t then v3 else vs j) aI.ty I I I jm mz (show t<T+1 by omega) (λj _=>rfl) ?_;refine zL ?_;refine aau (D':=λj=>j<T+1) (f':=oZ (λj=>if j=t then v3 else vs j) (gC g.az T nx (t+1) [])) t 3 4 [0,1,2] alt I I I (λh=>h.2 I) (λj hj=>by
    by_cases e:j=t
    exact .inr e;exact .inl ⟨hj,e⟩) (λj hj=>by
    by_cases e:j=t
    ·subst e
     rw[Bu];unfold oZ;dsimp only;rw[CE,if_pos I];rfl
    rw[Bt e];unfold oZ;dsimp only;rw[SS j e,if_neg e]) ?_
   refine zL ?_
   try refine GA ?_
   exact bQ (t+1,λj=>if j=t then v3 else vs j) (by show t+1<=T;omega) (by show T-(t+1)<T-t;omega)
  rw[if_neg c2]at CE;have uO:gC g.az T nx (t+1) []=gC g.az T nx t []:=funext λj=>by
   by_cases e:j=t
   subst e;rw[CE,acF];exact SS j e
  repeat(first|refine GC ?_|refine gV (fX (b:=aE) I I (decide_eq_false c2)) ?_|refine GB ?_)
  exact bQ (t+1,vs) (by show t+1<=T;omega) (by show T-(t+1)<T-t;omega) (hl:=by dsimp only;rw[uO])
 obtain rfl:t=T:=by omega
 repeat(first|refine GA ?_|refine gV (aw (v:=ak (ah ⟨bS,oS,aj⟩) lS cS) aI.ty I (aD (i:=1) I I)) ?_|refine gV (bO bM.eq aI.ty I I hnS) ?_|refine gV (aw (v:=ak bs s.length cs) aI.ty I (jL hcS)) ?_)
 refine dZ (ι:=Nat×(Nat->Value)) (λ(k,_)=>k<=s.length) (λ(k,_)=>[(3,aH (ah ⟨g3,0,aj⟩)),(7,ak (ah ⟨g7,0,aj⟩) (t+1) (t+1)),(47,ak bs s.length cs),(48,ap av (s.length:Int)),(49,ap av (k:Int))])
  (λ(k,vs)=>[aK g3 (du (t:Int) g.bB (ak bp g.az.length cp)).cells 33,aK g4 (aP #[ak (ah ⟨bS,oS,aj⟩) lS cS,ak (ah ⟨bN,oN,aj⟩) lN cN]).cells 182,fA 185 wu g7 (t+1) vs,jn (λj=>j<t+1) (oZ vs (gC g.az t nx t (s.take k)))]) (λ(k,_)=>s.length-k) (0,vs) (bC _) ?_
 rintro⟨k,vs⟩ j1;dsimp only at j1⊢;clear HA
 by_cases c2:k<s.length
 ·obtain⟨b,off,rfl,gu⟩:=hrS J
  have eC:=λ(L:List b_)=>gK (L:=L) mc gu c2;have F5:∀(L:List b_) (j:Nat) (u:Value),(iS s[k])[j]?=ah u->At (w:bV) L ⟨b,off+k*3+j,aj⟩ u:=eC;clear eC gu hrS;have hxr:=hr s[k] (bX c2);have Mh:s.take (k+1)=s.take k++[s[k]]:=ic c2;have q9:∀c,gC g.az t nx t (s.take (k+1)) c=gC g.az t nx t (s.take k) c++(match wa g.az c s[k]with|some x=>[x]|none=>[]):=λc=>by
   rw[Mh];unfold gC;rw[List.filterMap_append,<-eu]
   congr 1
   rw[List.filterMap_cons]
   cases wa g.az c s[k]<;>rfl
  have hlen:∀c,(gC g.az t nx t (s.take k) c).length<=20001:=λc=>eL B2 (by rw[jr];omega);generalize hit:s[k]=it at*;obtain⟨p,d,lo⟩:=it;obtain⟨r1,r2,r3,r4,r5,r6⟩:=hxr;dsimp only at r1 r2 r3 r4 r5 r6;obtain⟨pn,rfl⟩:=fJ r1;obtain⟨dn,rfl⟩:=fJ r3;obtain⟨ln,rfl⟩:=fJ r5;have Jd:ln<t+1:=by omega
  have SS:∀j,j≠ln->gC g.az t nx t (s.take (k+1)) j=gC g.az t nx t (s.take k) j:=λj hj=>by
   rw[q9 j];have:wa g.az j ((pn:Int),(dn:Int),(ln:Int))=none:=by
    unfold wa;rw[if_pos (by show(ln:Int)≠(j:Int);omega)]
   rw[this,fj]
  have qf:=q9 ln;unfold wa at qf;rw[if_neg (by show ¬(ln:Int)≠(ln:Int);simp)]at qf;dsimp only at qf;clear q9 Mh
  repeat(first|refine GA ?_|refine gV (aR bM.eq aI.ty I I c2) ?_|refine gV (aW (cs:=iS ((pn:Int),(dn:Int),(ln:Int))) aI.ty I I (F5 _)) ?_)
  refine aY I λg11=>?_;refine zL ?_;refine fR 4 (cs':=(iS ((pn:Int),(dn:Int),(ln:Int))).toArray) ?_;refine zL ?_;have hFt:oZ vs (gC g.az t nx t (s.take k)) ln=bm 187 2 (vs ln) (gC g.az t nx t (s.take k) ln).length ((gC g.az t nx t (s.take k) ln).flatMap lm):=rfl;have Qs:=hlen ln
  by_cases q1:pn=g.az.length
  ·subst q1
   by_cases q2:dn=1
   ·subst q2
    have CE:gC g.az t nx t (s.take (k+1)) ln=gC g.az t nx t (s.take k) ln++[(3,0)]:=by
     rw[if_pos ⟨rfl,rfl⟩]at qf;exact qf
    repeat(first|refine GA ?_|refine gV (aw (v:=ap av (g.az.length:Int)) aI.ty I (aD (i:=4) I I)) ?_|refine gV (aw (v:=ak bp g.az.length cp) aI.ty I (aD (i:=0) I I)) ?_|refine gV (aw (v:=ap av 1) aI.ty I (aD (i:=4) I I)) ?_)
    refine Q0 (q:=3) ln I Jd ?_;rw[hFt]
    conv=>arg 7;simp only[zA,zB,zC,zD,zE,zF,zG,zH,zI,df,ret,id_eq]
    refine dG ([aK g11 (iS ((g.az.length:Int),1,(ln:Int))).toArray 261]) (.calm 0 (.calm 1 (.calm 2 (.calm 3 (.calm 4 (.calm 5 (.calm 6 (.calm 8 (.two 7 (.one 9 (.one 10 (.calm 11 (.one 12 (.done))))) 9 (.one 7 (.one 10 (.calm 11 (.one 12 (.done)))))))))))))) (bY [4]) ?_
    repeat(first|refine GW ?_|(refine GN ?_;first|refine QW (aw (v:=ap av (ln:Int)) aI.ty I (aD (i:=0) I I)) ?_|refine QW (bO bM.eq aI.ty I I Jd) ?_|refine QW (aZ I hb3) ?_))
    refine e_ I I ?aju ?ajv
    case' aju=>
     refine dy (aw aI.ty I (gi (i:=2) I Jd)) I I I (aO (bY [4]) ?_);refine aM I (gG (cs:=(lm (3,0)).toArray) I I I I I λg74=>aO (bY [4]) ?_)
    case' ajv=>
     refine gG (cs:=(lm (3,0)).toArray) I I I I I λg74=>aO (bY [4]) ?_;refine aM I (dy (aw aI.ty I (gi (i:=2) I Jd)) I I I (aO (bY [4]) ?_))
    all_goals
     refine aM I (n_ (i:=5) (q:=6) I I I I I I J J I λv3=>aO (bY [4]) ?_)
     repeat(first|refine GW ?_|(refine GN ?_;first|refine QW (bO bM.eq aI.ty I I Jd) ?_))
     refine aM I (aU (i:=5) I λjm mz=>iR (i:=2) (v:=v3) (λj=>if j=ln then v3 else vs j) aI.ty I I I jm mz Jd (λj _=>rfl) (aO (bY [4]) ?_))
     try refine GW ?_
     refine Ua (D':=λj=>j<t+1) (f':=oZ (λj=>if j=ln then v3 else vs j) (gC g.az t nx t (s.take (k+1)))) ln 3 5 [0,1,2] alt I I I (λh=>h.2 I) (λj hj=>by
      by_cases e:j=ln
      exact .inr e;exact .inl ⟨hj,e⟩) (λj hj=>by
      by_cases e:j=ln
      ·subst e
       rw[Bu];unfold oZ;dsimp only;rw[CE,if_pos I,bT,ie];rfl
      rw[Bt e];unfold oZ;dsimp only;rw[SS j e,if_neg e]) ?_
     try refine GA ?_
     exact bQ (k+1,λj=>if j=ln then v3 else vs j) (by show k+1<=s.length;omega) (by show s.length-(k+1)<s.length-k;omega)
   have uO:gC g.az t nx t (s.take (k+1))=gC g.az t nx t (s.take k):=funext λj=>by
    by_cases e:j=ln
    ·subst e
     rw[if_neg (λh=>q2 (by have:=h.2;omega)),if_neg (λh=>by have:=h.1;omega)]at qf;rw[qf];exact fj _
    exact SS j e
   repeat(first|refine GA ?_|refine gV (aw (v:=ap av (g.az.length:Int)) aI.ty I (aD (i:=4) I I)) ?_|refine gV (aw (v:=ak bp g.az.length cp) aI.ty I (aD (i:=0) I I)) ?_|refine gV (aw (v:=ap av (dn:Int)) aI.ty I (aD (i:=4) I I)) ?_)
   refine dG ([aK g3 (du (t:Int) g.bB (ak bp g.az.length cp)).cells 33,aK g11 (iS ((g.az.length:Int),(dn:Int),(ln:Int))).toArray 261]) (.calm 0 (.calm 1 (.calm 2 (.calm 3 (.calm 4 (.calm 5 (.calm 6 (.calm 7 (.calm 8 (.calm 9 (.calm 10 (.calm 11 (.calm 12 (.calm 13 (.calm 14 (.calm 15 (.calm 16 (.calm 17 (.calm 18 (.calm 19 (.done))))))))))))))))))))) (bY [0,4]) ?_
   repeat(first|refine GW ?_|(refine GN ?_;first|refine QW (aw (v:=ap av (g.az.length:Int)) aI.ty I (aD (i:=1) I I)) ?_|refine QW (aw (v:=ak bp g.az.length cp) aI.ty I (aD (i:=0) I I)) ?_))
   try refine GA ?_
   refine dq [0,1,2,3] ?_;exact bQ (k+1,vs) (by show k+1<=s.length;omega) (by show s.length-(k+1)<s.length-k;omega) (hl:=by dsimp only;rw[uO];rfl)
  have hpn:pn<g.az.length:=by omega
  obtain⟨pb,po,rfl,hFb,hpr⟩:=mQ J;obtain⟨bb,cb,hq1,hq2,hq3⟩:=jp hpr hpn;have hpg:g.az[pn]=a_ g.az (pn:Int):=by
   unfold a_;rw[de,cH,bL hpn];rfl
  rw[hpg]at hq1 hq2 hq3;have ajw:∀(L:List b_) (j:Nat) (v:Value),([ap av (a_ g.az (pn:Int)).1,ak bb (a_ g.az (pn:Int)).2.length cb]:List Value)[j]?=ah v->At w L ⟨pb,po+pn*2+j,aj⟩ v:=λL j v hj=>jE hq1 hj;clear hpr mQ hq1 hq3
  by_cases q2:dn=(a_ g.az (pn:Int)).2.length
  ·subst q2
   have CE:gC g.az t nx t (s.take (k+1)) ln=gC g.az t nx t (s.take k) ln++[(2,(pn:Int))]:=by
    rw[if_neg (λh=>q1 (by have:=h.1;omega)),if_pos ⟨by omega,rfl⟩]at qf;exact qf
   repeat(first|refine GA ?_|refine gV (aw (v:=ap av (pn:Int)) aI.ty I (aD (i:=4) I I)) ?_|refine gV (aw (v:=ak (ah ⟨pb,po,aj⟩) g.az.length cp) aI.ty I (aD (i:=0) I I)) ?_)
   refine dG ([aK g3 (du (t:Int) g.bB (ak (ah ⟨pb,po,aj⟩) g.az.length cp)).cells 33,aK g11 (iS ((pn:Int),((a_ g.az (pn:Int)).2.length:Int),(ln:Int))).toArray 261]) (.calm 0 (.calm 1 (.calm 2 (.calm 3 (.calm 4 (.calm 5 (.calm 6 (.calm 7 (.calm 8 (.calm 9 (.calm 10 (.calm 11 (.calm 12 (.calm 13 (.calm 14 (.calm 15 (.calm 16 (.calm 17 (.calm 18 (.calm 19 (.done))))))))))))))))))))) (bY [0,4]) ?_
   repeat(first|refine GW ?_|(refine GN ?_;first|refine QW (aw (v:=ap av (pn:Int)) aI.ty I (aD (i:=1) I I)) ?_|refine QW (aw (v:=ap av ((a_ g.az (pn:Int)).2.length:Int)) aI.ty I (aD (i:=1) I I)) ?_|refine QW (aw (v:=ak (ah ⟨pb,po,aj⟩) g.az.length cp) aI.ty I (aD (i:=0) I I)) ?_|refine QW (aR bM.eq aI.ty I I hpn) ?_|refine QW (aw (v:=ak bb (a_ g.az (pn:Int)).2.length cb) aI.ty I (ajw _ 1 _ I)) ?_))
   try refine GA ?_
   refine Q0 (q:=3) ln I Jd ?_;rw[hFt]
   conv=>arg 7;simp only[zA,zB,zC,zD,zE,zF,zG,zH,zI,df,ret,id_eq]
   refine dG ([aK g11 (iS ((pn:Int),((a_ g.az (pn:Int)).2.length:Int),(ln:Int))).toArray 261]) (.calm 0 (.calm 1 (.calm 2 (.calm 3 (.calm 4 (.calm 5 (.calm 6 (.calm 8 (.calm 9 (.calm 10 (.two 7 (.one 11 (.one 12 (.calm 13 (.one 14 (.done))))) 11 (.one 7 (.one 12 (.calm 13 (.one 14 (.done)))))))))))))))) (bY [4]) ?_
   repeat(first|refine GW ?_|(refine GN ?_;first|refine QW (aw (v:=ap av (ln:Int)) aI.ty I (aD (i:=0) I I)) ?_|refine QW (aw (v:=ap av (pn:Int)) aI.ty I (aD (i:=0) I I)) ?_|refine QW (bO bM.eq aI.ty I I Jd) ?_|refine QW (aZ I (Qw _)) ?_))
   refine e_ I I ?ajx ?ajy
   case' ajx=>
    refine dy (aw aI.ty I (gi (i:=2) I Jd)) I I I (aO (bY [4]) ?_);refine aM I (gG (cs:=(lm (2,(pn:Int))).toArray) I I I I I λg74=>aO (bY [4]) ?_)
   case' ajy=>
    refine gG (cs:=(lm (2,(pn:Int))).toArray) I I I I I λg74=>aO (bY [4]) ?_;refine aM I (dy (aw aI.ty I (gi (i:=2) I Jd)) I I I (aO (bY [4]) ?_))
   all_goals
    refine aM I (n_ (i:=5) (q:=6) I I I I I I J J I λv3=>aO (bY [4]) ?_)
    repeat(first|refine GW ?_|(refine GN ?_;first|refine QW (bO bM.eq aI.ty I I Jd) ?_))
    refine aM I (aU (i:=5) I λjm mz=>iR (i:=2) (v:=v3) (λj=>if j=ln then v3 else vs j) aI.ty I I I jm mz Jd (λj _=>rfl) (aO (bY [4]) ?_))
    try refine GW ?_
    refine Ua (D':=λj=>j<t+1) (f':=oZ (λj=>if j=ln then v3 else vs j) (gC g.az t nx t (s.take (k+1)))) ln 3 5 [0,1,2] alt I I I (λh=>h.2 I) (λj hj=>by
     by_cases e:j=ln
     exact .inr e;exact .inl ⟨hj,e⟩) (λj hj=>by
     by_cases e:j=ln
     ·subst e
      rw[Bu];unfold oZ;dsimp only;rw[CE,if_pos I,bT,ie];rfl
     rw[Bt e];unfold oZ;dsimp only;rw[SS j e,if_neg e]) ?_
    try refine GA ?_
    exact bQ (k+1,λj=>if j=ln then v3 else vs j) (by show k+1<=s.length;omega) (by show s.length-(k+1)<s.length-k;omega)
  have uO:gC g.az t nx t (s.take (k+1))=gC g.az t nx t (s.take k):=funext λj=>by
   by_cases e:j=ln
   ·subst e
    rw[if_neg (λh=>q1 (by have:=h.1;omega)),if_neg (λh=>q2 (by have:=h.2;omega))]at qf;rw[qf];exact fj _
   exact SS j e
  repeat(first|refine GA ?_|refine gV (aw (v:=ap av (pn:Int)) aI.ty I (aD (i:=4) I I)) ?_|refine gV (aw (v:=ak (ah ⟨pb,po,aj⟩) g.az.length cp) aI.ty I (aD (i:=0) I I)) ?_)
  refine dG ([aK g3 (du (t:Int) g.bB (ak (ah ⟨pb,po,aj⟩) g.az.length cp)).cells 33,aK g11 (iS ((pn:Int),(dn:Int),(ln:Int))).toArray 261]) (.calm 0 (.calm 1 (.calm 2 (.calm 3 (.calm 4 (.calm 5 (.calm 6 (.calm 7 (.calm 8 (.calm 9 (.calm 10 (.calm 11 (.calm 12 (.calm 13 (.calm 14 (.calm 15 (.calm 16 (.calm 17 (.calm 18 (.calm 19 (.done))))))))))))))))))))) (bY [0,4]) ?_
  repeat(first|refine GW ?_|(refine GN ?_;first|refine QW (aw (v:=ap av (pn:Int)) aI.ty I (aD (i:=1) I I)) ?_|refine QW (aw (v:=ap av (dn:Int)) aI.ty I (aD (i:=1) I I)) ?_|refine QW (aw (v:=ak (ah ⟨pb,po,aj⟩) g.az.length cp) aI.ty I (aD (i:=0) I I)) ?_|refine QW (aR bM.eq aI.ty I I hpn) ?_|refine QW (aw (v:=ak bb (a_ g.az (pn:Int)).2.length cb) aI.ty I (ajw _ 1 _ I)) ?_))
  try refine GA ?_
  refine dq [0,1,2,3] ?_;exact bQ (k+1,vs) (by show k+1<=s.length;omega) (by show s.length-(k+1)<s.length-k;omega) (hl:=by dsimp only;rw[uO];rfl)
 ·obtain rfl:k=s.length:=by omega
  rw[nU]
  try refine GA ?_
  exact cV I I λw hm=>hm.meets (S:=OM t (jA g.az t s nx)) (g7,vs) trivial [2,3] alt I
end cB
end Go.Proofs.YtahecdbmhhpanaaGreat

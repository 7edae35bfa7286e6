/- Part 3 of what WholeTree needs: PlK, PlT, DfN, DfT, PlacesG, ClassP, SmIn, MapE, BoolC, TreeS, TreeA, TreeB, TreeC, FactsA, FactsB, FactsC, FactsD, FactsO, FactsT, Look, Brk, FactsE, FactsF, CountA, ItL, ItM, TreeU, LrL, ItB, ItC, OrdK, OrdJ, ItH, ItN, ItO, SmM, SmU, SmO, SmT, SmK, SmW, SmD, DfX, DfM, DfQ, Els. -/
import Derived.Test.YtahecdbmhhpanaaGreatMgB
import Derived.Sort.Grow
import Derived.Deep.RegionWith
import Derived.Deep.RegionHeld
namespace Go.Proofs.YtahecdbmhhpanaaGreat
set_option linter.unusedVariables false
set_option linter.unusedSimpArgs false
open _root_.And renaming intro->cP
open _root_.Array renaming size_push->Rs
open _root_.Array.mk renaming injEq->qc
open _root_.BitVec renaming getLsbD_eq_getElem->Rt,ofInt->x8,getLsbD_ofNat->Ru,ofInt_natCast->aaZ
open _root_.Bool renaming true->aB,false->aE,or_eq_true->ko,eq_false_iff->BH
open _root_.Classical renaming choose_spec->x9,choose->AX
open _root_.Go.Deferred renaming ofValue->py
open _root_.Go.Instr renaming build->da,mapUpdate->A2,lookup->KM,entryStore->Rv,mapEntry->Rw
open _root_.Go.IntKind renaming i64->av,bits->me,signed->sx,wrap_u64->um,u64->uo,min->D5,max->D6,wrap_u8->KN,wrap->aa0,i16->aa1,u8->KO
open _root_.Go.Lit renaming string->aa2
open _root_.Go.MapKept renaming run_getObj_map->BI,run_setObj_map->KP
open _root_.Go.Op renaming shift->iM,equalIn->pz
open _root_.Go.Oper renaming wp->gU
open _root_.Go.Program renaming keyLits->uq
open _root_.Go.Proofs.Tryz renaming prog->aC
open _root_.Go.Result renaming andThen->mR
open _root_.Go.Sem renaming run_pure->pA
open _root_.Go.Value renaming slice->ak,int->ap,pointer->aH,agg->aP,oneCell'->fV,bool->fW,formed->aa3
open _root_.Go.Value.agg renaming injEq->nS
open _root_.Go.Value.int renaming injEq->Fw
open _root_.Go.Value.slice renaming injEq->kq
open _root_.Int renaming toNat_natCast->de,eq_ofNat_of_zero_le->fJ,le_refl->jg
open _root_.List renaming getElem?_eq_getElem->bL,getD_eq_getElem?_getD->cH,length_append->bT,getElem_mem->bX,getElem?_eq_some_iff->dK,drop_eq_getElem_cons->dL,length_cons->dj,replicate->c_,mem_cons->dw,mem_singleton->ez,take_succ_eq_append_getElem->ic,size_toArray->eT,append_assoc->eu,length_map->dY,map_append->eK,drop_of_length_le->ia,take_of_length_le->gD,flatMap_append->ie,mem_cons_self->gX,append_nil->fj,not_mem_nil->fC,map_cons->fm,range->d_,nil_append->fD,getElem?_append_left->lP,mem_map->fE,mem_cons_of_mem->lU,mem_append->ib,eq_nil_of_length_eq_zero->mT,mem_of_getElem?->kr,mem_iff_getElem->ku,flatMap_cons->lQ,mem_of_mem_drop->ti,getElem_map->oR,mem_append_left->uw,length->ky,all_eq_true->pB,any_eq_true->pC,cons_append->mg,set_cons_zero->ye,mem_append_right->KQ,map_nil->mU,filterMap_append->Bk,setIfInBounds_toArray->D_,eq_of_mem_replicate->Ry,set_cons_succ->A7,map_set->uQ,mem_filterMap->BJ,range_succ->vD,length_range->Rz,getElem_ofFn->Eb,range_succ_eq_map->aa4,mergeSort_perm->aa5,nodup_append->aa6,mem_filter->aa7,idxOf_cons->aa8,nodup_nil->aa9,ofFn->Ec
open _root_.List.Pairwise renaming and_mem->ahl,of_map->ahm
open _root_.List.cons renaming injEq->fL,inj->yR
open _root_.Nat renaming le_refl->aX,zero_le->bC,zero_add->cU,add_assoc->iO,not_lt_zero->oU,add_zero->mi,mul_one->lR,lt_of_le_of_lt->Bm,testBit_two_pow->RA,xor_lt_two_pow->RC,sub_self->BK,testBit_xor->aa_,div_le_self->aa',blt_eq->Fy
open _root_.Option renaming some->ah,none->aj,getD_some->jz,isSome->RD,getD->aba
open _root_.Option.some renaming injEq->dM,inj->pD
open _root_.Prod renaming ext->pE
open _root_.Prod.mk renaming injEq->ju
open _root_.True renaming intro->cZ
open _root_.UInt8 renaming ofNat->fN,toNat_ofNat'->abb
open _root_.Vector renaming replicate->eg,getElem_ofFn->kC,ext->kD,getElem_set->vH,ofFn->rp,toList->RE
set_option maxHeartbeats 16000000
namespace cB
open Go.RowKit cL dV dg gv ep
theorem Cr(v:Value)(l:List Int)(n:Nat)(w:World)(hv:Sl w v l.length (l.flatMap cL.eP))(h:IU n l):
 Calls aC 132 #[v,ap av (n:Int)] w (cJ (ret (.bool aB)) w):=by
 obtain⟨base,cap,rfl,sM,rR,gu⟩:=hv;unfold maxLen at rR;refine enter (args:=[ak base l.length cap,ap av (n:Int)]) (n:=35) Tryz.func132 I I I ?_
 try refine GA ?_
 refine dZ (ι:=Nat) (λk=>k<=l.length) (λk=>[(0,ak base l.length cap),(1,ap av (n:Int)),(7,ak base l.length cap),(8,ap av l.length),(9,ap av (k:Int))]) (λ_=>[]) (λk=>l.length-k) 0 (bC _) ?_;intro k h1
 by_cases c2:k<l.length
 ·obtain⟨b,off,rfl,hr⟩:=gu J
  have eC:=gK (L:=([]:List b_)) lf hr c2 0 _ I;have hx:=h.2 _ (bX c2)
  by_cases c3:0<k
  ·have hp:=List.pairwise_iff_getElem.1 h.1 (k-1) k J c2 J
   have ub:=gK (L:=([]:List b_)) lf hr (k:=k-1) J 0 _ I;generalize l[k]=x at*;generalize l[k-1]' J=y at*
   repeat(first|refine GC ?_|refine gV (aR bM.eq aI.ty I I c2) ?_|refine gV (aw (v:=ap av x) aI.ty I eC) ?_|refine gV (fI (b:=aE) I I (decide_eq_false J)) ?_|refine gV (aR (j:=k-1) bM.eq aI.ty I I J) ?_|refine gV (aw (v:=ap av y) aI.ty I ub) ?_|refine gV (fX (b:=aE) I I (decide_eq_false J)) ?_|refine gV (eO (b:=aB) I I (decide_eq_true J)) ?_|refine gV (ey (r:=((k-1:Nat):Int)) I I J J J) ?_|refine gV (Ba (b:=aE) I I (decide_eq_false J)) ?_|refine GB ?_)
   exact bQ (k+1) J (by show l.length-(k+1)<l.length-k;omega)
  generalize l[k]=x at*
  repeat(first|refine GC ?_|refine gV (aR bM.eq aI.ty I I c2) ?_|refine gV (aw (v:=ap av x) aI.ty I eC) ?_|refine gV (fI (b:=aE) I I (decide_eq_false J)) ?_|refine gV (fX (b:=aE) I I (decide_eq_false J)) ?_|refine gV (eO (b:=aE) I I (decide_eq_false J)) ?_|refine GB ?_)
  exact bQ (k+1) J (by show l.length-(k+1)<l.length-k;omega)
 ·try refine GA ?_
  exact dQ
theorem Fz{w:World}{b off:Nat}{l:List (List Int)}{F:Nat->Prop}(hr:∀i (h:i<l.length),∃cs,(cO iv).is F w cs l[i]/\Rd w b (off+i*(cO iv).c) cs){k:Nat}(hk:k<l.length):∃u,Sl w u l[k].length (l[k].flatMap cL.eP)/\Rd w b (off+k*1) [u]:=by
 obtain⟨cs,h1,h2⟩:=hr k hk;obtain⟨u,rfl,h3⟩:=aey h1;exact⟨u,h3,h2⟩
theorem FB(v:Value)(m:MS)(w:World)(hp:HB w v m)(h:KC m):
 Calls aC 96 #[v] w (cJ (ret (ap av 0)) w):=by
 obtain⟨vc,vr,vf,vfol,vl,ve,rfl,h1,h2,h3,h4,h5,h6⟩:=hp;have hmR:=h.rules;have hmf:=h.Dv;have hms:=h.some;have uA:=h.aes;have l1:=h.ok.ps.rules;have l2:=h.ok.ps.follow;have l3:=h.ok.ps.last;have q1:=λw' (hg:Gr w w')=>Cr vf m.first m.ps.a8.length w' (h3.gr hg) h.ok.first;have hri:=h.ok.ps.ris;clear h h3;obtain⟨⟨cl,rul,nu,la⟩,fi,em⟩:=m;dsimp only at*;rw[l1]at h2;obtain⟨ac,cc,rfl,_⟩:=h1;obtain⟨ar,cr,rfl,hcr,hmr,hrr⟩:=h2;obtain⟨afo,cfo,rfl,hcf,alG,hrf⟩:=h4;obtain⟨al,cl2,rfl,_⟩:=h5;obtain⟨ae,ce,rfl,_⟩:=h6;rw[l2]at hcf;unfold maxLen at*;have q1':=q1;clear q1;generalize hn:cl.length=n at*;refine enter (args:=[aP #[ak ac n cc,ak ar n cr,vf,ak afo nu.length cfo,ak al la.length cl2,ak ae em.length ce]]) (n:=80) Tryz.func96 I I I ?_;refine bZ (bx (bH I I I λg1=>?_));refine zL ?_
 repeat(first|refine GC ?_|refine gV (aw (v:=ak ac n cc) aI.ty I (aD (i:=0) I I)) ?_|refine gV (aw (v:=ak ar n cr) aI.ty I (aD (i:=0) I I)) ?_|refine gV (aw (v:=ak afo nu.length cfo) aI.ty I (aD (i:=0) I I)) ?_|refine gV (aw (v:=ak al la.length cl2) aI.ty I (aD (i:=0) I I)) ?_|refine gV (aw (v:=ak ae em.length ce) aI.ty I (aD (i:=0) I I)) ?_|refine gV (aw (v:=vf) aI.ty I (aD (i:=0) I I)) ?_|refine gV (dh (b:=aE) I I (decide_eq_false J)) ?_|refine gV (eO (b:=aE) I I (decide_eq_false J)) ?_|refine gV (dc (b:=aE) I I (decide_eq_false J)) ?_|refine GB ?_)
 refine l5 (gh aF.en I I I) (λw hm=>q1' _ hm.below) I I I I I ?_;intro _ _;refine zL ?_;clear q1'
 try refine GA ?_
 refine dZ (ι:=Nat) (λk=>k<=n) (λk=>[(1,aH (ah ⟨g1,0,aj⟩)),(3,ap av (n:Int)),(46,ap av (n:Int)),(47,ap av (k:Int))]) (λ_=>[aK g1 #[ak ac n cc,ak ar n cr,vf,ak afo nu.length cfo,ak al la.length cl2,ak ae em.length ce] 157]) (λk=>n-k) 0 (bC _) ?_;intro k hk
 by_cases c1:k<n
 ·obtain⟨br,RF,rfl,gu⟩:=hrr J
  obtain⟨bf,aeA,rfl,_,WX⟩:=hrf J;obtain⟨u,hu,hd⟩:=Fz WX (show k<nu.length by omega);have ahn:=λ(L:List b_)=>gK (L:=L) lf gu (show k<rul.length by omega) 0 _ I;have aho:=λ(L:List b_)=>jE (L:=L) hd (j:=0) (v:=u) I;have hx:=hmR _ (bX (show k<rul.length by omega));have q:=λw' (hg:Gr w w')=>Cr u nu[k] n w' (hu.gr hg) (hri _ (bX _));clear hrr hrf gu WX hd hu;generalize rul[k]=x at*
  try refine GA ?_
  refine dG ([aK g1 #[ak ac n cc,ak (ah ⟨br,RF,aj⟩) n cr,vf,ak (ah ⟨bf,aeA,aj⟩) nu.length cfo,ak al la.length cl2,ak ae em.length ce] 157]) (.calm 0 (.calm 1 (.calm 2 (.calm 3 (.calm 4 (.calm 5 (.calm 6 (.calm 7 (.calm 8 (.calm 9 (.calm 10 (.calm 11 (.calm 12 (.calm 13 (.calm 14 (.calm 15 (.calm 16 (.calm 17 (.calm 18 (.calm 19 (.calm 20 (.calm 21 (.calm 22 (.calm 23 (.one 24 (.calm 25 (.calm 26 (.done)))))))))))))))))))))))))))) (bY [0]) ?_
  repeat(first|(refine GN ?_;first|refine QW QP ?_|refine QW (aw (v:=ak (ah ⟨br,RF,aj⟩) n cr) aI.ty I (aD (i:=0) I I)) ?_|refine QW (aR bM.eq aI.ty I I c1) ?_|refine QW (aw (v:=ap av x) aI.ty I (ahn _)) ?_|refine QW (fI (b:=aE) I I (decide_eq_false J)) ?_|refine QW (aw (v:=ak ae em.length ce) aI.ty I (aD (i:=0) I I)) ?_|refine QW (aw (v:=ak (ah ⟨bf,aeA,aj⟩) nu.length cfo) aI.ty I (aD (i:=0) I I)) ?_|refine QW (aR (j:=k) bM.eq aI.ty I I J) ?_|refine QW (aw (v:=u) aI.ty I (aho _)) ?_|refine QW (fX (b:=aE) I I (decide_eq_false J)) ?_|refine GX ?_)|refine GW ?_)
  refine aM I (Dh I I I (aT (gh aF.en I I I) (λw hm=>q w hm.below) I I I λ_ _=>(aO (bY [0]) ?_)))
  try refine GW ?_
  try refine GA ?_
  refine dq [0] ?_;exact bQ (k+1) J (by show n-(k+1)<n-k;omega)
 ·repeat(first|refine GC ?_|refine gV (eO (b:=aE) I I (decide_eq_false J)) ?_|refine GB ?_)
  exact dQ
theorem RG{α:Type}{f:α->List Value}{c:Nat}{W0:World}{W:bV}{L:List b_}{b off:Nat}{l:List α}(hc:∀a,(f a).length=c)(ho:ly W0 W)(h:Rd W0 b off (l.flatMap f)){k:Nat}(hk:k<l.length)(j:Nat)(u:Value)(hj:(f l[k])[j]?=ah u):At W L ⟨b,off+k*c+j,aj⟩ u:=by
 have hjc:j<c:=by grind
 rw[iO];exact T5 ho h _ u (by simp_all[yp])
open nP
def Mf(vc vr vf vfol vl ve vs num rows tags:Value):Array Value:=#[vc,vr,vf,vfol,vl,ve,vs,num,rows,tags]
def RH(S:List C4):List Value:=(C4.zero::S).flatMap dX
theorem aeB{w:World}{g:Nat}{cs:Array Value}{T:TypeId}(hg:w.heap[g]?=ah (.cells cs T (0,0)))(L:List b_){k:Nat}{v:Value}(hv:cs[k]?=ah v):At (w:bV) L ⟨g,k,aj⟩ v:=
 jL (by rw[cell_of_row w g k cs T (0,0) hg];exact hv)
theorem HC(m:MS)(vc vr vf vfol vl ve vs num rows tags:Value)(S:List C4)(g n:Nat)(w:World)(hp:HB w (aP #[vc,vr,vf,vfol,vl,ve]) m)(h:KC m)(hg:w.heap[g]?=ah (.cells (Mf vc vr vf vfol vl ve vs num rows tags) 237 (0,0)))
 (hs:Sl w vs (S.length+1) (RH S)) (hn:n<=S.length):
 Calls aC 133 #[aH (ah ⟨g,0,aj⟩),ap av (n:Int)] w (cJ (ret (pc (ki m S n))) w):=by
 obtain⟨_,_,_,_,_,_,he,h1,h2,h3,h4,h5,h6⟩:=hp;simp only[nS,qc,fL,and_true]at he;obtain⟨rfl,rfl,rfl,rfl,rfl,rfl⟩:=he;have hmf:=h.Dv;have Yk:=h.ok.first.2;have hri:=h.ok.ps.ris;have tU:=h.ok.ps.follow;clear h h1 h2 h5 h6;obtain⟨af,cf,rfl,_,alH,hrf⟩:=h3;obtain⟨ao,co,rfl,_,hmo,hro⟩:=h4;obtain⟨ab,cs,rfl,hcs,hms,hrs⟩:=hs;unfold maxLen at*;have hm:=λL k v hv=>aeB (k:=k) (v:=v) hg L hv;refine enter (args:=[aH (ah ⟨g,0,aj⟩),ap av (n:Int)]) (n:=59) Tryz.func133 I I I ?_;refine bZ (bx (aY I λg4=>?_));refine zL ?_
 try refine GA ?_
 refine aY I λg5=>?_;refine zL ?_
 by_cases c0:n=0
 ·subst c0
  repeat(first|refine GC ?_|refine gV (dc (b:=aB) I I (decide_eq_true (by simp))) ?_|refine gV (aw (v:=ak af m.first.length cf) aI.ty I (hm _ 2 _ I)) ?_|refine GB ?_)
  refine dZ (ι:=Nat) (λk=>k<=m.first.length) (λk=>[(4,aH (ah ⟨g4,0,aj⟩)),(5,aH (ah ⟨g5,0,aj⟩)),(18,ak af m.first.length cf),(19,ap av m.first.length),(20,ap av (k:Int))])
   (λk=>[aK g4 (dX C4.zero).toArray 286,aK g5 (dX (p5 C4.zero (m.first.take k))).toArray 286]) (λk=>m.first.length-k) 0 (bC _) ?_
  intro k hk
  by_cases c1:k<m.first.length
  ·have hx:=Yk _ (bX c1)
   have hst:=Ny C4.zero m.first c1;obtain⟨bf,aeA,rfl,WX⟩:=hrf J;have eC:=λ(L:List b_)=>gK (L:=L) lf WX c1 0 _ I;generalize m.first[k]=x at*;generalize p5 C4.zero (m.first.take k)=c at*;obtain⟨xn,rfl⟩:=fJ hx.1;rw[de]at hst
   repeat(first|refine GA ?_|refine gV (aR bM.eq aI.ty I I c1) ?_|refine gV (aw (v:=ap av (xn:Int)) aI.ty I (eC _)) ?_)
   refine bz [1] [0] alt I I (gh aF.en I I I) (λw hm hb=>ta c xn J g5 w _ hb) I I I ?_;intro _ _;refine zL ?_
   try refine GA ?_
   exact bQ (k+1) J (by show m.first.length-(k+1)<m.first.length-k;omega) (hl:=by rw[hst])
  obtain rfl:k=m.first.length:=by omega
  rw[gD (aX _)];unfold ki;generalize p5 C4.zero m.first=c at*
  repeat(first|refine GA ?_|refine gV (aJ (i:=1) aI.ty I I I) ?_)
  refine fR 0 (cs':=(dX c).toArray) ?_;refine zL ?_
  try refine GA ?_
  exact gT (i:=0) I I I I λw hm=>hm.ret
 ·obtain⟨q,rfl⟩:∃q,n=q+1:=⟨n-1,by omega⟩
  obtain⟨bs,ahp,rfl,aiU⟩:=hrs J;have ahq:=λ(L:List b_)=>gK (L:=L) (f:=dX) (c:=4) (λ_=>rfl) (show Rd w bs ahp ((C4.zero::S).flatMap dX)from aiU) (k:=q+1) (by simp;omega);have UG:S.getD q C4.zero=S[q]' J:=by rw[cH,bL J];rfl
  rw[show ki m S (q+1)=nQ m.ps (S.getD q C4.zero) m.ps.follow.length from I,UG];have ahq:∀(L:List b_) (j:Nat) (u:Value),(dX (S[q]' J))[j]?=ah u->At (w:bV) L ⟨bs,ahp+(q+1)*4+j,aj⟩ u:=λL j u hj=>ahq L j u hj;clear UG aiU hrs hrf Yk;generalize S[q]' J=s at*
  repeat(first|refine GC ?_|refine gV (dc (b:=aE) I I (decide_eq_false J)) ?_|refine gV (aw (v:=ak ao m.ps.follow.length co) aI.ty I (hm _ 3 _ I)) ?_|refine GB ?_)
  refine dZ (ι:=Nat) (λk=>k<=m.ps.follow.length) (λk=>[(0,aH (ah ⟨g,0,aj⟩)),(1,ap av ((q+1:Nat):Int)),(4,aH (ah ⟨g4,0,aj⟩)),(5,aH (ah ⟨g5,0,aj⟩)),(32,ak ao m.ps.follow.length co),(33,ap av m.ps.follow.length),(34,ap av (k:Int))])
   (λk=>[aK g4 (dX C4.zero).toArray 286,aK g5 (dX (nQ m.ps s k)).toArray 286]) (λk=>m.ps.follow.length-k) 0 (bC _) ?_
  intro k hk
  by_cases c1:k<m.ps.follow.length
  ·obtain⟨bo,akA,rfl,_,akB⟩:=hro J
   obtain⟨u,hu,hd⟩:=Fz akB c1;have aho:=λ(L:List b_)=>jE (L:=L) hd (j:=0) (v:=u) I;have hrx:=(hri _ (bX c1)).2;have UG:m.ps.follow.getD k []=m.ps.follow[k]:=by rw[cH,bL c1];rfl
   have hst:nQ m.ps s (k+1)=if s.mem k=aB then p5 (nQ m.ps s k) m.ps.follow[k]else nQ m.ps s k:=by rw[nQ,UG]
   clear UG;obtain⟨au,cu,rfl,_,hmu,Yl⟩:=hu;unfold maxLen at hmu;generalize m.ps.follow[k]=l at*;generalize nQ m.ps s k=c at*
   repeat(first|refine GA ?_|refine gV (aR bM.eq aI.ty I I c1) ?_|refine gV (aw (v:=ak au l.length cu) aI.ty I (aho _)) ?_|refine gV (aw (v:=ak (ah ⟨bs,ahp,aj⟩) (S.length+1) cs) aI.ty I (hm _ 6 _ I)) ?_|refine gV (aR (j:=q+1) bM.eq aI.ty I I J) ?_|refine gV (aW (cs:=dX s) aI.ty I I (ahq _)) ?_)
   have abc:=λw=>s_ s k J w;generalize hb:s.mem k=b at*;refine aT (gh aF.en I I I) (λw hm=>abc w) I I I ?_;intro _ _;refine zL ?_
   by_cases c2:b=aB
   ·subst c2
    rw[if_pos I]at hst
    try refine GA ?_
    refine dZ (ι:=Nat) (λj=>j<=l.length) (λj=>[(0,aH (ah ⟨g,0,aj⟩)),(1,ap av ((q+1:Nat):Int)),(4,aH (ah ⟨g4,0,aj⟩)),(5,aH (ah ⟨g5,0,aj⟩)),(32,ak (ah ⟨bo,akA,aj⟩) m.ps.follow.length co),(33,ap av m.ps.follow.length),(34,ap av (k:Int)),(48,ak au l.length cu),(49,ap av l.length),(50,ap av (j:Int))])
     (λj=>[aK g4 (dX C4.zero).toArray 286,aK g5 (dX (p5 c (l.take j))).toArray 286]) (λj=>l.length-j) 0 (bC _) ?_
    intro j hj
    by_cases c3:j<l.length
    ·have hx:=hrx _ (bX c3)
     have ahr:=Ny c l c3;obtain⟨bf,aeA,rfl,WX⟩:=Yl J;have eC:=λ(L:List b_)=>gK (L:=L) lf WX c3 0 _ I;generalize l[j]=x at*;generalize p5 c (l.take j)=c' at*;obtain⟨xn,rfl⟩:=fJ hx.1;rw[de]at ahr
     repeat(first|refine GA ?_|refine gV (aR bM.eq aI.ty I I c3) ?_|refine gV (aw (v:=ap av (xn:Int)) aI.ty I (eC _)) ?_)
     refine bz [1] [0] alt I I (gh aF.en I I I) (λw hm hb=>ta c' xn J g5 w _ hb) I I I ?_;intro _ _;refine zL ?_
     try refine GA ?_
     exact bQ (j+1) J (by show l.length-(j+1)<l.length-j;omega) (hl:=by rw[ahr])
    obtain rfl:j=l.length:=by omega
    rw[gD (aX _)]
    try refine GA ?_
    exact bQ (k+1) J (by show m.ps.follow.length-(k+1)<m.ps.follow.length-k;omega) (hl:=by rw[hst])
   rw[if_neg c2]at hst;obtain rfl:=BH.2 c2
   try refine GA ?_
   exact bQ (k+1) J (by show m.ps.follow.length-(k+1)<m.ps.follow.length-k;omega) (hl:=by rw[hst])
  obtain rfl:k=m.ps.follow.length:=by omega
  generalize nQ m.ps s m.ps.follow.length=c at*
  repeat(first|refine GA ?_|refine gV (aJ (i:=1) aI.ty I I I) ?_)
  refine fR 0 (cs':=(dX c).toArray) ?_;refine zL ?_
  try refine GA ?_
  exact gT (i:=0) I I I I λw hm=>hm.ret
open cX
theorem aeC:laidOutB aC=true:=by kernel_rfl
theorem setRow:(286:TypeId)<aC.types.size:=of_decide_eq_true (by kernel_rfl)
theorem aeD:(match aC.underlying 286 with|some (.array _ _)|some (.struct _)=>aB|_=>aE)=true:=by kernel_rfl
theorem aeE(x:C4):∃l,keyOf aC 286 (pc x)=ah l:=by
 obtain⟨a,b,c,d⟩:=x;have e1:aC.keyType 286=true:=by kernel_rfl
 have e2:aC.cellsOf 286=4:=by kernel_rfl
 have e3:aC.cellsOf 92=1:=by kernel_rfl
 have e4:∃d,aC.types.size+1=d+2:=⟨aC.types.size-1,by have:0<aC.types.size:=Bm (bC 286) setRow;omega⟩;obtain⟨dd,e4⟩:=e4;have key:∀v:BitVec 64,aC.keyLits (dd+1) 92 [.int .u64 (g_ v)]=ah [.int .u64 (g_ v)]:=λv=>by
  have hw:(Lit.int .u64 (g_ v)).wf=true:=by
   have h0:=agV v;have h1:=agW v;simp[Lit.wf,D5,D6,sx,me,h0,h1]
  simp[uq,Tryz.underlying92,hw]
 have hl:aC.keyLits (dd+2) 286 [.int .u64 (g_ a),.int .u64 (g_ b),.int .u64 (g_ c),.int .u64 (g_ d)]=ah [.int .u64 (g_ a),.int .u64 (g_ b),.int .u64 (g_ c),.int .u64 (g_ d)]:=by
  unfold uq;simp[Tryz.underlying286,e2,e3,aa4,key]
 have hf:(pc ⟨a,b,c,d⟩).formed aC 286=true:=by simp[pc,aa3,Tryz.underlying286,e2]
 unfold keyOf;rw[Tryz.underlying286];refine⟨.string (keyBytes ([.int .u64 (g_ a),.int .u64 (g_ b),.int .u64 (g_ c),.int .u64 (g_ d)])),?_⟩;show(if(aC.keyType 286&&(pc ⟨a,b,c,d⟩).formed aC 286)=aB then(aC.keyLits (aC.types.size+1) 286 [.int .u64 (g_ a),.int .u64 (g_ b),.int .u64 (g_ c),.int .u64 (g_ d)]).map (λls=>aa2 (keyBytes ls))else aj)=_
 rw[e1,hf,e4,hl];rfl
set_option maxRecDepth 100000 in
def RI:yu aC 286 C4 where
 kv:=pc
 ok _:=True
 law:=deep_law_laid aeC (m:=2) J setRow (by kernel_rfl) aeD
 key x _:=aeE x
 inj x y h:=by
  simp only[pc,nS,qc,fL,Fw,true_and,and_true]at h;exact C4.ext' (o_ h.1) (o_ h.2.1) (o_ h.2.2.1) (o_ h.2.2.2)
theorem NI(w:World):(zeroValue 3).run aC w= .ok (ap av 0) w:=by kernel_rfl
def qd(D:List C4)(x:C4):Option Value:=if x∈D then ah (ap av ((idx D x+1:Nat):Int))else aj
theorem RJ{D:List C4}{x:C4}(hn:x∉D):(λy=>if y=x then ah (ap av ((D.length+1:Nat):Int))else qd D y)=qd (D++[x]):=by
 funext y
 unfold qd
 by_cases c:y=x
 ·subst c
  rw[if_pos I,if_pos (by simp)];have:=rQ (D:=D) (k:=y);unfold more at this;rw[if_neg hn,if_neg hn]at this;rw[this]
 rw[if_neg c]
 by_cases c2:y∈D
 rw[if_pos c2,if_pos (uw _ c2),qH c2];rw[if_neg c2,if_neg (by simp[c,c2])]
theorem FC:(λ(_:C4)=>(none:Option Value))=qd []:=by funext y;unfold qd;rw[if_neg (by simp)]
abbrev o8(vs:Value)(S:List C4):b_:=bm 286 4 vs (S.length+1) (RH S)
abbrev tj(gm:Nat)(S:List C4):b_:=fq RI gm (qd S) S.length
def Mg(vc vr vf vfol vl ve rows:Value)(g gm:Nat)(vs vt:Value)(d:DM):List b_:=
 [aK g (Mf vc vr vf vfol vl ve vs (.map (ah gm)) rows vt) 237,o8 vs d.S,tj gm d.S,gB vt d.tags]
def aeF(p:PS)(vc vr vf vfol vl ve rows:Value)(g gm:Nat)(d:DM)(s:C4):Spec (Value×Value):=
 ⟨λ_=>True,λ_=>ap av ((iQ p d s).1:Int),λx=>Mg vc vr vf vfol vl ve rows g gm x.1 x.2 (iQ p d s).2⟩
theorem abd(v:Value)(l:List Int)(x:Int):gB v (l++[x])=bm 3 1 v (l.length+1) (l.map (ap .i64)++[ap av x]):=by
 unfold gB;rw[bT,eK];rfl
theorem I2(S:List C4)(s:C4):RH (S++[s])=RH S++dX s:=by
 unfold RH;rw[<-mg,ie];simp
theorem UH(s:C4):∀u∈dX s,u.oneCell'=true:=by
 intro u h;simp only[dX,dw,fC,or_false]at h;rcases h with rfl|rfl|rfl|rfl<;>rfl
theorem abe(p:PS)(s:C4)(i:Nat):mG p s (i+1)=if s.mem i=aB/\p.last.getD i aE=aB/\(mG p s i<0\/p.rules.getD i 0<mG p s i)then p.rules.getD i 0 else mG p s i:=rfl
theorem abf{S:List C4}{s:C4}{gm:Nat}(hn:s∉S):fq RI gm (λy=>if y=s then ah (ap av ((S.length+1:Nat):Int))else qd S y) (if(qd S s).isSome then S.length else S.length+1)=tj gm (S++[s]):=by
 rw[RJ hn,show qd S s=aj from if_neg hn];unfold tj;rw[bT];rfl
attribute [local irreducible] Op.shift Go.bits in
theorem FD(m:MS)(vc vr vf vfol vl ve rows:Value)(d:DM)(s:C4)(g gm:Nat)(vs vt:Value)(w0:World)(hp:HB w0 (aP #[vc,vr,vf,vfol,vl,ve]) m)(h:KC m)(hd:d.S.length<=100000)(hdt:d.tags.length<=100001)(w:World)(B:bV)(ho:ly w0 B)
 (hm:Mem B (Mg vc vr vf vfol vl ve rows g gm vs vt d) w):
 Calls aC 137 #[aH (ah ⟨g,0,aj⟩),pc s] w (dz (aeF m.ps vc vr vf vfol vl ve rows g gm d s) B):=by
 obtain⟨_,_,_,_,_,_,he,h1,h2,h3,h4,h5,h6⟩:=hp;simp only[nS,qc,fL,and_true]at he;obtain⟨rfl,rfl,rfl,rfl,rfl,rfl⟩:=he;have hmf:=h.Dv;have Qh:=h.ok.ps.rules;have Qs:=h.ok.ps.last;have hmr:=h.rules;clear h h3 h4 h6;obtain⟨ac,cc,rfl,-⟩:=h1;obtain⟨ar,cr,rfl,-,alI,hrr⟩:=h2;obtain⟨al,cl,rfl,-,alJ,IY⟩:=h5;unfold Mg at hm;unfold aeF;obtain⟨S,tags⟩:=d;obtain⟨p,fi,em⟩:=m;dsimp only at*;refine dT hm (args:=[aH (ah ⟨g,0,aj⟩),pc s]) (n:=105) Tryz.func137 I I I ?_;clear hm;refine bZ (bx (bH I I I λg3=>?_));refine zL ?_
 by_cases c1:s∈S
 ·have hst:iQ p ⟨S,tags⟩ s=(idx S s+1,⟨S,tags⟩):=if_pos c1
  have Hx:qd S s=ah (ap av ((idx S s+1:Nat):Int)):=if_pos c1;rw[hst]
  try refine GA ?_
  refine dG ([aK g (Mf (ak ac p.a8.length cc) (ak ar p.rules.length cr) vf vfol (ak al p.last.length cl) ve vs (.map (ah gm)) rows vt) 237,tj gm S,aK g3 (dX s).toArray 286]) (.calm 0 (.calm 1 (.calm 2 (.calm 3 (.calm 4 (.calm 5 (.calm 6 (.calm 7 (.calm 8 (.calm 9 (.calm 10 (.done)))))))))))) (bY [0,2,4]) ?_
  repeat(first|refine GW ?_|(refine GN ?_;first|refine QW (aw (v:= .map (ah gm)) aI.ty I (aD (i:=0) I I)) ?_|refine QW (aJ (i:=2) aI.ty I I I) ?_|refine QW (jQ RI (x:=s) bM.eq NI (i:=1) I I I trivial Hx) ?_))
  try refine GA ?_
  refine dq [0,1,2,3] ?_;exact cV I I λw hm=>hm.cg (S:=⟨λ(_:Value×Value)=>True,λ_=>ap av ((idx S s+1:Nat):Int),λx=>Mg (ak ac p.a8.length cc) (ak ar p.rules.length cr) vf vfol (ak al p.last.length cl) ve rows g gm x.1 x.2 ⟨S,tags⟩⟩) (vs,vt) trivial [0,1,2,3] alt I
 ·have hst:iQ p ⟨S,tags⟩ s=(S.length+1,⟨S++[s],tags++[ph p s]⟩):=if_neg c1
  have Hx:qd S s=none:=if_neg c1;rw[hst];refine mX (i:=1) I gj λfu=>?_;obtain⟨ab,cs,rfl,hmS,-⟩:=fu
  try refine GA ?_
  refine dG ([aK g (Mf (ak ac p.a8.length cc) (ak ar p.rules.length cr) vf vfol (ak al p.last.length cl) ve (ak ab (S.length+1) cs) (.map (ah gm)) rows vt) 237,tj gm S,aK g3 (dX s).toArray 286]) (.calm 0 (.calm 1 (.calm 2 (.calm 3 (.calm 4 (.calm 5 (.calm 6 (.calm 7 (.calm 8 (.calm 9 (.calm 10 (.done)))))))))))) (bY [0,2,4]) ?_
  repeat(first|refine GW ?_|(refine GN ?_;first|refine QW (aw (v:= .map (ah gm)) aI.ty I (aD (i:=0) I I)) ?_|refine QW (aJ (i:=2) aI.ty I I I) ?_|refine QW (jR RI (x:=s) bM.eq NI (i:=1) I I I trivial Hx) ?_))
  try refine GA ?_
  (repeat refine bZ ?_)
  refine ml (ι:=Unit) (λ_=>True) (λ_=>[(0,aH (ah ⟨g,0,aj⟩)),(3,aH (ah ⟨g3,0,aj⟩))]) (λ_=>[aK g (Mf (ak ac p.a8.length cc) (ak ar p.rules.length cr) vf vfol (ak al p.last.length cl) ve (ak ab (S.length+1) cs) (.map (ah gm)) rows vt) 237,o8 (ak ab (S.length+1) cs) S,tj gm (S++[s]),gB vt tags,aK g3 (dX s).toArray 286]) ?_ ?_
  ·refine dG ([aK g (Mf (ak ac p.a8.length cc) (ak ar p.rules.length cr) vf vfol (ak al p.last.length cl) ve (ak ab (S.length+1) cs) (.map (ah gm)) rows vt) 237,aK g3 (dX s).toArray 286]) (.calm 0 (.calm 1 (.calm 2 (.calm 3 (.calm 4 (.calm 5 (.calm 6 (.calm 7 (.calm 8 (.calm 9 (.one 10 (.done)))))))))))) (bY [0,4]) ?_
   repeat(first|refine GW ?_|(refine GN ?_;first|refine QW (aw (v:= .map (ah gm)) aI.ty I (aD (i:=0) I I)) ?_|refine QW (aJ (i:=1) aI.ty I I I) ?_|refine QW (aw (v:=ak ab (S.length+1) cs) aI.ty I (aD (i:=0) I I)) ?_))
   refine aM I (mD RI (i:=2) (x:=s) bM.eq I I I I trivial J (aO (bY [0,4]) ?_))
   try refine GW ?_
   exact eQ () trivial (by repeat' (first|exact cZ|refine cP I ?_)) (by rw[<-abf c1];rfl)
  intro _ _
  (repeat refine bZ ?_)
  refine ml (ι:=Value) (λ_=>True) (λ_=>[(0,aH (ah ⟨g,0,aj⟩)),(3,aH (ah ⟨g3,0,aj⟩))]) (λp6=>[aK g (Mf (ak ac p.a8.length cc) (ak ar p.rules.length cr) vf vfol (ak al p.last.length cl) ve p6 (.map (ah gm)) rows vt) 237,o8 p6 (S++[s]),tj gm (S++[s]),gB vt tags,aK g3 (dX s).toArray 286]) ?_ ?_
  ·refine dG ([aK g3 (dX s).toArray 286]) (.calm 0 (.calm 1 (.calm 2 (.calm 3 (.calm 5 (.two 4 (.one 6 (.one 7 (.calm 8 (.calm 9 (.one 10 (.done)))))) 6 (.one 4 (.one 7 (.calm 8 (.calm 9 (.one 10 (.done)))))))))))) (bY [4]) ?_
   repeat(first|refine GW ?_|(refine GN ?_;first|refine QW (aJ (i:=0) aI.ty I I I) ?_))
   refine e_ I I ?_ ?_
   ·refine dy (aw (v:=ak ab (S.length+1) cs) aI.ty I (aD (i:=0) I I)) I I I (aO (bY [4]) ?_)
    refine aM I (fz (cs:=(dX s).toArray) [pc s] I I I (by intro v hv;simp at hv;subst hv;rfl) I I I λg36=>(aO (bY [4]) ?_));refine aM I (eM (i:=1) (e:=286) (size:=4) (bytes:=32) (m:=S.length+1) (xs:=RH S) (k:=1) (ys:=dX s) I (kT (i:=5) I (λj u h=>by simpa using h) (aX 1) alt) I I I (λu hu=>UH s u hu) J J I λp6=>(aO (bY [4]) ?_))
    try refine GW ?_
    refine aM I (aU (i:=1) I λjm mz=>bD (i:=0) I I I jm mz I (aO (bY [4]) ?_))
    try refine GW ?_
    refine dq [0,1,2,3,4] ?_;exact eQ p6 trivial (by repeat' (first|exact cZ|refine cP I ?_)) (by unfold o8;rw[I2,bT];rfl)
   refine fz (cs:=(dX s).toArray) [pc s] I I I (by intro v hv;simp at hv;subst hv;rfl) I I I λg36=>(aO (bY [4]) ?_);refine aM I (dy (aw (v:=ak ab (S.length+1) cs) aI.ty I (aD (i:=0) I I)) I I I (aO (bY [4]) ?_));refine aM I (eM (i:=1) (e:=286) (size:=4) (bytes:=32) (m:=S.length+1) (xs:=RH S) (k:=1) (ys:=dX s) I (kT (i:=5) I (λj u h=>by simpa using h) (aX 1) alt) I I I (λu hu=>UH s u hu) J J I λp6=>(aO (bY [4]) ?_))
   try refine GW ?_
   refine aM I (aU (i:=1) I λjm mz=>bD (i:=0) I I I jm mz I (aO (bY [4]) ?_))
   try refine GW ?_
   refine dq [0,1,2,3,4] ?_;exact eQ p6 trivial (by repeat' (first|exact cZ|refine cP I ?_)) (by unfold o8;rw[I2,bT];rfl)
  clear hmS;intro p6 _;refine ix (i:=1) I gj λfu=>?_;obtain⟨ab',cs',rfl,hmS,-⟩:=fu
  repeat(first|refine GA ?_|refine gV (aw (v:=ak ac p.a8.length cc) aI.ty I (aD (i:=0) I I)) ?_)
  refine dZ (ι:=Nat×Int) (λ(k,t)=>k<=p.a8.length/\t=mG p s k) (λ(k,t)=>[(0,aH (ah ⟨g,0,aj⟩)),(3,aH (ah ⟨g3,0,aj⟩)),(7,ap av t),(45,ap av p.a8.length),(46,ap av (k:Int))])
   (λ_=>[aK g (Mf (ak ac p.a8.length cc) (ak ar p.rules.length cr) vf vfol (ak al p.last.length cl) ve (ak ab' ((S++[s]).length+1) cs') (.map (ah gm)) rows vt) 237,o8 (ak ab' ((S++[s]).length+1) cs') (S++[s]),tj gm (S++[s]),gB vt tags,aK g3 (dX s).toArray 286]) (λ(k,_)=>p.a8.length-k) (0,-1) ⟨bC _,rfl⟩ ?_
  rintro⟨k,t⟩ ⟨hk,ht⟩;dsimp only at hk ht⊢
  by_cases q1:k<p.a8.length
  ·have hst:=abe p s k
   have hkr:k<p.rules.length:=by omega
   have ZT:k<p.last.length:=by omega
   rw[cH (l:=p.rules),bL hkr,jz,cH (l:=p.last),bL ZT,jz]at hst;obtain⟨br,RF,rfl,aiV⟩:=hrr J;obtain⟨bl,abg,rfl,aiW⟩:=IY J;have ahn:=λ(L:List b_)=>RG (L:=L) lf ho aiV hkr 0 _ I;have akC:=λ(L:List b_)=>RG (L:=L) UF ho aiW ZT 0 _ I;have hr0:=(hmr _ (bX hkr)).1;have abc:=λw=>s_ s k J w;clear aiV aiW hrr IY hmr;generalize p.rules[k]=r at*;generalize p.last[k]=lb at*;generalize s.mem k=b at*;rw[<-ht]at hst;clear ht;have abh:∀(L:List b_),At B L ⟨br,RF+k*1+0,aj⟩ (ap av r):=ahn;have UI:∀(L:List b_),At B L ⟨bl,abg+k*1+0,aj⟩ (.bool lb):=akC
   repeat(first|refine GA ?_|refine gV (aJ (i:=4) aI.ty I I I) ?_)
   refine aT (gh aF.en I I I) (λw hm=>abc w) I I I ?_;intro _ _;refine zL ?_;have skip:∀(_:¬(b=aB/\lb=aB/\(t<0\/r<t))),mG p s (k+1)=t:=λh=>by rw[hst,if_neg h]
   have take:b=aB/\lb=aB/\(t<0\/r<t)->mG p s (k+1)=r:=λh=>by rw[hst,if_pos h]
   clear hst
   by_cases q2:b=aB
   ·subst q2
    by_cases q3:lb=aB
    ·subst q3
     by_cases q4:t<0
     ·have e:=(take ⟨rfl,rfl,.inl q4⟩).symm
      repeat(first|refine GC ?_|refine gV (aw (v:=ak (ah ⟨bl,abg,aj⟩) p.last.length cl) aI.ty I (aD (i:=0) I I)) ?_|refine gV (aR bM.eq aI.ty I I ZT) ?_|refine gV (aw (v:= .bool aB) aI.ty I (UI _)) ?_|refine gV (fI (b:=aB) I I (decide_eq_true q4)) ?_|refine gV (aw (v:=ak (ah ⟨br,RF,aj⟩) p.rules.length cr) aI.ty I (aD (i:=0) I I)) ?_|refine gV (aR bM.eq aI.ty I I hkr) ?_|refine gV (aw (v:=ap av r) aI.ty I (abh _)) ?_|refine GB ?_)
      exact bQ (k+1,r) ⟨by omega,e⟩ (by show p.a8.length-(k+1)<p.a8.length-k;omega)
     by_cases q5:r<t
     ·have e:=(take ⟨rfl,rfl,.inr q5⟩).symm
      repeat(first|refine GC ?_|refine gV (aw (v:=ak (ah ⟨bl,abg,aj⟩) p.last.length cl) aI.ty I (aD (i:=0) I I)) ?_|refine gV (aR bM.eq aI.ty I I ZT) ?_|refine gV (aw (v:= .bool aB) aI.ty I (UI _)) ?_|refine gV (fI (b:=aE) I I (decide_eq_false q4)) ?_|refine gV (aw (v:=ak (ah ⟨br,RF,aj⟩) p.rules.length cr) aI.ty I (aD (i:=0) I I)) ?_|refine gV (aR bM.eq aI.ty I I hkr) ?_|refine gV (aw (v:=ap av r) aI.ty I (abh _)) ?_|refine gV (fI (b:=aB) I I (decide_eq_true q5)) ?_|refine GB ?_)
      exact bQ (k+1,r) ⟨by omega,e⟩ (by show p.a8.length-(k+1)<p.a8.length-k;omega)
     have e:=(skip (λh=>h.2.2.elim q4 q5)).symm
     repeat(first|refine GC ?_|refine gV (aw (v:=ak (ah ⟨bl,abg,aj⟩) p.last.length cl) aI.ty I (aD (i:=0) I I)) ?_|refine gV (aR bM.eq aI.ty I I ZT) ?_|refine gV (aw (v:= .bool aB) aI.ty I (UI _)) ?_|refine gV (fI (b:=aE) I I (decide_eq_false q4)) ?_|refine gV (aw (v:=ak (ah ⟨br,RF,aj⟩) p.rules.length cr) aI.ty I (aD (i:=0) I I)) ?_|refine gV (aR bM.eq aI.ty I I hkr) ?_|refine gV (aw (v:=ap av r) aI.ty I (abh _)) ?_|refine gV (fI (b:=aE) I I (decide_eq_false q5)) ?_|refine GB ?_)
     exact bQ (k+1,t) ⟨by omega,e⟩ (by show p.a8.length-(k+1)<p.a8.length-k;omega)
    have e:=(skip (λh=>q3 h.2.1)).symm;obtain rfl:=BH.2 q3
    repeat(first|refine GA ?_|refine gV (aw (v:=ak (ah ⟨bl,abg,aj⟩) p.last.length cl) aI.ty I (aD (i:=0) I I)) ?_|refine gV (aR bM.eq aI.ty I I ZT) ?_|refine gV (aw (v:= .bool aE) aI.ty I (UI _)) ?_)
    exact bQ (k+1,t) ⟨by omega,e⟩ (by show p.a8.length-(k+1)<p.a8.length-k;omega)
   have e:=(skip (λh=>q2 h.1)).symm;obtain rfl:=BH.2 q2
   try refine GA ?_
   exact bQ (k+1,t) ⟨by omega,e⟩ (by show p.a8.length-(k+1)<p.a8.length-k;omega)
  ·obtain rfl:k=p.a8.length:=by omega
   rw[show ph p s=t from ht.symm]at*
   repeat(first|refine GA ?_|refine gV (aw (v:=vt) aI.ty I (aD (i:=0) I I)) ?_)
   refine kf (i:=3) I I I I I I (λz h=>by cases h;rfl) J J I λz' zi=>?_;refine zL ?_
   try refine GA ?_
   refine aU (i:=3) I λjm mz=>bD (i:=0) I I I jm mz I ?_;refine zL ?_
   repeat(first|refine GC ?_|refine gV (aw (v:=ak ab' ((S++[s]).length+1) cs') aI.ty I (aD (i:=0) I I)) ?_|refine gV (ey (r:=((S.length+1:Nat):Int)) I I (by simp;omega) (by simp;omega) (by simp)) ?_|refine GB ?_)
   refine dq [0,1,2,3] ?_;exact cV I I λw hm=>hm.cg (S:=⟨λ(_:Value×Value)=>True,λ_=>ap av ((S.length+1:Nat):Int),λx=>Mg (ak ac p.a8.length cc) (ak ar p.rules.length cr) vf vfol (ak al p.last.length cl) ve rows g gm x.1 x.2 ⟨S++[s],tags++[t]⟩⟩) (ak ab' ((S++[s]).length+1) cs',zi) trivial [0,1,2,3] alt (by unfold Mg;rw[<-abd];rfl)
  done
end cB
namespace ep
open dg gv
def npl:Re->Nat
 | .byte _=>1
 | .J_ a b=>npl a+npl b
 | .J' a b=>npl a+npl b
 | .star a=>npl a
 |_=>0
inductive UJ(P:List Nat->Prop):List Nat->Prop
 |nil:UJ P []
 |cons {u v:List Nat}:P u->UJ P v->UJ P (u++v)
def Wd:Re->Nat->List Nat->Prop
 | .none,_,_=>False
 | .empty,_,l=>l=[]
 | .byte _,n,l=>l=[n]
 | .J_ a b,n,l=>∃u v,l=u++v/\Wd a n u/\Wd b (n+npl a) v
 | .J' a b,n,l=>Wd a n l\/Wd b (n+npl a) l
 | .star a,n,l=>UJ (Wd a n) l
def Chn(F:Nat->Nat->Prop)(T:Nat->Prop):Nat->List Nat->Prop
 |x,[]=>T x
 |x,y::r=>F x y/\Chn F T y r
theorem Chn.mono{F F':Nat->Nat->Prop}{T T':Nat->Prop}(hF:∀x y,F x y->F' x y)(hT:∀x,T x->T' x):∀{l:List Nat} {x:Nat},Chn F T x l->Chn F' T' x l
 |[],_,h=>hT _ h
 |_::_,_,⟨h,h'⟩=>⟨hF _ _ h,Chn.mono hF hT h'⟩
theorem Chn.Q_{F F':Nat->Nat->Prop}{T T':Nat->Prop}(hF:∀x y,F x y->F' x y){y:Nat}{r:List Nat}(hT:∀x,T x->F' x y)(hr:Chn F' T' y r):∀{l:List Nat} {x:Nat},Chn F T x l->Chn F' T' x (l++y::r)
 |[],_,h=>⟨hT _ h,hr⟩
 |_::_,_,⟨h,h'⟩=>⟨hF _ _ h,Chn.Q_ hF hT hr h'⟩
end ep
namespace dg
def one(x:C4):List C4:=if x=C4.zero then []else [x]
structure NJ(S:List C4)(all:List C4):Prop where
 some:∀x∈all,x≠C4.zero
 apart:all.Pairwise λx y=>x.ZC y=C4.zero
 sum:(all.map cnt).sum=256
 whole:∀n,n<256->∃x∈all,x.mem n=aB
 each:∀c∈S,∀x∈all,x.ZC c=x\/x.ZC c=C4.zero
 told:all.Pairwise λx y=>∃c∈S,decide (x.ZC c=x)≠decide (y.ZC c=y)
theorem abi{x:C4}:x=C4.zero↔∀n,n<256->x.mem n=false:=
 ⟨λh n _=>by rw[h,My],λh=>ext_mem λn hn=>by grind[My]⟩
theorem abj{x:C4}(h:cnt x=0):x=C4.zero:=by
 have:yo x=[]:=mT h;refine abi.2 λn hn=>?_
 cases e:x.mem n with
 |false=>rfl
 |true=>exact absurd (VU.2 ⟨hn,e⟩) (by simp_all)
theorem UK:∀all:List C4,(∀x∈all,x≠C4.zero)->all.length<=(all.map cnt).sum
 |[],_=>aX _
 |x::all,h=>by
  have ih:=UK all λy hy=>h y (by grind);have:cnt x≠0:=λe=>h x (by simp) (abj e);simp only[dj,fm,List.sum_cons];omega
theorem NJ.len{S all:List C4}(h:NJ S all):all.length<=256:=by
 have:=UK all h.some;rw[h.sum]at this;exact this
theorem NJ.more{S S' all:List C4}(h:NJ S all)(h1:∀c,c∈S'->c∈S)(h2:∀c,c∈S->c∈S'):NJ S' all:=
 ⟨h.some,h.apart,h.sum,h.whole,λc hc=>h.each c (h1 c hc),h.told.imp λ⟨c,hc,h⟩=>⟨c,h2 c hc,h⟩⟩
end dg
namespace cB
open Go.RowKit cL dV
theorem C0(v:Value)(l:List Int)(w:World)(hs:Sl w v l.length (l.flatMap cL.eP))(hl:l.length*8<=140737488355328):
 Calls aC 80 #[v] w (cJ (df 3 1 l.length (l.flatMap cL.eP) id) w):=by
 obtain⟨base,cap,rfl,sM,rR,gu⟩:=hs;unfold maxLen at rR;refine enter (args:=[ak base l.length cap]) (n:=8) Tryz.func80 I I I ?_;have ua:∀w',Gr w w'->Sl w' (ak base l.length cap) l.length (l.flatMap cL.eP):=λw' hg=>Sl.gr ⟨base,cap,rfl,sM,rR,gu⟩ hg;clear gu
 cases base with
 | none=>
  repeat(first|refine GC ?_|refine gV (rL bM.eq I I I) ?_|refine GB ?_)
  have h0:l=[]:=by
   cases l with
   |nil=>rfl
   |cons x l=>obtain⟨_,_,h,_,_,h2⟩:=ua w (Gr.refl w);simp only[kq]at h;obtain⟨rfl,_⟩:=h;obtain⟨b,off,h,_⟩:=h2 (by simp);cases h
  subst h0;refine eI 3 1 ?_;exact cV I I λw hm=>hm.meets (S:=df 3 1 0 [] id) _ trivial [0] alt I
 |some p=>
  repeat(first|refine GC ?_|refine gV (rL bM.eq I I I) ?_|refine GB ?_)
  refine Kb I λg=>?_
  try refine GA ?_
  refine eM (i:=0) I (λw' hm=>ua w' hm.below) I I (nD lf l) (Uy l) J J I λv'=>?_;rw[fD]
  try refine GA ?_
  refine cV I I λw hm=>?_;exact hm.meets (S:=df 3 1 l.length (l.flatMap cL.eP) id) v' trivial [0] alt (by simp[df])
open Go.WideElems (Fit findIdx_arr findIdx_born modify_last)
open Go.ChangeMaps Go.MapKept Go.WideShapes
section
variable{P:Program}{k:TypeId}{κ:Type}(K:yu P k κ)
theorem Cs{α:Type}(f:α->α):∀(l:List α) (j:Nat) (a:α),l[j]?=ah a->f a=a->l.modify j f=l
 |[],_,_,h,_=>by simp
 |b::r,0,a,h,hf=>by simp_all
 |b::r,j+1,a,h,hf=>by simp at h;simp[List.modify_succ_cons,Cs f r j a h hf]
def abk(g:Nat)(x:κ)(st:Nat)(z:Value)(f:κ->Value)(b:Nat):b_:=
 ⟨ah g,λ_=>False,λw=>(oP K g z f b).holds w/\∃es clock e0,w.heap[g]?=ah (.map es clock)/\e0∈es.toList/\e0.key=K.kv x/\e0.born=st,
  λw h q hq=>(oP K g z f b).lt w h.1 q hq,
  λw w' ⟨h1,es,clock,e0,h2,h3⟩ hs hk=>⟨(oP K g z f b).stay w w' h1 hs hk,es,clock,e0,(hk g (.inl I)).trans h2,h3⟩⟩
theorem FE{w:World}{g:Nat}{es:Array MapEntry}{c:Nat}(h:w.heap[g]?=ah (.map es c)):setBlock w g (.map es c)=w:=by
 have e:w.heap.setIfInBounds g (.map es c)=w.heap:=by
  grind
 simp_all[setBlock]
variable[DecidableEq κ]
theorem WY{w:World}{t e:TypeId}{g b:Nat}{f:κ->Value}{x:κ}{z:Value}(ht:P.underlying t=ah (.map k e))(hz:∀u:World,(zeroValue e).run P u= .ok z u)(h:(oP K g z f b).holds w)(hx:K.ok x)(hc:b<=1152921504606846976):
 ∃st w1,(Rw t (.map (ah g)) (K.kv x)).run P w= .ok (.tuple #[f x,goInt (st:Nat)]) w1/\w.grownBy w1 (ah g)/\(abk K g x st z f (b+1)).holds w1:=by
 have alp:=Ii K (f:=f) ht hz h hx;obtain⟨l,FF⟩:=K.key x hx;obtain⟨m,n,h1,⟨D,⟨es,clock,hb,F,hs,hD⟩,hi⟩,h3⟩:=id h;rcases K.law.find w FF es.toList F.keys with⟨k1,k2⟩|⟨j,e0,k1,k2,k3⟩
 ·have hfx:f x=z:=by
   have:(KM t (.map (ah g)) (K.kv x) aE).run P w= .ok z w:=by
    simp[KM,run_underlying ht,BI hb,K.law.check w _ FF,k1,hz,mR]
   simp_all
  obtain⟨w',r1,r2,r3⟩:=Ev K (f':=f) (v:=z) ht h hx hc (λy _=>by simp_all);have r1':(A2 t (.map (ah g)) (K.kv x) z).run P w= .ok () (setBlock w g (.map (es.push ⟨K.kv x,z,clock⟩) (clock+1))):=by
   simp[A2,run_underlying ht,BI hb,K.law.check w aE FF,k1,KP _ hb,mR,setBlock]
  have ew:w'=setBlock w g (.map (es.push ⟨K.kv x,z,clock⟩) (clock+1)):=by
   simp_all
  refine⟨clock,w',?_,r3,r2,es.push ⟨K.kv x,z,clock⟩,clock+1,⟨K.kv x,z,clock⟩,?_,by simp,rfl,rfl⟩
  ·rw[ew,hfx]
   simp[Rw,run_underlying ht,BI hb,K.law.check w aE FF,k1,hz,KP _ hb,mR,setBlock]
  grind[heap_setBlock_same]
 ·have hj:es[j]?=ah e0:=by simp_all
  have hfx:f x=e0.val:=by
   have:(KM t (.map (ah g)) (K.kv x) aE).run P w= .ok e0.val w:=by
    simp[KM,run_underlying ht,BI hb,K.law.check w _ FF,k1,mR]
   simp_all
  have uO:es.modify j (λe=>{e with key:=K.kv x})=es:=by
   apply Array.ext';rw[Array.toList_modify];exact Cs _ _ _ _ k2 (by rw[<-k3])
  refine⟨e0.born,w,?_,⟨rfl,rfl,rfl,aX _,λ_ _ _=>rfl⟩,Ij J (λ_ _=>rfl) w h,es,clock,e0,hb,kr k2,k3,rfl⟩;rw[hfx];have:=FE hb;simp[Rw,run_underlying ht,BI hb,K.law.check w aE FF,k1,hj,k3,K.law.stays w FF,uO,KP _ hb,mR];exact this
theorem WZ{w:World}{t e:TypeId}{g b st:Nat}{f f':κ->Value}{x:κ}{z v:Value}(ht:P.underlying t=ah (.map k e))(h:(abk K g x st z f b).holds w)(hx:K.ok x)(hc:b<=1152921504606846976)(hf:∀y,K.ok y->f' y=if y=x then v else f y):
 ∃w',(Rv t (.map (ah g)) (goInt (st:Nat)) v).run P w= .ok () w'/\(oP K g z f' (b+1)).holds w'/\w.grownBy w' (ah g):=by
 obtain⟨h,es',akD,e1,Mn,lz,hk1,Dk⟩:=h;obtain⟨w',r1,r2,r3⟩:=Ev K (f':=f') (v:=v) ht h hx hc hf;refine⟨w',?_,r2,r3⟩;rw[<-r1];obtain⟨l,FF⟩:=K.key x hx;obtain⟨m,n,h1,⟨D,⟨es,clock,hb,F,hs,hD⟩,hi⟩,h3⟩:=h;rw[hb]at Mn;simp only[dM,Obj.map.injEq]at Mn;obtain⟨rfl,rfl⟩:=Mn;obtain⟨s1,s2,s3⟩:=F.stamped;rcases K.law.find w FF es.toList F.keys with⟨k1,k2⟩|⟨j,e0,k1,k2,k3⟩
 simp_all
 ·have hj:es[j]?=ah e0:=by simp_all
  obtain⟨i,qw⟩:=List.getElem?_of_mem lz;have rG:i=j:=by
   have Qv:=(dK.1 qw);have hj2:=(dK.1 k2);obtain⟨li,ei⟩:=Qv;obtain⟨lj,ej⟩:=hj2;refine(List.getElem_inj (h₀:=by grind) (h₁:=by grind) s3).1 ?_;simp only[oR,ei,ej,hk1,k3]
  subst rG;have e01:e1=e0:=by simp_all
  subst e01;subst Dk;have ahs:es.findIdx? (λe=>((e.born:Nat):Int)==((e1.born:Nat):Int))=ah i:=by
   rw[findIdx_arr];exact findIdx_born s2 k2
  have ag5:es.modify i (λe=>{e with val:=v})=es.modify i (λe'=>{e' with key:=K.kv x,val:=v}):=by
   grind
  simp[Rv,A2,run_underlying ht,BI hb,asInt,asIntOf,goInt,ahs,ag5,K.law.check w aE FF,k1,hj,k3,K.law.stays w FF,KP _ hb,mR]
section
variable{W:bV}{fr:Fr}{L:List b_}{Q:Exit->Act->World->Prop}{ops:Array Oper}{rest:List Oper}{n d:Nat}{dst:Option Tmp}{ty:TypeId}{pos:String}{after:Array Edge}{guard:Option (Nat×Bool)}{i g b:Nat}{t e:TypeId}{f:κ->Value}{x:κ}{z:Value}{xm xk xv xs:Operand}
theorem NK(ht:P.underlying t=ah (.map k e))(hz:∀u:World,(zeroValue e).run P u= .ok z u)(hi:L[i]?=ah (oP K g z f b))(hm:ev fr xm=ah (.map (ah g)))(hk:ev fr xk=ah (K.kv x))(hx:K.ok x)(hc:b<=1152921504606846976)(hn:Nat.blt d n=aB)
 (h:∀st:Nat,TL P n W ops Q rest ((d,.tuple #[f x,ap av (st:Int)])::fr) (L.set i (abk K g x st z f (b+1)))):
 TL P n W ops Q (⟨ah d,.mapEntry t xm xk,ty,pos,after,aj⟩::rest) fr L:=kQ I λa w hr hw KK hK=>by
 obtain⟨st,w1,h1,h2,h3⟩:=WY K ht hz (hw.get hi) hx hc;have e1:(execOp a.eval ⟨ah d,.mapEntry t xm xk,ty,pos,after,aj⟩).run P w= .ok (.value (.tuple #[f x,ap av (st:Int)])) w1:=by
  simp[execOp,hr.ev hm,hr.ev hk,h1,goInt,mR]
 unfold gU;rw[e1];exact hK _ _ ((h st).go _ _ (hr.put hn _) (hw.CW hi h2 h3 λq hq=> .inl hq))
theorem I3{st:Nat}{v:Value}(f':κ->Value)(ht:P.underlying t=ah (.map k e))(hi:L[i]?=ah (abk K g x st z f b))(hm:ev fr xm=ah (.map (ah g)))(hs:ev fr xs=ah (ap av (st:Int)))(hv:ev fr xv=ah v)(hx:K.ok x)(hc:b<=1152921504606846976)(hf:∀y,K.ok y->f' y=if y=x then v else f y)
 (h:TL P n W ops Q rest fr (L.set i (oP K g z f' (b+1)))):
 TL P n W ops Q (⟨aj,.entryStore t xm xs xv,ty,pos,after,aj⟩::rest) fr L:=kQ I λa w hr hw KK hK=>by
 obtain⟨w1,h1,h2,h3⟩:=WZ K ht (hw.get hi) hx hc hf;have e1:(execOp a.eval ⟨aj,.entryStore t xm xs xv,ty,pos,after,aj⟩).run P w= .ok .skip w1:=by
  have h1':(Rv t (.map (ah g)) (iV st) v).run P w= .ok () w1:=h1;simp[execOp,hr.ev hm,hr.ev hs,hr.ev hv,h1',mR]
 unfold gU;rw[e1];exact hK _ _ (h.go _ _ (hr.rH undef) (hw.CW hi h3 h2 λq hq=> .inl hq))
omit [DecidableEq κ]in
theorem abl{st:Nat}{v:Value}(ht:P.underlying t=ah (.map k e))(hz:∀w,(zeroValue e).run P w= .ok z w)(hi:L[i]?=ah (abk K g x st z f b))(hm:ev fr xm=ah (.map (ah g)))(hk:ev fr xk=ah (K.kv x))(hx:K.ok x)(hv:f x=v):RR P n W ⟨dst,.lookup t xm xk aE,ty,pos,after,guard⟩ fr L v:=
 Eu K ht hz (λ_ hw=>(hw.get hi).1) hm hk hx hv
end
end
end cB
namespace cB
open Go.RowKit cL dV
theorem C1(v:Value)(l:List Bool)(x:Bool)(w:World)(hs:Sl w v l.length (l.map .bool)):
 Calls aC 64 #[v,.bool x] w (cJ (ret (ap av (tZ (· ==x) l))) w):=by
 obtain⟨base,cap,rfl,sM,rR,gu⟩:=hs;unfold maxLen at rR;refine enter (args:=[ak base l.length cap,.bool x]) (n:=19) Tryz.func64 I I I ?_
 try refine GA ?_
 refine dZ (ι:=Nat) (λk=>k<=l.length/\∀j (hj:j<l.length),j<k->(l[j]==x)=aE) (λk=>[(0,ak base l.length cap),(1,.bool x),(7,ap av l.length),(8,ap av (k:Int))]) (λ_=>[]) (λk=>l.length-k) 0 ⟨by omega,λj hj h=>by omega⟩ ?_;rintro k ⟨h1,h2⟩
 by_cases c2:k<l.length
 ·obtain⟨b,off,rfl,hr⟩:=gu J
  have eC:=Zr (L:=([]:List b_)) hr c2
  by_cases c3:(l[k]==x)=aB
  ·rw[wM c2 c3 h2]
   have e:x=l[k]:=by simpa using(beq_iff_eq.1 c3).symm
   clear h2 gu;subst e
   repeat(first|refine GC ?_|refine gV (bO bM.eq aI.ty I I c2) ?_|refine gV (aw aI.ty I eC) ?_|refine gV (H8 (c:=aB) bM.eq I I (by simp)) ?_|refine GB ?_)
   exact dQ
  have V6:(l[k]==x)=false:=by simpa using c3
  have e:(x==l[k])=false:=by rw[beq_eq_false_iff_ne]at V6⊢;exact λh=>V6 h.symm
  clear gu c3
  repeat(first|refine GC ?_|refine gV (bO bM.eq aI.ty I I c2) ?_|refine gV (aw aI.ty I eC) ?_|refine gV (H8 (c:=aE) bM.eq I I e) ?_|refine GB ?_)
  exact bQ (k+1) ⟨by omega,λj hj h=>if e:j<k then h2 j hj e else(by obtain rfl:j=k:=J;exact V6)⟩ (by show l.length-(k+1)<l.length-k;omega)
 ·rw[wN λj hj=>h2 j hj J]
  clear h2 gu
  try refine GA ?_
  exact dQ
theorem qe(v:Value)(l:List Bool)(x:Bool)(w:World)(hs:Sl w v l.length (l.map .bool)):
 Calls aC 25 #[v,.bool x] w (cJ (ret (.bool (l.any (· ==x)))) w):=by
 refine enter (args:=[v,.bool x]) (n:=9) Tryz.func25 I I I ?_;have hh:=λw' (hg:Gr w w')=>C1 v l x w' (hs.gr hg);have hr:=sJ (· ==x) l
 rw[<-zy (· ==x) l]
 generalize tZ (· ==x) l=r at*
 try refine GA ?_
 refine aT (gh aF.en I I I) (λw hm=>hh _ hm.below) I I I ?_;intro _ _
 repeat(first|refine GC ?_|refine gV (fX I I I) ?_|refine GB ?_)
 exact dQ
open aL dI
inductive nT(F:Nat->Prop)(w:World):List Value->Tree->Prop
 |mk {p k:Int} {kids:List Tree} {base:Option Addr} {cap:Nat} (gY:List (List Value)):cL.dv p->cL.dv k->kids.length<=cap->cap<=maxLen->gY.length=kids.length->
  (∀i (h:i<kids.length) (h':i<gY.length),nT F w gY[i] kids[i])->(0<kids.length->∃b off,base=ah ⟨b,off,aj⟩/\F b/\∀i (_:i<kids.length) (h':i<gY.length),Rd w b (off+i*3) gY[i])->
  nT F w [ap av p,ap av k,ak base kids.length cap] (.mk p k kids)
theorem nT.akE{F:Nat->Prop}{w:World}{cs:List Value}{t:Tree}(h:nT F w cs t):cs.length=3:=by
 cases h;rfl
theorem nT.Kf{F:Nat->Prop}{w w':World}{cs:List Value}{t:Tree}(h:nT F w cs t)(hk:∀k,F k->w'.heap[k]?=w.heap[k]?):nT F w' cs t:=by
 induction h with
 |mk gY h1 h2 h3 h4 h5 h6 h7 ih=>
  refine .mk gY h1 h2 h3 h4 h5 ih λhl=>?_;obtain⟨b,off,e,hF,hr⟩:=h7 hl;exact⟨b,off,e,hF,λi hi qw=>rd_stay (hr i hi qw) (hk b hF)⟩
theorem nT.mono{F F':Nat->Prop}{w:World}{cs:List Value}{t:Tree}(h:nT F w cs t)(hk:∀k,F k->F' k):nT F' w cs t:=by
 induction h with
 |mk gY h1 h2 h3 h4 h5 h6 h7 ih=>
  refine .mk gY h1 h2 h3 h4 h5 ih λhl=>?_;obtain⟨b,off,e,hF,hr⟩:=h7 hl;exact⟨b,off,e,hk b hF,hr⟩
def vJ:yt Tree:=⟨3,nT,λh=>h.akE,λh hk=>h.Kf hk,λh hk=>h.mono hk⟩
def fT(p k:Int)(v:Value):Value:=aP #[ap av p,ap av k,v]
theorem NL{F:Nat->Prop}{w:World}{cs:List Value}{p k:Int}{kids:List Tree}:nT F w cs (.mk p k kids)↔∃v,cs=[ap av p,ap av k,v]/\cL.dv p/\cL.dv k/\jO vJ F w v kids:=by
 constructor
 ·intro h
  cases h with
  |mk gY h1 h2 h3 h4 h5 h6 h7=>
   refine⟨_,rfl,h1,h2,_,_,rfl,h3,h4,λhl=>?_⟩;obtain⟨b,off,e,hF,hr⟩:=h7 hl;exact⟨b,off,e,hF,λi hi=>⟨gY[i]' J,h6 i hi J,hr i hi J⟩⟩
 rintro⟨v,rfl,h1,h2,base,cap,rfl,h3,h4,h5⟩
 by_cases hl:0<kids.length
 ·obtain⟨b,off,e,hF,hr⟩:=h5 hl
  have hlen:(Ec λi:Fin kids.length=>AX (hr i i.2)).length=kids.length:=by simp
  refine .mk (Ec λi:Fin kids.length=>AX (hr i i.2)) h1 h2 h3 h4 hlen (λi hi qw=>?_) λ_=>⟨b,off,e,hF,λi hi qw=>?_⟩;rw[Eb];exact(x9 (hr i hi)).1;rw[Eb];exact(x9 (hr i hi)).2
 have:kids=[]:=mT J;subst this;exact .mk [] h1 h2 h3 h4 I (λi hi=>absurd hi (by simp)) λh=>absurd h (by simp)
theorem aeG{F:Nat->Prop}{w:World}{cs:List Value}{t:Tree}(h:nT F w cs t):∃v,cs=[ap av t.prod,ap av t.tok,v]/\cL.dv t.prod/\cL.dv t.tok/\jO vJ F w v t.kids:=by
 obtain⟨p,k,kids⟩:=t;exact NL.1 h
def xN(F:Nat->Prop)(w:World)(v:Value)(t:Tree):Prop:=∃vk,v=fT t.prod t.tok vk/\cL.dv t.prod/\cL.dv t.tok/\jO vJ F w vk t.kids
theorem xN.gr{w w':World}{v:Value}{t:Tree}(h:xN (λk=>k<w.heap.size) w v t)(hg:Gr w w'):xN (λk=>k<w'.heap.size) w' v t:=
 let ⟨vk,h1,h2,h3,h4⟩:=h;⟨vk,h1,h2,h3,h4.gr hg⟩
theorem abm{F:Nat->Prop}{w:World}{b off:Nat}{l:List Tree}(h:∀i (h:i<l.length),∃cs,vJ.is F w cs l[i]/\Rd w b (off+i*vJ.c) cs){k:Nat}(hk:k<l.length):
 ∃base cap,Rd w b (off+k*3) [ap av l[k].prod,ap av l[k].tok,.slice base l[k].kids.length cap]/\xN F w (fT l[k].prod l[k].tok (.slice base l[k].kids.length cap)) l[k]:=by
 obtain⟨cs,h1,hr⟩:=h k hk;obtain⟨v,rfl,a1,a2,a3⟩:=aeG h1;have a3':=a3;obtain⟨base,cap,rfl,_⟩:=a3';exact⟨base,cap,hr,_,rfl,a1,a2,a3⟩
section
variable{P:Program}{n:Nat}{W:bV}{fr:Fr}{L:List b_}{dst:Option Tmp}{ty:TypeId}{pos:String}{after:Array Edge}{guard:Option (Nat×Bool)}{f:FuncId}{ts:Array TypeId}{cl x1 x2:Operand}{v1 v2:Value}{first cap:Array Value}
theorem akF(hf:Enters P f)(hc:ev fr cl=ah (.func (.func f) first cap))(h1:ev fr x1=ah v1)(h2:ev fr x2=ah v2):∀a w,mK n a fr->(execOp a.eval ⟨dst,.call {callee:= .value cl,args:=#[x1,x2],argTypes:=ts},ty,pos,after,guard⟩).run P w= .ok (.enter f (first++#[v1,v2]++cap)) w:=λa w hr=>by
 have AR:∀args w,(callFunc f args).run P w= .ok (.enter f args) w:=hf;simp[execOp,resolve,hr.ev hc,hr.ev h1,hr.ev h2,py,invoke,AR]
theorem he5{x3 x4 x5:Operand}{v3 v4 v5:Value}(hf:Enters P f)(hc:ev fr cl=ah (.func (.func f) #[] #[]))(h1:ev fr x1=ah v1)(h2:ev fr x2=ah v2)(h3:ev fr x3=ah v3)(h4:ev fr x4=ah v4)(h5:ev fr x5=ah v5):∀a w,mK n a fr->(execOp a.eval ⟨dst,.call {callee:= .value cl,args:=#[x1,x2,x3,x4,x5],argTypes:=ts},ty,pos,after,guard⟩).run P w= .ok (.enter f #[v1,v2,v3,v4,v5]) w:=λa w hr=>by
 have AR:∀args w,(callFunc f args).run P w= .ok (.enter f args) w:=hf;simp[execOp,resolve,hr.ev hc,hr.ev h1,hr.ev h2,hr.ev h3,hr.ev h4,hr.ev h5,py,invoke,AR]
end
def BL(t n:Int)(vp:Value)(nodes leaves:Nat):Array Value:=#[ap av t,ap av n,vp,ap av (nodes:Int),ap av (leaves:Int)]
theorem I4{l:List aL.Prod}{k:Nat}(h:k<l.length):a_ l (k:Int)=l[k]:=by
 unfold a_;rw[de,cH,bL h];rfl
set_option maxRecDepth 100000 in
theorem FH(w0:World)(gw:Nat)(t n:Int)(vp:Value)(az:List aL.Prod)(hG:jO oB (λk=>k<w0.heap.size) w0 vp az)(hlen:az.length<=40):∀(N:Nat) (tr:Tree),size tr<=N->∀(v:Value) (x:bJ) (d nodes leaves:Nat) (w:World) (B:bV),xN (λk=>k<w0.heap.size) w0 v tr->leaves<=nodes->nodes<=1000->d<=101->ly w0 B->Mem B [aK gw (BL t n vp nodes leaves) 207] w->
 Calls aC 78 #[aH (ah ⟨gw,0,aj⟩),v,aP (dr x).toArray,ap av (d:Int)] w (dz ⟨λ(_:Unit)=>True,λ_=>ap av (bU az tr x d nodes leaves).1,λ_=>[aK gw (BL t n vp (bU az tr x d nodes leaves).2.1 (bU az tr x d nodes leaves).2.2) 207]⟩ B)
 |0,tr,h,_,_,_,_,_,_,_,_,_,_,_,_,_=>by have:=size_pos tr;omega
 | N + 1,.mk p k kids,hN,v,x,d,nodes,leaves,w,B,hv,Ia,Ig,hd,ho,hm=>by
  have IH:=FH w0 gw t n vp az hG hlen N;obtain⟨vk,rfl,aht,ZV,Ik⟩:=hv;dsimp only[Tree.prod,Tree.tok,Tree.kids]at aht ZV Ik⊢;obtain⟨bk,ck,rfl,fS,Il,MJ⟩:=Ik;unfold maxLen at Il;obtain⟨q,m⟩:=x;rw[bU];rw[size]at hN;dsimp only;obtain⟨bp,cp,rfl,MV,Cg,mQ⟩:=hG;unfold maxLen at Cg;refine dT hm (args:=[aH (ah ⟨gw,0,aj⟩),fT p k (ak bk kids.length ck),aP (dr (q,m)).toArray,ap av (d:Int)]) (n:=139) Tryz.func78 I I I ?_;clear hm;refine bZ (bx (bH I I I λg5=>bH I I I λg6=>?_));refine zL ?_
  repeat(first|refine GC ?_|refine gV (aw aI.ty I (aD (i:=0) I I)) ?_|refine gV (dN (r:=((nodes+1:Nat):Int)) I I J J J) ?_|refine GB ?_)
  refine bD (i:=0) I I I I I I ?_;rw[show(BL t n (ak bp az.length cp) nodes leaves).setIfInBounds (0+3) (ap av ((nodes+1:Nat):Int))=BL t n (ak bp az.length cp) (nodes+1) leaves from I];refine zL ?_
  by_cases c1:1000<nodes+1
  ·rw[if_pos c1]
   repeat(first|refine GA ?_|refine gV (aw aI.ty I (aD (i:=0) I I)) ?_)
   exact cV I I λw hm=>hm.cg (S:=⟨λ(_:Unit)=>True,λ_=>ap av 2,λ_=>[aK gw (BL t n (ak bp az.length cp) (nodes+1) leaves) 207]⟩) () trivial [0] alt I
  rw[if_neg c1]
  by_cases c2:100<d
  ·rw[if_pos c2]
   repeat(first|refine GA ?_|refine gV (aw aI.ty I (aD (i:=0) I I)) ?_)
   exact cV I I λw hm=>hm.cg (S:=⟨λ(_:Unit)=>True,λ_=>ap av 7,λ_=>[aK gw (BL t n (ak bp az.length cp) (nodes+1) leaves) 207]⟩) () trivial [0] alt I
  rw[if_neg c2]
  by_cases c3:q=1
  ·rw[if_pos c3]
   repeat(first|refine GA ?_|refine gV (aw aI.ty I (aD (i:=0) I I)) ?_|refine gV (aw aI.ty I (aD (i:=2) I I)) ?_)
   have hcs:(p≠ -1)\/(p= -1/\k≠(leaves:Int))\/(p= -1/\k=(leaves:Int)/\0<kids.length)\/(p= -1/\k=(leaves:Int)/\kids.length=0):=by omega
   rcases hcs with h|h|h|h
   ·rw[if_pos h]
    refine dG ([aK gw (BL t n (ak bp az.length cp) (nodes+1) leaves) 207,aK g5 (fT p k (ak bk kids.length ck)).cells 52,aK g6 (dr (q,m)).toArray 123]) (.calm 0 (.calm 1 (.calm 2 (.calm 3 (.calm 4 (.calm 5 (.calm 6 (.calm 7 (.calm 8 (.calm 9 (.calm 10 (.calm 11 (.calm 12 (.calm 13 (.calm 14 (.calm 15 (.calm 16 (.calm 17 (.done))))))))))))))))))) (λ_ h=>h) ?_
    repeat(first|refine GW ?_|(refine GN ?_;first|refine QW (aw aI.ty I (aD (i:=0) I I)) ?_|refine QW (aw aI.ty I (aD (i:=1) I I)) ?_))
    try refine GA ?_
    exact cV I I λw hm=>hm.cg (S:=⟨λ(_:Unit)=>True,λ_=>ap av 4,λ_=>[aK gw (BL t n (ak bp az.length cp) (nodes+1) leaves) 207]⟩) () trivial [0] alt I
   ·rw[if_neg (by simpa using h.1),if_pos h.2]
    refine dG ([aK gw (BL t n (ak bp az.length cp) (nodes+1) leaves) 207,aK g5 (fT p k (ak bk kids.length ck)).cells 52,aK g6 (dr (q,m)).toArray 123]) (.calm 0 (.calm 1 (.calm 2 (.calm 3 (.calm 4 (.calm 5 (.calm 6 (.calm 7 (.calm 8 (.calm 9 (.calm 10 (.calm 11 (.calm 12 (.calm 13 (.calm 14 (.calm 15 (.calm 16 (.calm 17 (.done))))))))))))))))))) (λ_ h=>h) ?_
    repeat(first|refine GW ?_|(refine GN ?_;first|refine QW (aw aI.ty I (aD (i:=0) I I)) ?_|refine QW (aw aI.ty I (aD (i:=1) I I)) ?_))
    try refine GA ?_
    exact cV I I λw hm=>hm.cg (S:=⟨λ(_:Unit)=>True,λ_=>ap av 4,λ_=>[aK gw (BL t n (ak bp az.length cp) (nodes+1) leaves) 207]⟩) () trivial [0] alt I
   ·rw[if_neg (by simpa using h.1),if_neg (by simpa using h.2.1),if_pos h.2.2]
    refine dG ([aK gw (BL t n (ak bp az.length cp) (nodes+1) leaves) 207,aK g5 (fT p k (ak bk kids.length ck)).cells 52,aK g6 (dr (q,m)).toArray 123]) (.calm 0 (.calm 1 (.calm 2 (.calm 3 (.calm 4 (.calm 5 (.calm 6 (.calm 7 (.calm 8 (.calm 9 (.calm 10 (.calm 11 (.calm 12 (.calm 13 (.calm 14 (.calm 15 (.calm 16 (.calm 17 (.done))))))))))))))))))) (λ_ h=>h) ?_
    repeat(first|refine GW ?_|(refine GN ?_;first|refine QW (aw aI.ty I (aD (i:=0) I I)) ?_|refine QW (aw aI.ty I (aD (i:=1) I I)) ?_))
    try refine GA ?_
    exact cV I I λw hm=>hm.cg (S:=⟨λ(_:Unit)=>True,λ_=>ap av 4,λ_=>[aK gw (BL t n (ak bp az.length cp) (nodes+1) leaves) 207]⟩) () trivial [0] alt I
   rw[if_neg (by simpa using h.1),if_neg (by simpa using h.2.1),if_neg J];refine dG ([aK gw (BL t n (ak bp az.length cp) (nodes+1) leaves) 207,aK g5 (fT p k (ak bk kids.length ck)).cells 52,aK g6 (dr (q,m)).toArray 123]) (.calm 0 (.calm 1 (.calm 2 (.calm 3 (.calm 4 (.calm 5 (.calm 6 (.calm 7 (.calm 8 (.calm 9 (.calm 10 (.calm 11 (.calm 12 (.calm 13 (.calm 14 (.calm 15 (.calm 16 (.calm 17 (.done))))))))))))))))))) (λ_ h=>h) ?_
   repeat(first|refine GW ?_|(refine GN ?_;first|refine QW (aw aI.ty I (aD (i:=0) I I)) ?_|refine QW (aw aI.ty I (aD (i:=1) I I)) ?_))
   repeat(first|refine GC ?_|refine gV (aw aI.ty I (aD (i:=0) I I)) ?_|refine gV (dN (r:=((leaves+1:Nat):Int)) I I J J J) ?_|refine GB ?_)
   refine bD (i:=0) I I I I I I ?_;rw[show(BL t n (ak bp az.length cp) (nodes+1) leaves).setIfInBounds (0+4) (ap av ((leaves+1:Nat):Int))=BL t n (ak bp az.length cp) (nodes+1) (leaves+1)from I];refine zL ?_
   try refine GA ?_
   exact cV I I λw hm=>hm.cg (S:=⟨λ(_:Unit)=>True,λ_=>ap av 0,λ_=>[aK gw (BL t n (ak bp az.length cp) (nodes+1) (leaves+1)) 207]⟩) () trivial [0] alt I
  rw[if_neg c3]
  repeat(first|refine GA ?_|refine gV (aw aI.ty I (aD (i:=0) I I)) ?_|refine gV (aw aI.ty I (aD (i:=2) I I)) ?_)
  refine dG ([aK gw (BL t n (ak bp az.length cp) (nodes+1) leaves) 207,aK g5 (fT p k (ak bk kids.length ck)).cells 52,aK g6 (dr (q,m)).toArray 123]) (.calm 0 (.calm 1 (.calm 2 (.calm 3 (.calm 4 (.calm 5 (.calm 6 (.calm 7 (.calm 8 (.calm 9 (.calm 10 (.calm 11 (.calm 12 (.calm 13 (.calm 14 (.calm 15 (.calm 16 (.calm 17 (.calm 18 (.calm 19 (.calm 20 (.calm 21 (.calm 22 (.calm 23 (.calm 24 (.calm 25 (.calm 26 (.calm 27 (.calm 28 (.calm 29 (.calm 30 (.calm 31 (.calm 32 (.calm 33 (.calm 34 (.calm 35 (.calm 36 (.calm 37 (.calm 38 (.calm 39 (.calm 40 (.calm 41 (.calm 42 (.calm 43 (.calm 44 (.calm 45 (.calm 46 (.calm 47 (.calm 48 (.calm 49 (.calm 50 (.calm 51 (.done))))))))))))))))))))))))))))))))))))))))))))))))))))) (λ_ h=>h) ?_
  by_cases h1:p<0
  ·rw[if_pos h1]
   repeat(first|refine GW ?_|(refine GN ?_;first|refine QW (aw aI.ty I (aD (i:=0) I I)) ?_|refine QW (aw aI.ty I (aD (i:=1) I I)) ?_|refine QW (aw aI.ty I (aD (i:=2) I I)) ?_))
   try refine GA ?_
   exact cV I I λw hm=>hm.cg (S:=⟨λ(_:Unit)=>True,λ_=>ap av 4,λ_=>[aK gw (BL t n (ak bp az.length cp) (nodes+1) leaves) 207]⟩) () trivial [0] alt I
  rw[if_neg h1]
  by_cases h2:(az.length:Int)<=p
  ·rw[if_pos h2]
   repeat(first|refine GW ?_|(refine GN ?_;first|refine QW (aw aI.ty I (aD (i:=0) I I)) ?_|refine QW (aw aI.ty I (aD (i:=1) I I)) ?_|refine QW (aw aI.ty I (aD (i:=2) I I)) ?_))
   try refine GA ?_
   exact cV I I λw hm=>hm.cg (S:=⟨λ(_:Unit)=>True,λ_=>ap av 4,λ_=>[aK gw (BL t n (ak bp az.length cp) (nodes+1) leaves) 207]⟩) () trivial [0] alt I
  rw[if_neg h2];obtain⟨pn,rfl⟩:∃pn:Nat,p=pn:=⟨p.toNat,by omega⟩;have c6:pn<az.length:=by omega
  obtain⟨b,off,rfl,_,hr⟩:=mQ J;obtain⟨bb,cb,q1,q2,q3⟩:=jp hr c6;rw[I4 c6];have eC:∀(L:List b_) (j:Nat) (v:Value),([ap av az[pn].1,.slice bb az[pn].2.length cb]:List Value)[j]?=ah v->At B L ⟨b,off+pn*2+j,aj⟩ v:=λL j v hj=>eY ho (q1 j v hj);have tU:=q3.flat alt;clear hr mQ q1 q3 q2;generalize az[pn]=pd at*;obtain⟨hd,body⟩:=pd;dsimp only at*;have BM:=λL=>eC L 0 _ I;have pj:=λL=>eC L 1 _ I;clear eC;obtain⟨b2,cb2,he,hb4,Yi,Yo⟩:=tU;simp only[kq,true_and]at he;obtain⟨rfl,rfl⟩:=he;unfold maxLen at Yi
  repeat(first|refine GW ?_|(refine GN ?_;first|refine QW (aw aI.ty I (aD (i:=0) I I)) ?_|refine QW (aw aI.ty I (aD (i:=1) I I)) ?_|refine QW (aw aI.ty I (aD (i:=2) I I)) ?_|refine QW (aR bM.eq aI.ty I I c6) ?_|refine QW (aw aI.ty I (BM _)) ?_|refine QW (aw aI.ty I (pj _)) ?_))
  by_cases h3:hd≠m
  ·rw[if_pos h3]
   repeat(first|refine GW ?_|(refine GN ?_;first|refine QW (aw aI.ty I (aD (i:=0) I I)) ?_|refine QW (aw aI.ty I (aD (i:=1) I I)) ?_|refine QW (aw aI.ty I (aD (i:=2) I I)) ?_|refine QW (aR bM.eq aI.ty I I c6) ?_|refine QW (aw aI.ty I (BM _)) ?_|refine QW (aw aI.ty I (pj _)) ?_))
   try refine GA ?_
   exact cV I I λw hm=>hm.cg (S:=⟨λ(_:Unit)=>True,λ_=>ap av 4,λ_=>[aK gw (BL t n (ak (ah ⟨b,off,aj⟩) az.length cp) (nodes+1) leaves) 207]⟩) () trivial [0] alt I
  rw[if_neg h3]
  by_cases h4:k≠0
  ·rw[if_pos h4]
   repeat(first|refine GW ?_|(refine GN ?_;first|refine QW (aw aI.ty I (aD (i:=0) I I)) ?_|refine QW (aw aI.ty I (aD (i:=1) I I)) ?_|refine QW (aw aI.ty I (aD (i:=2) I I)) ?_|refine QW (aR bM.eq aI.ty I I c6) ?_|refine QW (aw aI.ty I (BM _)) ?_|refine QW (aw aI.ty I (pj _)) ?_))
   try refine GA ?_
   exact cV I I λw hm=>hm.cg (S:=⟨λ(_:Unit)=>True,λ_=>ap av 4,λ_=>[aK gw (BL t n (ak (ah ⟨b,off,aj⟩) az.length cp) (nodes+1) leaves) 207]⟩) () trivial [0] alt I
  rw[if_neg h4]
  by_cases h5:kids.length≠body.length
  ·rw[if_pos h5]
   repeat(first|refine GW ?_|(refine GN ?_;first|refine QW (aw aI.ty I (aD (i:=0) I I)) ?_|refine QW (aw aI.ty I (aD (i:=1) I I)) ?_|refine QW (aw aI.ty I (aD (i:=2) I I)) ?_|refine QW (aR bM.eq aI.ty I I c6) ?_|refine QW (aw aI.ty I (BM _)) ?_|refine QW (aw aI.ty I (pj _)) ?_))
   try refine GA ?_
   exact cV I I λw hm=>hm.cg (S:=⟨λ(_:Unit)=>True,λ_=>ap av 4,λ_=>[aK gw (BL t n (ak (ah ⟨b,off,aj⟩) az.length cp) (nodes+1) leaves) 207]⟩) () trivial [0] alt I
  rw[if_neg h5];have h3:hd=m:=by simpa using h3
  have h4:k=0:=by simpa using h4
  have h5:kids.length=body.length:=by simpa using h5
  repeat(first|refine GW ?_|(refine GN ?_;first|refine QW (aw aI.ty I (aD (i:=0) I I)) ?_|refine QW (aw aI.ty I (aD (i:=1) I I)) ?_|refine QW (aw aI.ty I (aD (i:=2) I I)) ?_|refine QW (aR bM.eq aI.ty I I c6) ?_|refine QW (aw aI.ty I (BM _)) ?_|refine QW (aw aI.ty I (pj _)) ?_))
  repeat(first|refine GA ?_|refine gV (aw aI.ty I (aD (i:=1) I I)) ?_)
  subst h3 h4;have Hl:=λ(tr:Tree) (x:bJ) (a b c:Nat) h h2=>MX (l:=az) (t:=tr) (x:=x) (d:=a) (n:=b) (v:=c) h h2;generalize mV:xJ az kids body (d+1) (nodes+1) leaves=res;refine tY [0,1] ?_;refine dZ (ι:=Nat×Nat×Nat) (λ(i,a,b)=>i<=kids.length/\b<=a/\a<=1000/\xJ az (kids.drop i) (body.drop i) (d+1) a b=res) (λ(i,_,_)=>[(0,aH (ah ⟨gw,0,aj⟩)),(3,ap av (d:Int)),(5,aH (ah ⟨g5,0,aj⟩)),(110,ak bk kids.length ck),(111,ap av kids.length),(112,ap av (i:Int))])
   (λ(_,a,b')=>[aK gw (BL t n (ak (ah ⟨b,off,aj⟩) az.length cp) a b') 207,aK g5 (fT (pn:Int) 0 (ak bk kids.length ck)).cells 52]) (λ(i,_,_)=>kids.length-i) (0,nodes+1,leaves) ⟨bC _,by omega,by omega,mV⟩ ?_
  clear mV;rintro⟨i,a,b'⟩ ⟨i1,i2,i3,i4⟩;dsimp only at i1 i2 i3 i4⊢
  by_cases c7:i<kids.length
  ·obtain⟨bk2,abn,rfl,_,abo⟩:=MJ J
   obtain⟨kb,kc,r1,r2⟩:=abm abo c7;have c8:i<body.length:=by omega
   obtain⟨b3,HD,rfl,xG⟩:=Yo J;rw[dL c7,dL c8,xJ]at i4;have ahu:∀(L:List b_) (j:Nat) (v:Value),([ap av kids[i].prod,ap av kids[i].tok,.slice kb kids[i].kids.length kc]:List Value)[j]?=ah v->At B L ⟨bk2,abn+i*3+j,aj⟩ v:=λL j v hj=>eY ho (r1 j v hj);have C2:=λL=>pI (W:=B) (L:=L) kh (λq x hq=>eY ho (xG q x hq)) c8;have ahv:size kids[i]<=N:=by have:=EP kids i c7;omega
   have Yp:=IH kids[i] ahv;clear MJ abo Yo xG r1 IH;generalize kids[i]=kt at*;generalize body[i]=y at*;have Yp:=Yp (fT kt.prod kt.tok (ak kb kt.kids.length kc)) y (d+1) a b';have hbk:=λh=>Hl kt y (d+1) a b' h i2;generalize bU az kt y (d+1) a b'=r at*;obtain⟨e,a2,b2'⟩:=r;dsimp only at*;obtain⟨kp,kk,kk2⟩:=kt;dsimp only[Tree.prod,Tree.tok,Tree.kids]at*;obtain⟨yq,ym⟩:=y
   repeat(first|refine GA ?_|refine gV (aR bM.eq aI.ty I I c7) ?_|refine gV (aW aI.ty I I (ahu _)) ?_)
   refine aY I λg10=>?_
   try refine GA ?_
   refine fR 2 ?_;refine zL ?_
   try refine GA ?_
   refine dG ([aK g5 (fT (pn:Int) 0 (ak (ah ⟨bk2,abn,aj⟩) kids.length ck)).cells 52,aK g10 #[ap av kp,ap av kk,ak kb kk2.length kc] 52]) (.calm 0 (.calm 1 (.calm 2 (.calm 3 (.calm 4 (.calm 5 (.calm 7 (.calm 8 (.calm 12 (.calm 15 (.calm 16 (.one 6 (.calm 9 (.calm 10 (.calm 11 (.calm 13 (.calm 14 (.one 17 (.calm 18 (.done)))))))))))))))))))) (bY [1,2]) ?_
   repeat(first|(refine GN ?_;first|refine QW QP ?_|refine QW (aJ (i:=1) aI.ty I I I) ?_|refine QW (aw aI.ty I (aD (i:=0) I I)) ?_|refine QW (dN (r:=((d+1:Nat):Int)) I I J J J) ?_|refine GX ?_)|refine GW ?_)
   refine aM I (dy (aw aI.ty I (aD (i:=0) I I)) I I I (aO (bY [1,2]) ?_))
   repeat(first|refine GW ?_|(refine GN ?_;first|refine QW (aR bM.eq aI.ty I I c6) ?_|refine QW (aw aI.ty I (pj _)) ?_|refine QW (aR bM.eq aI.ty I I c8) ?_|refine QW (aW aI.ty I I (C2 _)) ?_))
   refine aM I ?_;refine bz [0] [1,2] alt I I (Bc aF.en I I I I I) (λw hm hb=>Yp w _ r2 i2 i3 J (ho.on hm (by intro o ho;simp at ho⊢;simp[ho])) hb) I I I ?_;intro _ _;refine zL ?_;refine aO (bY [0,1]) ?_
   try refine GW ?_
   by_cases c9:e=0
   ·rw[if_neg (by simpa using c9)]at i4
    obtain⟨y1,y2⟩:=hbk c9
    try refine GA ?_
    refine dq [2,0] ?_;exact bQ (i+1,a2,b2') ⟨by omega,y2,y1,i4⟩ (by show kids.length-(i+1)<kids.length-i;omega)
   rw[if_pos c9]at i4;subst i4
   try refine GA ?_
   exact cV I I λw hm=>hm.cg (S:=⟨λ(_:Unit)=>True,λ_=>ap av e,λ_=>[aK gw (BL t n (ak (ah ⟨b,off,aj⟩) az.length cp) a2 b2') 207]⟩) () trivial [2] alt I
  rw[ia J,xJ]at i4;subst i4
  try refine GA ?_
  exact cV I I λw hm=>hm.cg (S:=⟨λ(_:Unit)=>True,λ_=>ap av 0,λ_=>[aK gw (BL t n (ak (ah ⟨b,off,aj⟩) az.length cp) a b') 207]⟩) () trivial [0] alt I
theorem abp(t n:Int)(b:Option Addr)(m c:Nat)(w:World):(da 207 #[(0,du t n (ak b m c))]).run aC w= .ok (.agg (BL t n (ak b m c) 0 0)) w:=by
 unfold du BL
 go_simp
theorem FI(w:World):(da 123 #[(0,ap av 2)]).run aC w= .ok (aP (dr (2,0)).toArray) w:=by
 unfold dr
 go_simp
attribute [local irreducible] Instr.build in
theorem tV(v vt:Value)(g:dD)(tr:Tree)(w:World)(h:jS (λk=>k<w.heap.size) w v g)(ht:xN (λk=>k<w.heap.size) w vt tr):
 Calls aC 35 #[v,vt] w (cJ (ret (ap av (nH g tr))) w):=by
 have fS:=λw' (hg:Gr w w')=>im v g w' (h.gr hg);obtain⟨vp,rfl,h1,_⟩:=h;have ht0:=ht;obtain⟨vk,rfl,_,_,hk4⟩:=ht;obtain⟨bk,ck,rfl,_⟩:=hk4
 by_cases c0:cI g=0
 ·obtain⟨_,_,_,_,hlen,_⟩:=cz c0
  rw[c0]at fS;have e:nH g tr=(bU g.az tr (2,0) 1 0 0).1:=by unfold nH;rw[if_neg (by simpa using c0)]
  rw[e];obtain⟨t,n,az⟩:=g;dsimp only at*;have hn:=λgw w' B ho hm=>FH w gw t n vp az h1 hlen (size tr) tr (aX _) _ (2,0) 1 0 0 w' B ht0 (aX _) J J ho hm;obtain⟨bp,cp,rfl,_⟩:=h1;refine enter (args:=[du t n (ak bp az.length cp),fT tr.prod tr.tok (ak bk tr.kids.length ck)]) (n:=19) Tryz.func35 I I I ?_;refine bZ (bx (bH I I I λg2=>bH I I I λg3=>?_));refine zL ?_
  repeat(first|refine GA ?_|refine gV (aJ (i:=0) aI.ty I I I) ?_)
  refine aT (lz aF.en I I) (λw hm=>fS _ hm.below) I I I ?_;intro _ _;refine zL ?_
  repeat(first|refine GA ?_|refine gV (aJ (i:=0) aI.ty I I I) ?_|refine gV (aZ I (abp _ _ _ _ _)) ?_)
  refine bH I I I λg14=>?_;refine zL ?_
  repeat(first|refine GA ?_|refine gV (aJ (i:=1) aI.ty I I I) ?_|refine gV (aZ I FI) ?_)
  refine bz [2] [0,1] alt I I (Bc aF.en I I I I I) (λw' hm hb=>hn g14 w' _ ((ly.self w).on hm (by intro o ho;simp at ho⊢;simp[ho])) hb) I I I ?_;intro _ _;refine zL ?_
  try refine GA ?_
  exact dQ
 ·have e:nH g tr=cI g:=by unfold nH;rw[if_pos c0]
  rw[e];generalize cI g=c at*;obtain⟨t,n,az⟩:=g;dsimp only at*;refine enter (args:=[du t n vp,fT tr.prod tr.tok (ak bk tr.kids.length ck)]) (n:=19) Tryz.func35 I I I ?_;refine bZ (bx (bH I I I λg2=>bH I I I λg3=>?_));refine zL ?_
  repeat(first|refine GA ?_|refine gV (aJ (i:=0) aI.ty I I I) ?_)
  refine aT (lz aF.en I I) (λw hm=>fS _ hm.below) I I I ?_;intro _ _
  try refine GA ?_
  exact dQ
theorem I5{l:List aL.Prod}:∀{ks:List Tree} {b:List bJ} {v:Nat},b9 l ks b v->∀(i:Nat) (h:i<ks.length) (h':i<b.length),∃u,dm l ks[i] b[i] u
 |[],_,_,_,i,h,_=>by simp at h
 |_::_,[],_,_,i,_,h=>by simp at h
 |k::r,y::b,v,hr,0,_,_=>by rw[b9]at hr;exact⟨v,hr.1⟩
 |k::r,y::b,v,hr,i+1,h,h'=>by
  rw[b9]at hr;exact I5 hr.2 i (by simpa using h) (by simpa using h')
theorem HE(p:Int)(O:Value->List b_)(z:Value)(w:World)(B:bV)(hm:Mem B (O z) w):Calls aC 42 #[ap av p] w (dz ⟨λ(_:Value)=>True,λ_=> .tuple #[],λz'=>O z'⟩ B):=by
 refine dT hm (args:=[ap av p]) (n:=2) Tryz.func42 I I I ?_
 repeat(first|refine Zh ?_)
 exact oO I λw hm=>⟨z,trivial,rfl,hm⟩
theorem yS{l:List aL.Prod}{t:Tree}{u:Nat}(h:dm l t (2,0) u):0<=t.prod:=by
 obtain⟨p,k,kids⟩:=t;rw[dm]at h;rcases h with⟨h,_⟩|⟨_,h,_⟩
 cases h
 exact h
def nv(F:Nat->Prop)(v:Value)(l:List Tree):b_:=aiN (cO vJ) F [v] l
theorem FJ{F:Nat->Prop}{v:Value}{t:Tree}{w:World}(h1:cL.dv t.prod)(h2:cL.dv t.tok)(h:(nv F v t.kids).holds w):xN (λk=>k<w.heap.size) w (fT t.prod t.tok v) t:=by
 obtain⟨⟨v',hv,h3⟩,h4⟩:=h;simp only[fL,and_true]at hv;subst hv;exact⟨v,rfl,h1,h2,h3.mono h4⟩
theorem BN{F:Nat->Prop}{v:Value}{l:List Tree}{w:World}(h:(nv F v l).holds w):v.oneCell'=aB/\v.cells=#[v]:=by
 obtain⟨⟨v',hv,h3⟩,h4⟩:=h;simp only[fL,and_true]at hv;subst hv;obtain⟨b,c,rfl,_⟩:=h3;exact⟨rfl,rfl⟩
theorem lF(w:World):(nv (λ_=>False) (ak aj 0 0) []).holds w:=⟨⟨_,rfl,jO.nil⟩,λk h=>h.elim⟩
theorem akG:cL.dv (-1):=⟨by decide,by decide⟩
theorem RL:cL.dv 0:=⟨by decide,by decide⟩
theorem NM(p k:Int)(w:World):(da 52 #[(0,ap av p),(1,ap av k)]).run aC w= .ok (fT p k (ak aj 0 0)) w:=by
 unfold fT;go_simp
open dA
def gZ(n:Nat):Value:= .int .u64 (n:Int)
theorem DA{l:List Bool}{i:Nat}(hi:i<l.length):(l.map fW)[i]?=ah (.bool (l.getD i aE)):=by
 simp[hi]
theorem KR{l:List Nat}{i:Nat}(hi:i<l.length):(l.map gZ)[i]?=ah (gZ (l.getD i 0)):=by
 simp[hi]
theorem RM(g cap:Nat)(l:List Bool)(i:Nat)(b:Bool)(w:World)(B:bV)(hi:i<l.length)(hm:Mem B [bm 4 1 (ak (ah ⟨g,0,aj⟩) l.length cap) l.length (l.map .bool)] w):
 Calls aC 104 #[ak (ah ⟨g,0,aj⟩) l.length cap,ap av (i:Int),.bool b] w (dz ⟨λ(_:Unit)=>True,λ_=> .bool (fw l i b).2,λ_=>[bm 4 1 (ak (ah ⟨g,0,aj⟩) l.length cap) l.length ((fw l i b).1.map .bool)]⟩ B):=by
 have hb:=DA hi;refine dT hm (args:=[ak (ah ⟨g,0,aj⟩) l.length cap,ap av (i:Int),.bool b]) (n:=18) Tryz.func104 I I I ?_;unfold fw
 cases b
 ·rw[if_neg (by simp)]
  try refine GA ?_
  exact cV I I λw hm=>hm.cg (S:=⟨λ(_:Unit)=>True,λ_=> .bool aE,λ_=>[bm 4 1 (ak (ah ⟨g,0,aj⟩) l.length cap) l.length (l.map .bool)]⟩) () trivial [0] alt I
 ·generalize hx:l.getD i aE=x at*
  cases x
  ·rw[if_pos ⟨rfl,rfl⟩]
   repeat(first|refine GA ?_|refine gV (bO bM.eq aI.ty I I hi) ?_|refine gV (aw aI.ty I (kx (i:=0) I (by rw[cU];exact hb))) ?_)
   refine kR (i:=0) aI.ty I I I I I I (by simpa using hi) ?_
   try refine GA ?_
   exact cV I I λw hm=>hm.cg (S:=⟨λ(_:Unit)=>True,λ_=> .bool aB,λ_=>[bm 4 1 (ak (ah ⟨g,0,aj⟩) l.length cap) l.length ((l.set i aB).map .bool)]⟩) () trivial [0] alt (by simp[uQ])
  rw[if_neg (by simp)]
  repeat(first|refine GA ?_|refine gV (bO bM.eq aI.ty I I hi) ?_|refine gV (aw aI.ty I (kx (i:=0) I (by rw[cU];exact hb))) ?_)
  exact cV I I λw hm=>hm.cg (S:=⟨λ(_:Unit)=>True,λ_=> .bool aE,λ_=>[bm 4 1 (ak (ah ⟨g,0,aj⟩) l.length cap) l.length (l.map .bool)]⟩) () trivial [0] alt I
theorem yT(v vb:Value)(l:List Bool)(body:List bJ)(aQ:Bool)(w:World)(hs:Sl w v l.length (l.map .bool))(hs2:Sl w vb body.length (body.flatMap dr))(mP:∀x∈body,x.1=2->0<=x.2/\x.2<l.length):
 Calls aC 105 #[v,vb,.bool aQ] w (cJ (ret (.bool (kz l body aQ))) w):=by
 obtain⟨bv,cv,rfl,h1,h2,h3⟩:=hs;obtain⟨bb,cb,rfl,h4,h5,h6⟩:=hs2;unfold maxLen at h2 h5;refine enter (args:=[ak bv l.length cv,ak bb body.length cb,.bool aQ]) (n:=36) Tryz.func105 I I I ?_
 try refine GA ?_
 refine dZ (ι:=Nat) (λk=>k<=body.length/\kz l body aQ=kz l (body.drop k) aQ) (λk=>[(0,ak bv l.length cv),(2,.bool aQ),(9,ak bb body.length cb),(10,ap av body.length),(11,ap av (k:Int))]) (λ_=>[]) (λk=>body.length-k) 0 ⟨bC _,rfl⟩ ?_;rintro k ⟨i1,i2⟩;rw[i2];clear i2
 by_cases c6:k<body.length
 ·obtain⟨b,off,rfl,hr⟩:=h6 J
  have eC:=gK (L:=([]:List b_)) kh hr c6;have W1:=mP body[k] (bX c6);have hd:kz l (body.drop k) aQ=((if body[k].1=1 then aQ else if body[k].1=2 then l.getD body[k].2.toNat aE else aB)&&kz l (body.drop (k+1)) aQ):=by
   rw[dL c6];rfl
  rw[hd];clear hd h6 mP hr;generalize body[k]=x at*;obtain⟨q,m⟩:=x;dsimp only at*
  by_cases c1:q=1
  ·rw[if_pos c1]
   cases aQ
   ·repeat(first|refine GA ?_|refine gV (aR bM.eq aI.ty I I c6) ?_|refine gV (aW aI.ty I I eC) ?_)
    refine aY I λg8=>?_;refine fR 0 ?_
    repeat(first|refine GA ?_|refine gV (aw aI.ty I (aD (i:=0) I I)) ?_)
    exact dQ
   repeat(first|refine GA ?_|refine gV (aR bM.eq aI.ty I I c6) ?_|refine gV (aW aI.ty I I eC) ?_)
   refine aY I λg8=>?_;refine fR 0 ?_
   repeat(first|refine GA ?_|refine gV (aw aI.ty I (aD (i:=0) I I)) ?_)
   refine dq [] ?_;exact bQ (k+1) ⟨by omega,by simp⟩ (by show body.length-(k+1)<body.length-k;omega)
  rw[if_neg c1]
  by_cases c2:q=2
  ·rw[if_pos c2]
   obtain⟨o1,o2⟩:=W1 c2;obtain⟨mm,rfl⟩:∃mm:Nat,m=mm:=⟨m.toNat,by omega⟩;have uA:mm<l.length:=by omega
   obtain⟨b',Bn,rfl,uz⟩:=h3 J;rw[de];have hcell:=DA uA;generalize l.getD mm aE=y at*
   cases y
   ·repeat(first|refine GA ?_|refine gV (aR bM.eq aI.ty I I c6) ?_|refine gV (aW aI.ty I I eC) ?_)
    refine aY I λg8=>?_;refine fR 0 ?_
    repeat(first|refine GA ?_|refine gV (aw aI.ty I (aD (i:=0) I I)) ?_|refine gV (bO bM.eq aI.ty I I uA) ?_|refine gV (aw aI.ty I (jE uz hcell)) ?_)
    exact dQ
   repeat(first|refine GA ?_|refine gV (aR bM.eq aI.ty I I c6) ?_|refine gV (aW aI.ty I I eC) ?_)
   refine aY I λg8=>?_;refine fR 0 ?_
   repeat(first|refine GA ?_|refine gV (aw aI.ty I (aD (i:=0) I I)) ?_|refine gV (bO bM.eq aI.ty I I uA) ?_|refine gV (aw aI.ty I (jE uz hcell)) ?_)
   refine dq [] ?_;exact bQ (k+1) ⟨by omega,by simp⟩ (by show body.length-(k+1)<body.length-k;omega)
  rw[if_neg c2]
  repeat(first|refine GA ?_|refine gV (aR bM.eq aI.ty I I c6) ?_|refine gV (aW aI.ty I I eC) ?_)
  refine aY I λg8=>?_;refine fR 0 ?_
  repeat(first|refine GA ?_|refine gV (aw aI.ty I (aD (i:=0) I I)) ?_)
  refine dq [] ?_;exact bQ (k+1) ⟨by omega,by simp⟩ (by show body.length-(k+1)<body.length-k;omega)
 ·rw[ia J]
  try refine GA ?_
  exact dQ
theorem rY{x y:Nat}(hx:x<18446744073709551616)(hy:y<18446744073709551616):bits .or .u64 (x:Int) (y:Int)=((x|||y:Nat):Int):=by
 have h:=bits_nat .u64 64 alt (λn h0 h1=>by rw[um];omega) x y (by simpa using hx) (by simpa using hy);exact h.2
theorem aiX{x y:Nat}(hx:x<18446744073709551616)(hy:y<18446744073709551616):x|||y<18446744073709551616:=Nat.or_lt_two_pow (n:=64) hx hy
theorem Ah{m:Nat}(h:m<64):2^m<18446744073709551616:=by
 have:(2:Nat)^m<2^64:=Nat.pow_lt_pow_right alt h
 simpa using this
theorem aeH{P:Program}(m:Nat)(hm:m<64)(w:World):(iM .shl .u64 1 .i64 (m:Int)).run P w= .ok (.int .u64 ((2^m:Nat):Int)) w:=by
 have e:min m 64=m:=by omega
 have hp:=Ah hm;have e2:(2:Int)^m=((2^m:Nat):Int):=by rw[Int.natCast_pow];rfl
 have e3:uo.wrap ((1:Int)*2^m)=((2^m:Nat):Int):=by
  rw[e2,um,Int.one_mul];generalize 2^m=q at hp;omega
 have h0:¬((m:Int)<0):=by omega
 simp only[iM,if_neg h0,me,de,e,e3,pA]
attribute [local irreducible] Op.shift Go.bits in
theorem W4(g cap:Nat)(l:List Nat)(i b:Nat)(w:World)(B:bV)(hi:i<l.length)(h64:∀x∈l,x<18446744073709551616)(hb:b<18446744073709551616)(hm:Mem B [bm 92 1 (ak (ah ⟨g,0,aj⟩) l.length cap) l.length (l.map gZ)] w):
 Calls aC 106 #[ak (ah ⟨g,0,aj⟩) l.length cap,ap av (i:Int),gZ b] w (dz ⟨λ(_:Unit)=>True,λ_=> .bool (mN l i b).2,λ_=>[bm 92 1 (ak (ah ⟨g,0,aj⟩) l.length cap) l.length ((mN l i b).1.map gZ)]⟩ B):=by
 have hc:=KR hi;have aeI:l.getD i 0<18446744073709551616:=by
  have e:l.getD i 0=l[i]:=by rw[cH,bL hi];rfl
  rw[e];exact h64 _ (bX hi)
 refine dT hm (args:=[ak (ah ⟨g,0,aj⟩) l.length cap,ap av (i:Int),gZ b]) (n:=25) Tryz.func106 I I I ?_;unfold mN;generalize l.getD i 0=x at*;have Me:=rY aeI hb;have xj:((l.map gZ).set i (.int .u64 ((x|||b:Nat):Int)))[0+i]?=ah (.int .u64 ((x|||b:Nat):Int)):=by
  rw[cU,List.getElem?_set_self (by simpa using hi)]
 generalize x|||b=y at*
 by_cases c:y=x
 ·rw[show(!decide (y=x))=aE by simp[c]]
  repeat(first|refine GA ?_|refine gV (bO bM.eq aI.ty I I hi) ?_|refine gV (aw aI.ty I (kx (i:=0) I (by rw[cU];exact hc))) ?_|refine gV (zq I I Me) ?_)
  refine kR (i:=0) aI.ty I I I I I I (by simpa using hi) ?_
  conv=>arg 8;simp only[ye,cU]
  repeat(first|refine GA ?_|refine gV (bO bM.eq aI.ty I I hi) ?_|refine gV (aw aI.ty I (kx (i:=0) I xj)) ?_)
  exact cV I I λw hm=>hm.cg (S:=⟨λ(_:Unit)=>True,λ_=> .bool aE,λ_=>[bm 92 1 (ak (ah ⟨g,0,aj⟩) l.length cap) l.length ((l.set i y).map gZ)]⟩) () trivial [0] alt (by simp[uQ];rfl)
 ·rw[show(!decide (y=x))=aB by simp[c]]
  repeat(first|refine GA ?_|refine gV (bO bM.eq aI.ty I I hi) ?_|refine gV (aw aI.ty I (kx (i:=0) I (by rw[cU];exact hc))) ?_|refine gV (zq I I Me) ?_)
  refine kR (i:=0) aI.ty I I I I I I (by simpa using hi) ?_
  conv=>arg 8;simp only[ye,cU]
  repeat(first|refine GA ?_|refine gV (bO bM.eq aI.ty I I hi) ?_|refine gV (aw aI.ty I (kx (i:=0) I xj)) ?_)
  exact cV I I λw hm=>hm.cg (S:=⟨λ(_:Unit)=>True,λ_=> .bool aB,λ_=>[bm 92 1 (ak (ah ⟨g,0,aj⟩) l.length cap) l.length ((l.set i y).map gZ)]⟩) () trivial [0] alt (by simp[uQ];rfl)
theorem KS(E:List Bool)(F:List Nat)(behind:Nat)(x:bJ)(r:List bJ)(out:Nat):io E F behind (x::r) out=if x.1=1 then out|||2^x.2.toNat else if E.getD x.2.toNat aE=aB then io E F behind r (out|||F.getD x.2.toNat 0)else out|||F.getD x.2.toNat 0:=rfl
theorem NN(E:List Bool)(F:List Nat)(behind out:Nat):io E F behind [] out=out|||behind:=rfl
def mO(vE vF vL vR vM:Value):Value:=aP #[vE,vF,vL,vR,vM]
attribute [local irreducible] Op.shift Go.bits in
theorem vO(vE vF vL vR vM vb:Value)(E:List Bool)(F:List Nat)(body:List bJ)(behind:Nat)(w:World)(hE:Sl w vE E.length (E.map .bool))(hF:Sl w vF F.length (F.map gZ))(hs:Sl w vb body.length (body.flatMap dr))(hEF:E.length=F.length)
 (mP:∀x∈body,(x.1=1->0<=x.2/\x.2<64)/\(x.1≠1->0<=x.2/\x.2<F.length)) (h64:∀x∈F,x<18446744073709551616) (hb:behind<18446744073709551616):
 Calls aC 107 #[mO vE vF vL vR vM,vb,gZ behind] w (cJ (ret (gZ (eA E F body behind))) w):=by
 obtain⟨bE,cE,rfl,e1,e2,e3⟩:=hE;obtain⟨bF,cF,rfl,f1,f2,f3⟩:=hF;obtain⟨bb,cb,rfl,h4,h5,h6⟩:=hs;unfold maxLen at e2 f2 h5;refine enter (args:=[mO (ak bE E.length cE) (ak bF F.length cF) vL vR vM,ak bb body.length cb,gZ behind]) (n:=44) Tryz.func107 I I I ?_;refine bZ (bx (bH I I I λg3=>?_))
 try refine GA ?_
 unfold eA;refine dZ (ι:=Nat×Nat) (λ(k,out)=>k<=body.length/\out<18446744073709551616/\io E F behind body 0=io E F behind (body.drop k) out) (λ(k,out)=>[(2,gZ behind),(3,aH (ah ⟨g3,0,aj⟩)),(7,gZ out),(10,ak bb body.length cb),(11,ap av body.length),(12,ap av (k:Int))]) (λ_=>[aK g3 (mO (ak bE E.length cE) (ak bF F.length cF) vL vR vM).cells 82]) (λ(k,_)=>body.length-k) (0,0) ⟨bC _,by decide,rfl⟩ ?_;rintro⟨k,out⟩ ⟨i1,i3,i2⟩;dsimp only at i1 i3 i2⊢;rw[i2];clear i2
 by_cases c6:k<body.length
 ·obtain⟨b,off,rfl,hr⟩:=h6 J
  have eC:=gK (L:=[aK g3 (mO (ak bE E.length cE) (ak bF F.length cF) vL vR vM).cells 82]) kh hr c6;have W1:=mP body[k] (bX c6);have hd:io E F behind (body.drop k) out=io E F behind (body[k]::body.drop (k+1)) out:=by
   rw[dL c6]
  rw[hd];clear hd h6 mP hr;generalize body[k]=x at*;obtain⟨q,m⟩:=x;dsimp only at*;rw[KS];dsimp only
  by_cases c1:q=1
  ·rw[if_pos c1]
   obtain⟨o1,o2⟩:=W1.1 c1;obtain⟨mm,rfl⟩:∃mm:Nat,m=mm:=⟨m.toNat,by omega⟩;rw[de];have hsh:=λw=>aeH (P:=aC) mm J w;have Me:=rY i3 (Ah (m:=mm) J)
   repeat(first|refine GA ?_|refine gV (aR bM.eq aI.ty I I c6) ?_|refine gV (aW aI.ty I I eC) ?_)
   refine aY I λg8=>?_;refine fR 1 ?_
   repeat(first|refine GA ?_|refine gV (aw aI.ty I (aD (i:=1) I I)) ?_|refine gV (Ei I I hsh) ?_|refine gV (zq I I Me) ?_)
   exact dQ
  rw[if_neg c1];obtain⟨o1,o2⟩:=W1.2 c1;obtain⟨mm,rfl⟩:∃mm:Nat,m=mm:=⟨m.toNat,by omega⟩;rw[de];have uA:mm<F.length:=by omega
  have hmE:mm<E.length:=by omega
  obtain⟨b1,alK,rfl,Wg⟩:=e3 J;obtain⟨b2,aeJ,rfl,qE⟩:=f3 J;have hcE:=DA hmE;have hcF:=KR uA;have aeI:F.getD mm 0<18446744073709551616:=by
   have e:F.getD mm 0=F[mm]:=by rw[cH,bL uA];rfl
   rw[e];exact h64 _ (bX uA)
  have Me:=rY i3 aeI;have hlt:=aiX i3 aeI;generalize E.getD mm aE=y at*;generalize F.getD mm 0=z at*;generalize out|||z=o2 at*
  cases y
  ·rw[if_neg alt]
   repeat(first|refine GA ?_|refine gV (aR bM.eq aI.ty I I c6) ?_|refine gV (aW aI.ty I I eC) ?_)
   refine aY I λg8=>?_;refine fR 1 ?_
   repeat(first|refine GA ?_|refine gV (aw aI.ty I (aD (i:=1) I I)) ?_|refine gV (aw aI.ty I (aD (i:=0) I I)) ?_|refine gV (bO bM.eq aI.ty I I uA) ?_|refine gV (bO bM.eq aI.ty I I hmE) ?_|refine gV (aw aI.ty I (jE Wg hcE)) ?_|refine gV (aw aI.ty I (jE qE hcF)) ?_|refine gV (zq I I Me) ?_)
   exact dQ
  rw[if_pos I]
  repeat(first|refine GA ?_|refine gV (aR bM.eq aI.ty I I c6) ?_|refine gV (aW aI.ty I I eC) ?_)
  refine aY I λg8=>?_;refine fR 1 ?_
  repeat(first|refine GA ?_|refine gV (aw aI.ty I (aD (i:=1) I I)) ?_|refine gV (aw aI.ty I (aD (i:=0) I I)) ?_|refine gV (bO bM.eq aI.ty I I uA) ?_|refine gV (bO bM.eq aI.ty I I hmE) ?_|refine gV (aw aI.ty I (jE Wg hcE)) ?_|refine gV (aw aI.ty I (jE qE hcF)) ?_|refine gV (zq I I Me) ?_)
  refine dq [0] ?_;exact bQ (k+1,o2) ⟨by omega,hlt,rfl⟩ (by show body.length-(k+1)<body.length-k;omega)
 ·rw[ia J]
  have Me:=rY i3 hb;rw[NN]
  repeat(first|refine GA ?_|refine gV (zq I I Me) ?_)
  exact dQ
def eD(n g c:Nat)(l:List Bool):b_:=bm 4 1 (ak (ah ⟨g,0,aj⟩) n c) n (l.map .bool)
theorem vP(n g cap:Nat)(l:List Bool)(i:Nat)(b:Bool)(w:World)(B:bV)(hl:l.length=n)(hi:i<n)(hm:Mem B [eD n g cap l] w):
 Calls aC 104 #[ak (ah ⟨g,0,aj⟩) n cap,ap av (i:Int),.bool b] w (dz ⟨λ(_:Unit)=>True,λ_=> .bool (fw l i b).2,λ_=>[eD n g cap (fw l i b).1]⟩ B):=by
 subst hl;exact RM g cap l i b w B hi hm
structure aiY where
 gE:Nat
 cE:Nat
 gR:Nat
 cR:Nat
 gM:Nat
 cM:Nat
def dC(n g c:Nat):Value:=ak (ah ⟨g,0,aj⟩) n c
theorem NO(h:Nat)(x:bJ)(r:List bJ)(R:List Bool)(more:Bool):kA h (x::r) R more=kA h r (rS h x R more).1 (rS h x R more).2:=rfl
theorem NP(p:aL.Prod)(r:List aL.Prod)(s:FS):fc (p::r) s=fc r (k8 p s):=rfl
theorem NQ(w0:World)(v:Value)(g:dD)(h:jS (λk=>k<w0.heap.size) w0 v g)(fS:cI g=0)(n:Nat)(hn:g.bB=n)(x:aiY)(vF vL:Value)(E R M:List Bool)(hE:E.length=n)(hR:R.length=n)(hM:M.length=n)(w:World)(B:bV)(ho:ly w0 B)(hm:Mem B [eD n x.gE x.cE E,eD n x.gR x.cR R,eD n x.gM x.cM M] w):
 Calls aC 62 #[v,mO (dC n x.gE x.cE) vF vL (dC n x.gR x.cR) (dC n x.gM x.cM)] w (dz ⟨λ(_:Unit)=>True,λ_=> .bool (fc g.az ⟨E,R,M,aE⟩).more,λ_=>[eD n x.gE x.cE (fc g.az ⟨E,R,M,aE⟩).E,eD n x.gR x.cR (fc g.az ⟨E,R,M,aE⟩).R,eD n x.gM x.cM (fc g.az ⟨E,R,M,aE⟩).M]⟩ B):=by
 obtain⟨gE,cE,gR,cR,gM,cM⟩:=x;dsimp only at*;obtain⟨_,_,_,_,hlen,hps⟩:=cz fS;obtain⟨vp,rfl,h1,_⟩:=h;obtain⟨bp,cp,rfl,MV,Cg,mQ⟩:=h1;unfold maxLen at Cg;obtain⟨t,nn,az⟩:=g;dsimp only at*;subst hn;refine dT hm (args:=[du t (n:Int) (ak bp az.length cp),mO (dC n gE cE) vF vL (dC n gR cR) (dC n gM cM)]) (n:=70) Tryz.func62 I I I<|bZ (bx (bH I I I λg2=>bH I I I λg3=>?_));refine zL ?_
 refine GM ?_
 refine tY [0,1,2,4] ?_;generalize jh:fc az ⟨E,R,M,aE⟩=fin;refine dZ (ι:=Nat×FS) (λ(k,s)=>k<=az.length/\s.E.length=n/\s.R.length=n/\s.M.length=n/\fc (az.drop k) s=fin) (λ(k,s)=>[(3,aH (ah ⟨g3,0,aj⟩)),(5,.bool s.more),(11,ak bp az.length cp),(12,ap av az.length),(13,ap av (k:Int))])
  (λ(_,s)=>[eD n gE cE s.E,eD n gR cR s.R,eD n gM cM s.M,aK g3 (mO (dC n gE cE) vF vL (dC n gR cR) (dC n gM cM)).cells 82]) (λ(k,_)=>az.length-k) (0,⟨E,R,M,aE⟩) ⟨bC _,hE,hR,hM,jh⟩ ?_
 clear hm hE hR hM jh;rintro⟨k,E,R,M,more⟩ ⟨i1,i2,i3,i4,i5⟩;dsimp only at i1 i2 i3 i4 i5⊢
 by_cases c6:k<az.length
 ·obtain⟨b,off,rfl,_,hr⟩:=mQ J
  obtain⟨bb,cb,q1,q2,q3⟩:=jp hr c6;have ji:=hps az[k] (bX c6);rw[dL c6,NP]at i5;have eC:∀(L:List b_) (j:Nat) (v:Value),([ap av az[k].1,.slice bb az[k].2.length cb]:List Value)[j]?=ah v->At B L ⟨b,off+k*2+j,aj⟩ v:=λL j v hj=>eY ho (q1 j v hj);have tU:=q3.flat alt;clear hr mQ q1 hps q3;generalize az[k]=p at*;obtain⟨hd,body⟩:=p;obtain⟨p1,p2,p3,p4⟩:=ji;dsimp only at*;obtain⟨hn,rfl⟩:∃hn:Nat,hd=hn:=⟨hd.toNat,by omega⟩;have hhn:hn<n:=by omega
  have FK:∀x∈body,x.1=2->0<=x.2/\x.2<(n:Int):=λx hx fy=>by
   have:=p4 x hx;unfold right at this;rw[if_neg J,if_pos fy]at this
   simpa using this
  have hsb:∀w' L,Mem B L w'->Sl w' (ak bb body.length cb) body.length (body.flatMap dr):=λw' L hm=>tU.gr (ho.mem hm);unfold k8 at i5;dsimp only at i5;rw[de]at i5;have abq:=λw' L (hm:Mem B L w') (hx:Sl w' (dC n gE cE) E.length (E.map .bool))=>yT (dC n gE cE) (ak bb body.length cb) E body aE w' hx (hsb w' L hm) (λx hx fy=>by rw[i2];exact FK x hx fy);have qf:=λw' L (hm:Mem B L w') (hx:Sl w' (dC n gM cM) M.length (M.map .bool))=>yT (dC n gM cM) (ak bb body.length cb) M body aB w' hx (hsb w' L hm) (λx hx fy=>by rw[i4];exact FK x hx fy);generalize kz E body aE=a1 at*;generalize kz M body aB=a2 at*;have aiZ:=λw' B' hm=>vP n gE cE E hn a1 w' B' i2 hhn hm;have ai0:=λw' B' hm=>vP n gM cM M hn a2 w' B' i4 hhn hm;have Ia:=nL E hn a1;have Ig:=nL M hn a2;rw[i2]at Ia abq;rw[i4]at Ig qf;generalize fw E hn a1=m1 at*;generalize fw M hn a2=m2 at*;obtain⟨E1,b1⟩:=m1;obtain⟨M1,b2⟩:=m2;dsimp only at*
  repeat(first|refine GA ?_|refine gV (aR bM.eq aI.ty I I c6) ?_|refine gV (aW aI.ty I I (eC _)) ?_)
  clear eC;refine aY I λg7=>?_;refine fR 4 ?_;refine zL ?_
  repeat(first|refine QV QP ?_|refine A' ?_|refine J6 ?_|refine qs I I I I I I ?_|((try refine qg I I I ?_);first|refine QV QP ?_|refine QV QL ?_|refine QV QA ?_|refine QV QlT ?_|refine QV QlF ?_|refine QV QeT ?_|refine QV QeF ?_|refine QV QaA ?_))
  (repeat refine bZ ?_)
  refine ml (ι:=Unit) (λ_=>True) (λ_=>[(3,aH (ah ⟨g3,0,aj⟩)),(5,.bool (b1||more)),(7,aH (ah ⟨g7,0,aj⟩)),(11,ak (ah ⟨b,off,aj⟩) az.length cp),(12,ap av az.length),(13,ap av (k:Int))])
   (λ_=>[eD n gE cE E1,eD n gR cR R,eD n gM cM M,aK g3 (mO (dC n gE cE) vF vL (dC n gR cR) (dC n gM cM)).cells 82,aK g7 #[ap av (hn:Int),ak bb body.length cb] 174]) ?_ ?_
  ·refine dG ([aK g3 (mO (dC n gE cE) vF vL (dC n gR cR) (dC n gM cM)).cells 82,aK g7 #[ap av (hn:Int),ak bb body.length cb] 174]) (.calm 0 (.calm 1 (.calm 2 (.calm 3 (.calm 4 (.calm 5 (.calm 6 (.calm 7 (.one 8 (.one 9 (.calm 10 (.calm 11 (.calm 12 (.calm 13 (.done))))))))))))))) (bY [3,4]) ?_
   repeat(first|refine GW ?_|(refine GN ?_;first|refine QW (aw aI.ty I (aD (i:=0) I I)) ?_|refine QW (aw aI.ty I (aD (i:=1) I I)) ?_))
   refine aM I<|aT (xE aF.en I I I I) (λw hm=>abq _ _ hm (lT (i:=0) I w hm)) I I I ?_;intro _ _;refine zL ?_;refine aO (bY [3,4])<|aM I<|bz [0] [1,2,3,4] alt I I (xE aF.en I I I I) (λw hm hb=>aiZ w _ hb) I I I ?_;intro _ _;refine zL ?_;refine aO (bY [2,3]) ?_
   cases b1
   ·refine GW ?_
    refine dq [4,0,1,2,3] ?_;exact eQ () trivial (by repeat' (first|exact cZ|refine cP I ?_)) I
   refine GW ?_
   refine dq [4,0,1,2,3] ?_;exact eQ () trivial (by repeat' (first|exact cZ|refine cP I ?_)) I
  intro _ _
  (repeat refine bZ ?_)
  refine ml (ι:=Unit) (λ_=>True) (λ_=>[(3,aH (ah ⟨g3,0,aj⟩)),(5,.bool (b2||(b1||more))),(7,aH (ah ⟨g7,0,aj⟩)),(11,(ak (ah ⟨b,off,aj⟩) az.length cp)),(12,ap av az.length),(13,ap av (k:Int))])
   (λ_=>[eD n gE cE E1,eD n gR cR R,eD n gM cM M1,aK g3 (mO (dC n gE cE) vF vL (dC n gR cR) (dC n gM cM)).cells 82,aK g7 #[ap av (hn:Int),ak bb body.length cb] 174]) ?_ ?_
  ·refine dG ([aK g3 (mO (dC n gE cE) vF vL (dC n gR cR) (dC n gM cM)).cells 82,aK g7 #[ap av (hn:Int),ak bb body.length cb] 174]) (.calm 0 (.calm 1 (.calm 2 (.calm 3 (.calm 4 (.calm 5 (.calm 6 (.calm 7 (.one 8 (.one 9 (.calm 10 (.calm 11 (.calm 12 (.calm 13 (.done))))))))))))))) (bY [3,4]) ?_
   repeat(first|refine GW ?_|(refine GN ?_;first|refine QW (aw aI.ty I (aD (i:=0) I I)) ?_|refine QW (aw aI.ty I (aD (i:=1) I I)) ?_))
   refine aM I<|aT (xE aF.en I I I I) (λw hm=>qf _ _ hm (lT (i:=2) I w hm)) I I I ?_;intro _ _;refine zL ?_;refine aO (bY [3,4])<|aM I<|bz [2] [0,1,3,4] alt I I (xE aF.en I I I I) (λw hm hb=>ai0 w _ hb) I I I ?_;intro _ _;refine zL ?_;refine aO (bY [2,3]) ?_;generalize (b1||more)=mo
   cases b2
   ·refine GW ?_
    refine dq [0,1,4,2,3] ?_;exact eQ () trivial (by repeat' (first|exact cZ|refine cP I ?_)) I
   refine GW ?_
   refine dq [0,1,4,2,3] ?_;exact eQ () trivial (by repeat' (first|exact cZ|refine cP I ?_)) I
  intro _ _;generalize (b2||(b1||more))=mo at*;clear aiZ ai0 abq qf
  refine GM ?_
  generalize hfr:kA hn body R mo=fr at*;obtain⟨R2,mo2⟩:=fr;dsimp only at i5;refine dZ (ι:=Nat×List Bool×Bool) (λ(j,R',m')=>j<=body.length/\R'.length=n/\kA hn (body.drop j) R' m'=(R2,mo2)) (λ(j,_,m')=>[(3,aH (ah ⟨g3,0,aj⟩)),(5,.bool m'),(7,aH (ah ⟨g7,0,aj⟩)),(11,(ak (ah ⟨b,off,aj⟩) az.length cp)),(12,ap av az.length),(13,ap av (k:Int)),(44,ak bb body.length cb),(45,ap av body.length),(46,ap av (j:Int))])
   (λ(_,R',_)=>[eD n gE cE E1,eD n gR cR R',eD n gM cM M1,aK g3 (mO (dC n gE cE) vF vL (dC n gR cR) (dC n gM cM)).cells 82,aK g7 #[ap av (hn:Int),ak bb body.length cb] 174]) (λ(j,_,_)=>body.length-j) (0,R,mo) ⟨bC _,i3,hfr⟩ ?_
  clear hfr;rintro⟨j,R',m'⟩ ⟨j1,j2,j3⟩;dsimp only at j1 j2 j3⊢
  by_cases c7:j<body.length
  ·obtain⟨b',Bn,rfl,hrb⟩:=(by
    obtain⟨bs,cs,hv,_,_,gu⟩:=tU;simp only[kq,true_and]at hv;obtain⟨rfl,rfl⟩:=hv;exact gu J:∃b' Bn,bb=ah ⟨b',Bn,aj⟩/\Rd w0 b' Bn (body.flatMap dr))
   have C2:∀(L:List b_) (q:Nat) (u:Value),(dr body[j])[q]?=ah u->At B L ⟨b',Bn+j*2+q,aj⟩ u:=λL=>pI kh (λq u hq=>eY ho (hrb q u hq)) c7;have fy:=FK body[j] (bX c7);rw[dL c7,NO]at j3;clear FK hrb tU hsb p4;generalize body[j]=x at*;obtain⟨q,m⟩:=x;dsimp only at fy;unfold rS at j3;dsimp only at j3
   by_cases c8:q=2
   ·subst c8
    rw[if_pos I]at j3;obtain⟨y1,y2⟩:=fy rfl;obtain⟨mm,rfl⟩:∃mm:Nat,m=mm:=⟨m.toNat,by omega⟩;rw[de]at j3;have hcell:=DA (l:=R') (i:=hn) J;generalize R'.getD hn aE=bh at*;have Il:=λw' B' hm=>vP n gR cR R' mm bh w' B' j2 J hm;have hl3:=nL R' mm bh;rw[j2]at hl3;generalize fw R' mm bh=m3 at*;obtain⟨R3,b3⟩:=m3;dsimp only at*
    repeat(first|refine GA ?_|refine gV (aR bM.eq aI.ty I I c7) ?_|refine gV (aW aI.ty I I (C2 _)) ?_)
    clear C2;refine aY I λg9=>?_;refine fR 5 ?_;refine zL ?_
    refine GM ?_
    refine dG ([aK g3 (mO (dC n gE cE) vF vL (dC n gR cR) (dC n gM cM)).cells 82,aK g7 #[ap av (hn:Int),ak (ah ⟨b',Bn,aj⟩) body.length cb] 174,aK g9 #[ap av 2,ap av (mm:Int)] 123]) (.calm 0 (.calm 1 (.calm 2 (.calm 3 (.calm 4 (.calm 5 (.calm 6 (.calm 7 (.calm 8 (.one 9 (.one 10 (.calm 11 (.calm 12 (.calm 13 (.calm 14 (.done)))))))))))))))) (bY [3,4,5]) ?_
    repeat(first|refine GW ?_|(refine GN ?_;first|refine QW (aw aI.ty I (aD (i:=0) I I)) ?_|refine QW (aw aI.ty I (aD (i:=1) I I)) ?_|refine QW (aw aI.ty I (aD (i:=2) I I)) ?_|refine QW (bO bM.eq aI.ty I I (show hn<n by omega)) ?_))
    refine aM I (dy (aw aI.ty I (kx (i:=1) I (by rw[cU];exact hcell))) I I I (aO (bY [3,4,5]) ?_));refine aM I<|bz [1] [0,2,3,4,5] alt I I (xE aF.en I I I I) (λw hm hb=>Il w _ hb) I I I ?_;intro _ _;refine zL ?_;refine aO (bY [2,3,4]) ?_
    cases b3
    ·refine GW ?_
     refine GA ?_
     refine dq [0,5,1,2,3] ?_;exact bQ (j+1,R3,aE||m') ⟨by omega,hl3,j3⟩ J
    refine GW ?_
    refine GA ?_
    refine dq [0,5,1,2,3] ?_;exact bQ (j+1,R3,aB||m') ⟨by omega,hl3,j3⟩ J
   rw[if_neg c8]at j3;dsimp only at j3
   repeat(first|refine GA ?_|refine gV (aR bM.eq aI.ty I I c7) ?_|refine gV (aW aI.ty I I (C2 _)) ?_)
   clear C2;refine aY I λg9=>?_;refine fR 5 ?_;refine zL ?_
   refine GM ?_
   refine dq [0,1,2,3,4] ?_;exact bQ (j+1,R',m') ⟨by omega,j2,j3⟩ J
  rw[ia J]at j3;have j3:(R',m')=(R2,mo2):=j3;simp only[ju]at j3;obtain⟨rfl,rfl⟩:=j3
  refine GA ?_
  refine dq [0,1,2,3] ?_;exact bQ (k+1,⟨E1,R',M1,m'⟩) ⟨by omega,Ia,j2,Ig,i5⟩ J
 ·rw[ia J]at i5
  have i5:(⟨E,R,M,more⟩:FS)=fin:=i5;subst i5
  refine GA ?_
  exact cV I I λw hm=>hm.cg (S:=⟨λ(_:Unit)=>True,λ_=> .bool more,λ_=>[eD n gE cE E,eD n gR cR R,eD n gM cM M]⟩) () trivial [0,1,2] alt I
def iA(n g c:Nat)(l:List Nat):b_:=bm 92 1 (ak (ah ⟨g,0,aj⟩) n c) n (l.map gZ)
theorem FL(n g cap:Nat)(l:List Nat)(i b:Nat)(w:World)(B:bV)(hl:yH n l)(hi:i<n)(hb:b<18446744073709551616)(hm:Mem B [iA n g cap l] w):
 Calls aC 106 #[ak (ah ⟨g,0,aj⟩) n cap,ap av (i:Int),gZ b] w (dz ⟨λ(_:Unit)=>True,λ_=> .bool (mN l i b).2,λ_=>[iA n g cap (mN l i b).1]⟩ B):=by
 obtain⟨rfl,h64⟩:=hl;exact W4 g cap l i b w B hi h64 hb hm
structure Rows4 where
 gE:Nat
 cE:Nat
 gF:Nat
 cF:Nat
 gW:Nat
 cW:Nat
 gM:Nat
 cM:Nat
theorem RN(E M:List Bool)(p:aL.Prod)(r:List aL.Prod)(F:List Nat)(more:Bool):o7 E M (p::r) F more=o7 E M r (E9 E M p F more).1 (E9 E M p F more).2:=rfl
theorem RO(E:List Bool)(F:List Nat)(p:aL.Prod)(r:List aL.Prod)(W:List Nat)(more:Bool):mF E F (p::r) W more=mF E F r (jf E F p.1.toNat p.2 W more).1 (jf E F p.1.toNat p.2 W more).2:=rfl
theorem NR(E:List Bool)(F:List Nat)(h:Nat)(x:bJ)(r:List bJ)(W:List Nat)(more:Bool):jf E F h (x::r) W more=jf E F h r (ja E F h x r W more).1 (ja E F h x r W more).2:=rfl
def qS(E M:List Bool)(l:List aL.Prod)(F:List Nat):List Nat:=dA.fix (λF=>o7 E M l F aE) np F
def vU(E:List Bool)(F:List Nat)(l:List aL.Prod)(W:List Nat):List Nat:=dA.fix (λW=>mF E F l W aE) np W
theorem RP(w0:World)(v:Value)(g:dD)(h:jS (λk=>k<w0.heap.size) w0 v g)(fS:cI g=0)(n:Nat)(hn:g.bB=n)(x:Rows4)(vR:Value)(E:List Bool)(F W:List Nat)(M:List Bool)(hE:E.length=n)(hF:yH n F)(hW:yH n W)(hM:M.length=n)(w:World)(B:bV)(ho:ly w0 B)(hm:Mem B [eD n x.gE x.cE E,iA n x.gF x.cF F,iA n x.gW x.cW W,eD n x.gM x.cM M] w):
 Calls aC 63 #[v,mO (dC n x.gE x.cE) (dC n x.gF x.cF) (dC n x.gW x.cW) vR (dC n x.gM x.cM)] w (dz ⟨λ(_:Unit)=>True,λ_=> .tuple #[],λ_=>[eD n x.gE x.cE E,iA n x.gF x.cF (qS E M g.az F),iA n x.gW x.cW (vU E (qS E M g.az F) g.az W),eD n x.gM x.cM M]⟩ B):=by
 obtain⟨gE,cE,gF,cF,gW,cW,gM,cM⟩:=x;dsimp only at*;have lJ:=wT fS hn;obtain⟨_,_,_,_,hlen,_⟩:=cz fS;obtain⟨vp,rfl,h1,_⟩:=h;obtain⟨bp,cp,rfl,MV,Cg,mQ⟩:=h1;unfold maxLen at Cg;obtain⟨t,nn,az⟩:=g;dsimp only at*;subst hn;have yU:=Ku (E:=E) (M:=M) lJ;refine dT hm (args:=[du t (n:Int) (ak bp az.length cp),mO (dC n gE cE) (dC n gF cF) (dC n gW cW) vR (dC n gM cM)]) (n:=80) Tryz.func63 I I I<|bZ (bx (bH I I I λg2=>bH I I I λg3=>?_));refine zL ?_
 refine GA ?_
 generalize jh:qS E M az F=fin;refine dZ (ι:=List Nat×Bool) (λ(F,more)=>yH n F/\(more=aB->qS E M az F=fin)/\(more=aE->F=fin)) (λ(_,more)=>[(2,aH (ah ⟨g2,0,aj⟩)),(3,aH (ah ⟨g3,0,aj⟩)),(4,.bool more)])
  (λ(F,_)=>[eD n gE cE E,iA n gF cF F,iA n gW cW W,eD n gM cM M,aK g2 (du t (n:Int) (ak bp az.length cp)).cells 33,aK g3 (mO (dC n gE cE) (dC n gF cF) (dC n gW cW) vR (dC n gM cM)).cells 82]) (λ(F,more)=>2*np F+(if more=aB then 1 else 0)) (F,aB) ⟨hF,λ_=>jh,λh=>by cases h⟩ ?_
 clear hm hF jh;rintro⟨F,more⟩ ⟨i1,i2,i3⟩;dsimp only at i1 i2 i3⊢
 cases more
 ·have i3 :=i3 I
  subst i3;clear i2 yU;have yU:=Q8 (E:=E) i1 lJ
  refine GA ?_
  generalize jh:vU E F az W=fin;refine dZ (ι:=List Nat×Bool) (λ(W,more)=>yH n W/\(more=aB->vU E F az W=fin)/\(more=aE->W=fin)) (λ(_,more)=>[(2,aH (ah ⟨g2,0,aj⟩)),(3,aH (ah ⟨g3,0,aj⟩)),(7,.bool more)])
   (λ(W,_)=>[eD n gE cE E,iA n gF cF F,iA n gW cW W,eD n gM cM M,aK g2 (du t (n:Int) (ak bp az.length cp)).cells 33,aK g3 (mO (dC n gE cE) (dC n gF cF) (dC n gW cW) vR (dC n gM cM)).cells 82]) (λ(W,more)=>2*np W+(if more=aB then 1 else 0)) (W,aB) ⟨hW,λ_=>jh,λh=>by cases h⟩ ?_
  clear jh hW;clear W;rintro⟨W,more⟩ ⟨j1,j2,j3⟩;dsimp only at j1 j2 j3⊢
  cases more
  ·have j3:=j3 I
   subst j3
   refine GA ?_
   exact oO I λw hm=>hm.cg (S:=⟨λ(_:Unit)=>True,λ_=> .tuple #[],λ_=>[eD n gE cE E,iA n gF cF F,iA n gW cW W,eD n gM cM M]⟩) () trivial [0,1,2,3] alt I
  have j2:=j2 I;clear j3;have hdone:∀W' m',mF E F az W aE=(W',m')->yH n W'/\(m'=aB->vU E F az W'=fin)/\(m'=aE->W'=fin)/\2*np W'+(if m'=aB then 1 else 0)<2*np W+1:=λW' m' hp=>by
   have hk:=z8 (E:=E) i1 az W aE lJ j1;rw[hp]at hk;dsimp only at hk;refine⟨hk.1,λc=>?_,λc=>?_,?_⟩
   ·rw[<-j2]
    unfold vU;rw[Kt yU j1 (by grind),hp]
   ·rw[<-j2]
    unfold vU;rw[zZ (by grind),hp]
   grind
  refine GM ?_
  generalize hfp:mF E F az W aE=fp at*;obtain⟨Wx,mx⟩:=fp;have hdone:=hdone Wx mx I;refine dZ (ι:=Nat×List Nat×Bool) (λ(k,W,m)=>k<=az.length/\yH n W/\mF E F (az.drop k) W m=(Wx,mx)) (λ(k,_,m)=>[(2,aH (ah ⟨g2,0,aj⟩)),(3,aH (ah ⟨g3,0,aj⟩)),(7,.bool m),(40,ak bp az.length cp),(41,ap av az.length),(42,ap av (k:Int))])
   (λ(_,W,_)=>[eD n gE cE E,iA n gF cF F,iA n gW cW W,eD n gM cM M,aK g2 (du t (n:Int) (ak bp az.length cp)).cells 33,aK g3 (mO (dC n gE cE) (dC n gF cF) (dC n gW cW) vR (dC n gM cM)).cells 82]) (λ(k,_,_)=>az.length-k) (0,W,aE) ⟨bC _,j1,hfp⟩ ?_
  clear hfp j2;rintro⟨k,W',m⟩ ⟨k1,k2,k3⟩;dsimp only at k1 k2 k3⊢
  by_cases c6:k<az.length
  ·obtain⟨b,off,rfl,_,hr⟩:=mQ J
   obtain⟨bb,cb,q1,q2,q3⟩:=jp hr c6;have CZ:=lJ.head az[k] (bX c6);have WR:=lJ.pO az[k] (bX c6);have hp3:=lJ.Wz az[k] (bX c6);rw[dL c6,RO]at k3;have eC:∀(L:List b_) (j:Nat) (v:Value),([ap av az[k].1,.slice bb az[k].2.length cb]:List Value)[j]?=ah v->At B L ⟨b,off+k*2+j,aj⟩ v:=λL j v hj=>eY ho (q1 j v hj);have tU:=q3.flat alt;clear hr mQ q1 q3;generalize az[k]=p at*;obtain⟨hd,body⟩:=p;dsimp only at*;obtain⟨hn,rfl⟩:∃hn:Nat,hd=hn:=⟨hd.toNat,by omega⟩;rw[de]at CZ k3;have hsb:∀w' L,Mem B L w'->Sl w' (ak bb body.length cb) body.length (body.flatMap dr):=λw' L hm=>tU.gr (ho.mem hm);obtain⟨bb2,cb2,he,h4,h5,h6⟩:=tU;simp only[kq,true_and]at he;obtain⟨rfl,rfl⟩:=he;unfold maxLen at h5
   repeat(first|refine GA ?_|refine gV (aR bM.eq aI.ty I I c6) ?_|refine gV (aW aI.ty I I (eC _)) ?_)
   clear eC;refine aY I λg9=>?_;refine fR 6 ?_;refine zL ?_
   refine GM ?_
   refine dZ (ι:=Nat×List Nat×Bool) (λ(j,W,m)=>j<=body.length/\yH n W/\mF E F (az.drop (k+1)) (jf E F hn (body.drop j) W m).1 (jf E F hn (body.drop j) W m).2=(Wx,mx)) (λ(j,_,m)=>[(2,aH (ah ⟨g2,0,aj⟩)),(3,aH (ah ⟨g3,0,aj⟩)),(7,.bool m),(9,aH (ah ⟨g9,0,aj⟩)),(40,ak (ah ⟨b,off,aj⟩) az.length cp),(41,ap av az.length),(42,ap av (k:Int)),(47,ak bb body.length cb),(48,ap av body.length),(49,ap av (j:Int))])
    (λ(_,W,_)=>[eD n gE cE E,iA n gF cF F,iA n gW cW W,eD n gM cM M,aK g2 (du t (n:Int) (ak (ah ⟨b,off,aj⟩) az.length cp)).cells 33,aK g3 (mO (dC n gE cE) (dC n gF cF) (dC n gW cW) vR (dC n gM cM)).cells 82,aK g9 #[ap av (hn:Int),ak bb body.length cb] 174]) (λ(j,_,_)=>body.length-j) (0,W',m) ⟨bC _,k2,k3⟩ ?_
   clear k2 k3;rintro⟨j,W2,m2⟩ ⟨k2,k3,k4⟩;dsimp only at k2 k3 k4⊢
   by_cases c7:j<body.length
   ·obtain⟨b2,aeJ,rfl,qE⟩:=h6 J
    have ub:=pI (W:=B) (L:=[eD n gE cE E,iA n gF cF F,iA n gW cW W2,eD n gM cM M,aK g2 (du t (n:Int) (ak (ah ⟨b,off,aj⟩) az.length cp)).cells 33,aK g3 (mO (dC n gE cE) (dC n gF cF) (dC n gW cW) vR (dC n gM cM)).cells 82,aK g9 #[ap av (hn:Int),ak (ah ⟨b2,aeJ,aj⟩) body.length cb] 174]) kh (λq x hq=>eY ho (qE q x hq)) c7;have hx3:=hp3 body[j] (bX c7);have kK:∀w' L,Mem B L w'->Sl w' (Hu (ah ⟨b2,aeJ,aj⟩) cb 2 (j+1) body.length) (body.drop (j+1)).length ((body.drop (j+1)).flatMap dr):=λw' L hm=>by
     have:=Kc kh (hsb w' L hm) (i:=j+1) (j:=body.length) J (aX _)
     grind
    have V':eA E F (body.drop (j+1)) (W2.getD hn 0)<18446744073709551616:=px i1 (qO k3 _) λx hx h=>(WR x (ti hx) h).2;have Bb:=λw' L (hm:Mem B L w') (hx:Sl w' (dC n gE cE) E.length (E.map .bool)) (hy:Sl w' (dC n gF cF) F.length (F.map gZ))=>vO (dC n gE cE) (dC n gF cF) (dC n gW cW) vR (dC n gM cM) _ E F (body.drop (j+1)) (W2.getD hn 0) w' hx hy (kK w' L hm) (by rw[hE,i1.1]) (λx hx=>⟨λh=>by grind,λh=>by have:=hp3 x (ti hx) h;rw[i1.1];omega⟩) i1.2 (qO k3 _);rw[hE,i1.1]at Bb;have hcW:(W2.map gZ)[hn]?=ah (gZ (W2.getD hn 0)):=KR (by rw[k3.1];exact CZ.2);rw[dL c7,NR]at k4;generalize body[j]=x at*;obtain⟨q,mn⟩:=x;dsimp only at hx3;unfold ja at k4;dsimp only at k4;generalize W2.getD hn 0=bh at*;generalize eA E F (body.drop (j+1)) bh=bg at*
    repeat(first|refine GA ?_|refine gV (aR bM.eq aI.ty I I c7) ?_|refine gV (aW aI.ty I I ub) ?_)
    clear ub qE;refine aY I λg11=>?_;refine zL ?_
    refine GA ?_
    refine fR 7 ?_;refine zL ?_
    by_cases c1:q=2
    ·rw[if_pos c1]at k4
     obtain⟨_,o1,o2⟩:=hx3 J;subst c1;obtain⟨mm,rfl⟩:∃mm:Nat,mn=mm:=⟨mn.toNat,by omega⟩;rw[de]at k4 o2;have W5:=Ds (i:=mm) k3 V';have HG:=λw' B' hm=>FL n gW cW W2 mm bg w' B' k3 o2 V' hm;generalize mN W2 mm bg=ad at*;obtain⟨W3,ch⟩:=ad;dsimp only at k4 W5 HG
     refine GM ?_
     refine dG ([aK g3 (mO (dC n gE cE) (dC n gF cF) (dC n gW cW) vR (dC n gM cM)).cells 82,aK g9 #[ap av (hn:Int),ak (ah ⟨b2,aeJ,aj⟩) body.length cb] 174,aK g11 #[ap av 2,ap av (mm:Int)] 123]) (.calm 0 (.calm 1 (.calm 2 (.calm 3 (.calm 4 (.calm 5 (.calm 6 (.calm 7 (.calm 8 (.calm 9 (.calm 10 (.calm 11 (.calm 12 (.calm 13 (.calm 14 (.one 15 (.one 16 (.one 17 (.calm 18 (.calm 19 (.calm 20 (.calm 21 (.done))))))))))))))))))))))) (bY [5,6,7]) ?_
     repeat(first|(refine GN ?_;first|refine QW QP ?_|refine QW (aw aI.ty I (aD (i:=0) I I)) ?_|refine QW (aw aI.ty I (aD (i:=1) I I)) ?_|refine QW (aw aI.ty I (aD (i:=2) I I)) ?_|refine QW (aJ (i:=0) aI.ty I I I) ?_|refine QW (rN (i:=j+1) bM.eq aI.ty I I c7 h4) ?_|refine QW (bO bM.eq aI.ty I I CZ.2) ?_|refine GX ?_)|refine GW ?_)
     refine aM I<|dy (aw aI.ty I (kx (i:=2) I (by grind))) I I I<|aO (bY [5,6,7])<|aM I<|aT (xE aF.en I I I I) (λw hm=>Bb _ _ hm (lT (i:=0) I w hm) (lT (i:=1) I w hm)) I I I ?_;intro _ _;refine zL ?_;refine aO (bY [5,6,7])<|aM I<|bz [2] [0,1,3,4,5,6,7] alt I I (xE aF.en I I I I) (λw hm hb=>HG w _ hb) I I I ?_;intro _ _;refine zL ?_;refine aO (bY [4,5,6]) ?_
     cases ch
     ·refine GW ?_
      refine GA ?_
      refine dq [0,1,7,2,3,4,5] ?_;exact bQ (j+1,W3,aE||m2) ⟨by omega,W5,k4⟩ J
     refine GW ?_
     refine GA ?_
     refine dq [0,1,7,2,3,4,5] ?_;exact bQ (j+1,W3,aB||m2) ⟨by omega,W5,k4⟩ J
    rw[if_neg c1]at k4
    refine GM ?_
    refine dq [0,1,2,3,4,5,6] ?_;exact bQ (j+1,W2,m2) ⟨c7,k3,k4⟩ J
   rw[show body.drop j=[]from ia J]at k4
   refine GA ?_
   refine dq [0,1,2,3,4,5] ?_;exact bQ (k+1,W2,m2) ⟨by omega,k3,k4⟩ J
  rw[ia J]at k3;have k3:(W',m)=(Wx,mx):=k3;simp only[ju]at k3;obtain⟨rfl,rfl⟩:=k3;obtain⟨d1,d2,d3,d4⟩:=hdone
  refine GA ?_
  exact bQ (W',m) ⟨d1,d2,d3⟩ d4
 ·have i2:=i2 I
  clear i3;have hdone:∀F' m',o7 E M az F aE=(F',m')->yH n F'/\(m'=aB->qS E M az F'=fin)/\(m'=aE->F'=fin)/\2*np F'+(if m'=aB then 1 else 0)<2*np F+1:=λF' m' hp=>by
   have hk:=uZ (E:=E) (M:=M) az F aE lJ i1;rw[hp]at hk;dsimp only at hk;refine⟨hk.1,λc=>?_,λc=>?_,?_⟩
   ·rw[<-i2]
    unfold qS;rw[Kt yU i1 (by grind),hp]
   ·rw[<-i2]
    unfold qS;rw[zZ (by grind),hp]
   grind
  refine GM ?_
  generalize hfp:o7 E M az F aE=fp at*;obtain⟨Fx,mx⟩:=fp;have hdone:=hdone Fx mx I;refine dZ (ι:=Nat×List Nat×Bool) (λ(k,F,m)=>k<=az.length/\yH n F/\o7 E M (az.drop k) F m=(Fx,mx)) (λ(k,_,m)=>[(2,aH (ah ⟨g2,0,aj⟩)),(3,aH (ah ⟨g3,0,aj⟩)),(4,.bool m),(14,ak bp az.length cp),(15,ap av az.length),(16,ap av (k:Int))])
   (λ(_,F,_)=>[eD n gE cE E,iA n gF cF F,iA n gW cW W,eD n gM cM M,aK g2 (du t (n:Int) (ak bp az.length cp)).cells 33,aK g3 (mO (dC n gE cE) (dC n gF cF) (dC n gW cW) vR (dC n gM cM)).cells 82]) (λ(k,_,_)=>az.length-k) (0,F,aE) ⟨bC _,i1,hfp⟩ ?_
  clear hfp i2;rintro⟨k,F',m⟩ ⟨j1,j2,j3⟩;dsimp only at j1 j2 j3⊢
  by_cases c6:k<az.length
  ·obtain⟨b,off,rfl,_,hr⟩:=mQ J
   obtain⟨bb,cb,q1,q2,q3⟩:=jp hr c6;have CZ:=lJ.head az[k] (bX c6);have WR:=lJ.pO az[k] (bX c6);have hp3:=lJ.Wz az[k] (bX c6);rw[dL c6,RN]at j3;have eC:∀(L:List b_) (j:Nat) (v:Value),([ap av az[k].1,.slice bb az[k].2.length cb]:List Value)[j]?=ah v->At B L ⟨b,off+k*2+j,aj⟩ v:=λL j v hj=>eY ho (q1 j v hj);have tU:=q3.flat alt;clear hr mQ q1 q3;generalize az[k]=p at*;obtain⟨hd,body⟩:=p;dsimp only at*;obtain⟨hn,rfl⟩:∃hn:Nat,hd=hn:=⟨hd.toNat,by omega⟩;rw[de]at CZ;have hsb:∀w' L,Mem B L w'->Sl w' (ak bb body.length cb) body.length (body.flatMap dr):=λw' L hm=>tU.gr (ho.mem hm);have q9:=λw' L (hm:Mem B L w') (hx:Sl w' (dC n gM cM) M.length (M.map .bool))=>yT (dC n gM cM) (ak bb body.length cb) M body aB w' hx (hsb w' L hm) (λx hx fy=>by grind);rw[hM]at q9;have Bb:=λw' L (hm:Mem B L w') (hx:Sl w' (dC n gE cE) E.length (E.map .bool)) (hy:Sl w' (dC n gF cF) F'.length (F'.map gZ))=>vO (dC n gE cE) (dC n gF cF) (dC n gW cW) vR (dC n gM cM) (ak bb body.length cb) E F' body 0 w' hx hy (hsb w' L hm) (by rw[hE,j2.1]) (λx hx=>⟨λh=>by grind,λh=>by have:=hp3 x hx h;rw[j2.1];omega⟩) j2.2 alt;rw[hE,j2.1]at Bb;unfold E9 at j3;dsimp only at j3;rw[de]at j3;generalize kz M body aB=a1 at*;have V':eA E F' body 0<18446744073709551616:=px j2 alt λx hx h=>(WR x hx h).2;generalize eA E F' body 0=bg at*
   repeat(first|refine GA ?_|refine gV (aR bM.eq aI.ty I I c6) ?_|refine gV (aW aI.ty I I (eC _)) ?_)
   clear eC;refine aY I λg6=>?_;refine fR 6 ?_;refine zL ?_
   refine GM ?_
   refine aT (xE aF.en I I I I) (λw hm=>q9 _ _ hm (lT (i:=3) I w hm)) I I I ?_;intro _ _;refine zL ?_
   cases a1
   ·rw[if_neg alt]at j3
    refine GA ?_
    refine dq [0,1,2,3,4,5] ?_;exact bQ (k+1,F',m) ⟨by omega,j2,j3⟩ J
   rw[if_pos I]at j3;have W5:=Ds (i:=hn) j2 V';have HG:=λw' B' hm=>FL n gF cF F' hn bg w' B' j2 CZ.2 V' hm;generalize mN F' hn bg=ad at*;obtain⟨F2,ch⟩:=ad;dsimp only at*
   refine GA ?_
   refine dG ([aK g3 (mO (dC n gE cE) (dC n gF cF) (dC n gW cW) vR (dC n gM cM)).cells 82,aK g6 #[ap av (hn:Int),ak bb body.length cb] 174]) (.calm 0 (.calm 1 (.calm 2 (.calm 3 (.calm 4 (.calm 5 (.calm 6 (.one 7 (.one 8 (.calm 9 (.calm 10 (.calm 11 (.calm 12 (.done)))))))))))))) (bY [5,6]) ?_
   repeat(first|refine GW ?_|(refine GN ?_;first|refine QW (aw aI.ty I (aD (i:=0) I I)) ?_|refine QW (aw aI.ty I (aD (i:=1) I I)) ?_|refine QW (aJ (i:=0) aI.ty I I I) ?_))
   refine aM I<|aT (xE aF.en I I I I) (λw hm=>Bb _ _ hm (lT (i:=0) I w hm) (lT (i:=1) I w hm)) I I I ?_;intro _ _;refine zL ?_;refine aO (bY [5,6])<|aM I<|bz [1] [0,2,3,4,5,6] alt I I (xE aF.en I I I I) (λw hm hb=>HG w _ hb) I I I ?_;intro _ _;refine zL ?_;refine aO (bY [4,5]) ?_
   cases ch
   ·refine GW ?_
    refine GA ?_
    refine dq [0,6,1,2,3,4] ?_;exact bQ (k+1,F2,aE||m) ⟨by omega,W5,j3⟩ J
   refine GW ?_
   refine GA ?_
   refine dq [0,6,1,2,3,4] ?_;exact bQ (k+1,F2,aB||m) ⟨by omega,W5,j3⟩ J
  rw[ia J]at j3;have j3:(F',m)=(Fx,mx):=j3;simp only[ju]at j3;obtain⟨rfl,rfl⟩:=j3;obtain⟨d1,d2,d3,d4⟩:=hdone
  refine GA ?_
  exact bQ (F',m) ⟨d1,d2,d3⟩ d4
def nf(n:Nat)(l:List aL.Prod):FS:=dA.fix (IL l) (z_ n) ⟨c_ n aE,(c_ n aE).set 0 aB,c_ n aE,aE⟩
def BO(n:Nat)(l:List aL.Prod):List Nat:=qS (nf n l).E (nf n l).M l (c_ n 0)
def C3(n:Nat)(l:List aL.Prod):List Nat:=vU (nf n l).E (BO n l) l ((c_ n 0).set 0 9223372036854775808)
structure FM extends Rows4 where
 gR:Nat
 cR:Nat
def FM.val(n:Nat)(x:FM):Value:=mO (dC n x.gE x.cE) (dC n x.gF x.cF) (dC n x.gW x.cW) (dC n x.gR x.cR) (dC n x.gM x.cM)
theorem I6(a b c d e:Option Addr)(n1 n2 n3 n4 n5 c1 c2 c3 c4 c5:Nat)(w:World):(da 82 #[(0,ak a n1 c1),(1,ak b n2 c2),(2,ak c n3 c3),(3,ak d n4 c4),(4,ak e n5 c5)]).run aC w= .ok (aP #[ak a n1 c1,ak b n2 c2,ak c n3 c3,ak d n4 c4,ak e n5 c5]) w:=by
 go_simp
def mkB(i d n:Nat):Mk:=⟨i,d,λg=>ak (ah ⟨g,0,aj⟩) n n,λg=>aK g (madeCells #[.bool aE] (n*1)) 4⟩
def mkN(i d n:Nat):Mk:=⟨i,d,λg=>ak (ah ⟨g,0,aj⟩) n n,λg=>aK g (madeCells #[.int .u64 0] (n*1)) 92⟩
def mkF(i d:Nat):Mk:=⟨i,d,λg=>aH (ah ⟨g,0,aj⟩),λg=>aK g #[ak aj 0 0,ak aj 0 0,ak aj 0 0,ak aj 0 0,ak aj 0 0] 82⟩
theorem rZ{P:Program}{k:Nat}{W:bV}{Q:Exit->Act->World->Prop}{fr:Fr}{L:List b_}{c:Code}{i g m:Nat}{e:TypeId}{z:Value}(hi:L[i]?=ah (aK g (madeCells #[z] (m*1)) e))(hm:m<=9223372036854775807)(h:T P k W c Q fr (L.set i (bm e 1 (ak (ah ⟨g,0,aj⟩) m m) m (c_ m z)))):T P k W c Q fr L:=
 ZO 1 hi (by rw[size_madeCells]) (aX _) hm (by
  have:(madeCells #[z] (m*1)).toList.take (m*1)=c_ m z:=by
   rw[af0,Nat.mul_one,List.take_of_length_le (by simp)]
  rw[this];exact h)
theorem FO(v:Value)(g:dD)(w:World)(h:jS (λk=>k<w.heap.size) w v g)(fS:cI g=0)(n:Nat)(hn:g.bB=n):
 Calls aC 24 #[v] w (dz ⟨λ(_:FM)=>True,λx=> .tuple #[x.val n,ap av 0],λx=>[eD n x.gE x.cE (nf n g.az).E,iA n x.gF x.cF (BO n g.az),iA n x.gW x.cW (C3 n g.az),eD n x.gR x.cR (nf n g.az).R,eD n x.gM x.cM (nf n g.az).M]⟩ w):=by
 obtain⟨n1,n2,_,_,hlen,_⟩:=cz fS;have hcc:=λw' L (hm:Mem w L w')=>im v g w' (h.gr ((ly.self w).mem hm));rw[fS]at hcc;have h0:=h;obtain⟨vp,rfl,h1,_⟩:=h;obtain⟨bp,cp,rfl,MV,Cg,mQ⟩:=h1;unfold maxLen at Cg;obtain⟨t,nn,az⟩:=g;dsimp only at*;subst hn;refine enter (args:=[du t (n:Int) (ak bp az.length cp)]) (n:=39) Tryz.func24 I I I ?_;refine bZ (bx (bH I I I λg1=>aY I λg2=>?_));refine zL ?_
 repeat(first|refine GA ?_|refine gV (aJ (i:=0) aI.ty I I I) ?_)
 refine aT (lz aF.en I I) (λw hm=>hcc _ _ hm) I I I ?_;intro _ _;refine zL ?_
 repeat(first|refine GA ?_|refine gV (aw aI.ty I (aD (i:=0) I I)) ?_)
 refine ml (ι:=Nat×Nat×Nat×Nat×Nat×Nat) (λ_=>True) (λ(_,_,_,_,_,g6)=>[(1,aH (ah ⟨g1,0,aj⟩)),(2,aH (ah ⟨g2,0,aj⟩)),(6,aH (ah ⟨g6,0,aj⟩))])
  (λ(gE,gF,gW,gR,gM,g6)=>[aK g1 (du t (n:Int) (ak bp az.length cp)).cells 33,aK g2 #[ak aj 0 0,ak aj 0 0,ak aj 0 0,ak aj 0 0,ak aj 0 0] 82,aK gE (madeCells #[.bool aE] (n*1)) 4,aK gF (madeCells #[.int .u64 0] (n*1)) 92,aK gW (madeCells #[.int .u64 0] (n*1)) 92,aK gR (madeCells #[.bool aE] (n*1)) 4,aK gM (madeCells #[.bool aE] (n*1)) 4,aK g6 (mO (dC n gE n) (dC n gF n) (dC n gW n) (dC n gR n) (dC n gM n)).cells 82]) ?_ ?_
 rotate_left
 ·rintro⟨gE,gF,gW,gR,gM,g6⟩ _
  dsimp only;refine rZ (i:=2) I J ?_;refine rZ (i:=3) I J ?_;refine rZ (i:=4) I J ?_;refine rZ (i:=5) I J ?_;refine rZ (i:=6) I J ?_
  conv=>arg 7;simp only[A7,ye]
  rw[show c_ n (fW aE)=(c_ n aE).map .bool by simp,show c_ n (ap .u64 0)=(c_ n 0).map gZ by simp[gZ]];have hn0:0<n:=by omega
  repeat(first|refine GA ?_|refine gV (aw aI.ty I (aD (i:=7) I I)) ?_|refine gV (bO (j:=0) bM.eq aI.ty I I hn0) ?_)
  refine kR (i:=5) aI.ty I I I I I I (by simpa using hn0) ?_
  repeat(first|refine GA ?_|refine gV (aw aI.ty I (aD (i:=7) I I)) ?_|refine gV (bO (j:=0) bM.eq aI.ty I I hn0) ?_)
  refine kR (i:=4) aI.ty I I I I I I (by simpa using hn0) ?_
  conv=>arg 8;simp only[A7,ye,cU]
  try refine GA ?_
  generalize jh:nf n az=fin;have lJ:=wT (g:=⟨t,n,az⟩) fS I;have yU:=yJ lJ;refine kO (ι:=FS) (λs=>WA n s/\dA.fix (IL az) (z_ n) s=fin) (λ_=>[(1,aH (ah ⟨g1,0,aj⟩)),(2,aH (ah ⟨g2,0,aj⟩)),(6,aH (ah ⟨g6,0,aj⟩))])
   (λs=>[aK g1 (du t (n:Int) (ak bp az.length cp)).cells 33,aK g2 #[ak aj 0 0,ak aj 0 0,ak aj 0 0,ak aj 0 0,ak aj 0 0] 82,eD n gE n s.E,iA n gF n (c_ n 0),iA n gW n ((c_ n 0).set 0 9223372036854775808),eD n gR n s.R,eD n gM n s.M,aK g6 (mO (dC n gE n) (dC n gF n) (dC n gW n) (dC n gR n) (dC n gM n)).cells 82])
   (λs=>z_ n s) ⟨c_ n aE,(c_ n aE).set 0 aB,c_ n aE,aE⟩ ⟨⟨by simp,by simp,by simp⟩,jh⟩ (by repeat' (first|exact cZ|refine cP I ?_)) (by simp[eD,iA,gZ,uQ]) ?_
  rintro⟨E,R,M,mo⟩ ⟨i1,i2⟩;dsimp only at i2⊢;have gu:=λw' B' (ho:ly w B') hm=>NQ w _ ⟨t,n,az⟩ h0 fS n I ⟨gE,n,gR,n,gM,n⟩ (dC n gF n) (dC n gW n) E R M i1.1 i1.2.1 i1.2.2 w' B' ho hm;dsimp only at gu
  repeat(first|refine GA ?_|refine gV (aJ (i:=0) aI.ty I I I) ?_|refine gV (aJ (i:=7) aI.ty I I I) ?_)
  refine bz [2,5,6] [0,1,3,4,7] alt I I (gh aF.en I I I) (λw' hm hb=>gu w' _ ((ly.self w).on hm (by intro o ho;simp at ho⊢;rcases ho with h|h|h<;>simp[h])) hb) I I I ?_;intro _ _;refine zL ?_;clear gu;have hk:=qP az ⟨E,R,M,aE⟩ lJ i1;have hgo:(fc az ⟨E,R,M,aE⟩).more=aB->dA.fix (IL az) (z_ n) (fc az ⟨E,R,M,aE⟩)=fin/\z_ n (fc az ⟨E,R,M,aE⟩)<z_ n ⟨E,R,M,mo⟩:=λc=>⟨by rw[<-i2,Kt yU i1 c];rfl,yU.dec _ i1 c⟩;have hst:(fc az ⟨E,R,M,aE⟩).more=aE->fc az ⟨E,R,M,aE⟩=fin:=λc=>by rw[<-i2,zZ (s:=(⟨E,R,M,mo⟩:FS)) c];rfl
  generalize fc az ⟨E,R,M,aE⟩=r at*;obtain⟨E',R',M',m'⟩:=r;dsimp only at hgo hst⊢
  cases m'
  ·have hst:=hst I
   have age:=λw' B' (ho:ly w B') hm=>RP w _ ⟨t,n,az⟩ h0 fS n I ⟨gE,n,gF,n,gW,n,gM,n⟩ (dC n gR n) E' (c_ n 0) ((c_ n 0).set 0 9223372036854775808) M' hk.1.1 ⟨by simp,λx hx=>by rw[Ry hx];decide⟩ ⟨by simp,λx hx=>by
    rcases List.mem_or_eq_of_mem_set hx with h|h
    rw[Ry h];decide;rw[h];decide⟩ hk.1.2.2 w' B' ho hm
   dsimp only at age
   repeat(first|refine GA ?_|refine gV (aJ (i:=0) aI.ty I I I) ?_|refine gV (aJ (i:=4) aI.ty I I I) ?_)
   refine bz [5,2,3,7] [0,1,6,4] alt I I (gh aF.en I I I) (λw' hm hb=>age w' _ ((ly.self w).on hm (by intro o ho;simp at ho⊢;rcases ho with h|h|h|h<;>simp[h])) hb) I I I ?_;intro _ _;refine zL ?_
   repeat(first|refine GA ?_|refine gV (aJ (i:=3) aI.ty I I I) ?_)
   refine fR 1 ?_;refine zL ?_
   try refine GA ?_
   subst hst;have eF:BO n az=qS E' M' az (c_ n 0):=by unfold BO;rw[jh]
   have eW:C3 n az=vU E' (qS E' M' az (c_ n 0)) az ((c_ n 0).set 0 9223372036854775808):=by unfold C3;rw[eF,jh]
   rw[eF,eW];refine dH (i:=1) I I I I (z:=ap av 0) ?_ λw' hm=>?_;rfl;exact hm.cg (S:=⟨λ(_:FM)=>True,λx=> .tuple #[x.val n,ap av 0],λx=>[eD n x.gE x.cE E',iA n x.gF x.cF (qS E' M' az (c_ n 0)),iA n x.gW x.cW (vU E' (qS E' M' az (c_ n 0)) az ((c_ n 0).set 0 9223372036854775808)),eD n x.gR x.cR R',eD n x.gM x.cM M']⟩) ⟨⟨gE,n,gF,n,gW,n,gM,n⟩,gR,n⟩ trivial [4,5,6,2,7] alt I
  try refine GA ?_
  refine dq [0,1,5,2,3,6,7,4] ?_;exact bQ ⟨E',R',M',aB⟩ ⟨hk.1,(hgo I).1⟩ (hgo I).2
 refine Z2 [] Di (by kernel_rfl) (by kernel_rfl) (by intro c a d v w h;cases d<;>exact h) ?_;refine rb 0 (by kernel_rfl) I (wK I) I I I ?_;refine rb 2 (by kernel_rfl) I (wK I) I I I ?_;refine rb 4 (by kernel_rfl) I (wK I) I I I ?_;refine rb 6 (by kernel_rfl) I (wK I) I I I ?_;refine rb 8 (by kernel_rfl) I (wK I) I I I ?_;refine MN [mkB 1 16 n,mkN 3 18 n,mkN 5 20 n,mkB 7 22 n,mkB 9 24 n,mkF 11 6] (λm=>!Nat.beq m.i 11) 2 (by kernel_rfl) (by kernel_rfl) ?_ (λq=>?_) λq=>?_
 ·intro m hm
  simp only[dw,fC,or_false]at hm;rcases hm with rfl|rfl|rfl|rfl|rfl|rfl
  exact oy I I I (aX _) J J I;exact oy I I I (aX _) J J I;exact oy I I I (aX _) J J I;exact oy I I I (aX _) J J I;exact oy I I I (aX _) J J I;exact Iq I I
 ·simp only[mkB,mkN,mkF,fm,mU]
  generalize q 1=gE;generalize q 3=gF;generalize q 5=gW;generalize q 7=gR;generalize q 9=gM;generalize q 11=g6;clear q;refine Dn (.calm 10 (.one 12 .done)) (by kernel_rfl) I ?_
  repeat(first|refine GW ?_|(refine GN ?_;first|refine QW (aZ I (I6 _ _ _ _ _ _ _ _ _ _ _ _ _ _ _)) ?_))
  refine aM I ?_;refine fR 7 ?_;refine aO Di ?_
  try refine GW ?_
  exact eQ (gE,gF,gW,gR,gM,g6) trivial (by repeat' (first|exact cZ|refine cP I ?_)) I
 ·rw[show List.filter (λm:Mk=>!Nat.beq m.i 11) [mkB 1 16 n,mkN 3 18 n,mkN 5 20 n,mkB 7 22 n,mkB 9 24 n,mkF 11 6]=[mkB 1 16 n,mkN 3 18 n,mkN 5 20 n,mkB 7 22 n,mkB 9 24 n]from I]
  simp only[mkB,mkN,mkF,fm,mU];generalize q 1=gE;generalize q 3=gF;generalize q 5=gW;generalize q 7=gR;generalize q 9=gM;clear q;refine Dn (.calm 10 (.one 11 (.one 12 .done))) (by kernel_rfl) (by kernel_rfl) ?_
  repeat(first|refine GW ?_|(refine GN ?_;first|refine QW (aZ I (I6 _ _ _ _ _ _ _ _ _ _ _ _ _ _ _)) ?_))
  refine aM I ?_;refine aY I λg6=>?_;refine aO Di ?_;refine aM I ?_;refine fR 7 ?_;refine aO Di ?_
  try refine GW ?_
  exact eQ (gE,gF,gW,gR,gM,g6) trivial (by repeat' (first|exact cZ|refine cP I ?_)) I
open eh
theorem abr{n:Nat}{l:List aL.Prod}(hf:CY n l):zY (IL l) (λs=>WA n s/\s.R.getD 0 aE=aB) (z_ n):=
 ⟨λs hs=>⟨(yJ hf).keep s hs.1,Cm l ⟨s.E,s.R,s.M,aE⟩ hs.2⟩,λs hs=>(yJ hf).dec s hs.1⟩
theorem I7{g:dD}{n:Nat}(fS:cI g=0)(hn:g.bB=n):jU g.az (nf n g.az).E (BO n g.az) (C3 n g.az) (nf n g.az).R (nf n g.az).M:=by
 obtain⟨_,_,a3,_⟩:=cz fS;have hf:=wT fS hn;have hS:ClosedS g.az (nf n g.az).E (nf n g.az).R (nf n g.az).M/\WA n (nf n g.az)/\(nf n g.az).R.getD 0 aE=true:=by
  obtain⟨s',h1,h2,h3⟩:=qN (abr hf) _ ⟨c_ n aE,(c_ n aE).set 0 aB,c_ n aE,aE⟩ ⟨⟨by simp,by simp,by simp⟩,by
   grind⟩ (aX _)
  have e:nf n g.az=fc g.az ⟨s'.E,s'.R,s'.M,aE⟩:=h3;obtain⟨_,k2,k3,k4,k5⟩:=Aa g.az ⟨s'.E,s'.R,s'.M,aE⟩ h2;have hk:=(abr hf).keep s' h1;rw[e];refine⟨?_,hk⟩;rw[k2,k3,k4];exact k5
 obtain⟨hS1,hS2,hS3⟩:=hS;have hF:yH n (BO n g.az)/\∀p∈g.az,kz (nf n g.az).M p.2 aB=aB->(BO n g.az).getD p.1.toNat 0|||eA (nf n g.az).E (BO n g.az) p.2 0=(BO n g.az).getD p.1.toNat 0:=by
  obtain⟨s',h1,h2,h3⟩:=qN (Ku (E:=(nf n g.az).E) (M:=(nf n g.az).M) hf) _ (c_ n 0) ⟨by simp,λx hx=>by simp_all⟩ (aX _);obtain⟨_,h4,h5⟩:=u_ _ _ _ h2;have h6:BO n g.az=s':=by unfold BO qS;rw[h3];exact h4
  rw[h6];exact⟨h1,h5⟩
 have hW:((C3 n g.az).getD 0 0).testBit 63=aB/\(∀p∈g.az,∀pre x post,p.2=pre++x::post->x.1=2->(C3 n g.az).getD x.2.toNat 0|||eA (nf n g.az).E (BO n g.az) post ((C3 n g.az).getD p.1.toNat 0)=(C3 n g.az).getD x.2.toNat 0)/\yH n (C3 n g.az):=by
  have tU:=Q8 (E:=(nf n g.az).E) hF.1 hf;have ai1:zY (λW=>mF (nf n g.az).E (BO n g.az) g.az W aE) (λW=>yH n W/\(W.getD 0 0).testBit 63=aB) np:=⟨λs hs=>⟨tU.keep s hs.1,Fa g.az s aE hs.2⟩,λs hs=>tU.dec s hs.1⟩;obtain⟨s',h1,h2,h3⟩:=qN ai1 _ ((c_ n 0).set 0 9223372036854775808) ⟨⟨by simp,λx hx=>by
   grind⟩,by grind⟩ (aX _)
  grind[vh,C3,vU]
 exact⟨hS1,hF.2,hW.2.1,hS3,hW.1⟩
theorem W6{x y:Nat}(hx:x<18446744073709551616)(hy:y<18446744073709551616):bits .and .u64 (x:Int) (y:Int)=((x&&&y:Nat):Int):=bits_and_u64_nat x y hx hy
theorem qh{L:List b_}{R:List Nat}{o:b_}(h:o∈R.filterMap λi=>L[i]?):o∈L:=by
 grind
theorem aeK{α:Type}{s:yt α}{F:Nat->Prop}{w:World}{v:Value}{l:List α}(h:jO s F w v l):v.oneCell'=true:=by
 obtain⟨b,c,rfl,_⟩:=h;rfl
theorem I8(k q:Int)(w:World):(da 123 #[(0,ap av k),(1,ap av q)]).run aC w= .ok (aP #[ap av k,ap av q]) w:=by
 go_simp
section
variable{P:Program}{n:Nat}{W:bV}{fr:Fr}{L:List b_}{dst:Option Tmp}{ty:TypeId}{pos:String}{after:Array Edge}{guard:Option (Nat×Bool)}{t u:TypeId}{x y:Operand}{k:IntKind}{m m' r:Int}
theorem UL(hx:ev fr x=ah (.int k m))(hy:ev fr y=ah (.int k m'))(h:bits .andNot k m m'=r):RR P n W ⟨dst,.binOp .andNot t x y u,ty,pos,after,guard⟩ fr L (.int k r):=J7 (.inr (.inr (.inr I))) hx hy h
end
theorem FP{ι:Type}{S:Spec ι}{w w':World}{e:Ending}(h:dz S w e w'):cJ S w e w':=let ⟨x,h1,h2,h3⟩:=h;⟨x,h1,h2,h3.below,h3.af4⟩
theorem RT(w:World):(da 82 (#[]:Array (Nat×Value))).run aC w= .ok (aP #[ak aj 0 0,ak aj 0 0,ak aj 0 0,ak aj 0 0,ak aj 0 0]) w:=by
 go_simp
theorem W7(v:Value)(g:dD)(w:World)(h:jS (λk=>k<w.heap.size) w v g)(h0:cI g≠0):
 Calls aC 24 #[v] w (cJ (ret (.tuple #[mO (ak aj 0 0) (ak aj 0 0) (ak aj 0 0) (ak aj 0 0) (ak aj 0 0),ap av (cI g)])) w):=by
 have fS:=λw' (hg:Gr w w')=>im v g w' (h.gr hg);obtain⟨vp,rfl,h1,_⟩:=h;obtain⟨bp,cp,rfl,MV,Cg,mQ⟩:=h1;generalize cI g=e at*;obtain⟨t,n,az⟩:=g;dsimp only at*;refine enter (args:=[du t n (ak bp az.length cp)]) (n:=39) Tryz.func24 I I I ?_;refine bZ (bx (bH I I I λg1=>aY I λg2=>?_))
 repeat(first|refine GA ?_|refine gV (aJ (i:=0) aI.ty I I I) ?_)
 refine aT (lz aF.en I I) (λw hm=>fS _ hm.below) I I I ?_;intro _ _;refine zL ?_
 repeat(first|refine GA ?_|refine gV (aZ I RT) ?_)
 refine fR 1 ?_
 try refine GA ?_
 exact dH (i:=1) I I I I I λw hm=>hm.ret
def HH(t n:Int):List bJ->Int
 |[]=>0
 |x::r=>if right t n x=aB then HH t n r else 1
theorem KT{t n:Int}:∀{l:List bJ},HH t n l=0->∀x∈l,right t n x=aB
 |[],_,_,h=>by cases h
 | y ::r,h,x,hx=>by
  unfold HH at h;split at h
  ·rename_i c
   rcases dw.1 hx with rfl|hx
   exact c;exact KT h x hx
  cases h
theorem KU{t n:Int}:∀{l:List bJ},(∀x∈l,right t n x=aB)->HH t n l=0
 |[],_=>rfl
 |y::r,h=>by unfold HH;rw[if_pos (h y (by simp))];exact KU λx hx=>h x (by simp[hx])
def vV(g:dD)(body:List bJ):Int:=if cI g≠0 then cI g else if 60<body.length then 1 else HH g.aQ g.bB body
def C5(g:dD)(body:List bJ)(behind:Nat):Nat:=if vV g body=0 then eA (nf g.bB.toNat g.az).E (BO g.bB.toNat g.az) body behind else 0
theorem NS{t n:Int}{x:bJ}(h:right t n x=aE):(x.1≠1/\x.1≠2)\/(x.1=1/\x.2<0)\/(x.1=1/\0<=x.2/\t<=x.2)\/(x.1=2/\x.2<0)\/(x.1=2/\0<=x.2/\n<=x.2):=by
 unfold right at h;split at h;simp at h;omega;split at h;simp at h;omega;omega
theorem qU{t n:Int}{x:bJ}(h:right t n x=aB):(x.1=1/\0<=x.2/\x.2<t)\/(x.1=2/\0<=x.2/\x.2<n):=by
 unfold right at h;split at h;simp at h;omega;split at h;simp at h;omega;simp at h
theorem KV{g:dD}{n:Nat}(fS:cI g=0)(hn:g.bB=n):WA n (nf n g.az)/\yH n (BO n g.az):=by
 have hf:=wT fS hn
 constructor
 ·obtain⟨s',h1,h2,h3⟩:=qN (yJ hf) _ ⟨c_ n aE,(c_ n aE).set 0 aB,c_ n aE,aE⟩ ⟨by simp,by simp,by simp⟩ (aX _)
  unfold nf;rw[h3];exact(yJ hf).keep _ h1
 obtain⟨s',h1,h2,h3⟩:=qN (Ku (E:=(nf n g.az).E) (M:=(nf n g.az).M) hf) _ (c_ n 0) ⟨by simp,λx hx=>by rw[Ry hx];decide⟩ (aX _);unfold BO qS;rw[h3];exact(Ku hf).keep _ h1
theorem r7(v vb:Value)(g:dD)(body:List bJ)(behind:Nat)(w:World)(h:jS (λk=>k<w.heap.size) w v g)(hs:Sl w vb body.length (body.flatMap dr))(hb:behind<18446744073709551616):
 Calls aC 65 #[v,vb,gZ behind] w (cJ (ret (.tuple #[gZ (C5 g body behind),ap av (vV g body)])) w):=by
 by_cases c0:cI g=0
 ·obtain⟨_,_,k1,k2,k3,k4⟩:=cz c0
  obtain⟨n,hn⟩:∃n:Nat,g.bB=n:=⟨g.bB.toNat,by omega⟩;have HJ:=λw' (hg:Gr w w')=>FO v g w' (h.gr hg) c0 n hn;obtain⟨hS,hF⟩:=KV c0 hn;obtain⟨vp,rfl,h1,_⟩:=h;obtain⟨bp,cp,rfl,MV,Cg,mQ⟩:=h1;clear mQ;have TO:=hs;obtain⟨bb,cb,rfl,h4,h5,h6⟩:=hs;unfold maxLen at h5;obtain⟨t,nn,az⟩:=g;dsimp only at*;subst hn;have Bb:=λ(vE vF vL vR vM:Value) w' (hg:Gr w w') (hE:Sl w' vE n ((nf n az).E.map .bool)) (hF2:Sl w' vF n ((BO n az).map gZ)) mP=>vO vE vF vL vR vM _ (nf n az).E (BO n az) body behind w' (by rw[hS.1];exact hE) (by rw[hF.1];exact hF2) (TO.gr hg) (by rw[hS.1,hF.1]) mP hF.2 hb;rw[hF.1]at Bb;have hV:C5 ⟨t,n,az⟩ body behind=if vV ⟨t,n,az⟩ body=0 then eA (nf n az).E (BO n az) body behind else 0:=rfl
  have hE:vV ⟨t,n,az⟩ body=if 60<body.length then 1 else HH t n body:=by
   unfold vV;rw[if_neg (by rw[c0];simp)]
  generalize C5 ⟨t,n,az⟩ body behind=rV at*;generalize vV ⟨t,n,az⟩ body=rE at*;refine enter (args:=[du t (n:Int) (ak bp az.length cp),ak bb body.length cb,gZ behind]) (n:=71) Tryz.func65 I I I ?_;refine bZ (bx (bH I I I λg3=>?_))
  repeat(first|refine GA ?_|refine gV (aJ (i:=0) aI.ty I I I) ?_)
  refine aT (lz aF.en I I) (λw' hm=>(HJ w' hm.below).mono λe w2 h=>FP h) I I I ?_;intro x _
  conv=>arg 8;simp only[zJ,df,ret,id_eq,FM.val]
  try refine GA ?_
  refine aY I λg8=>?_;refine fR 6 ?_;refine zL ?_
  by_cases c1:60<body.length
  ·rw[if_pos c1]at hE
   subst hE;rw[if_neg alt]at hV;subst hV
   try refine GA ?_
   exact kP I I I λw hm=>hm.ret
  rw[if_neg c1]at hE
  try refine GA ?_
  refine dZ (ι:=Nat) (λk=>k<=body.length/\rE=HH t n (body.drop k)) (λk=>[(1,ak bb body.length cb),(2,gZ behind),(3,aH (ah ⟨g3,0,aj⟩)),(8,aH (ah ⟨g8,0,aj⟩)),(23,ak bb body.length cb),(24,ap av body.length),(25,ap av (k:Int))])
   (λ_=>[aK g3 (du t (n:Int) (ak bp az.length cp)).cells 33,eD n x.gE x.cE (nf n az).E,iA n x.gF x.cF (BO n az),iA n x.gW x.cW (C3 n az),eD n x.gR x.cR (nf n az).R,eD n x.gM x.cM (nf n az).M,aK g8 (mO (dC n x.gE x.cE) (dC n x.gF x.cF) (dC n x.gW x.cW) (dC n x.gR x.cR) (dC n x.gM x.cM)).cells 82]) (λk=>body.length-k) 0 ⟨bC _,hE⟩ ?_
  rintro k ⟨i1,i2⟩
  by_cases c6:k<body.length
  ·obtain⟨b,off,rfl,hr⟩:=h6 J
   have eC:=λL=>gK (L:=L) kh hr c6;rw[dL c6,HH]at i2;clear h6 hr TO Bb;generalize body[k]=y at*
   cases r:right t n y
   ·rw[if_neg (by rw[r];decide)]at i2
    clear hE;subst i2;rw[if_neg alt]at hV;subst hV;have r':=NS r;obtain⟨q,m⟩:=y;dsimp only at r';rcases r' with r'|r'|r'|r'|r'
    all_goals
     repeat(first|refine GA ?_|refine gV (aR bM.eq aI.ty I I c6) ?_|refine gV (aW aI.ty I I (eC _)) ?_)
     refine aY I λg11=>?_;refine fR 7 ?_;refine zL ?_
     repeat(first|refine GA ?_|refine gV (aw aI.ty I (aD (i:=7) I I)) ?_|refine gV (aw aI.ty I (aD (i:=0) I I)) ?_)
     exact kP I I I λw hm=>hm.ret
   rw[if_pos r]at i2;have r':=qU r;obtain⟨q,m⟩:=y;dsimp only at r';rcases r' with r'|r'
   all_goals
    repeat(first|refine GA ?_|refine gV (aR bM.eq aI.ty I I c6) ?_|refine gV (aW aI.ty I I (eC _)) ?_)
    refine aY I λg11=>?_;refine fR 7 ?_;refine zL ?_
    repeat(first|refine GA ?_|refine gV (aw aI.ty I (aD (i:=7) I I)) ?_|refine gV (aw aI.ty I (aD (i:=0) I I)) ?_)
    refine dq [0,1,2,3,4,5,6] ?_;exact bQ (k+1) ⟨by omega,i2⟩ (by show body.length-(k+1)<body.length-k;omega)
  rw[ia J]at i2;have i2:rE=0:=by rw[i2];rfl
  have q9:∀x∈body,right t n x=true:=KT (hE.symm.trans i2);clear hE;rw[if_pos i2]at hV;subst i2 hV
  repeat(first|refine GA ?_|refine gV (aJ (i:=6) aI.ty I I I) ?_)
  refine aT (xE aF.en I I I I) (λw hm=>Bb _ _ _ _ _ w hm.below (lT (i:=1) I w hm) (lT (i:=2) I w hm) (λx hx=>by have:=qU (q9 x hx);omega)) I I I ?_;intro _ _
  try refine GA ?_
  exact kP I I I λw hm=>hm.ret
 ·have HJ:=λw' (hg:Gr w w')=>W7 v g w' (h.gr hg) c0
  have hE:vV g body=cI g:=by unfold vV;rw[if_pos c0]
  have hV:C5 g body behind=0:=by unfold C5;rw[hE,if_neg c0]
  rw[hE,hV];obtain⟨vp,rfl,h1,_⟩:=h;obtain⟨bb,cb,rfl,_⟩:=hs;generalize cI g=e at*;obtain⟨t,n,az⟩:=g;dsimp only at*;refine enter (args:=[du t n vp,ak bb body.length cb,gZ behind]) (n:=71) Tryz.func65 I I I ?_;refine bZ (bx (bH I I I λg3=>?_))
  repeat(first|refine GA ?_|refine gV (aJ (i:=0) aI.ty I I I) ?_)
  refine aT (lz aF.en I I) (λw hm=>HJ _ hm.below) I I I ?_;intro _ _
  try refine GA ?_
  refine aY I λg8=>?_;refine fR 1 ?_
  try refine GA ?_
  exact kP I I I λw hm=>hm.ret
theorem abt:laidOutB aC=true:=by kernel_rfl
theorem UM:(121:TypeId)<aC.types.size:=of_decide_eq_true (by kernel_rfl)
theorem abu:(match aC.underlying 121 with|some (.array _ _)|some (.struct _)=>aB|_=>aE)=true:=by kernel_rfl
def Ct(x:Span):Value:=aP #[ap av x.1,ap av x.2.1,ap av x.2.2]
theorem abv(x:Span)(h:cL.dv x.1/\cL.dv x.2.1/\cL.dv x.2.2):∃l,keyOf aC 121 (Ct x)=ah l:=by
 obtain⟨a,b,c⟩:=x;obtain⟨h1,h2,h3⟩:=h;have e1:aC.keyType 121=true:=by kernel_rfl
 have e2:aC.cellsOf 121=3:=by kernel_rfl
 have e3:aC.cellsOf 3=1:=by kernel_rfl
 have e4:∃d,aC.types.size+1=d+2:=⟨aC.types.size-1,by have:0<aC.types.size:=Bm (bC 121) UM;omega⟩;obtain⟨d,e4⟩:=e4;have key:∀n:Int,cL.dv n->aC.keyLits (d+1) 3 [.int .i64 n]=ah [.int .i64 n]:=λn hn=>by
  have hw:(Lit.int .i64 n).wf=true:=by
   have h0: -9223372036854775808<=n:=hn.1;have h1:n<=9223372036854775807:=hn.2;simp[Lit.wf,D5,D6,sx,me,h0,h1]
  simp[uq,Tryz.underlying3,hw]
 refine⟨.string (keyBytes ([.int .i64 a,.int .i64 b,.int .i64 c])),?_⟩;have hl:aC.keyLits (d+2) 121 [.int .i64 a,.int .i64 b,.int .i64 c]=ah [.int .i64 a,.int .i64 b,.int .i64 c]:=by
  unfold uq;simp[Tryz.underlying121,e2,e3,key _ h1,key _ h2,key _ h3]
 have hf:(Ct (a,b,c)).formed aC 121=true:=by simp[Ct,aa3,Tryz.underlying121,e2]
 unfold keyOf;rw[Tryz.underlying121];show(if(aC.keyType 121&&(Ct (a,b,c)).formed aC 121)=aB then(aC.keyLits (aC.types.size+1) 121 [.int .i64 a,.int .i64 b,.int .i64 c]).map (λls=>aa2 (keyBytes ls))else aj)=_
 rw[e1,hf,e4,hl];rfl
set_option maxRecDepth 100000 in
def xO:yu aC 121 Span where
 kv:=Ct
 ok x:=cL.dv x.1/\cL.dv x.2.1/\cL.dv x.2.2
 law:=deep_law_laid abt (m:=2) J UM (by kernel_rfl) abu
 key:=abv
 inj x y h:=by
  obtain⟨a,b,c⟩:=x;obtain⟨a',b',c'⟩:=y;simp only[Ct,nS,qc,fL,Fw,true_and,and_true]at h;simp[h]
theorem Ai(w:World):(zeroValue 3).run aC w= .ok (ap av 0) w:=by kernel_rfl
theorem KW{m:Int}{a b:Nat}(h:cL.dv m)(ha:a<=9223372036854775807)(hb:b<=9223372036854775807):xO.ok (m,(a:Int),(b:Int)):=by
 show cL.dv m/\cL.dv (a:Int)/\cL.dv (b:Int)
 exact⟨h,⟨by omega,by omega⟩,⟨by omega,by omega⟩⟩
def xp(gm:Nat)(c:eR)(B:Nat):b_:=oP xO gm (ap av 0) (λx=>ap av (c x:Int)) B
def zj(t n:Int)(vp vw:Value)(gm:Nat):Array Value:=#[ap av t,ap av n,vp,vw,.map (ah gm)]
structure ChR(w:World)(gc gm:Nat)(t n:Int)(vp vw:Value)(word:List Int)(c:eR)(B:Nat):Prop where
 cell:w.heap[gc]?=ah (.cells (zj t n vp vw gm) 119 (0,0))
 map:(xp gm c B).holds w
 word:Sl w vw word.length (word.map (.int .i64))
theorem ChR.gr{w w':World}{gc gm:Nat}{t n:Int}{vp vw:Value}{word:List Int}{c:eR}{B:Nat}(h:ChR w gc gm t n vp vw word c B)(hg:Gr w w'):ChR w' gc gm t n vp vw word c B:=
 ⟨(hg.block gc (Array.getElem?_eq_some_iff.1 h.cell).1).trans h.cell,(xp gm c B).stay w w' h.map hg.size λk hk=>hg.block k ((xp gm c B).lt w h.map k hk),h.word.gr hg⟩
theorem KX(m:Int)(w:World):Calls aC 116 #[ap av m] w (cJ (ret (ap av (min m 2))) w):=by
 refine enter (args:=[ap av m]) (n:=5) Tryz.func116 I I I ?_
 repeat(first|refine GC ?_|refine gV (Qj I I I) ?_|refine GB ?_)
 exact dQ
theorem NT{t:Int}{l:List Int}{k:Nat}(h:k<l.length):pP t (l.drop k)=if l[k]<0 then 1 else if t<=l[k]then 1 else pP t (l.drop (k+1)):=by
 rw[dL h,pP]
theorem RU{W:World}{L:List b_}{b off:Nat}{l:List Int}(h:Rd W b off (l.map (.int .i64))){k:Nat}(hk:k<l.length):At W L ⟨b,off+k,aj⟩ (ap av l[k]):=jE h (by simp[hk])
theorem KY(v vw:Value)(g:dD)(word:List Int)(w:World)(h:jS (λk=>k<w.heap.size) w v g)(hs:Sl w vw word.length (word.map (.int .i64))):
 Calls aC 32 #[v,vw] w (cJ (ret (ap av (iP g word))) w):=by
 have fS:=λw' (hg:Gr w w')=>im v g w' (h.gr hg);obtain⟨vp,rfl,_,_⟩:=h;obtain⟨bw,cw,rfl,h1,h2,h3⟩:=hs;unfold maxLen at h2;have hE:iP g word=if cI g≠0 then cI g else if 20<word.length then 2 else pP g.aQ word:=rfl
 generalize iP g word=e at*;generalize cI g=c at*;obtain⟨t,n,az⟩:=g;dsimp only at*;refine enter (args:=[du t n vp,ak bw word.length cw]) (n:=31) Tryz.func32 I I I ?_;refine bZ (bx (bH I I I λg2=>?_))
 repeat(first|refine GA ?_|refine gV (aJ (i:=0) aI.ty I I I) ?_)
 refine aT (lz aF.en I I) (λw hm=>fS _ hm.below) I I I ?_;intro _ _
 by_cases c0:c=0
 ·rw[if_neg (by simpa using c0)]at hE
  by_cases c1:20<word.length
  ·rw[if_pos c1]at hE
   subst hE
   try refine GA ?_
   exact dQ
  rw[if_neg c1]at hE;refine zL ?_
  try refine GA ?_
  refine dZ (ι:=Nat) (λk=>k<=word.length/\e=pP t (word.drop k)) (λk=>[(2,aH (ah ⟨g2,0,aj⟩)),(16,ak bw word.length cw),(17,ap av word.length),(18,ap av (k:Int))])
   (λ_=>[aK g2 (du t n vp).cells 33]) (λk=>word.length-k) 0 ⟨bC _,hE⟩ ?_
  clear hE fS;rintro k ⟨i1,i2⟩
  by_cases c6:k<word.length
  ·obtain⟨b,off,rfl,hr⟩:=h3 J
   have eC:=λL=>RU (L:=L) hr c6;rw[NT c6]at i2;generalize word[k]=x at*
   by_cases c7:x<0
   ·rw[if_pos c7]at i2
    subst i2
    repeat(first|refine GA ?_|refine gV (bO bM.eq aI.ty I I c6) ?_|refine gV (aw aI.ty I (eC _)) ?_|refine gV (aw aI.ty I (aD (i:=0) I I)) ?_)
    exact dQ
   rw[if_neg c7]at i2
   by_cases c8:t<=x
   ·rw[if_pos c8]at i2
    subst i2
    repeat(first|refine GA ?_|refine gV (bO bM.eq aI.ty I I c6) ?_|refine gV (aw aI.ty I (eC _)) ?_|refine gV (aw aI.ty I (aD (i:=0) I I)) ?_)
    exact dQ
   rw[if_neg c8]at i2
   repeat(first|refine GA ?_|refine gV (bO bM.eq aI.ty I I c6) ?_|refine gV (aw aI.ty I (eC _)) ?_|refine gV (aw aI.ty I (aD (i:=0) I I)) ?_)
   exact bQ (k+1) ⟨by omega,i2⟩ (by show word.length-(k+1)<word.length-k;omega)
  rw[ia J]at i2;have i2:e=0:=i2;subst i2
  try refine GA ?_
  exact dQ
 ·rw[if_pos (by simpa using c0)]at hE
  subst hE
  try refine GA ?_
  exact dQ
theorem yV(a b c:Int)(w:World):(da 121 #[(0,ap av a),(1,ap av b),(2,ap av c)]).run aC w= .ok (Ct (a,b,c)) w:=by
 unfold Ct
 go_simp
attribute [local irreducible] Instr.build in
theorem I9(gc gm:Nat)(t n:Int)(vp vw:Value)(word:List Int)(c:eR)(B:Nat)(x:bJ)(a b:Nat)(w:World)(h:ChR w gc gm t n vp vw word c B)(hx:cL.dv x.2)(mE:a<=b)(hb:b<=word.length)(hw:word.length<=20):
 Calls aC 77 #[aH (ah ⟨gc,0,aj⟩),aP (dr x).toArray,ap av (a:Int),ap av (b:Int)] w (cJ (ret (ap av (cD c word x a b:Nat))) w):=by
 obtain⟨hc,ai2,hs⟩:=h;have h3:∀(L:List b_),At w L ⟨gc,3,aj⟩ vw:=λL=>jL (by rw[cell_of_row w gc 3 _ _ _ hc];rfl);have h4:∀(L:List b_),At w L ⟨gc,4,aj⟩ (.map (ah gm)):=λL=>jL (by rw[cell_of_row w gc 4 _ _ _ hc];rfl);have Cg:∀(L:List b_) w',Mem w L w'->(xp gm c B).holds w':=λL w' hm=>(xp gm c B).stay w w' ai2 hm.below.size λk hk=>hm.below.block k ((xp gm c B).lt w ai2 k hk);obtain⟨bw,cw,rfl,h5,h6,h7⟩:=hs;unfold maxLen at h6;obtain⟨q,m⟩:=x;dsimp only at hx;refine enter (args:=[aH (ah ⟨gc,0,aj⟩),aP (dr (q,m)).toArray,ap av (a:Int),ap av (b:Int)]) (n:=38) Tryz.func77 I I I ?_;refine bZ (bx (bH I I I λg5=>?_));unfold cD;dsimp only
 by_cases c1:q=2
 ·rw[if_pos c1]
  repeat(first|refine GA ?_|refine gV (aw aI.ty I (aD (i:=0) I I)) ?_)
  refine dG ([aK g5 (dr (q,m)).toArray 123]) (.calm 0 (.calm 1 (.calm 2 (.calm 3 (.calm 4 (.calm 5 (.calm 6 (.calm 7 (.calm 8 (.calm 9 (.calm 10 (.done)))))))))))) (λ_ h=>h) ?_
  repeat(first|refine GW ?_|(refine GN ?_;first|refine QW (aw aI.ty I (aD (i:=0) I I)) ?_|refine QW (aw aI.ty I (h4 _)) ?_|refine QW (aZ I (yV _ _ _)) ?_|refine QW (Eu (x:=(m,(a:Int),(b:Int))) xO bM.eq Ai (Cg _) I I (KW hx J J) I) ?_))
  try refine GA ?_
  exact dQ
 ·rw[if_neg c1]
  by_cases c2:b=a+1
  ·have hlt:a<word.length:=by omega
   obtain⟨b',off,rfl,hr⟩:=h7 J;have eC:=λL=>RU (L:=L) hr hlt;rw[bL hlt];generalize word[a]=y at*
   by_cases c3:y=m
   ·rw[if_pos ⟨c2,by rw[c3]⟩]
    repeat(first|refine GA ?_|refine gV (aw aI.ty I (aD (i:=0) I I)) ?_)
    refine dG ([aK g5 (dr (q,m)).toArray 123]) (.calm 0 (.calm 1 (.calm 2 (.calm 3 (.calm 4 (.calm 5 (.calm 6 (.calm 7 (.calm 8 (.calm 9 (.calm 10 (.calm 11 (.calm 12 (.calm 13 (.calm 14 (.calm 15 (.done))))))))))))))))) (λ_ h=>h) ?_
    repeat(first|refine GW ?_|(refine GN ?_;first|refine QW (aw aI.ty I (aD (i:=0) I I)) ?_|refine QW (aw aI.ty I (h3 _)) ?_|refine QW (aw aI.ty I (eC _)) ?_|refine QW (bO bM.eq aI.ty I I hlt) ?_))
    try refine GA ?_
    exact dQ
   rw[if_neg (λh=>c3 (by simpa using h.2))]
   repeat(first|refine GA ?_|refine gV (aw aI.ty I (aD (i:=0) I I)) ?_)
   refine dG ([aK g5 (dr (q,m)).toArray 123]) (.calm 0 (.calm 1 (.calm 2 (.calm 3 (.calm 4 (.calm 5 (.calm 6 (.calm 7 (.calm 8 (.calm 9 (.calm 10 (.calm 11 (.calm 12 (.calm 13 (.calm 14 (.calm 15 (.done))))))))))))))))) (λ_ h=>h) ?_
   repeat(first|refine GW ?_|(refine GN ?_;first|refine QW (aw aI.ty I (aD (i:=0) I I)) ?_|refine QW (aw aI.ty I (h3 _)) ?_|refine QW (aw aI.ty I (eC _)) ?_|refine QW (bO bM.eq aI.ty I I hlt) ?_))
   try refine GA ?_
   exact dQ
  rw[if_neg (λh=>c2 h.1)]
  repeat(first|refine GA ?_|refine gV (aw aI.ty I (aD (i:=0) I I)) ?_)
  refine dG ([aK g5 (dr (q,m)).toArray 123]) (.calm 0 (.calm 1 (.calm 2 (.calm 3 (.calm 4 (.calm 5 (.calm 6 (.calm 7 (.calm 8 (.calm 9 (.calm 10 (.calm 11 (.calm 12 (.calm 13 (.calm 14 (.calm 15 (.done))))))))))))))))) (λ_ h=>h) ?_
  repeat(first|refine GW ?_|(refine GN ?_;first|refine QW (aw aI.ty I (aD (i:=0) I I)) ?_))
  try refine GA ?_
  exact dQ
end cB
namespace bK
open aL dI cX
abbrev Item:=Int×Int×Int
def vW(a b:Int):Int:=if a<b then-1 else if b<a then 1 else 0
def NU(a b:Item):Int:=if vW a.1 b.1≠0 then vW a.1 b.1 else if vW a.2.1 b.2.1≠0 then vW a.2.1 b.2.1 else vW a.2.2 b.2.2
def RV(a b:Item):Bool:=decide (NU a b<0)
theorem UN(a b:Item):RV a b=aB↔a.1<b.1\/(a.1=b.1/\(a.2.1<b.2.1\/(a.2.1=b.2.1/\a.2.2<b.2.2))):=by
 unfold RV NU vW;rw[decide_eq_true_eq]
 repeat' split
 all_goals omega
theorem RW(a b:Item):RV a b=aE↔¬(a.1<b.1\/(a.1=b.1/\(a.2.1<b.2.1\/(a.2.1=b.2.1/\a.2.2<b.2.2)))):=by
 rw[<-UN,Bool.not_eq_true]
def PC(a b:Item):Bool:=!RV b a
theorem DB(a b:Item):PC a b=aB↔¬(b.1<a.1\/(b.1=a.1/\(b.2.1<a.2.1\/(b.2.1=a.2.1/\b.2.2<a.2.2)))):=by
 simp[PC,RW]
theorem W8(a b c:Item)(h1:PC a b=aB)(h2:PC b c=aB):PC a c=true:=by
 grind[DB]
theorem W9(a b:Item):(PC a b||PC b a)=true:=by
 rw[ko,DB,DB];omega
theorem NV{a b:Item}(h1:PC a b=aB)(h2:PC b a=aB):a=b:=by
 grind[DB]
theorem W_(x y:Item)(h1:RV x y=aE)(h2:RV y x=aE):x=y:=NV (by simp_all[PC]) (by simp_all[PC])
def ahw(l:List Item):Prop:=l.Pairwise λa b=>RV a b=aB
theorem UO(a:Item):RV a a=false:=by simp[RW]
theorem ahx{a b c:Item}(h1:RV a b=aB)(h2:RV b c=aB):RV a c=true:=by
 grind[UN]
theorem Xa{l:List Item}(h:ahw l):l.Nodup:=h.imp λ{a b} mE e=>by simp_all[UO]
def vX(l:List Item):List Item:=l.mergeSort PC
theorem abw{l:List Item}{x:Item}:x∈vX l↔x∈l:=(aa5 l PC).mem_iff
theorem NW(l:List Item):(vX l).length=l.length:=List.length_mergeSort _
theorem abx{l:List Item}(h:l.Nodup):ahw (vX l):=by
 have h1:(vX l).Pairwise λa b=>PC a b=true:=List.pairwise_mergeSort W8 W9 l;have h2:(vX l).Nodup:=(aa5 l PC).nodup_iff.2 h;refine(h1.and h2).imp λ{a b} mE=>?_
 cases e:RV a b with
 |true=>rfl
 |false=>exact absurd (NV mE.1 (by simp_all[PC])) mE.2
section
variable(l:List aL.Prod)(T:Nat)(lk:Int->Int->Nat)
def dR(p:Int):List bJ:=if p=(l.length:Int)then [(2,0)]else(a_ l p).2
def lg(it:Item):Option bJ:=(dR l it.1)[it.2.1.toNat]?
def oV(it:Item):Nat:=if(lk it.1 it.2.1).testBit 62=aB then(lk it.1 it.2.1^^^2^62)|||2^it.2.2.toNat else lk it.1 it.2.1
def fG(i:Nat)(bits:Nat)(out:List Item):Nat->List Item
 |0=>out
 |k+1=>if bits.testBit k=aB then more (fG i bits out k) ((i:Int),0,(k:Int))else fG i bits out k
def fH(N:Int)(bits:Nat)(out:List Item):Nat->List Item
 |0=>out
 |i+1=>if(a_ l (i:Int)).1=N then fG i bits (fH N bits out i) (T+1)else fH N bits out i
def vY(it:Item)(out:List Item):List Item:=match lg l it with
 |some x=>if x.1=2 then fH l T x.2 (oV lk it) out l.length else out
 |none=>out
def tW:Nat->Nat->List Item->List Item
 |0,_,out=>out
 |f+1,n,out=>if n<out.length then tW f (n+1) (vY l T lk (out.getD n (0,0,0)) out)else out
def jY(l0:List Item):List Item:=vX (tW l T lk 12000 0 (dO [] l0))
def C6(it x:Item):Prop:=∃N:Int,∃i k:Nat,lg l it=ah (2,N)/\i<l.length/\(a_ l (i:Int)).1=N/\k<=T/\(oV lk it).testBit k=aB/\x=((i:Int),0,(k:Int))
inductive Cl(l0:List Item):Item->Prop
 |base {x:Item} (h:x∈l0):Cl l0 x
 |step {it x:Item} (h:Cl l0 it) (hx:C6 l T lk it x):Cl l0 x
def ef(it:Item):Prop:=0<=it.1/\it.1<=(l.length:Int)/\0<=it.2.1/\it.2.1<=((dR l it.1).length:Int)/\0<=it.2.2/\it.2.2<=(T:Int)
end
section
variable{l:List aL.Prod}{T:Nat}{lk:Int->Int->Nat}
theorem vZ{i bits:Nat}{out:List Item}{x:Item}:∀k,x∈fG i bits out k↔x∈out\/∃j,j<k/\bits.testBit j=aB/\x=((i:Int),0,(j:Int))
 |0=>⟨.inl,λh=>h.elim id λ⟨j,hj,_⟩=>absurd hj (oU j)⟩
 | k +1=>by
  rw[fG]
  by_cases c:bits.testBit k=aB
  ·rw[if_pos c,uN,vZ k]
   constructor
   grind
   grind
  rw[if_neg c,vZ k]
  grind
theorem Cu(i bits:Nat)(out:List Item):∀k,∃E,fG i bits out k=out++E
 |0=>⟨[],(fj _).symm⟩
 | k +1=>by
  rw[fG];obtain⟨E,h⟩:=Cu i bits out k;split
  ·obtain⟨E2,h2⟩:=Ex (fG i bits out k) (((i:Int),0,(k:Int)):Item)
   simp_all
  simp_all
theorem ru{i bits:Nat}{out:List Item}(h:out.Nodup):∀k,(fG i bits out k).Nodup
 |0=>h
 |k+1=>by
  rw[fG];split;exact Ey (ru h k);exact ru h k
theorem v7{N:Int}{bits:Nat}{out:List Item}{x:Item}:∀n,x∈fH l T N bits out n↔x∈out\/∃i k:Nat,i<n/\(a_ l (i:Int)).1=N/\k<=T/\bits.testBit k=aB/\x=((i:Int),0,(k:Int))
 |0=>⟨.inl,λh=>h.elim id λ⟨j,_,hj,_⟩=>absurd hj (oU j)⟩
 | n +1=>by
  rw[fH]
  by_cases c:(a_ l (n:Int)).1=N
  ·rw[if_pos c,vZ,v7 n]
   grind
  rw[if_neg c,v7 n]
  grind
theorem v8(N:Int)(bits:Nat)(out:List Item):∀n,∃E,fH l T N bits out n=out++E
 |0=>⟨[],(fj _).symm⟩
 | n +1=>by
  rw[fH];obtain⟨E,h⟩:=v8 N bits out n;split
  ·obtain⟨E2,h2⟩:=Cu n bits (fH l T N bits out n) (T+1)
   simp_all
  simp_all
theorem ry{N:Int}{bits:Nat}{out:List Item}(h:out.Nodup):∀n,(fH l T N bits out n).Nodup
 |0=>h
 |n+1=>by
  rw[fH];split;exact ru (ry h n) _;exact ry h n
theorem DC{it:Item}{out:List Item}{x:Item}:x∈vY l T lk it out↔x∈out\/C6 l T lk it x:=by
 unfold vY C6
 cases e:lg l it with
 |none=>simp
 | some s=>
  obtain⟨k,N⟩:=s;dsimp only
  by_cases c:k=2
  simp_all[v7]
  simp_all
theorem aeL(it:Item)(out:List Item):∃E,vY l T lk it out=out++E:=by
 unfold vY;split
 ·split
  simp[v8];exact⟨[],(fj _).symm⟩
 simp
theorem Xb{it:Item}{out:List Item}(h:out.Nodup):(vY l T lk it out).Nodup:=by
 grind[vY,ry]
theorem ng{p:Int}(hw:∀q∈l,q.2.length<=8):(dR l p).length<=8:=by
 unfold dR;split
 decide
 unfold a_;rw[cH]
 cases e:l[p.toNat]? with
 |none=>exact bC _
 |some q=>exact hw q (kr e)
theorem Xc{it x:Item}(h:C6 l T lk it x):ef l T x:=by
 obtain⟨N,i,k,_,h2,_,h4,_,rfl⟩:=h;exact⟨by omega,by omega,jg _,by simp,by simp,by simp_all⟩
theorem Aj{l0:List Item}(h0:∀x∈l0,ef l T x){x:Item}(h:Cl l T lk l0 x):ef l T x:=by
 cases h with
 |base h=>simp_all
 |step _ hx=>exact Xc hx
theorem BP{out:List Item}(hw:∀q∈l,q.2.length<=8)(hl:l.length<=40)(hT:T<=30)(hn:out.Nodup)(hr:∀x∈out,ef l T x):out.length<=11439:=by
 have:=ox (l:=out.map λx:Item=>x.1.toNat*279+x.2.1.toNat*31+x.2.2.toNat) (m:=11439) ?_ ?_
 simp_all
 ·rw[List.nodup_iff_pairwise_ne,List.pairwise_map]
  refine(ahl.1 hn).imp λ{a b} mE e=>mE.2.2 ?_;have ha:=hr a mE.1;have hb:=hr b mE.2.1;have ha8:=ng (p:=a.1) hw;have hb8:=ng (p:=b.1) hw;unfold ef at ha hb;obtain⟨a1,a2,a3⟩:=a;obtain⟨b1,b2,b3⟩:=b;dsimp only at*;rw[ju,ju];omega
 intro x hx;obtain⟨a,ha,rfl⟩:=fE.1 hx;have h1:=hr a ha;have h8:=ng (p:=a.1) hw;unfold ef at h1;omega
structure WkI(l:List aL.Prod)(T:Nat)(lk:Int->Int->Nat)(l0:List Item)(n:Nat)(out:List Item):Prop where
 nd:out.Nodup
 le:n<=out.length
 has:∀x∈l0,x∈out
 cl:∀x∈out,Cl l T lk l0 x
 shut:∀j (h:j<out.length),j<n->∀x,C6 l T lk out[j] x->x∈out
theorem UP{l0:List Item}{n:Nat}{out:List Item}(h:WkI l T lk l0 n out)(hn:n<out.length):WkI l T lk l0 (n+1) (vY l T lk out[n] out):=by
 obtain⟨E,hE⟩:=aeL (l:=l) (T:=T) (lk:=lk) out[n] out;have hlen:out.length<=(vY l T lk out[n] out).length:=by simp_all
 have te:∀j (h:j<out.length),(vY l T lk out[n] out)[j]' J=out[j]:=λj hj=>by
  simp_all
 refine⟨Xb h.nd,by omega,λx hx=>DC.2 (.inl (h.has x hx)),λx hx=>?_,λj hj hjn x hx=>?_⟩
 ·rcases DC.1 hx with h1|h1
  exact h.cl x h1;exact .step (h.cl _ (bX hn)) h1
 have tJ:j<out.length:=by omega
 rw[te j tJ]at hx
 by_cases e:j=n
 subst e;exact DC.2 (.inr hx);exact DC.2 (.inl (h.shut j tJ J x hx))
theorem FQ{l0:List Item}(hw:∀q∈l,q.2.length<=8)(hl:l.length<=40)(hT:T<=30)(h0:∀x∈l0,ef l T x):∀(f n:Nat) (out:List Item),11440<=f+n->WkI l T lk l0 n out->WkI l T lk l0 (tW l T lk f n out).length (tW l T lk f n out)
 | 0,n,out,hf,h=>by
  have:=BP hw hl hT h.nd λx hx=>Aj h0 (h.cl x hx);have:=h.le;omega
 | f +1,n,out,hf,h=>by
  rw[tW]
  by_cases c:n<out.length
  ·rw[if_pos c,cH,bL c,jz]
   exact FQ hw hl hT h0 f (n+1) _ J (UP h c)
  rw[if_neg c];have:=h.le;rw[show out.length=n by omega];exact h
theorem FR(l0:List Item):WkI l T lk l0 0 (dO [] l0):=
 ⟨sP l0 [] aa9,bC _,λx hx=>kV.2 (.inr hx),λx hx=> .base ((kV.1 hx).resolve_left (by simp)),λj _ h=>absurd h (oU j)⟩
section
variable(hw:∀q∈l,q.2.length<=8)(hl:l.length<=40)(hT:T<=30)
include hw hl hT
theorem eZ{l0:List Item}(h0:∀x∈l0,ef l T x){x:Item}:x∈jY l T lk l0↔Cl l T lk l0 x:=by
 unfold jY;rw[abw];have h:=FQ (lk:=lk) hw hl hT h0 12000 0 _ J (FR l0);refine⟨h.cl x,λhx=>?_⟩
 induction hx with
 |base hb=>exact h.has _ hb
 |step _ hx ih=>
  obtain⟨j,hj,rfl⟩:=ku.1 ih;exact h.shut j hj hj _ hx
theorem RX{l0:List Item}(h0:∀x∈l0,ef l T x):ahw (jY l T lk l0):=
 abx (FQ (lk:=lk) hw hl hT h0 12000 0 _ J (FR l0)).nd
theorem jb{l0:List Item}(h0:∀x∈l0,ef l T x):∀x∈jY l T lk l0,ef l T x:=λ_ hx=>Aj h0 ((eZ hw hl hT h0).1 hx)
theorem tk{l0:List Item}(h0:∀x∈l0,ef l T x):(jY l T lk l0).length<=11439:=
 BP hw hl hT (Xa (RX hw hl hT h0)) (jb hw hl hT h0)
end
end
def rz(it:Item):Item:=(it.1,it.2.1+1,it.2.2)
section
variable(l:List aL.Prod)(T N:Nat)(lk:Int->Int->Nat)
def nh(s:List Item)(x:bJ):List Item:=(s.filter λit=>decide (lg l it=ah x)).map rz
def hZ(s:List Item)(x:bJ):List Item:=jY l T lk (nh l s x)
def lK:List bJ:=(d_ T).map (λn:Nat=>((1:Int),(n:Int)))++(d_ N).map (λn:Nat=>((2:Int),(n:Int)))
def jj(S:List (List Item))(s:List Item):Nat×List (List Item):=if s∈S then(idx S s,S)else(S.length,S++[s])
def qV(s:List Item)(x:bJ)(S:List (List Item)):Int×List (List Item):=if hZ l T lk s x=[]then(-1,S)else(((jj S (hZ l T lk s x)).1:Int),(jj S (hZ l T lk s x)).2)
def Ak(s:List Item):List bJ->List Int->List (List Item)->Option (List Int×List (List Item))
 |[],nx,S=>ah (nx,S)
 |x::r,nx,S=>if 200<(qV l T lk s x S).2.length then aj else Ak s r (nx++[(qV l T lk s x S).1]) (qV l T lk s x S).2
def xP:Nat->Nat->List (List Int)->List (List Item)->Option (List (List Int)×List (List Item))
 |0,_,_,_=>aj
 | f +1,n,Nx,S=>if n<S.length then(match Ak l T lk (S.getD n []) (lK T N) [] S with
  |none=>aj
  |some (nx,S')=>xP f (n+1) (Nx++[nx]) S')else ah (Nx,S)
def mB:List Item:=jY l T lk [((l.length:Int),0,(T:Int))]
def allI:Option (List (List Int)×List (List Item)):=xP l T N lk 202 0 [] [mB l T lk]
end
theorem Al(T N:Nat):(lK T N).length=T+N:=by simp[lK]
theorem w6{T N k:Nat}(h:k<T):(lK T N)[k]?=ah (1,(k:Int)):=by
 simp_all[lK,lP]
theorem Am{T N k:Nat}(h:k<N):(lK T N)[T+k]?=ah (2,(k:Int)):=by
 simp_all[lK]
section
variable{l:List aL.Prod}{T N:Nat}{lk:Int->Int->Nat}
theorem An{s:List Item}{x:bJ}{y:Item}:y∈nh l s x↔∃it∈s,lg l it=ah x/\y=rz it:=by
 unfold nh;rw[fE]
 constructor
 ·rintro⟨it,h,rfl⟩
  rw[aa7,decide_eq_true_eq]at h;exact⟨it,h.1,h.2,rfl⟩
 rintro⟨it,h1,h2,rfl⟩;exact⟨it,aa7.2 ⟨h1,decide_eq_true h2⟩,rfl⟩
theorem iB{s:List Item}{x:bJ}(hs:∀it∈s,ef l T it):∀y∈nh l s x,ef l T y:=by
 intro y hy;obtain⟨it,h1,h2,rfl⟩:=An.1 hy;have hr:=hs it h1;have hd:=(dK.1 h2).1;unfold ef rz at*;dsimp only;omega
structure KZ(l:List aL.Prod)(T:Nat)(lk:Int->Int->Nat)(S:List (List Item)):Prop where
 nd:S.Nodup
 right:∀s∈S,∀it∈s,ef l T it
 shut:∀s∈S,∀it∈s,∀x,C6 l T lk it x->x∈s
def FT(l:List aL.Prod)(T:Nat)(lk:Int->Int->Nat)(S:List (List Item))(s:List Item)(x:bJ)(c:Int):Prop:=
 (hZ l T lk s x=[]/\c= -1)\/(hZ l T lk s x≠[]/\hZ l T lk s x∈S/\c=(idx S (hZ l T lk s x):Int))
theorem FT.Q_{S:List (List Item)}{s:List Item}{x:bJ}{c:Int}(h:FT l T lk S s x c)(E:List (List Item)):FT l T lk (S++E) s x c:=by
 rcases h with h|⟨h1,h2,h3⟩
 exact .inl h;exact .inr ⟨h1,uw _ h2,by grind[qH]⟩
section
variable(hw:∀q∈l,q.2.length<=8)(hl:l.length<=40)(hT:T<=30)
include hw hl hT
omit hw hl hT in
theorem RY{S:List (List Item)}(hS:KZ l T lk S){s:List Item}(hs:∀it∈s,ef l T it)(hsh:∀it∈s,∀x,C6 l T lk it x->x∈s):(∃E,(jj S s).2=S++E)/\s∈(jj S s).2/\(jj S s).1=idx (jj S s).2 s/\KZ l T lk (jj S s).2:=by
 unfold jj
 by_cases c:s∈S
 simp_all
 rw[if_neg c];refine⟨⟨[s],rfl⟩,KQ _ (ez.2 I),?_,?_,?_,?_⟩
 ·show S.length=idx (S++[s]) s
  have:=rQ (D:=S) (k:=s);unfold more at this;rw[if_neg c,if_neg c]at this;exact this.symm
 ·rw[aa6]
  exact⟨hS.nd,by simp,λa ha b hb e=>by simp_all⟩
 ·intro s' xF it hit
  rcases ib.1 xF with h|h
  exact hS.right s' h it hit;rw[ez.1 h]at hit;exact hs it hit
 intro s' xF it hit x hx;rcases ib.1 xF with h|h
 exact hS.shut s' h it hit x hx;rw[ez.1 h]at hit⊢;exact hsh it hit x hx
theorem v_{l0:List Item}(h0:∀x∈l0,ef l T x):∀it∈jY l T lk l0,∀x,C6 l T lk it x->x∈jY l T lk l0:=λ_ hit _ hx=>
 (eZ hw hl hT h0).2 (.step ((eZ hw hl hT h0).1 hit) hx)
theorem I_{S:List (List Item)}(hS:KZ l T lk S){s:List Item}(hs:∀it∈s,ef l T it)(x:bJ):(∃E,(qV l T lk s x S).2=S++E)/\FT l T lk (qV l T lk s x S).2 s x (qV l T lk s x S).1/\KZ l T lk (qV l T lk s x S).2:=by
 unfold qV
 by_cases c:hZ l T lk s x=[]
 ·rw[if_pos c]
  exact⟨⟨[],(fj _).symm⟩,.inl ⟨c,rfl⟩,hS⟩
 rw[if_neg c];obtain⟨h1,h2,h3,h4⟩:=RY hS (jb (lk:=lk) hw hl hT (iB (x:=x) hs)) (v_ hw hl hT (iB (x:=x) hs));exact⟨h1,.inr ⟨c,h2,congrArg _ h3⟩,h4⟩
theorem NX{s:List Item}(hs:∀it∈s,ef l T it):∀(xs:List bJ) (nx:List Int) (S:List (List Item)) (done:List bJ) (NY:List Int) (S':List (List Item)),KZ l T lk S->Ak l T lk s xs nx S=ah (NY,S')->S.length<=200->nx.length=done.length->(∀k x,done[k]?=ah x->FT l T lk S s x (nx.getD k 0))->
 (∃E,S'=S++E)/\KZ l T lk S'/\S'.length<=200/\NY.length=(done++xs).length/\∀k x,(done++xs)[k]?=ah x->FT l T lk S' s x (NY.getD k 0)
 | [],nx,S,done,NY,S',hS,h,akH,hlen,hd=>by
  simp_all[Ak]
 | x ::xs,nx,S,done,NY,S',hS,h,akH,hlen,hd=>by
  rw[Ak]at h
  by_cases c:200<(qV l T lk s x S).2.length
  simp_all;rw[if_neg c]at h;obtain⟨⟨E,h1⟩,h2,h3⟩:=I_ (lk:=lk) hw hl hT hS hs x;obtain⟨⟨E2,q1⟩,q2,q3,q4,q5⟩:=NX hs xs (nx++[(qV l T lk s x S).1]) _ (done++[x]) NY S' h3 h J (by simp_all) (λk y hk=>by
   by_cases ek:k<done.length
   ·rw[lP ek]at hk
    rw[lC J,h1];exact(hd k y hk).Q_ E
   grind)
  simp_all
structure K0(l:List aL.Prod)(T N:Nat)(lk:Int->Int->Nat)(n:Nat)(Nx:List (List Int))(S:List (List Item)):Prop where
 ss:KZ l T lk S
 Dv:S.length<=200
 le:n<=S.length
 len:Nx.length=n
 start:S[0]?=ah (mB l T lk)
 wide:∀q,q<n->(Nx.getD q []).length=T+N
 cell:∀q,q<n->∀k x,(lK T N)[k]?=ah x->FT l T lk S (S.getD q []) x ((Nx.getD q []).getD k 0)
theorem NZ:∀(f n:Nat) (Nx:List (List Int)) (S:List (List Item)) (Nx':List (List Int)) (S':List (List Item)),xP l T N lk f n Nx S=ah (Nx',S')->K0 l T N lk n Nx S->K0 l T N lk S'.length Nx' S'
  |0,_,_,_,_,_,h,_=>by cases h
  | f + 1,n,Nx,S,Nx',S',h,hi=>by
    rw[xP]at h
    by_cases c:n<S.length
    · rw[if_pos c]at h
      have te:S.getD n []=S[n]:=by simp_all
      have hs:∀it∈S.getD n [],ef l T it:=by rw[te];exact hi.ss.right _ (bX c)
      cases e:Ak l T lk (S.getD n []) (lK T N) [] S with
      |none=>simp_all
      | some r=>
        obtain⟨nx,S1⟩:=r;rw[e]at h;obtain⟨⟨E,q1⟩,q2,q3,q4,q5⟩:=NX (lk:=lk) hw hl hT hs (lK T N) [] S [] nx S1 hi.ss e hi.Dv rfl (λk x hk=>by grind);rw[fD]at q4 q5;have hlen:=congrArg ky q1;rw[bT]at hlen;refine NZ f (n+1) _ S1 Nx' S' h ⟨q2,q3,by omega,by rw[bT,hi.len];rfl,?_,λq hq=>?_,λq hq k x hk=>?_⟩;rw[q1,lP J];exact hi.start
        · by_cases eq:q=n
          · subst eq
            rw[sR (by rw[hi.len];exact aX _),hi.len,BK];show nx.length=T+N
            rw[q4,Al]
          rw[lC (by rw[hi.len];omega)];exact hi.wide q J
        by_cases eq:q=n
        · subst eq
          rw[sR (by rw[hi.len];exact aX _),hi.len,BK];have e1:S1.getD q []=S.getD q []:=by rw[q1,lC c]
          rw[e1];exact q5 k x hk
        rw[lC (by rw[hi.len];omega)];have e1:S1.getD q []=S.getD q []:=by grind
        rw[e1,q1];exact(hi.cell q J k x hk).Q_ E
    rw[if_neg c]at h;simp only[dM,ju]at h;obtain⟨rfl,rfl⟩:=h;have:n=S.length:=by have:=hi.le;omega
    simp_all
omit hw in
theorem fU:∀x∈[(((l.length:Int),0,(T:Int)):Item)],ef l T x:=by
 intro x hx;rw[ez.1 hx];exact⟨by dsimp only;omega,jg _,jg _,by dsimp only;omega,by dsimp only;omega,jg _⟩
theorem N2{Nx:List (List Int)}{S:List (List Item)}(h:allI l T N lk=ah (Nx,S)):K0 l T N lk S.length Nx S:=
 NZ hw hl hT 202 0 [] [mB l T lk] Nx S h
  ⟨⟨by simp,λs hs it hit=>by rw[ez.1 hs]at hit;exact jb (lk:=lk) hw hl hT (fU hl hT) it hit,λs hs it hit x hx=>by rw[ez.1 hs]at hit⊢;exact v_ hw hl hT (fU hl hT) it hit x hx⟩,by simp,bC _,rfl,rfl,λq hq=>absurd hq (oU q),λq hq=>absurd hq (oU q)⟩
end
end
def iu(s:List Item):List UInt8:=s.flatMap λit=>[fN it.1.toNat,fN it.2.1.toNat,fN it.2.2.toNat]
theorem RZ{a b:Int}(ha:0<=a/\a<256)(hb:0<=b/\b<256)(h:fN a.toNat=fN b.toNat):a=b:=by
 have:=congrArg UInt8.toNat h;rw[abb,abb]at this;omega
theorem FU:∀{s s':List Item},(∀it∈s,0<=it.1/\it.1<256/\0<=it.2.1/\it.2.1<256/\0<=it.2.2/\it.2.2<256)->(∀it∈s',0<=it.1/\it.1<256/\0<=it.2.1/\it.2.1<256/\0<=it.2.2/\it.2.2<256)->iu s=iu s'->s=s'
 |[],[],_,_,_=>rfl
 |[],b::s',_,_,h=>by grind[iu]
 |a::s,[],_,_,h=>by grind[iu]
 | a ::s,b::s',h1,h2,h=>by
  have ha:=h1 a (gX ..);have hb:=h2 b (gX ..);unfold iu at h;rw[lQ,lQ]at h;simp only[mg,fD,fL]at h;obtain⟨e1,e2,e3,e4⟩:=h;have e1:=RZ ⟨ha.1,ha.2.1⟩ ⟨hb.1,hb.2.1⟩ e1;have e2:=RZ ⟨ha.2.2.1,ha.2.2.2.1⟩ ⟨hb.2.2.1,hb.2.2.2.1⟩ e2;have e3:=RZ ⟨ha.2.2.2.2.1,ha.2.2.2.2.2⟩ ⟨hb.2.2.2.2.1,hb.2.2.2.2.2⟩ e3;have e:a=b:=by
   grind
  rw[e,FU (λit hit=>h1 it (lU _ hit)) (λit hit=>h2 it (lU _ hit)) e4]
end bK
namespace dI
open aL eh
abbrev Part:=Tree×Int
def ai3(y:bJ)(k:Part):Bool:=(decide (y.1=1)==decide (k.2<0))&&!(decide (0<=k.2)&&decide (k.2≠y.2))
def UQ:List bJ->List Part->Bool
 |y::b,k::r=>ai3 y k&&UQ b r
 |_,_=>aB
def aby(l:List aL.Prod)(P:List Part)(u:Nat)(x:bJ):Option (List Part×Nat):=
 if x.1=2/\x.2=(u:Int)then ah (P++[(.mk (-1) (u:Int) [],-1)],u+1)
 else if x.1≠4\/x.2<0\/(l.length:Int)<=x.2 then aj
 else if P.length<(a_ l x.2).2.length then aj
 else if UQ (a_ l x.2).2 (P.drop (P.length-(a_ l x.2).2.length))=aB then
  ah (P.take (P.length-(a_ l x.2).2.length)++[(.mk x.2 0 ((P.drop (P.length-(a_ l x.2).2.length)).map (·.1)),(a_ l x.2).1)],u)
 else aj
def K1(l:List aL.Prod):List bJ->List Part->Nat->Option (List Part×Nat)
 |[],P,u=>ah (P,u)
 | x::r,P,u=>match aby l P u x with
  |none=>aj
  |some (P',u')=>K1 l r P' u'
def K2(l:List aL.Prod)(t:Tree):List bJ:=if t.prod<0 then [(2,t.tok)]else upE l t
theorem N3(l:List aL.Prod):∀(ks:List Tree) (b:List bJ),ks.length=b.length->(jx l ks b).filterMap evU=ks.flatMap (K2 l)
 |[],b,_=>by rfl
 |t::r,[],h=>by grind
 | .mk p k kids::r,y::b,h=>by
  have ih:=N3 l r b (by simp_all);rw[jx,lQ,Bk,ih]
  congr 1
  unfold K2 upE;show _=if p<0 then [(2,k)]else _
  split;rfl;rfl
theorem FV{l:List aL.Prod}{n:Int}{ks:List Tree}(h0:0<=n)(h:ks.length=(a_ l n).2.length):K2 l (.mk n 0 ks)=ks.flatMap (K2 l)++[(4,n)]:=by
 unfold K2 upE;rw[if_neg (by show ¬n<0;omega),aeo,List.filterMap_cons_none I,Bk,N3 l _ _ h];rfl
def Ao(l:List aL.Prod)(t:Tree):Int:=if t.prod<0 then-1 else(a_ l t.prod).1
theorem FW(l:List aL.Prod)(k:Int):K2 l (.mk (-1) k [])=[(2,k)]:=by
 rfl
theorem FX(l:List aL.Prod)(k:Int)(ks:List Tree):Ao l (.mk (-1) k ks)= -1:=by
 rfl
theorem FY(l:List aL.Prod){p:Int}(h:0<=p)(k:Int)(ks:List Tree):Ao l (.mk p k ks)=(a_ l p).1:=by
 unfold Ao;rw[if_neg (show ¬(Tree.mk p k ks).prod<0 from by show ¬p<0;omega)];rfl
theorem UR{l:List aL.Prod}(hh:∀p∈l,0<=p.1):∀{ks:List Tree} {b:List bJ} {u:Nat},b9 l ks b u->UQ b (ks.map λt=>(t,Ao l t))=aB
 |[],[],_,_=>rfl
 | .mk p k kk::ks,y::b,u,h=>by
  rw[b9]at h;rw[fm,UQ,UR hh h.2,Bool.and_true];have h1:=h.1;rw[dm]at h1;unfold ai3;rcases h1 with⟨a1,a2,_⟩|⟨a1,a2,a3,a4,_⟩
  ·subst a2
   rw[FX];simp[a1]
  have hm:=hh _ (ee a2 a3);rw[FY l a2];rw[decide_eq_false a1,decide_eq_false (by omega:¬(a_ l p).1<0),a4];simp
 |[],_::_,_,h=>by rfl
 |_::_,[],_,h=>by rfl
mutual
theorem R4{l:List aL.Prod}(hh:∀p∈l,0<=p.1):∀{t:Tree} {x:bJ} {u:Nat} {P:List Part} {r:List bJ},dm l t x u->K1 l (K2 l t++r) P u=K1 l r (P++[(t,Ao l t)]) (u+leaves t)
 | .mk p k kids,x,u,P,r,h=>by
  rw[dm]at h;rw[leaves];rcases h with⟨a1,a2,a3,a4⟩|⟨a1,a2,a3,a4,a5,a6⟩
  simp_all[FW,FX,K1,aby]
  subst a5;have hl:=nI a6;rw[if_neg J,FV a2 hl,eu,US hh a6];show K1 l ((4,p)::r) _ _=_
  rw[K1];have e:(P++kids.map λt=>(t,Ao l t)).length-(a_ l p).2.length=P.length:=by
   simp_all
  unfold aby;dsimp only;rw[if_neg J,if_neg J,if_neg (by simp_all),e,List.drop_left,if_pos (UR hh a6),List.take_left];rw[FY l a2,List.map_map];have e2:kids.map ((λx:Part=>x.1)∘λt=>(t,Ao l t))=kids:=by
   rw[show((λx:Part=>x.1)∘λt=>(t,Ao l t))=id from I,List.map_id]
  rw[e2]
theorem US{l:List aL.Prod}(hh:∀p∈l,0<=p.1):∀{ks:List Tree} {b:List bJ} {u:Nat} {P:List Part} {r:List bJ},b9 l ks b u->K1 l (ks.flatMap (K2 l)++r) P u=K1 l r (P++ks.map λt=>(t,Ao l t)) (u+cC ks)
 |[],[],u,P,r,_=>by simp[cC]
 | .mk p k kk::ks,y::b,u,P,r,h=>by
  rw[b9]at h;rw[lQ,eu,R4 hh h.1,US hh h.2,cC,fm,eu,iO];rfl
 |[],_::_,_,_,_,h=>by grind[b9]
 |_::_,[],_,_,_,h=>by grind[b9]
end
end dI
namespace bK
open aL dI eh dA cX
open wX (dU)
abbrev Act:=Int×Int
section
variable(l:List aL.Prod)(T:Nat)
def wa(c:Nat)(it:Item):Option Act:=if it.2.2≠(c:Int)then aj else if it.1=(l.length:Int)/\it.2.1=1 then ah (3,0)else if it.1<(l.length:Int)/\it.2.1=((a_ l it.1).2.length:Int)then ah (2,it.1)else aj
def jA(s:List Item)(nx:List Int)(c:Nat):List Act:=(if c<T/\0<=nx.getD c 0 then [(1,nx.getD c 0)]else [])++s.filterMap (wa l c)
end
section
variable(l:List aL.Prod)(T:Nat)(Nx:List (List Int))(S:List (List Item))
def jG(q c:Nat):Act:=(jA l T (S.getD q []) (Nx.getD q []) c).headD (0,0)
def abz(q:Nat)(n:Int):Int:=(Nx.getD q []).getD (T+n.toNat) 0
def I':Prop:=∀q,q<S.length->∀c,c<=T->(jA l T (S.getD q []) (Nx.getD q []) c).length<=1
inductive xr(w:List Int):List Nat->Nat->List bJ->List Nat->Nat->Prop
 |nil {σ:List Nat} {a:Nat}:xr w σ a [] σ a
 |shift {q s:Nat} {σ σ':List Nat} {a a':Nat} {E:List bJ} (ha:a<w.length) (h:jG l T Nx S q (dU T w a)=(1,(s:Int))) (hr:xr w (s::q::σ) (a+1) E σ' a'):xr w (q::σ) a ((2,(a:Int))::E) σ' a'
 |reduce {q r tq:Nat} {p:Int} {σ ρ σ':List Nat} {a a':Nat} {E:List bJ} (h:jG l T Nx S q (dU T w a)=(2,p)) (hd:(q::σ).drop (a_ l p).2.length=r::ρ) (hg:abz T Nx r (a_ l p).1=(tq:Int)) (hr:xr w (tq::r::ρ) a E σ' a'):xr w (q::σ) a ((4,p)::E) σ' a'
end
section
variable{l:List aL.Prod}{T N:Nat}{lk:Int->Int->Nat}{Nx:List (List Int)}{S:List (List Item)}{w:List Int}
theorem xr.Q_{σ σ1 σ2:List Nat}{a a1 a2:Nat}{E E2:List bJ}(h:xr l T Nx S w σ a E σ1 a1)(h2:xr l T Nx S w σ1 a1 E2 σ2 a2):xr l T Nx S w σ a (E++E2) σ2 a2:=by
 induction h with
 |nil=>grind
 |shift ha h _ ih=>exact .shift ha h (ih h2)
 |reduce h hd hg _ ih=>exact .reduce h hd hg (ih h2)
theorem xr.det{σ σ1:List Nat}{a a1:Nat}{E:List bJ}(h:xr l T Nx S w σ a E σ1 a1):∀{E2:List bJ} {σ2:List Nat} {a2:Nat},xr l T Nx S w σ a E2 σ2 a2->(∀q ρ,σ1=q::ρ->jG l T Nx S q (dU T w a1)=(3,0))->(∀q ρ,σ2=q::ρ->jG l T Nx S q (dU T w a2)=(3,0))->E=E2:=by
 induction h with
 |nil=>
  intro E2 σ2 a2 h2 e1 e2
  cases h2 with
  |nil=>rfl
  |shift _ h _=>simp_all
  |reduce h _ _ _=>simp_all
 | shift ha h _ ih=>
  intro E2 σ2 a2 h2 e1 e2
  cases h2 with
  |nil=>simp_all
  |shift _ h' uz=>
   grind
  |reduce h' _ _ _=>simp_all
 | reduce h hd hg _ ih=>
  intro E2 σ2 a2 h2 e1 e2
  cases h2 with
  |nil=>simp_all
  |shift _ h' _=>simp_all
  |reduce h' PA zh uz=>
   grind
theorem FZ{q c:Nat}{x:Act}(hc:I' l T Nx S)(hq:q<S.length)(Xd:c<=T)(h:x∈jA l T (S.getD q []) (Nx.getD q []) c):jG l T Nx S q c=x:=by
 have:=hc q hq c Xd;unfold jG;generalize jA l T (S.getD q []) (Nx.getD q []) c=A at*
 match A,h,this with
 |[y],h,_=>simp_all
 |_::_::_,_,h=>grind
section
variable(hI:K0 l T N lk S.length Nx S)
include hI
theorem UT(hw:∀q∈l,q.2.length<=8)(hl:l.length<=40)(hT:T<=30){q k:Nat}{x:bJ}{it:Item}(hq:q<S.length)(hk:(lK T N)[k]?=ah x)(hit:it∈S.getD q [])(hx:lg l it=ah x):∃s,s<S.length/\(Nx.getD q []).getD k 0=(s:Int)/\rz it∈S.getD s []:=by
 have te:S.getD q []=S[q]:=by simp_all
 have hr:∀it∈S.getD q [],ef l T it:=by rw[te];exact hI.ss.right _ (bX hq)
 have hov:=iB (x:=x) hr;have hm:rz it∈hZ l T lk (S.getD q []) x:=(eZ (lk:=lk) hw hl hT hov).2 (.base (An.2 ⟨it,hit,hx,rfl⟩));rcases hI.cell q hq k x hk with⟨h1,_⟩|⟨_,h2,h3⟩
 simp_all;have hlt:=mY h2;refine⟨_,hlt,h3,?_⟩;rw[cH,bL hlt,jz,sQ hlt];exact hm
theorem Xe(hw:∀q∈l,q.2.length<=8)(hl:l.length<=40)(hT:T<=30)(hc:I' l T Nx S){q t:Nat}{it:Item}(hq:q<S.length)(ht:t<T)(hit:it∈S.getD q [])(hx:lg l it=ah (1,(t:Int))):∃s,s<S.length/\jG l T Nx S q t=(1,(s:Int))/\rz it∈S.getD s []:=by
 obtain⟨s,h1,h2,h3⟩:=UT hI hw hl hT hq (w6 ht) hit hx;refine⟨s,h1,FZ hc hq J ?_,h3⟩;unfold jA;rw[h2,if_pos ⟨ht,by omega⟩];exact uw _ (ez.2 I)
theorem aeM(hw:∀q∈l,q.2.length<=8)(hl:l.length<=40)(hT:T<=30){q:Nat}{n:Int}{it:Item}(hq:q<S.length)(hn:0<=n/\n<(N:Int))(hit:it∈S.getD q [])(hx:lg l it=ah (2,n)):∃s,s<S.length/\abz T Nx q n=(s:Int)/\rz it∈S.getD s []:=by
 obtain⟨k,rfl⟩:=fJ hn.1;exact UT hI hw hl hT hq (Am J) hit hx
omit hI in
theorem R5(hc:I' l T Nx S){q c:Nat}{it:Item}(hq:q<S.length)(Xd:c<=T)(hit:it∈S.getD q [])(h1:it.1<(l.length:Int))(h2:it.2.1=((a_ l it.1).2.length:Int))(h3:it.2.2=(c:Int)):jG l T Nx S q c=(2,it.1):=by
 refine FZ hc hq Xd (KQ _ (BJ.2 ⟨it,hit,?_⟩));unfold wa;rw[if_neg (by simpa using h3),if_neg J,if_pos ⟨h1,h2⟩]
omit hI in
theorem R6(hc:I' l T Nx S){q:Nat}(hq:q<S.length)(hit:(((l.length:Int),1,(T:Int)):Item)∈S.getD q []):jG l T Nx S q T=(3,0):=by
 refine FZ hc hq (aX _) (KQ _ (BJ.2 ⟨_,hit,?_⟩));unfold wa;rw[if_neg (by simp),if_pos ⟨rfl,rfl⟩]
theorem abA{q:Nat}{it x:Item}(hq:q<S.length)(hit:it∈S.getD q [])(hx:C6 l T lk it x):x∈S.getD q []:=by
 have te:S.getD q []=S[q]:=by simp_all
 rw[te]at hit⊢;exact hI.ss.shut _ (bX hq) it hit x hx
end
theorem Ja{it:Item}{k:Nat}(hk:k<62)(h0:0<=it.2.2):(oV lk it).testBit k=aB↔(lk it.1 it.2.1).testBit k=aB\/((lk it.1 it.2.1).testBit 62=aB/\it.2.2=(k:Int)):=by
 unfold oV
 by_cases c:(lk it.1 it.2.1).testBit 62=aB
 ·rw[if_pos c,Nat.testBit_or,aa_,RA,RA,ko,decide_eq_true_eq]
  grind
 simp_all
theorem Ap{E:List Bool}{F:List Nat}{behind z:Nat}(hz:behind.testBit z=aB):∀(b:List bJ) (out:Nat),(∀x∈b,x.1=1\/x.1=2)->kz E b aE=aB->(io E F behind b out).testBit z=aB
 |[],out,_,_=>by
  show(out|||behind).testBit z=aB
  simp_all
 |x::r,out,hx,h=>by
  unfold kz at h;rw[List.all_cons,Bool.and_eq_true]at h;have h1:¬x.1=1:=λe=>by simp_all
  have h2:=(hx x (gX ..)).resolve_left h1;have h3:=h.1;rw[if_neg h1,if_pos h2]at h3;rw[io,if_neg h1,if_pos h3];exact Ap hz r _ (λy hy=>hx y (lU _ hy)) h.2
section
variable{E R M:List Bool}{F W:List Nat}{n:Nat}
theorem Xf(hC:jU l E F W R M)(_:fY n l)(Hx:∀p d:Int,0<=p->p<=(l.length:Int)->0<=d->lk p d=eA E F ((dR l p).drop (d.toNat+1)) (2^62))(hT:T<=30)(hwd:∀x∈w,0<=x/\x<(T:Int))
 {it:Item} (hr:ef l T it) {ks:List Tree} {b:List bJ} {u a:Nat} (hb:(dR l it.1).drop (it.2.1.toNat+1)=b) (hbs:∀x∈b,x.1=1\/x.1=2) (hk:b9 l ks b u) (hy:∃r,w.drop a=eV l ks b++r) (ha:a+cC ks<=w.length) (Xg:it.2.2=(dU T w (a+cC ks):Int)):
 (oV lk it).testBit (dU T w a)=true:=by
 have Xd:dU T w a<=T:=by
  unfold dU;split
  grind[bX]
  omega
 rw[Ja J hr.2.2.2.2.1,Hx it.1 it.2.1 hr.1 hr.2.1 hr.2.2.1,hb]
 by_cases c:cC ks=0
 ·right
  refine⟨Ap (by rfl) b 0 hbs (yK hC hk c),?_⟩;rw[Xg,c,mi]
 ·left
  have h:=rT hC hk hy (2^62) 0 (λh=>absurd h c);have e:pR w a=dU T w a:=by
   unfold pR dU;rw[if_pos J,if_pos J]
  rwa [e]at h
theorem Jb(hs:fY n l)(hn:0<n){p:Int}:∀x∈dR l p,x.1=1\/(x.1=2/\0<=x.2/\x.2<(n:Int)):=by
 intro x hx;unfold dR at hx;split at hx;rw[ez.1 hx];exact .inr ⟨rfl,jg _,by show(0:Int)<n;omega⟩;unfold a_ at hx;rw[cH]at hx
 cases e:l[p.toNat]? with
 |none=>simp_all
 |some q=>rw[e]at hx;exact(hs q (kr e)).2.2 x hx
end
end
end bK
namespace cB
open Go.RowKit cL dV aL dI dA bK
def iS(x:bK.Item):List Value:=[ap av x.1,ap av x.2.1,ap av x.2.2]
theorem mc(x:bK.Item):(iS x).length=3:=rfl
def BQ(x:Option Nat):b_:=match x with
 |some g=>aK g #[ap av 2,ap av 0] 123
 |none=>⟨aj,λ_=>False,λ_=>True,λ_ _ k h=>by rcases h with h|h;cases h;exact h.elim,λ_ _ _ _ _=>trivial⟩
def aeN(vb:Nat->Value)(n:Nat)(x:Option Nat):Value:=match x with
 |some g=>ak (ah ⟨g,0,aj⟩) 1 1
 |none=>vb n
def Xh(F:Nat->Prop)(w:World)(vb:Nat->Value)(l:List aL.Prod):Prop:=∀i,i<l.length->jO aef F w (vb i) (a_ l (i:Int)).2
def Aq(vb:Nat->Value)(n P:Nat):Spec (Option Nat):=⟨λx=>x.isSome=decide (n=P),λx=>aeN vb n x,λx=>[BQ x]⟩
theorem abB{F:Nat->Prop}{w:World}{vp:Value}{l:List aL.Prod}(h:jO oB F w vp l):∃(vb:Nat->Value) (bp:Option Addr) (cp:Nat),vp=ak bp l.length cp/\l.length<=cp/\cp<=maxLen/\Xh F w vb l/\(0<l.length->∃b off,bp=ah ⟨b,off,aj⟩/\F b/\∀i,i<l.length->Rd w b (off+i*2) [ap av (a_ l (i:Int)).1,vb i]/\cL.dv (a_ l (i:Int)).1):=by
 obtain⟨bp,cp,rfl,h1,h2,h3⟩:=h
 by_cases h0:0<l.length
 ·obtain⟨b,off,rfl,hF,hr⟩:=h3 h0
  have key:∀i:Nat,∃v:Value,i<l.length->jO aef F w v (a_ l (i:Int)).2/\Rd w b (off+i*2) [ap av (a_ l (i:Int)).1,v]/\cL.dv (a_ l (i:Int)).1:=λi=>by
   by_cases hi:i<l.length
   ·obtain⟨base,cap,q1,q2,q3⟩:=jp hr hi
    have e:a_ l (i:Int)=l[i]:=by unfold a_;rw[de,cH,bL hi];rfl
    exact⟨_,λ_=>by rw[e];exact⟨q3,q1,q2⟩⟩
   exact⟨undef,λh=>absurd h hi⟩
  refine⟨λi=>AX (key i),ah ⟨b,off,aj⟩,cp,rfl,h1,h2,λi hi=>(x9 (key i) hi).1,λ_=>⟨b,off,rfl,hF,λi hi=>(x9 (key i) hi).2⟩⟩
 exact⟨λ_=>undef,bp,cp,rfl,h1,h2,λi hi=>absurd hi J,λh=>absurd h h0⟩
theorem ahy{n:Nat}{W:bV}{e:Exit}{Q:Exit->Act->World->Prop}{fr:Fr}{L:List b_}(h:E n W e Q fr (L++[BQ aj])):E n W e Q fr L:=⟨λa w hr hm=>h.go a w hr ⟨hm.low,fg.both hm.owns (fg.one trivial λk hk=>by rcases hk with hk|hk;cases hk;exact hk.elim) λi j o o' _ hj k _ hk=>by
 match j,hj with
 |0,hj=>
  simp only[List.getElem?_cons_zero,dM]at hj;subst hj;rcases hk with hk|hk
  cases hk
  exact hk.elim
 |j+1,hj=>simp at hj⟩⟩
theorem R7(w:World):(da 123 #[(0,ap av 2),(1,ap av 0)]).run aC w= .ok (aP #[ap av 2,ap av 0]) w:=by kernel_rfl
theorem tm(t n:Int)(bp:Option Addr)(cp:Nat)(l:List aL.Prod)(vb:Nat->Value)(w0 w:World)(B:bV)(k:Nat)(hk:k<=l.length)(ho:ly w0 B)(hm:Mem B [] w)(Cf:∀i,i<l.length->∃bb m cc,vb i=ak bb m cc)
 (hr:0<l.length->∃b off,bp=ah ⟨b,off,aj⟩/\∀i,i<l.length->Rd w0 b (off+i*2) [ap av (a_ l (i:Int)).1,vb i]):
 Calls aC 140 #[du t n (ak bp l.length cp),ap av (k:Int)] w (cJ (Aq vb k l.length) w):=by
 have hb:=R7;have hr:∀i,i<l.length->∃b off,bp=ah ⟨b,off,aj⟩/\Rd w b (off+i*2) [ap av (a_ l (i:Int)).1,vb i]:=λi hi=>by
  obtain⟨b,off,q1,q2⟩:=hr J;exact⟨b,off,q1,λj u hj=>ho.cell hm (q2 i hi j u hj)⟩
 clear hm ho;refine enter (args:=[du t n (ak bp l.length cp),ap av (k:Int)]) (n:=18) Tryz.func140 I I I ?_;refine bZ (bx (bH I I I λg2=>?_));refine zL ?_
 by_cases c:k=l.length
 ·subst c
  repeat(first|refine GC ?_|refine gV (aw (v:=ak bp l.length cp) aI.ty I (aD (i:=0) I I)) ?_|refine gV (dc (b:=aB) I I (decide_eq_true I)) ?_|refine gV (aZ I hb) ?_|refine GB ?_)
  refine fz (cs:=#[ap av 2,ap av 0]) [aP #[ap av 2,ap av 0]] I I I (by intro v hv;simp at hv;subst hv;rfl) I I I λg11=>?_;refine zL ?_
  try refine GA ?_
  exact cV I I λw hm=>hm.meets (S:=Aq vb l.length l.length) (ah g11) (by show aB=decide (l.length=l.length);rw[decide_eq_true I]) [1] alt I
 ·obtain⟨b,off,rfl,gu⟩:=hr k J
  obtain⟨bb,m,cc,hv⟩:=Cf k J;have eC:∀(L:List b_),At w L ⟨b,off+k*2+1,aj⟩ (vb k):=λL=>jE gu (j:=1) I;have hlt:k<l.length:=by omega
  repeat(first|refine GC ?_|refine gV (aw (v:=ak (ah ⟨b,off,aj⟩) l.length cp) aI.ty I (aD (i:=0) I I)) ?_|refine gV (dc (b:=aE) I I (decide_eq_false J)) ?_|refine gV (aR (j:=k) bM.eq aI.ty I I hlt) ?_|refine gV (aw (v:=vb k) aI.ty I (eC _)) ?_|refine GB ?_)
  refine ahy ?_;exact cV I I λw hm=>hm.meets (S:=Aq vb k l.length) aj (by show aE=decide (k=l.length);rw[decide_eq_false c]) [1] alt I
abbrev RK:=Int×Int
def rkV(x:RK):Value:=aP #[ap av x.1,ap av x.2]
set_option maxRecDepth 100000 in
theorem ahz(p:RK)(h:cL.dv p.1/\cL.dv p.2):∃l,keyOf aC 323 (rkV p)=ah l:=by
 have e1:aC.cellsOf 323=2:=by kernel_rfl
 have e3:aC.cellsOf 3=1:=by kernel_rfl
 refine Kg (cs:=[ap av p.1,ap av p.2]) (m:=2) (by kernel_rfl) (by kernel_rfl) (by rw[e1];rfl) (Dm 2 (by kernel_rfl)) λd=>?_;refine Bi (d:=d+1) Tryz.underlying323 (by rw[e1];rfl) (by kernel_rfl) λf hf=>?_;simp only[dw,fC,or_false]at hf;rcases hf with rfl|rfl
 ·rw[e3]
  exact uM Tryz.underlying3 h.1.1 h.1.2
 rw[e3];exact uM Tryz.underlying3 h.2.1 h.2.2
theorem ai4:(323:TypeId)<aC.types.size:=of_decide_eq_true (by kernel_rfl)
set_option maxRecDepth 100000 in
def jc:yu aC 323 RK where
 kv:=rkV
 ok p:=cL.dv p.1/\cL.dv p.2
 law:=deep_law_laid Dl (m:=2) J ai4 (by kernel_rfl) (by kernel_rfl)
 key x h:=ahz x h
 inj x y h:=by
  simp only[rkV,nS,qc,fL,Fw,true_and,and_true]at h;exact pE h.1 h.2
set_option maxRecDepth 100000 in
theorem ahA(p:bK.Item)(h:cL.dv p.1/\cL.dv p.2.1/\cL.dv p.2.2):∃l,keyOf aC 261 (aP (iS p).toArray)=ah l:=by
 have e1:aC.cellsOf 261=3:=by kernel_rfl
 have e3:aC.cellsOf 3=1:=by kernel_rfl
 refine Kg (cs:=iS p) (m:=2) (by kernel_rfl) (by kernel_rfl) (by rw[e1];rfl) (Dm 2 (by kernel_rfl)) λd=>?_;refine Bi (d:=d+1) Tryz.underlying261 (by rw[e1];rfl) (by kernel_rfl) λf hf=>?_;simp only[dw,fC,or_false]at hf;rcases hf with rfl|rfl|rfl
 ·rw[e3]
  exact uM Tryz.underlying3 h.1.1 h.1.2
 ·rw[e3]
  exact uM Tryz.underlying3 h.2.1.1 h.2.1.2
 rw[e3];exact uM Tryz.underlying3 h.2.2.1 h.2.2.2
theorem ai5:(261:TypeId)<aC.types.size:=of_decide_eq_true (by kernel_rfl)
set_option maxRecDepth 100000 in
def K3:yu aC 261 bK.Item where
 kv x:=aP (iS x).toArray
 ok p:=cL.dv p.1/\cL.dv p.2.1/\cL.dv p.2.2
 law:=deep_law_laid Dl (m:=2) J ai5 (by kernel_rfl) (by kernel_rfl)
 key x h:=ahA x h
 inj x y h:=by
  simp only[iS,nS,qc,fL,Fw,true_and,and_true]at h;exact pE h.1 (pE h.2.1 h.2.2)
theorem UU{a b:Nat}(ha:a<=9223372036854775807)(hb:b<=9223372036854775807):jc.ok ((a:Int),(b:Int)):=by
 show cL.dv (a:Int)/\cL.dv (b:Int)
 exact⟨⟨by omega,by omega⟩,⟨by omega,by omega⟩⟩
theorem N4(w:World):(zeroValue 92).run aC w= .ok (.int .u64 0) w:=by kernel_rfl
theorem oH(w:World):(zeroValue 3).run aC w= .ok (ap av 0) w:=by kernel_rfl
theorem F0{x:Nat}(hx:x<18446744073709551616)(h:x.testBit 62=aB):bits .andNot .u64 (x:Int) 4611686018427387904=((x^^^2^62:Nat):Int):=by
 have e0:(4611686018427387904:Int)=((2^62:Nat):Int):=by decide
 rw[e0];show uo.wrap ((x8 64 (x:Int)&&& ~~~ x8 64 ((2^62:Nat):Int)).toNat:Int)=_
 have hlt:x^^^2^62<2^64:=RC hx alt;have e:x8 64 (x:Int)&&& ~~~ x8 64 ((2^62:Nat):Int)=BitVec.ofNat 64 (x^^^2^62):=by
  rw[aaZ,aaZ]
  ext i hi
  simp only[BitVec.getElem_and,BitVec.getElem_not];rw[<-Rt,<-Rt,<-Rt,Ru,Ru,Ru];simp only[hi,decide_true,Bool.true_and,aa_,RA]
  by_cases e:62=i
  subst e;rw[h];decide;rw[decide_eq_false e];simp
 rw[e,BitVec.toNat_ofNat,Nat.mod_eq_of_lt hlt,um];omega
theorem abC{P:Program}(x j b:Nat)(k k':IntKind)(hb:k.bits=b)(hj:j<=b)(w:World):(iM .shr k (x:Int) k' (j:Int)).run P w= .ok (.int k ((x/2^j:Nat):Int)) w:=by
 have e:min j b=j:=by omega
 have h0:¬((j:Int)<0):=by omega
 have e2:(x:Int).fdiv (2^j)=((x/2^j:Nat):Int):=by
  rw[Int.fdiv_eq_ediv_of_nonneg _ (by have:(0:Int)<2^j:=Int.pow_pos alt;omega)];simp
 simp only[iM,if_neg h0,hb,de,e,e2,pA]
theorem ahB{y:Nat}(hy:y<18446744073709551616):bits .and .u64 (y:Int) 1=((y %2:Nat):Int):=by
 have h:=bits_nat .u64 64 alt (λn h0 h1=>by rw[um];omega) y 1 (by simpa using hy) alt;rw[Nat.and_one_is_mod]at h;exact h.1
theorem Ar(x k:Nat):x.testBit k=decide (x/2^k %2=1):=Nat.testBit_eq_decide_div_mod_eq ..
def kE(g:dD)(p d:Int):Nat:=C5 g ((dR g.az p).drop (d.toNat+1)) 4611686018427387904
theorem UW{g:dD}{body:List bJ}{behind:Nat}(hb:behind<18446744073709551616):C5 g body behind<18446744073709551616:=by
 unfold C5
 by_cases c:vV g body=0
 ·rw[if_pos c]
  have hg:cI g=0:=by
   unfold vV at c
   by_cases c2:cI g=0
   exact c2;rw[if_pos c2]at c;exact c
  have h60:¬60<body.length:=λh=>by
   unfold vV at c;rw[if_neg (by simpa using hg),if_pos h]at c;cases c
  have oz:HH g.aQ g.bB body=0:=by
   unfold vV at c;rw[if_neg (by simpa using hg),if_neg h60]at c;exact c
  have hn:=(cz hg).2.2.1;have ht:=(cz hg).2.1;refine px (KV hg (n:=g.bB.toNat) J).2 hb λx hx h1=>?_;rcases qU (KT oz x hx)with h|h
  omega;omega
 rw[if_neg c];decide
def Cv(t n:Int)(vp:Value)(gm:Nat):List Value:=[ap av t,ap av n,vp,.map (ah gm)]
def jZ(lk:Int->Int->Nat)(f:RK->Option Value):Prop:=∀x v,f x=ah v->v=gZ (lk x.1 x.2)
theorem R8(a b:Int)(w:World):(da 323 #[(0,ap av a),(1,ap av b)]).run aC w= .ok (aP #[ap av a,ap av b]) w:=by go_simp
theorem jZ.put{lk:Int->Int->Nat}{f:RK->Option Value}(h:jZ lk f)(x:RK):jZ lk (λy=>if y=x then ah (gZ (lk x.1 x.2))else f y):=by
 intro y v hv;dsimp only at hv
 by_cases c:y=x
 ·rw[if_pos c]at hv
  cases hv;rw[c]
 rw[if_neg c]at hv;exact h y v hv
theorem F3(a:bJ):(dr a).length=2:=rfl
theorem K4{t n:Int}{vp v:Value}{gm j:Nat}(h:[ap av t,ap av n,vp][j]?=ah v):(Cv t n vp gm).toArray[0+j]?=ah v:=by
 rw[cU]
 match j,h with
 |0,h=>exact h
 |1,h=>exact h
 |2,h=>exact h
theorem As{l:List aL.Prod}{w0:World}{W:bV}{L:List b_}{vb:Nat->Value}{k i:Nat}{x:Option Nat}(ho:ly w0 W)(hv:Xh (λq=>q<w0.heap.size) w0 vb l)(hk:k<=l.length)(hx:x.isSome=decide (k=l.length))(hi:L[i]?=ah (BQ x)):∃b c,aeN vb k x=ak b (dR l (k:Int)).length c/\(dR l (k:Int)).length<=c/\SlL W L (aeN vb k x) (dR l (k:Int)).length ((dR l (k:Int)).flatMap dr):=by
 cases x with
 |some g=>
  have hk:k=l.length:=by simpa using hx
  subst hk;have e:dR l (l.length:Int)=[(2,0)]:=by unfold dR;rw[if_pos I]
  rw[e];exact⟨_,_,rfl,aX _,kT hi (λj u h=>by simpa[dr]using h) (aX _) alt⟩
 | none=>
  have qD:k<l.length:=by
   have:¬k=l.length:=by simpa using hx
   omega
  have e:dR l (k:Int)=(a_ l (k:Int)).2:=by unfold dR;rw[if_neg J]
  rw[e];have h:=hv k qD;have hs:=h.flat (f:=dr) alt;obtain⟨b,c,e2,e3,_⟩:=id h;exact⟨b,c,e2,e3,λw hm=>hs.gr (ho.mem hm)⟩
attribute [local irreducible] Op.shift Go.bits in
theorem N5(g:dD)(hg:cI g=0)(bp:Option Addr)(cp:Nat)(vb:Nat->Value)(w0:World)(hG:jS (λq=>q<w0.heap.size) w0 (du g.aQ g.bB (ak bp g.az.length cp)) g)(Cf:Xh (λq=>q<w0.heap.size) w0 vb g.az)(mQ:0<g.az.length->∃b off,bp=ah ⟨b,off,aj⟩/\∀i,i<g.az.length->Rd w0 b (off+i*2) [ap av (a_ g.az (i:Int)).1,vb i])
 (go gm c:Nat) (f:RK->Option Value) (it:bK.Item) (T:Nat) (hT:T<=30) (hr:ef g.az T it) (hd:it.2.1.toNat<(dR g.az it.1).length) (hc:jZ (kE g) f) (hcc:c<=1000000000000000) (w:World) (B:bV) (ho:ly w0 B)
 (hm:Mem B [aK go (Cv g.aQ g.bB (ak bp g.az.length cp) gm).toArray 297,fq jc gm f c] w):
 Calls aC 141 #[aH (ah ⟨go,0,aj⟩),aP (iS it).toArray] w (dz ⟨λ(x:(RK->Option Value)×Nat)=>jZ (kE g) x.1/\x.2<=c+1,λ_=>gZ (oV (kE g) it),λx=>[aK go (Cv g.aQ g.bB (ak bp g.az.length cp) gm).toArray 297,fq jc gm x.1 x.2]⟩ B):=by
 obtain⟨p,d,lo⟩:=it;obtain⟨r1,r2,r3,r4,r5,r6⟩:=hr;dsimp only at r1 r2 r3 r4 r5 r6 hd;obtain⟨k,rfl⟩:=fJ r1;obtain⟨dn,rfl⟩:=fJ r3;obtain⟨ln,rfl⟩:=fJ r5;rw[de]at hd;have hk:k<=g.az.length:=by omega
 have Hl:=λw' (pg:Mem B [] w')=>tm g.aQ g.bB bp cp g.az vb w0 w' B k hk ho pg (λi hi=>let ⟨b,c,h,_⟩:=Cf i hi;⟨b,_,c,h⟩) mQ;have Bb:=λvs body w' (pg:Gr w0 w') hs=>r7 _ vs g body 4611686018427387904 w' (hG.gr pg) hs alt;have hbr:=R8 (k:Int) (dn:Int);have hlt:kE g (k:Int) (dn:Int)<18446744073709551616:=UW alt;have hb8:=ng (l:=g.az) (p:=(k:Int)) (λq hq=>((cz hg).2.2.2.2.2 q hq).1);refine dT hm (args:=[aH (ah ⟨go,0,aj⟩),aP (iS ((k:Int),(dn:Int),(ln:Int))).toArray]) (n:=61) Tryz.func141 I I I ?_;refine bZ (bx (bH I I I λg3=>?_));refine zL ?_
 repeat(first|refine GA ?_|refine gV (aw (v:=ap av (k:Int)) aI.ty I (aD (i:=2) I I)) ?_|refine gV (aw (v:=ap av (dn:Int)) aI.ty I (aD (i:=2) I I)) ?_|refine gV (aZ I hbr) ?_)
 refine aY I λg5=>?_;refine zL ?_;refine fR 3 (cs':=#[ap av (k:Int),ap av (dn:Int)]) ?_;refine zL ?_;have MJ:jc.ok ((k:Int),(dn:Int)):=UU (by have:=(cz hg).2.2.2.2.1;omega) J;have MJ:jc.ok ((k:Int),(dn:Int)):=UU (by have:=(cz hg).2.2.2.2.1;omega) J;have MJ:jc.ok ((k:Int),(dn:Int)):=UU (by have:=(cz hg).2.2.2.2.1;omega) J;have MJ:jc.ok ((k:Int),(dn:Int)):=UU (by have:=(cz hg).2.2.2.2.1;omega) J;have MV:=hc.put ((k:Int),(dn:Int));have Hx:kE g (k:Int) (dn:Int)=C5 g ((dR g.az (k:Int)).drop (dn+1)) 4611686018427387904:=by unfold kE;rw[de]
 have rM:=hc ((k:Int),(dn:Int));dsimp only at MV rM;unfold oV;dsimp only;rw[de];generalize hB0:kE g (k:Int) (dn:Int)=B0 at*
 try refine GA ?_
 cases hf:f ((k:Int),(dn:Int))with
 | some v=>
  have hv:=rM v hf;subst hv;clear Hl Bb MV rM;refine dG ([aK go (Cv g.aQ g.bB (ak bp g.az.length cp) gm).toArray 297,fq jc gm f c,aK g3 (aP (iS ((k:Int),(dn:Int),(ln:Int))).toArray).cells 261,aK g5 #[ap av (k:Int),ap av (dn:Int)] 323]) (.calm 0 (.calm 1 (.calm 2 (.calm 3 (.calm 4 (.calm 5 (.calm 6 (.calm 7 (.calm 8 (.calm 9 (.calm 10 (.done)))))))))))) (λ_ h=>h) ?_
  repeat(first|refine GW ?_|(refine GN ?_;first|refine QW (aw (v:= .map (ah gm)) aI.ty I (aD (i:=0) I I)) ?_|refine QW (aJ (i:=3) aI.ty I I I) ?_|refine QW (pu (x:=((k:Int),(dn:Int))) jc bM.eq N4 (i:=1) I I I MJ) ?_))
  rw[hf];dsimp only[aba,RD]
  try refine GA ?_
  have hdv:B0/2^62<=B0:=aa' _ _;have ha1:=ahB (y:=B0/2^62) J;have Dk:∀w,(iM .shr .u64 (B0:Int) .u64 62).run aC w= .ok (.int .u64 ((B0/2^62:Nat):Int)) w:=λw=>abC B0 62 64 .u64 .u64 I alt w;have ua:∀w,(iM .shl .u64 1 .i64 (ln:Int)).run aC w= .ok (.int .u64 ((2^ln:Nat):Int)) w:=λw=>aeH ln J w
  by_cases cb:B0.testBit 62=aB
  ·rw[if_pos cb]
   have hn:=F0 hlt cb;have fy:B0^^^2^62<18446744073709551616:=RC (n:=64) hlt alt;have Me:=rY fy (Ah (m:=ln) J);have HA:B0/2^62 %2=1:=by rw[Ar]at cb;exact of_decide_eq_true cb
   generalize B0/2^62=D1 at*;generalize B0^^^2^62=D2 at*;generalize 2^ln=D3 at*
   repeat(first|refine GC ?_|refine gV (pH I I Dk) ?_|refine gV (nC I I ha1) ?_|refine gV (dc (b:=aE) I I (decide_eq_false J)) ?_|refine gV (UL I I hn) ?_|refine gV (aw (v:=ap av (ln:Int)) aI.ty I (aD (i:=2) I I)) ?_|refine gV (Ei I I ua) ?_|refine gV (zq I I Me) ?_|refine GB ?_)
   exact cV I I λw hm=>hm.cg (S:=⟨λ(x:(RK->Option Value)×Nat)=>jZ (kE g) x.1/\x.2<=c+1,λ_=>gZ (D2|||D3),λx=>[aK go (Cv g.aQ g.bB (ak bp g.az.length cp) gm).toArray 297,fq jc gm x.1 x.2]⟩) (f,c) ⟨hc,by omega⟩ [0,1] alt I
  rw[if_neg cb];have zm:B0/2^62 %2=0:=by
   rw[Ar,decide_eq_true_eq]at cb;omega
  generalize B0/2^62=D1 at*
  repeat(first|refine GC ?_|refine gV (pH I I Dk) ?_|refine gV (nC I I ha1) ?_|refine gV (dc (b:=aB) I I (decide_eq_true J)) ?_|refine GB ?_)
  exact cV I I λw hm=>hm.cg (S:=⟨λ(x:(RK->Option Value)×Nat)=>jZ (kE g) x.1/\x.2<=c+1,λ_=>gZ B0,λx=>[aK go (Cv g.aQ g.bB (ak bp g.az.length cp) gm).toArray 297,fq jc gm x.1 x.2]⟩) (f,c) ⟨hc,by omega⟩ [0,1] alt I
 | none=>
  clear rM;refine dG ([aK go (Cv g.aQ g.bB (ak bp g.az.length cp) gm).toArray 297,fq jc gm f c,aK g3 (aP (iS ((k:Int),(dn:Int),(ln:Int))).toArray).cells 261,aK g5 #[ap av (k:Int),ap av (dn:Int)] 323]) (.calm 0 (.calm 1 (.calm 2 (.calm 3 (.calm 4 (.calm 5 (.calm 6 (.calm 7 (.calm 8 (.calm 9 (.calm 10 (.done)))))))))))) (λ_ h=>h) ?_
  repeat(first|refine GW ?_|(refine GN ?_;first|refine QW (aw (v:= .map (ah gm)) aI.ty I (aD (i:=0) I I)) ?_|refine QW (aJ (i:=3) aI.ty I I I) ?_|refine QW (pu (x:=((k:Int),(dn:Int))) jc bM.eq N4 (i:=1) I I I MJ) ?_))
  rw[hf];dsimp only[aba,RD]
  try refine GA ?_
  refine dG ([aK go (Cv g.aQ g.bB (ak bp g.az.length cp) gm).toArray 297,aK g3 (aP (iS ((k:Int),(dn:Int),(ln:Int))).toArray).cells 261]) (.calm 0 (.calm 1 (.calm 2 (.calm 3 (.calm 4 (.calm 5 (.calm 6 (.calm 7 (.calm 8 (.calm 9 (.calm 11 (.calm 12 (.calm 13 (.one 10 (.calm 14 (.one 15 (.calm 16 (.calm 17 (.calm 18 (.calm 19 (.done))))))))))))))))))))) (bY [0,2]) ?_
  repeat(first|(refine GN ?_;first|refine QW QP ?_|refine QW (aW aI.ty I (cs:=[ap av g.aQ,ap av g.bB,ak bp g.az.length cp]) I (λj v h=>aD (i:=0) I (K4 h))) ?_|refine QW (aw (v:=ap av (k:Int)) aI.ty I (aD (i:=1) I I)) ?_|refine QW (aw (v:=ap av (dn:Int)) aI.ty I (aD (i:=1) I I)) ?_|refine QW (dN (r:=((dn+1:Nat):Int)) I I J J J) ?_|refine GX ?_)|refine GW ?_)
  refine aM I ?_;refine aT (gh aF.en I I I) (λw hm=>Hl _ (hm.pick [] alt I)) I I I ?_;rintro x hx
  conv=>arg 8;simp only[zJ,df,ret,id_eq,Aq]
  conv=>arg 7;simp only[Aq]
  obtain⟨bb,cc,hv,hlc,ua⟩:=As (W:=B) (i:=4) (L:=[aK go (Cv g.aQ g.bB (ak bp g.az.length cp) gm).toArray 297,fq jc gm f c,aK g3 (aP (iS ((k:Int),(dn:Int),(ln:Int))).toArray).cells 261,aK g5 #[ap av (k:Int),ap av (dn:Int)] 323,BQ x]) ho Cf hk hx rfl;rw[hv]at ua⊢;have Mh:((dR g.az (k:Int)).drop (dn+1)).take ((dR g.az (k:Int)).length-(dn+1))=(dR g.az (k:Int)).drop (dn+1):=gD (by rw[List.length_drop];exact aX _);have kK:=λw hm=>Kc (i:=dn+1) (j:=(dR g.az (k:Int)).length) F3 (ua w hm) J (aX _);rw[Mh]at kK;generalize V':(dR g.az (k:Int)).length=m at*;refine aO (bY [0,2]) ?_
  repeat(first|(refine GN ?_;first|refine QW QP ?_|refine QW (rN (i:=dn+1) bM.eq aI.ty I I J hlc) ?_|refine GX ?_)|refine GW ?_)
  refine aM I ?_;refine aT (xE aF.en I I I I) (λw hm=>Bb _ _ _ (ho.mem hm) (kK w hm)) I I I ?_;intro _ _;refine zL ?_;rw[<-Hx];refine aO (bY [0,2]) ?_
  try refine GW ?_
  try refine GA ?_
  refine dG ([aK go (Cv g.aQ g.bB (ak bp g.az.length cp) gm).toArray 297,aK g5 #[ap av (k:Int),ap av (dn:Int)] 323]) (.calm 0 (.calm 1 (.calm 2 (.calm 3 (.calm 4 (.calm 5 (.one 6 (.done)))))))) (bY [0,3]) ?_
  repeat(first|refine GW ?_|(refine GN ?_;first|refine QW (aw (v:= .map (ah gm)) aI.ty I (aD (i:=0) I I)) ?_|refine QW (aJ (i:=1) aI.ty I I I) ?_))
  refine aM I ?_;refine mD (i:=1) (x:=((k:Int),(dn:Int))) (v:=gZ B0) jc bM.eq I I I I MJ J ?_;refine zL ?_;rw[hf];dsimp only[RD];refine aO (bY [0,3]) ?_
  try refine GW ?_
  try refine GA ?_
  have hdv:B0/2^62<=B0:=aa' _ _;have ha1:=ahB (y:=B0/2^62) J;have Dk:∀w,(iM .shr .u64 (B0:Int) .u64 62).run aC w= .ok (.int .u64 ((B0/2^62:Nat):Int)) w:=λw=>abC B0 62 64 .u64 .u64 I alt w;have ua:∀w,(iM .shl .u64 1 .i64 (ln:Int)).run aC w= .ok (.int .u64 ((2^ln:Nat):Int)) w:=λw=>aeH ln J w
  by_cases cb:B0.testBit 62=aB
  ·rw[if_pos cb]
   have hn:=F0 hlt cb;have fy:B0^^^2^62<18446744073709551616:=RC (n:=64) hlt alt;have Me:=rY fy (Ah (m:=ln) J);have HA:B0/2^62 %2=1:=by rw[Ar]at cb;exact of_decide_eq_true cb
   generalize B0/2^62=D1 at*;generalize B0^^^2^62=D2 at*;generalize 2^ln=D3 at*
   repeat(first|refine GC ?_|refine gV (pH I I Dk) ?_|refine gV (nC I I ha1) ?_|refine gV (dc (b:=aE) I I (decide_eq_false J)) ?_|refine gV (UL I I hn) ?_|refine gV (aw (v:=ap av (ln:Int)) aI.ty I (aD (i:=2) I I)) ?_|refine gV (Ei I I ua) ?_|refine gV (zq I I Me) ?_|refine GB ?_)
   exact cV I I λw hm=>hm.cg (S:=⟨λ(x:(RK->Option Value)×Nat)=>jZ (kE g) x.1/\x.2<=c+1,λ_=>gZ (D2|||D3),λx=>[aK go (Cv g.aQ g.bB (ak bp g.az.length cp) gm).toArray 297,fq jc gm x.1 x.2]⟩) (_,c+1) ⟨MV,aX _⟩ [0,1] alt I
  rw[if_neg cb];have zm:B0/2^62 %2=0:=by
   rw[Ar,decide_eq_true_eq]at cb;omega
  generalize B0/2^62=D1 at*
  repeat(first|refine GC ?_|refine gV (pH I I Dk) ?_|refine gV (nC I I ha1) ?_|refine gV (dc (b:=aB) I I (decide_eq_true J)) ?_|refine GB ?_)
  exact cV I I λw hm=>hm.cg (S:=⟨λ(x:(RK->Option Value)×Nat)=>jZ (kE g) x.1/\x.2<=c+1,λ_=>gZ B0,λx=>[aK go (Cv g.aQ g.bB (ak bp g.az.length cp) gm).toArray 297,fq jc gm x.1 x.2]⟩) (_,c+1) ⟨MV,aX _⟩ [0,1] alt I
open Go.Lib Go.Sort
theorem aeO(x:Int)(w:World):Calls aC 189 #[ap av x] w λe w'=>e= .returned (.bool aE)/\w'=w:=by
 go_enter Tryz.func189,Tryz.ntmps189
 go_wp2
 go_ret
 exact⟨by simp,rfl⟩
theorem Xi(x y:Int)(w:World):Calls aC 161 #[ap av x,ap av y] w λe w'=>e= .returned (ap av (vW x y))/\w'=w:=by
 go_enter Tryz.func161,Tryz.ntmps161
 go_wp2_with (go_at_call 189;refine(aeO _ _).mono ?_;rintro e w' ⟨rfl,hw⟩;rw[hw])
 all_goals (go_ret;refine⟨?_,rfl⟩;unfold vW;(repeat' split)<;>first|rfl|(exfalso;omega))
def orI(a b c:Int):Int:=if a≠0 then a else if b≠0 then b else c
theorem ai6{a b c:Int}(h:¬a=0):orI a b c=a:=if_pos h
theorem ai7{b c:Int}(h:¬b=0):orI 0 b c=b:=by unfold orI;rw[if_neg (by simp),if_pos h]
theorem agf{c:Int}:orI 0 0 c=c:=by unfold orI;rw[if_neg (by simp),if_neg (by simp)]
theorem akI(g:Nat)(a b c:Int)(w:World)(h0:w.cell? ⟨g,0,aj⟩=ah (ap av a))(h1:w.cell? ⟨g,1,aj⟩=ah (ap av b))(h2:w.cell? ⟨g,2,aj⟩=ah (ap av c)):
 Calls aC 160 #[ak (ah ⟨g,0,aj⟩) 3 3] w λe w'=>e= .returned (ap av (orI a b c))/\w'=w:=by
 go_enter Tryz.func160,Tryz.ntmps160
 go_wp2
 by_cases ha:a=0
 ·subst ha
  refine wp_loop_rounds 4 ?_;rw[rounds_succ]
  go_wp2
  by_cases hb:b=0
  ·subst hb
   rw[rounds_succ]
   go_wp2
   by_cases hc:c=0
   ·subst hc
    rw[rounds_succ]
    go_wp2
    rw[rounds_succ]
    go_wp2
    go_ret
    exact⟨by rw[agf];rfl,rfl⟩
   rw[rounds_succ]
   go_wp2
   go_ret
   exact⟨by rw[agf];rfl,rfl⟩
  rw[rounds_succ]
  go_wp2
  go_ret
  exact⟨by rw[ai7 hb];rfl,rfl⟩
 ·refine wp_loop_rounds 1 ?_
  rw[rounds_succ]
  go_wp2
  go_ret
  exact⟨by rw[ai6 ha];rfl,rfl⟩
theorem ai8(o1 o2:Obj)(a b c:Int)(T:TypeId)(w:World):
 Calls aC 160 #[ak (ah ⟨w.heap.size+1+1,0,aj⟩) 3 3] (((w.alloc o1).alloc o2).alloc (.cells #[ap av a,ap av b,ap av c] T)).drew λe w'=>e= .returned (ap av (orI a b c))/\w'=(((w.alloc o1).alloc o2).alloc (.cells #[ap av a,ap av b,ap av c] T)).drew:=by
 have hg:(((w.alloc o1).alloc o2).alloc (.cells #[ap av a,ap av b,ap av c] T)).drew.heap[w.heap.size+1+1]?=ah (.cells #[ap av a,ap av b,ap av c] T (0,0)):=by
  have h:=heap_alloc_new ((w.alloc o1).alloc o2) (.cells #[ap av a,ap av b,ap av c] T);have e:((w.alloc o1).alloc o2).heap.size=w.heap.size+1+1:=by
   show((w.heap.push o1).push o2).size=_
   rw[Rs,Rs]
  rw[e]at h;exact h
 exact akI _ a b c _ (cell_of_row _ _ 0 _ T (0,0) hg) (cell_of_row _ _ 1 _ T (0,0) hg) (cell_of_row _ _ 2 _ T (0,0) hg)
theorem abD(a b:Obj)(w:World):((w.alloc a).alloc b).heap[w.heap.size]?=ah a/\((w.alloc a).alloc b).heap[w.heap.size+1]?=ah b:=by
 have e:(w.alloc a).heap.size=w.heap.size+1:=by
  show(w.heap.push a).size=_
  rw[Rs]
 constructor
 ·rw[heap_alloc_old (w.alloc a) b J]
  exact heap_alloc_new w a
 have h:=heap_alloc_new (w.alloc a) b;rw[e]at h;exact h
theorem R9(a b c:Obj)(w:World):(((w.alloc a).alloc b).alloc c).drew=grow (w.drewN 1) #[a,b,c]:=by
 rw[alloc_eq_grow,alloc_eq_grow,alloc_eq_grow,grow_grow,grow_grow];rfl
theorem aeP(x y:bK.Item)(w:World):Calls aC 143 #[aP (iS x).toArray,aP (iS y).toArray] w λe w'=>e= .returned (ap av (NU x y))/\∃q os',w'=grow (w.drewN q) os':=by
 obtain⟨x1,x2,x3⟩:=x;obtain⟨y1,y2,y3⟩:=y;have ho:NU (x1,x2,x3) (y1,y2,y3)=orI (vW x1 y1) (vW x2 y2) (vW x3 y3):=rfl;rw[ho];clear ho;unfold iS;dsimp only;obtain⟨t1,t2⟩:=abD (.cells #[ap av x1,ap av x2,ap av x3] 261) (.cells #[ap av y1,ap av y2,ap av y3] 261) w;have k1:=cell_of_row _ _ 0 _ _ (0,0) t1;have k2:=cell_of_row _ _ 1 _ _ (0,0) t1;have k3:=cell_of_row _ _ 2 _ _ (0,0) t1;have k4:=cell_of_row _ _ 0 _ _ (0,0) t2;have k5:=cell_of_row _ _ 1 _ _ (0,0) t2;have k6:=cell_of_row _ _ 2 _ _ (0,0) t2;clear t1 t2
 go_enter Tryz.func143,Tryz.ntmps143
 go_wp2
 go_region_held (λw'=>w'.cell? ⟨w.heap.size,0,aj⟩=ah (ap av x1)/\w'.cell? ⟨w.heap.size,1,aj⟩=ah (ap av x2)/\w'.cell? ⟨w.heap.size,2,aj⟩=ah (ap av x3)/\w'.cell? ⟨w.heap.size+1,0,aj⟩=ah (ap av y1)/\w'.cell? ⟨w.heap.size+1,1,aj⟩=ah (ap av y2)/\w'.cell? ⟨w.heap.size+1,2,aj⟩=ah (ap av y3)) (go_keep) (first|(go_at_call 161;refine(Xi _ _ _).mono ?_;rintro e w' ⟨rfl,rfl⟩)|(go_at_call 160;have hzz:=(ai8 (.cells #[ap av x1,ap av x2,ap av x3] 261) (.cells #[ap av y1,ap av y2,ap av y3] 261) (vW x1 y1) (vW x2 y2) (vW x3 y3) 3 w);refine hzz.mono ?_;clear hzz;rintro e w' ⟨rfl,rfl⟩))
 go_wp2
 go_ret
 refine⟨rfl,1,#[.cells #[ap av x1,ap av x2,ap av x3] 261,.cells #[ap av y1,ap av y2,ap av y3] 261,.cells #[ap av (vW x1 y1),ap av (vW x2 y2),ap av (vW x3 y3)] 3],?_⟩;exact R9 _ _ _ w
end cB
namespace cB
open Go.RowKit cL dV aL dI dA bK
theorem R_(t n:Int)(vp:Value)(gm:Nat)(w:World):(da 297 #[(0,du t n vp),(1,.map (ah gm))]).run aC w= .ok (aP (Cv t n vp gm).toArray) w:=by kernel_rfl
def aeQ(t n:Int)(vp:Value):Spec (Nat×Nat):=⟨λ_=>True,λx=>aH (ah ⟨x.1,0,aj⟩),λx=>[fq jc x.2 (λ_=>aj) 0,aK x.1 (Cv t n vp x.2).toArray 297]⟩
theorem K5(t n:Int)(vp:Value)(w:World):Calls aC 108 #[du t n vp] w (cJ (aeQ t n vp) w):=by
 have hb:=R_ t n vp;refine enter (args:=[du t n vp]) (n:=7) Tryz.func108 I I I ?_;refine bZ (bx (bH I I I λg1=>?_));refine zL ?_
 repeat(first|refine GA ?_|refine gV (aJ (i:=0) aI.ty I I I) ?_)
 refine yv jc I λgm=>?_;refine zL ?_
 repeat(first|refine GA ?_|refine gV (aZ I (hb _)) ?_)
 refine bH I I I λgo=>?_;refine zL ?_
 try refine GA ?_
 exact cV I I λw hm=>hm.meets (S:=aeQ t n vp) (go,gm) trivial [1,2] alt I
theorem K6{x:Int}(h0:0<=x)(h1:x<256):KO.wrap x=(((fN x.toNat).toNat:Nat):Int):=by
 obtain⟨n,rfl⟩:=fJ h0;rw[de,KN];simp
theorem Jc(l:List bK.Item):(iu l).length=3*l.length:=by
 induction l with
 |nil=>rfl
 |cons x r ih=>
  have:iu (x::r)=[fN x.1.toNat,fN x.2.1.toNat,fN x.2.2.toNat]++iu r:=rfl;rw[this,bT,ih,dj];show 3+3*r.length=3*(r.length+1)
  omega
theorem Sa{l:List bK.Item}{k:Nat}(h:k<l.length):iu (l.take (k+1))=iu (l.take k)++[fN l[k].1.toNat,fN l[k].2.1.toNat,fN l[k].2.2.toNat]:=by
 unfold iu;rw[ic h,ie];rfl
theorem F4(vl:Value)(l:List bK.Item)(w:World)(hl:Sl w vl l.length (l.flatMap iS))(hb:∀it∈l,0<=it.1/\it.1<256/\0<=it.2.1/\it.2.1<256/\0<=it.2.2/\it.2.2<256)(hn:l.length<=20000):
 Calls aC 110 #[vl] w (cJ (ret (str (iu l))) w):=by
 obtain⟨bl,cl,rfl,rM,Eo,IY⟩:=hl;unfold maxLen at Eo;refine enter (args:=[ak bl l.length cl]) (n:=27) Tryz.func110 I I I ?_
 try refine GA ?_
 refine iJ 5 1 ?_
 conv=>arg 7;simp only[zA,zB,zC,zD,zE,zF,zG,zH,zI,df,ret,id_eq]
 refine dZ (ι:=Nat×Value) (λ(k,_)=>k<=l.length) (λ(k,v)=>[(3,v),(6,ak bl l.length cl),(7,ap av l.length),(8,ap av (k:Int))])
  (λ(k,v)=>[bm 5 1 v (iu (l.take k)).length ((iu (l.take k)).map Ze)]) (λ(k,_)=>l.length-k) (0,ak aj 0 0) (bC _) ?_
 rintro⟨k,v⟩ i1;dsimp only at i1⊢
 by_cases c1:k<l.length
 ·obtain⟨b,off,rfl,gu⟩:=IY J
  have eC:=λL=>gK (L:=L) mc gu c1;have F5:∀(L:List b_) (j:Nat) (u:Value),(iS l[k])[j]?=ah u->At (w:bV) L ⟨b,off+k*3+j,aj⟩ u:=eC;clear eC IY gu;obtain⟨b1,b2,b3,b4,b5,b6⟩:=hb l[k] (bX c1);have w7:=Sa c1;have Jd:(iu (l.take k)).length<=60000:=by rw[Jc,List.length_take];omega
  generalize l[k]=x at*;obtain⟨p,d,lo⟩:=x;dsimp only at b1 b2 b3 b4 b5 b6 w7;have e1:=K6 b1 b2;have e2:=K6 b3 b4;have e3:=K6 b5 b6;generalize fN p.toNat=y1 at*;generalize fN d.toNat=y2 at*;generalize fN lo.toNat=y3 at*;generalize hN:iu (l.take k)=N at*
  repeat(first|refine GA ?_|refine gV (aR bM.eq aI.ty I I c1) ?_|refine gV (aW (cs:=iS (p,d,lo)) aI.ty I I (F5 _)) ?_)
  refine aY I λg5=>?_;refine zL ?_;refine fR 1 (cs':=(iS (p,d,lo)).toArray) ?_;refine zL ?_
  repeat(first|refine GA ?_|refine gV (aw (v:=ap av p) aI.ty I (aD (i:=1) I I)) ?_|refine gV (aw (v:=ap av d) aI.ty I (aD (i:=1) I I)) ?_|refine gV (aw (v:=ap av lo) aI.ty I (aD (i:=1) I I)) ?_|refine gV (iT bM.eq bM.eq I e1) ?_|refine gV (iT bM.eq bM.eq I e2) ?_|refine gV (iT bM.eq bM.eq I e3) ?_)
  refine TP [Ze y1,Ze y2,Ze y3] I I I (by intro v hv;simp at hv;rcases hv with rfl|rfl|rfl<;>rfl) I I λg22=>?_;refine zL ?_;refine eM (i:=0) (e:=5) (size:=1) (bytes:=1) (m:=N.length) (xs:=N.map Ze) (k:=3) (ys:=[Ze y1,Ze y2,Ze y3]) I (kT (i:=2) I (λj u h=>by simpa using h) (aX 3) alt) I I I (by intro u hu;simp at hu;rcases hu with rfl|rfl|rfl<;>rfl) J J I λv'=>?_;refine zL ?_
  try refine GA ?_
  refine dq [0] ?_;exact bQ (k+1,v') (by show k+1<=l.length;omega) (by show l.length-(k+1)<l.length-k;omega) (hl:=by dsimp only;rw[w7,bT,eK];rfl)
 ·obtain rfl:k=l.length:=by omega
  rw[List.take_length]
  repeat(first|refine GA ?_|refine gV (VS bM.eq bM.eq bM.eq I I (lT (i:=0) I)) ?_)
  exact dQ
theorem HK(T N:Nat)(hT:T<=1000)(hN:N<=1000)(vp:Value)(w:World):
 Calls aC 112 #[du (T:Int) (N:Int) vp] w (cJ (df 123 2 (lK T N).length ((lK T N).flatMap dr) id) w):=by
 have HA:=λ(q:Int)=>I8 1 q;have Qw:=λ(q:Int)=>I8 2 q;refine enter (args:=[du (T:Int) (N:Int) vp]) (n:=29) Tryz.func112 I I I ?_;refine bZ (bx (bH I I I λg1=>?_));refine zL ?_
 repeat(first|refine GA ?_|refine gV (aw (v:=ap av (T:Int)) aI.ty I (aD (i:=0) I I)) ?_)
 refine iJ 123 2 ?_
 conv=>arg 7;simp only[zA,zB,zC,zD,zE,zF,zG,zH,zI,df,ret,id_eq]
 refine dZ (ι:=Nat×Value) (λ(k,_)=>k<=T) (λ(k,v)=>[(1,aH (ah ⟨g1,0,aj⟩)),(3,v),(7,ap av (T:Int)),(8,ap av (k:Int))])
  (λ(k,v)=>[aK g1 (du (T:Int) (N:Int) vp).cells 33,bm 123 2 v ((d_ k).map (λn:Nat=>((1:Int),(n:Int)))).length (((d_ k).map (λn:Nat=>((1:Int),(n:Int)))).flatMap dr)]) (λ(k,_)=>T-k) (0,ak aj 0 0) (bC _) ?_
 rintro⟨k,v⟩ i1;dsimp only at i1⊢
 by_cases c1:k<T
 ·have w7:(d_ (k+1)).map (λn:Nat=>((1:Int),(n:Int)))=(d_ k).map (λn:Nat=>((1:Int),(n:Int)))++[((1:Int),(k:Int))]:=by rw[vD,eK];rfl
  have Jd:((d_ k).map (λn:Nat=>((1:Int),(n:Int)))).length=k:=by rw[dY,Rz]
  generalize hA:(d_ k).map (λn:Nat=>((1:Int),(n:Int)))=A at*
  repeat(first|refine GA ?_|refine gV (aZ I (HA _)) ?_)
  refine iU (i:=1) I I I I I I I (λz h=>by cases h;rfl) J J I λz v'=>?_;refine zL ?_
  try refine GA ?_
  exact bQ (k+1,v') (by show k+1<=T;omega) (by show T-(k+1)<T-k;omega) (hl:=by dsimp only;rw[w7,bT,ie];rfl)
 obtain rfl:k=T:=by omega
 have Jd:((d_ k).map (λn:Nat=>((1:Int),(n:Int)))).length=k:=by rw[dY,Rz]
 have hS:lK k N=(d_ k).map (λn:Nat=>((1:Int),(n:Int)))++(d_ N).map (λn:Nat=>((2:Int),(n:Int))):=rfl;generalize lK k N=S at*;generalize hA:(d_ k).map (λn:Nat=>((1:Int),(n:Int)))=A at*
 repeat(first|refine GA ?_|refine gV (aw (v:=ap av (N:Int)) aI.ty I (aD (i:=0) I I)) ?_)
 refine kO (ι:=Nat×Value) (λ(j,_)=>j<=N) (λ(j,v)=>[(3,v),(18,ap av (N:Int)),(19,ap av (j:Int))])
  (λ(j,v)=>[aK g1 (du (k:Int) (N:Int) vp).cells 33,bm 123 2 v (A++(d_ j).map (λn:Nat=>((2:Int),(n:Int)))).length ((A++(d_ j).map (λn:Nat=>((2:Int),(n:Int)))).flatMap dr)]) (λ(j,_)=>N-j) (0,v) (bC _) (by repeat' (first|exact cZ|refine cP I ?_)) (by simp only[List.range_zero,mU,fj]) ?_
 rintro⟨j,v⟩ j1;dsimp only at j1⊢
 by_cases c2:j<N
 ·have w7:A++(d_ (j+1)).map (λn:Nat=>((2:Int),(n:Int)))=(A++(d_ j).map (λn:Nat=>((2:Int),(n:Int))))++[((2:Int),(j:Int))]:=by rw[vD,eK,eu];rfl
  have alL:(A++(d_ j).map (λn:Nat=>((2:Int),(n:Int)))).length<=2000:=by rw[bT,dY,Rz];omega
  generalize hD:A++(d_ j).map (λn:Nat=>((2:Int),(n:Int)))=D at*
  repeat(first|refine GA ?_|refine gV (aZ I (Qw _)) ?_)
  refine iU (i:=1) I I I I I I I (λz h=>by cases h;rfl) J J I λz v'=>?_;refine zL ?_
  try refine GA ?_
  exact bQ (j+1,v') (by show j+1<=N;omega) (by show N-(j+1)<N-j;omega) (hl:=by dsimp only;rw[w7,bT,ie];rfl)
 obtain rfl:j=N:=by omega
 rw[<-hS]
 try refine GA ?_
 exact cV I I λw hm=>hm.meets (S:=df 123 2 S.length (S.flatMap dr) id) v trivial [1] alt I
open cX
def K7:yt bK.Item:=zz iS 3 (λ_=>rfl) (λ_=>True)
theorem K8{κ τ:Type}[DecidableEq κ][DecidableEq τ](f:κ->τ)(x:κ):∀(D:List κ),(∀y∈D,f y=f x->y=x)->idx (D.map f) (f x)=idx D x
 |[],_=>rfl
 | y::D,h=>by
  have ih:=K8 f x D λz hz=>h z (lU _ hz);unfold idx at ih⊢;rw[fm,aa8,aa8,ih]
  by_cases e:y=x
  subst e;simp;have:¬f y=f x:=λe2=>e (h y (gX ..) e2);rw[show(f y==f x)=aE by simpa using this,show(y==x)=aE by simpa using e]
def w8(s:List bK.Item):Prop:=∀it∈s,0<=it.1/\it.1<256/\0<=it.2.1/\it.2.1<256/\0<=it.2.2/\it.2.2<256
theorem Xj{S:List (List bK.Item)}{s:List bK.Item}(hS:∀t∈S,w8 t)(hs:w8 s):iu s∈S.map iu↔s∈S:=by
 constructor
 ·intro h
  obtain⟨t,ht,e⟩:=fE.1 h;rw[<-FU (hS t ht) hs e];exact ht
 exact List.mem_map_of_mem
def stL(g6 gm g7:Nat)(vS vN:Value)(w9:List Value)(F:Nat->Prop)(S:List (List bK.Item)):List b_:=
 [aK g6 #[.map (ah gm)] 151,fq il gm (kW (S.map iu)) S.length,aK g7 #[vS,vN] 182,bm 256 1 vS S.length w9,eG (cO K7) F (w9.map λv=>[v]) S]
theorem Au{w:World}{e:TypeId}{size n:Nat}{v:Value}{xs:List Value}(h:(bm e size v n xs).holds w):∀k,v.ownBlock=ah k->k<w.heap.size:=λk hk=>(bm e size v n xs).lt w h k (.inl hk)
theorem Xk{w:World}{v:Value}{l:List bK.Item}(h:(bm 261 3 v l.length (l.flatMap iS)).holds w):(cO K7).is (λk=>v.ownBlock=ah k) w [v] l:=
 ⟨v,rfl,jO.of_flat (Sl.dF h) (λ_ _=>trivial) (λ_ h=>h) (λa n cp hv=>by rw[hv];rfl)⟩
theorem Cw(g6 gm g7:Nat)(vS vN:Value)(w9:List Value)(F:Nat->Prop)(S:List (List bK.Item))(vl:Value)(s:List bK.Item)(hS:∀t∈S,w8 t)(hs:w8 s)(hSl:S.length<=1000)(ua:s.length<=20000)(w:World)(B:bV)
 (hm:Mem B (stL g6 gm g7 vS vN w9 F S++[bm 261 3 vl s.length (s.flatMap iS)]) w):
 Calls aC 109 #[vl,aH (ah ⟨g6,0,aj⟩),aH (ah ⟨g7,0,aj⟩)] w (dz ⟨λ(_:Value×List Value×(Nat->Prop))=>True,λ_=>ap av ((jj S s).1:Int),λx=>stL g6 gm g7 x.1 vN x.2.1 x.2.2 (jj S s).2⟩ B):=by
 have Cx:=Xj hS hs;have hix:=K8 iu s S λt ht e=>FU (hS t ht) hs e;have mP:il.ok (iu s):=by
  show(iu s).length<=9223372036854775807
  rw[Jc];omega
 unfold stL at hm;refine dT hm (args:=[vl,aH (ah ⟨g6,0,aj⟩),aH (ah ⟨g7,0,aj⟩)]) (n:=30) Tryz.func109 I I I ?_;refine ix (i:=3) I gj λfu=>?_;obtain⟨aS,cS,rfl,-⟩:=fu
 try refine GA ?_
 refine dG ([aK g6 #[.map (ah gm)] 151,fq il gm (kW (S.map iu)) S.length,bm 261 3 vl s.length (s.flatMap iS)]) (.calm 0 (.calm 1 (.calm 2 (.calm 3 (.calm 4 (.calm 5 (.calm 6 (.calm 7 (.calm 8 (.done)))))))))) (bY [0,1,5]) ?_
 repeat(first|refine GW ?_|(refine GN ?_;first|refine QW (aw (v:= .map (ah gm)) aI.ty I (aD (i:=0) I I)) ?_))
 refine o9 I (lz aF.en I I) (λw hm=>F4 vl s w (Sl.dF (hm.get (i:=2) I)) hs ua) I I I ?_
 by_cases c:s∈S
 ·have hst:jj S s=(idx S s,S):=if_pos c
  rw[hst]
  repeat(first|refine GW ?_|(refine GN ?_;first|refine QW (uS (K:=il) (x:=iu s) bM.eq oH (i:=1) I I I mP (Cx.2 c)) ?_))
  rw[hix]
  try refine GA ?_
  exact cV I I λw hm=>hm.cg (S:=⟨λ(_:Value×List Value×(Nat->Prop))=>True,λ_=>ap av (idx S s:Int),λx=>stL g6 gm g7 x.1 vN x.2.1 x.2.2 S⟩) (ak aS S.length cS,w9,F) trivial [0,1,2,3,4] alt I
 ·have hst:jj S s=(S.length,S++[s]):=if_neg c
  rw[hst];have hn:iu s∉S.map iu:=λh=>c (Cx.1 h);have HG:=Iv hn;have ai9:kW (S.map iu) (iu s)=none:=if_neg hn;rw[dY]at HG;clear hix Cx
  repeat(first|refine GW ?_|(refine GN ?_;first|refine QW (uT (K:=il) (x:=iu s) bM.eq oH (i:=1) I I I mP hn) ?_))
  repeat(first|refine GA ?_|refine gV (aw (v:=ak aS S.length cS) aI.ty I (aD (i:=2) I I)) ?_)
  refine dG ([aK g6 #[.map (ah gm)] 151,bm 261 3 vl s.length (s.flatMap iS)]) (.calm 0 (.calm 1 (.calm 2 (.calm 3 (.one 4 (.done)))))) (bY [0,5]) ?_
  repeat(first|refine GW ?_|(refine GN ?_;first|refine QW (aw (v:= .map (ah gm)) aI.ty I (aD (i:=0) I I)) ?_))
  refine o9 I (lz aF.en I I) (λw hm=>F4 vl s w (Sl.dF (hm.get (i:=1) I)) hs ua) I I I ?_
  try refine GW ?_
  refine aM I ?_;refine mD (i:=1) (x:=iu s) (v:=ap av (S.length:Int)) il bM.eq I I I I mP J ?_;refine zL ?_;rw[HG,ai9,if_neg alt];refine aO (bY [0,5]) ?_
  try refine GW ?_
  repeat(first|refine GA ?_|refine gV (aw (v:=ak aS S.length cS) aI.ty I (aD (i:=2) I I)) ?_)
  refine aU (i:=5) I λIa Ig=>?_;refine kf (i:=3) I I Ia Ig I I (λz h=>by cases h;rfl) J J I λz vS'=>?_;refine zL ?_;refine uK (eG (cO K7) (λk=>F k\/vl.ownBlock=ah k) ((w9.map λv=>[v])++[[vl]]) (S++[s])) 5 4 [0,1,2,3] alt I I I (λk hk=>hk.elim (λh=>by cases h) λh=>h.elim (λh=> .inr (.inr h)) λh=> .inl (.inl h)) (λw hr he=>pJ he (Xk hr) (Au hr)) ?_;refine zL ?_
  try refine GA ?_
  refine aU (i:=3) I λjm mz=>bD (i:=2) I I I jm mz I ?_;refine zL ?_
  try refine GA ?_
  exact cV I I λw hm=>hm.cg (S:=⟨λ(_:Value×List Value×(Nat->Prop))=>True,λ_=>ap av (S.length:Int),λx=>stL g6 gm g7 x.1 vN x.2.1 x.2.2 (S++[s])⟩) (vS',w9++[vl],λk=>F k\/vl.ownBlock=ah k) trivial [0,1,2,3,4] alt (by dsimp only[stL];rw[eK,eK,bT];rfl)
end cB
namespace cX
section
variable(A:t_)(bl:Nat->Nat)
def F6(Q:List Nat)(tq:Int):List Nat:=if bl tq.toNat∈Q.map bl then Q else Q++[tq.toNat]
def qi(Q:List Nat)(tq:Int):List Nat×Int:=if val bl tq=0 then(Q,-1)else(F6 bl Q tq,(idx ((F6 bl Q tq).map bl) (bl tq.toNat):Int))
def lG(q:Nat)(Q:List Nat):Nat->List Nat×List Int
 |0=>(Q,[])
 |k+1=>((qi bl (lG q Q k).1 (A.d q k)).1,(lG q Q k).2++[(qi bl (lG q Q k).1 (A.d q k)).2])
def vec(l:List Int):Row:=rp λb:Fin 256=>l.getD b 0
def xQ:Nat->Nat->List Nat->List Row->List Nat×List Row
 |0,_,Q,out=>(Q,out)
 |f+1,n,Q,out=>if n<Q.length then xQ f (n+1) (lG A bl (Q.getD n 0) Q 256).1 (out++[vec (lG A bl (Q.getD n 0) Q 256).2])else(Q,out)
def nr:List Nat×List Row:=xQ A bl (A.n+1) 0 [0] []
end
def qj(A:t_):t_:=⟨(nr A (dl A)).1.length,λk b=>((nr A (dl A)).2.getD k (eg 256 0)).toList.getD b 0,λk=>((nr A (dl A)).1.map A.tag).getD k 0⟩
section
variable{A:t_}{bl:Nat->Nat}
structure Xl(A:t_)(bl:Nat->Nat)(Q:List Nat):Prop where
 head:∃R,Q=0::R/\∀q∈R,bl q≠0
 lt:∀q∈Q,q<A.n
 nodup:(Q.map bl).Nodup
theorem Xl.len{Q:List Nat}(h:Xl A bl Q):Q.length<=A.n/\0<Q.length:=by
 have h1:Q.Nodup:=ahm bl (λa b hne e=>hne (by rw[e])) h.nodup;refine⟨ox h1 h.lt,?_⟩;obtain⟨R,rfl,_⟩:=h.head;simp
theorem ai_(hA:A.Ok):Xl A bl [0]:=⟨⟨[],rfl,by simp⟩,λq hq=>by simp at hq;subst hq;exact hA.pos,by simp⟩
theorem aeR{Q:List Nat}(h:Xl A bl Q){tq:Int}(h1:St A tq)(h0:val bl tq≠0):Xl A bl (F6 bl Q tq):=by
 unfold F6;unfold val at h0;split at h0;exact absurd I h0;split;exact h
 rename_i akJ hn
 unfold St at h1;obtain⟨R,rfl,hR⟩:=h.head;refine⟨⟨R++[tq.toNat],rfl,λq hq=>?_⟩,λq hq=>?_,?_⟩
 grind
 ·rcases ib.1 hq with hq|hq
  exact h.lt q hq;simp at hq;subst hq;omega
 rw[eK];refine aa6.2 ⟨h.nodup,by simp,λa ha b hb e=>?_⟩;simp at hb;subst hb e;exact hn ha
theorem aeS(Q:List Nat)(tq:Int):∃E,F6 bl Q tq=Q++E:=by
 unfold F6;split;exact⟨[],by simp⟩;exact⟨_,rfl⟩
theorem aeT(Q:List Nat)(tq:Int):bl tq.toNat∈(F6 bl Q tq).map bl:=by
 grind[F6]
theorem N6{Q:List Nat}(h:Xl A bl Q){tq:Int}(h1:St A tq):Xl A bl (qi bl Q tq).1:=by
 grind[qi,aeR]
theorem N7(Q:List Nat)(tq:Int):∃E,(qi bl Q tq).1=Q++E:=by
 unfold qi;split;exact⟨[],by simp⟩;exact aeS Q tq
theorem K9(q:Nat)(Q:List Nat):∀k,(lG A bl q Q k).2.length=k
 |0=>rfl
 |k+1=>by simp[lG,K9 q Q k]
theorem akK(hA:A.Ok){q:Nat}(hq:q<A.n){b:Nat}(hb:b<256):St A (A.d q b):=hA.step q hq b hb
theorem DD(hA:A.Ok){Q:List Nat}(h:Xl A bl Q){q:Nat}(hq:q<A.n):∀k,k<=256->Xl A bl (lG A bl q Q k).1
 |0,_=>h
 |k+1,hk=>N6 (DD hA h hq k J) (akK hA hq J)
theorem K_(q:Nat)(Q:List Nat):∀k,∃E,(lG A bl q Q k).1=Q++E
 |0=>⟨[],by simp[lG]⟩
 |k+1=>by
  obtain⟨E,h⟩:=K_ q Q k;obtain⟨E',h'⟩:=N7 (bl:=bl) (lG A bl q Q k).1 (A.d q k);exact⟨E++E',by simp only[lG];rw[h',h,eu]⟩
def F7(A:t_)(bl:Nat->Nat)(Q:List Nat)(q b:Nat)(x:Int):Prop:=(val bl (A.d q b)=0->x= -1)/\(val bl (A.d q b)≠0->val bl (A.d q b)∈Q.map bl/\x=(idx (Q.map bl) (val bl (A.d q b)):Int))
theorem F7.more{Q:List Nat}{q b:Nat}{x:Int}(h:F7 A bl Q q b x)(E:List Nat):F7 A bl (Q++E) q b x:=by
 refine⟨h.1,λh0=>?_⟩;obtain⟨h1,h2⟩:=h.2 h0;rw[eK,qH h1];exact⟨uw _ h1,h2⟩
theorem aeU(Q:List Nat)(q b:Nat):F7 A bl (qi bl Q (A.d q b)).1 q b (qi bl Q (A.d q b)).2:=by
 unfold qi;split
 ·rename_i h;exact⟨λ_=>rfl,λh'=>absurd h h'⟩
 rename_i h
 refine⟨λh'=>absurd h' h,λ_=>?_⟩;have e:val bl (A.d q b)=bl (A.d q b).toNat:=by
  unfold val at h⊢;split at h;exact absurd I h
  rename_i hn;rw[if_neg hn]
 rw[e];exact⟨aeT Q _,rfl⟩
theorem abE(q:Nat)(Q:List Nat):∀k b,b<k->F7 A bl (lG A bl q Q k).1 q b ((lG A bl q Q k).2.getD b 0)
 |0,_,h=>by omega
 | k +1,b,h=>by
  have hl:=K9 (A:=A) (bl:=bl) q Q k;simp only[lG]
  by_cases c:b<k
  ·have ih:=abE q Q k b c
   obtain⟨E,e⟩:=N7 (bl:=bl) (lG A bl q Q k).1 (A.d q k);rw[e,lC J];exact ih.more E
  obtain rfl:b=k:=by omega
  simp_all[aeU]
structure Xm(A:t_)(bl:Nat->Nat)(n:Nat)(Q:List Nat)(out:List Row):Prop where
 len:out.length=n
 le:n<=Q.length
 rows:∀k,k<n->∀b,b<256->F7 A bl Q (Q.getD k 0) b ((out.getD k (eg 256 0)).toList.getD b 0)
theorem Je(_:A.Ok){n:Nat}{Q:List Nat}{out:List Row}(h:Xm A bl n Q out)(hn:n<Q.length):Xm A bl (n+1) (lG A bl (Q.getD n 0) Q 256).1 (out++[vec (lG A bl (Q.getD n 0) Q 256).2]):=by
 obtain⟨E,e⟩:=K_ (A:=A) (bl:=bl) (Q.getD n 0) Q 256;have hr:=abE (A:=A) (bl:=bl) (Q.getD n 0) Q 256;have hlen:=h.len;refine⟨by grind,by grind,λk hk b hb=>?_⟩;have qD:k<Q.length:=by omega
 rw[e]at hr⊢;rw[lC qD]
 by_cases c:k<n
 ·rw[lC J]
  exact(h.rows k c b hb).more E
 obtain rfl:k=n:=by omega
 simp_all[vec]
theorem wb{Q:List Nat}{n:Nat}(h:n<Q.length):Q.getD n 0∈Q:=by
 simp_all
theorem abF(hA:A.Ok):∀(f n:Nat) (Q:List Nat) (out:List Row),Xl A bl Q->Xm A bl n Q out->A.n+1<=f+n->Xl A bl (xQ A bl f n Q out).1/\Xm A bl (xQ A bl f n Q out).1.length (xQ A bl f n Q out).1 (xQ A bl f n Q out).2
 |0,n,Q,out,hQ,hO,hf=>by have:=hQ.len;have:=hO.le;omega
 | f +1,n,Q,out,hQ,hO,hf=>by
  unfold xQ;split
  ·rename_i hn
   exact abF hA f _ _ _ (DD hA hQ (hQ.lt _ (wb hn)) 256 (aX _)) (Je hA hO hn) J
  rename_i hn
  have:=hO.le;obtain rfl:n=Q.length:=by omega
  exact⟨hQ,hO⟩
theorem F8(hA:A.Ok):Xl A bl (nr A bl).1/\Xm A bl (nr A bl).1.length (nr A bl).1 (nr A bl).2:=
 abF hA _ _ _ _ (ai_ hA) ⟨rfl,bC _,λk hk=>by omega⟩ J
theorem N8(hA:A.Ok){k:Nat}(hk:k<(qj A).n){b:Nat}(hb:b<256):F7 A (dl A) (nr A (dl A)).1 ((nr A (dl A)).1.getD k 0) b ((qj A).d k b):=
 (F8 (bl:=dl A) hA).2.rows k hk b hb
theorem K8{Q:List Nat}(hn:(Q.map bl).Nodup){k:Nat}(hk:k<Q.length):idx (Q.map bl) (bl (Q.getD k 0))=k:=by
 have h:k<(Q.map bl).length:=by simp_all
 have:=Ez hn h;rw[oR]at this;rw[cH,bL hk];exact this
theorem UX{k:Nat}(hk:k<(qj A).n):(qj A).tag k=A.tag ((nr A (dl A)).1.getD k 0):=by
 have qD:k<(nr A (dl A)).1.length:=hk;show((nr A (dl A)).1.map A.tag).getD k 0=_
 simp_all
theorem DE(hA:A.Ok):(qj A).Ok:=by
 obtain⟨hQ,hO⟩:=F8 (bl:=dl A) hA;obtain⟨h1,h2⟩:=hQ.len;have hle:=hA.le;refine⟨h2,Nat.le_trans h1 hle,λk hk b hb=>?_,λk hk=>by rw[UX hk];exact hA.tags _ (hQ.lt _ (wb hk))⟩;have hr:=N8 hA hk hb
 by_cases c:val (dl A) (A.d ((nr A (dl A)).1.getD k 0) b)=0
 rw[hr.1 c];exact⟨by omega,by omega⟩;obtain⟨r1,r2⟩:=hr.2 c;have:=mY r1;rw[dY]at this;rw[r2];exact⟨by omega,by show _<((nr A (dl A)).1.length:Int);omega⟩
def Jf(A:t_)(k:Int):Int:=if k<0 then-1 else((nr A (dl A)).1.getD k.toNat 0:Int)
theorem abG(hA:A.Ok){k:Int}(hk:St (qj A) k):St A (Jf A k):=by
 unfold Jf St at*;have:=hA.pos;split;omega;have:=(F8 (bl:=dl A) hA).1.lt _ (wb (show k.toNat<(nr A (dl A)).1.length by simp_all[qj]));omega
theorem akL(hA:A.Ok):Jf A 0=0:=by
 obtain⟨R,e,_⟩:=(F8 (bl:=dl A) hA).1.head;show((nr A (dl A)).1.getD 0 0:Int)=0
 grind
theorem abH(hA:A.Ok){k:Int}(hk:St (qj A) k){b:Nat}(hb:b<256):val (dl A) (Jf A (dt (qj A) k b))=val (dl A) (dt A (Jf A k) b):=by
 by_cases c:k<0
 simp_all[dt,Jf];have ZT:k.toNat<(qj A).n:=by simp_all[St]
 have hr:=N8 hA ZT hb;have hq:(nr A (dl A)).1.getD k.toNat 0=(Jf A k).toNat:=by simp_all[Jf,if_neg]
 have akJ:¬Jf A k<0:=by simp_all[Jf,if_neg]
 have e1:dt (qj A) k b=(qj A).d k.toNat b:=by simp_all[dt,if_neg]
 have e2:dt A (Jf A k) b=A.d (Jf A k).toNat b:=by simp_all[dt,if_neg]
 rw[hq]at hr;rw[e1,e2]
 by_cases c2:val (dl A) (A.d (Jf A k).toNat b)=0
 rw[hr.1 c2,c2];rfl;obtain⟨r1,r2⟩:=hr.2 c2;have hlt:=mY r1;rw[r2];generalize hv:val (dl A) (A.d (Jf A k).toNat b)=v at*;have hg:=sQ hlt;rw[dY]at hlt;rw[oR]at hg;unfold Jf;rw[if_neg J,de];show val (dl A) (((nr A (dl A)).1.getD (idx ((nr A (dl A)).1.map (dl A)) v) 0:Nat):Int)=v
 unfold val;rw[if_neg J,de,cH,bL hlt];exact hg
theorem Jg(hA:A.Ok):∀(s:List UInt8) {k:Int},St (qj A) k->tg (qj A) (go (qj A) k s)=tg A (go A (Jf A k) s)
 |[],k,hk=>by
  unfold go tg Jf
  by_cases c:k<0
  omega;rw[if_neg c,if_neg c,if_neg J,de];exact UX (by unfold St at hk;omega)
 |b::s,k,hk=>by
  have hb:=b.toNat_lt;have h1:=Jg hA s (xH (DE hA) hk hb);have h2:same A (Jf A (dt (qj A) k b.toNat)) (dt A (Jf A k) b.toNat):=((Iu hA).same hA (abG hA (xH (DE hA) hk hb)) (xH hA (abG hA hk) hb)).1 (abH hA hk hb);show tg (qj A) (go (qj A) (dt (qj A) k b.toNat) s)=tg A (go A (dt A (Jf A k) b.toNat) s)
  rw[h1];exact h2 s
theorem Xn(hA:A.Ok)(s:List UInt8):tg (qj A) (go (qj A) 0 s)=tg A (go A 0 s):=by
 have:=Jg hA s (k:=0) ⟨by omega,by have:=(DE hA).pos;omega⟩
 simp_all[akL]
end
section
variable{A B:t_}
def Sb(A B:t_)(q r:Int):Prop:=∀s,tg A (go A q s)=tg B (go B r s)
theorem Sb.step{q r:Int}(h:Sb A B q r)(b:Nat)(hb:b<256):Sb A B (dt A q b) (dt B r b):=λs=>by
 have:=h (fN b::s);have e:(fN b).toNat=b:=by simp;omega
 simp_all[go]
theorem Av(f:Nat->Nat)(q:Nat):val f (q:Int)=f q:=by rfl
end
end cX
namespace cB
open Go.RowKit cL dV zP cX
def eX(r:Row):List Value:=r.toList.map (.int .i16)
theorem dE(r:Row):(eX r).length=256:=by simp[eX]
theorem qk(r:Row){b:Nat}(hb:b<256):(eX r)[b]?=ah (.int .i16 r[b]):=by
 simp[eX]
theorem row_one(l:List Row):∀u∈l.flatMap eX,u.oneCell'=true:=by
 intro u hu;obtain⟨x,_,h⟩:=List.mem_flatMap.1 hu;obtain⟨n,_,rfl⟩:=fE.1 h;rfl
theorem r8(r:Row):(eX r).all fV=true:=pB.2 λu hu=>row_one [r] u (by simp_all)
def iH(vr vt:Value):Value:=aP #[vr,vt]
def xt:Row:=eg 256 0
structure HL(w:World)(vr vt:Value)(R:List Row)(tags:List Int):Prop where
 hR:Sl w vr R.length (R.flatMap eX)
 hT:Sl w vt tags.length (tags.flatMap cL.eP)
 rng:∀r∈R,∀x∈r.toList,-32768<=x/\x<=32767
 okT:∀x∈tags,cL.dv x
theorem HL.gr{w w':World}{vr vt:Value}{R:List Row}{tags:List Int}(h:HL w vr vt R tags)(hg:Gr w w'):HL w' vr vt R tags:=⟨h.hR.gr hg,h.hT.gr hg,h.rng,h.okT⟩
theorem HL.ai'{w:World}{vr vt:Value}{R:List Row}{tags:List Int}(h:HL w vr vt R tags):agb w (iH vr vt) (R.map RE) tags:=by
 refine⟨vr,vt,rfl,?_,?_,λr hr=>by grind⟩
 ·obtain⟨base,cap,h1,h2,h3,h4⟩:=h.hR
  refine⟨base,cap,by simp_all,by simp_all,h3,λh0=>?_⟩;rw[dY]at h0;obtain⟨b,off,h5,h6⟩:=h4 h0;refine⟨b,off,h5,λi hi=>?_⟩;have qw:i<R.length:=by simp_all
  refine⟨eX R[i],⟨by simp,by simp[eX],λx hx=>h.rng R[i] (bX qw) x (by simp_all)⟩,λj u hj=>?_⟩;have hjl:j<256:=by grind[dE]
  have:=h6 (i*256+j) u (by simp_all[yp,dE]);rw[iO];exact this
 obtain⟨base,cap,h1,h2,h3,h4⟩:=h.hT;refine⟨base,cap,h1,h2,h3,λh0=>?_⟩;obtain⟨b,off,h5,h6⟩:=h4 h0;refine⟨b,off,h5,λi hi=>⟨[iV tags[i]],⟨rfl,h.okT _ (bX hi)⟩,λj u hj=>?_⟩⟩;have hj0:j=0:=by grind
 subst hj0;rw[lR,mi];refine h6 i u ?_;rw[show tags.flatMap cL.eP=tags.map (.int .i64)from cL.af2 tags,List.getElem?_map,bL hi];exact hj
def eJ(R:List Row)(tags:List Int):t_:=⟨R.length,λi b=>(R.getD i xt).toList.getD b 0,λi=>tags.getD i 0⟩
def lZ(R:List Row)(tags:List Int):Int:=Bj (R.map RE) tags
theorem Jh(R:List Row){i:Nat}(hi:i<R.length):(R.map RE).getD i []=(R.getD i xt).toList:=by
 simp_all
theorem oW{R:List Row}{tags:List Int}(h:lZ R tags=0):(eJ R tags).Ok/\tags.length=R.length:=by
 obtain⟨h1,h2,h3,h4⟩:=Z6 h;rw[dY]at h1 h2 h3 h4;refine⟨⟨h2,h1,λi hi b hb=>?_,λi hi=>?_⟩,h3⟩
 ·have:=(h4 i hi).2.2
  rw[Jh R hi]at this;refine this _ ?_;show(R.getD i xt).toList.getD b 0∈_
  simp_all
 have:=h4 i hi;exact⟨this.1,this.2.1⟩
theorem K'{R:List Row}{tags:List Int}(h:(eJ R tags).Ok)(hl:tags.length=R.length):lZ R tags=0:=by
 have h1:R.length<=200:=h.le;have h2:0<R.length:=h.pos;unfold lZ Bj;rw[dY,if_neg J,if_neg J,if_neg];simp only[pC,List.mem_range,not_exists,not_and];intro i hi;have ht:=h.tags i hi;have hs:=h.step i hi;rw[Jh R hi];simp only[nE,ko,decide_eq_true_eq,pC,not_or,not_exists,not_and];refine⟨⟨?_,?_⟩,λt ht'=>?_⟩
 ·show ¬tags.getD i 0< -1
  have: -1<=tags.getD i 0:=ht.1;omega
 ·have:tags.getD i 0<20:=ht.2
  omega
 obtain⟨b,hb,rfl⟩:=ku.1 ht';have Mn:b<256:=by simpa using hb
 have:=hs b Mn;have e:(eJ R tags).d i b=(R.getD i xt).toList[b]:=by
  show(R.getD i xt).toList.getD b 0=_
  rw[cH (l:=(R.getD i xt).toList),bL hb];rfl
 rw[e]at this;have e2:(eJ R tags).n=R.length:=rfl;omega
theorem UY{A:t_}(hA:A.Ok):St A 0:=⟨by decide,by have:=hA.pos;show(0:Int)<A.n;omega⟩
def ph(R:List Row)(tags:List Int)(s:List UInt8):Int×Int:=if lZ R tags=0 then(tg (eJ R tags) (go (eJ R tags) 0 s),0)else(0,lZ R tags)
theorem Aw{R:List Row}{tags:List Int}{i:Nat}(h:i<tags.length):(eJ R tags).tag i=tags[i]:=by
 show tags.getD i 0=_
 rw[cH,bL h];rfl
theorem N9{R:List Row}{tags:List Int}{i b:Nat}(h:i<R.length)(hb:b<256):(eJ R tags).d i b=(R[i])[b]:=by
 show(R.getD i xt).toList.getD b 0=_
 rw[cH (l:=R),bL h,jz,cH,bL (by simpa using hb),jz,Vector.getElem_toList]
theorem UZ(r:Row){b:Nat}(hb:b<256)(x:Int):(eX r).toArray.setIfInBounds b (.int .i16 x)=(eX (r.set b x)).toArray:=by
 unfold eX;rw[Vector.toList_set,uQ];simp
theorem r9{P:Program}{n:Nat}{W:bV}{fr:Fr}{L:List b_}{Q:Exit->Act->World->Prop}{ops:Array Oper}{rest:List Oper}{ty:TypeId}{pos:String}{after:Array Edge}{t:TypeId}{p x:Operand}{i g b:Nat}{r:Row}{T:TypeId}{agg:Bool}{z:Int}[hT:aI P t agg 1](hi:L[i]?=ah (aK g (eX r).toArray T))(hp:ev fr p=ah (aH (ah ⟨g,0+b,aj⟩)))(hx:ev fr x=ah (.int .i16 z))(hb:b<256)
 (h:TL P n W ops Q rest fr (L.set i (aK g (eX (r.set b z)).toArray T))):TL P n W ops Q (⟨aj,.store t p x,ty,pos,after,aj⟩::rest) fr L:=by
 rw[cU]at hp;refine bD hi hp hx I I ?_ ?_
 ·rw[eT,dE];exact Fy▸hb
 ·rw[UZ r hb];exact h
def Ax(x y:Int)(b:Nat):Row:=rp λi:Fin 256=>if i<b then x else y
theorem Xo(x y:Int)(b:Nat)(hb:b<256):(Ax x y b).set b x=Ax x y (b+1):=by
 refine kD λi hi=>?_;unfold Ax;rw[vH,kC,kC];split
 ·rename_i e;subst e;simp
 have:i<b↔i<b+1:=by omega
 simp only[this]
theorem aeV(x y:Int):Ax x y 0=eg 256 y:=by
 refine kD λi hi=>?_;unfold Ax;simp
theorem Xp(x y:Int):Ax x y 256=eg 256 x:=by
 refine kD λi hi=>?_;unfold Ax;simp[hi]
theorem F9:(c_ 256 (ap .i16 0)).toArray=(eX (eg 256 0)).toArray:=by
 unfold eX;rw[Vector.toList_replicate,List.map_replicate]
def C7(r:Row):Value:=aP (eX r).toArray
theorem Cy(x:Int)(w:World):Calls aC 100 #[.int .i16 x] w (cJ (ret (C7 (eg 256 x))) w):=by
 refine enter (args:=[.int .i16 x]) (n:=13) Tryz.func100 I I I ?_;refine bZ (bx (aY I λg=>?_))
 try refine GA ?_
 refine aY I λg3=>?_;refine zL ?_;rw[F9]
 try refine GA ?_
 rw[<-aeV x 0];refine dZ (ι:=Nat) (λb=>b<=256) (λb=>[(0,.int .i16 x),(2,aH (ah ⟨g,0,aj⟩)),(3,aH (ah ⟨g3,0,aj⟩)),(5,ap av (b:Int))]) (λb=>[aK g (eX (Ax x 0 0)).toArray 240,aK g3 (eX (Ax x 0 b)).toArray 240]) (λb=>256-b) 0 (bC _) ?_;intro b hb
 by_cases c:b<256
 ·repeat(first|refine GA ?_|refine gV (ij bM.eq aI.ty I I c) ?_)
  refine r9 (i:=1) I I I c ?_;rw[Xo x 0 b c];refine zL ?_
  try refine GA ?_
  exact bQ (b+1) J (by show 256-(b+1)<256-b;omega)
 obtain rfl:b=256:=by omega
 rw[Xp]
 repeat(first|refine GA ?_|refine gV (aJ (i:=1) aI.ty I I (by rw[eT,dE])) ?_)
 refine aV (i:=0) I I I (by rw[eT,dE]) (by have:=r8 (eg 256 x);simpa using this) (by rw[eT,dE]) ?_;refine zL ?_
 try refine GA ?_
 exact gT (i:=0) I I I (by rw[eT,dE]) λw hm=>hm.ret
def r_(k:Kind):List Value:=ap av k.1::eX k.2
def N_(k:Kind):Value:=aP (r_ k).toArray
theorem mH(k:Kind):(r_ k).length=257:=by simp[r_,dE]
def U0(r:Row):Prop:=∀(b:Nat) (h:b<256),(-32768:Int)<=r[b]/\r[b]<=32767
theorem abI{r r':Row}(h:eX r=eX r'):r=r':=by
 refine kD λb hb=>?_;have h1:=qk r hb;rw[h,qk r' hb]at h1;simp at h1;exact h1.symm
theorem ahC{r:Row}(h:U0 r)(d:Nat):KL aC (d+2) 240 (eX r):=by
 have e2:aC.cellsOf 240=256:=by kernel_rfl
 have e3:aC.cellsOf 238=1:=by kernel_rfl
 refine ZX (d:=d+1) Tryz.underlying240 (by rw[dE,e2]) λi hi=>?_;have hc:((eX r).drop (i*aC.cellsOf 238)).take (aC.cellsOf 238)=[.int .i16 r[i]]:=by
  rw[e3,lR];have hl:i<(eX r).length:=by simp_all[dE]
  rw[dL hl];have:=qk r hi;rw[bL hl]at this;rw[pD this];rfl
 rw[hc];exact uM Tryz.underlying238 (h i hi).1 (h i hi).2
set_option maxRecDepth 100000 in
theorem abJ(k:Kind)(h:cL.dv k.1/\U0 k.2):∃l,keyOf aC 293 (N_ k)=ah l:=by
 have e1:aC.cellsOf 293=257:=by rfl
 have e2:aC.cellsOf 240=256:=by rfl
 have e3:aC.cellsOf 3=1:=by rfl
 refine Kg (m:=3) (by rfl) (by kernel_rfl) (by rw[mH,e1]) (Dm 3 (by rfl)) λd=>?_;refine Bi (d:=d+2) Tryz.underlying293 (by rw[mH,e1]) (by simp) λf hf=>?_;simp only[dw,fC,or_false]at hf;rcases hf with rfl|rfl
 ·rw[e3]
  exact uM (d:=d+1) Tryz.underlying3 h.1.1 h.1.2
 grind[r_,dE,ahC]
theorem aeW:(293:TypeId)<aC.types.size:=of_decide_eq_true (by kernel_rfl)
set_option maxRecDepth 100000 in
def we:yu aC 293 Kind where
 kv:=N_
 ok k:=cL.dv k.1/\U0 k.2
 law:=deep_law_laid Dl (m:=3) J aeW (by kernel_rfl) (by kernel_rfl)
 key x h:=abJ x h
 inj x y h:=by
  simp only[N_,nS,qc,r_,fL,Fw,true_and]at h;exact pE h.1 (abI h.2)
abbrev DF:=Vector Int 200
def yW(c:DF):List Value:=c.toList.map (.int .i16)
def ahD(c:DF):Value:=aP (yW c).toArray
theorem sa(c:DF):(yW c).length=200:=by simp[yW]
theorem F_(c:DF){b:Nat}(hb:b<200):(yW c)[b]?=ah (.int .i16 c[b]):=by
 simp[yW]
def abK(c:DF):Prop:=∀(b:Nat) (h:b<200),(-32768:Int)<=c[b]/\c[b]<=32767
set_option maxRecDepth 100000 in
theorem aeX(c:DF)(h:abK c):∃l,keyOf aC 246 (ahD c)=ah l:=by
 have e2:aC.cellsOf 246=200:=by rfl
 have e3:aC.cellsOf 238=1:=by rfl
 refine Kg (m:=2) (by rfl) (by rfl) (by rw[sa,e2]) (Dm 2 (by rfl)) λd=>?_;refine ZX (d:=d+1) Tryz.underlying246 (by rw[sa,e2]) λi hi=>?_;have hc:((yW c).drop (i*aC.cellsOf 238)).take (aC.cellsOf 238)=[.int .i16 c[i]]:=by
  rw[e3,lR];have hl:i<(yW c).length:=by simp_all[sa]
  rw[dL hl];have:=F_ c hi;rw[bL hl]at this;rw[pD this];rfl
 rw[hc];exact uM Tryz.underlying238 (h i hi).1 (h i hi).2
theorem ahE:(246:TypeId)<aC.types.size:=of_decide_eq_true (by kernel_rfl)
set_option maxRecDepth 100000 in
def Oa:yu aC 246 DF where
 kv:=ahD
 ok:=abK
 law:=deep_law_laid Dl (m:=2) J ahE (by kernel_rfl) (by kernel_rfl)
 key x h:=aeX x h
 inj x y h:=by
  simp only[ahD,nS,qc]at h;refine kD λb hb=>?_;have h1:=F_ x hb;rw[h,F_ y hb]at h1;simp at h1;exact h1.symm
theorem abL(w:World):(zeroValue 3).run aC w= .ok (ap av 0) w:=by kernel_rfl
set_option maxRecDepth 100000 in
theorem Sc(w:World):(da 293 #[(1,C7 (eg 256 0))]).run aC w= .ok (N_ dead) w:=by kernel_rfl
set_option maxRecDepth 100000 in
theorem Sd(x:Int)(w:World):(da 293 #[(0,ap av x)]).run aC w= .ok (N_ (x,eg 256 0)) w:=by kernel_rfl
theorem Se{x:Int}(h0: -32768<=x)(h1:x<=32767):aa1.wrap x=x:=by
 simp only[aa0,me,sx];simp;omega
abbrev lX(x:Int):Value:=ap av x
theorem abM(x:Int)(r:Row){b:Nat}(hb:b<256)(y:Int):(r_ (x,r)).toArray.setIfInBounds (1+b) (.int .i16 y)=(r_ (x,r.set b y)).toArray:=by
 have e:1+b=b+1:=by omega
 unfold r_;rw[e,D_,A7];have:=UZ r hb y;rw[D_]at this;have h2:(eX r).set b (.int .i16 y)=eX (r.set b y):=by simpa using this
 rw[h2]
section
variable{P:Program}{n:Nat}{W:bV}{fr:Fr}{L:List b_}{Q:Exit->Act->World->Prop}{ops:Array Oper}{rest:List Oper}{ty:TypeId}{pos:String}{after:Array Edge}
theorem Xq{t:TypeId}{p x:Operand}{i g b:Nat}{y:Int}{r:Row}{T:TypeId}{agg:Bool}{z:Int}[hT:aI P t agg 1](hi:L[i]?=ah (aK g (r_ (y,r)).toArray T))(hp:ev fr p=ah (aH (ah ⟨g,1+b,aj⟩)))(hx:ev fr x=ah (.int .i16 z))(hb:b<256)
 (h:TL P n W ops Q rest fr (L.set i (aK g (r_ (y,r.set b z)).toArray T))):TL P n W ops Q (⟨aj,.store t p x,ty,pos,after,aj⟩::rest) fr L:=by
 refine bD hi hp hx I I ?_ ?_
 ·rw[eT,mH];exact Fy▸(by omega:1+b<257)
 ·rw[abM y r hb];exact h
end
def Ga(A:t_)(now:Nat->Nat)(i b:Nat):Row:=rp λj:Fin 256=>if j<b then(val now (A.d i j):Int)else 0
theorem ahF(A:t_)(now:Nat->Nat)(i:Nat):Ga A now i 0=eg 256 0:=by
 refine kD λj hj=>?_;unfold Ga;simp
theorem abN(A:t_)(now:Nat->Nat)(i:Nat):((now i:Int),Ga A now i 256)=kind A now i:=by
 refine pE I (kD λj hj=>?_);unfold Ga kind;simp[hj]
theorem Ob(A:t_)(now:Nat->Nat)(i b:Nat)(hb:b<256):(Ga A now i b).set b (val now (A.d i b):Int)=Ga A now i (b+1):=by
 refine kD λj hj=>?_;unfold Ga;rw[vH,kC,kC];split
 ·rename_i e;subst e;simp
 have:j<b↔j<b+1:=by omega
 simp only[this]
theorem Xr(A:t_)(now:Nat->Nat)(i b:Nat)(hb:b<256)(h0:val now (A.d i b)=0):Ga A now i b=Ga A now i (b+1):=by
 rw[<-Ob A now i b hb,h0];refine kD λj hj=>?_;rw[vH];split
 ·rename_i e;subst e;unfold Ga;simp
 rfl
structure La(A:t_)(f n:Nat)(now:Nat->Nat):Prop where
 eq:dl A=It A f n now
 rd:n=0\/T9 A n now
 le:n<=A.n+1
 fuel:A.n+2<=f+n
 lim:∀i,i<A.n->now i<=200
theorem aeY{A:t_}(hA:A.Ok):La A (A.n+2) 0 (zQ A):=⟨rfl,.inl I,bC _,by omega,λi hi=>by unfold zQ;have:=hA.tags i hi;omega⟩
theorem Oc{A:t_}(hA:A.Ok){f n:Nat}{now:Nat->Nat}(h:La A f n now):∃f',f=f'+1/\((mb A now).length=n->dl A=next A now)/\((mb A now).length≠n->La A f' (mb A now).length (next A now)):=by
 have h1:=h.le;have h2:=h.fuel;obtain⟨f',rfl⟩:∃f',f=f'+1:=⟨f-1,by omega⟩;have e:=h.eq;unfold It at e;refine⟨f',rfl,λhc=>by rw[e,if_pos hc],λhc=>⟨by rw[e,if_neg hc],.inr ⟨now,rfl,rfl⟩,Bo now,?_,λi hi=>?_⟩⟩
 ·have hp:=T8 (A:=A) now
  rcases h.rd with rfl|hr
  omega;have:=(yE hr).1;omega
 have:=qJ (A:=A) (now:=now) (q:=(i:Int)) J;rw[Av]at this;have h3:=Bo (A:=A) now;have h4:=hA.le;omega
theorem aeZ{A:t_}{now:Nat->Nat}(h:∀i,i<A.n->now i<=200){q:Int}(hq:St A q):val now q<=200:=by
 unfold val;split;omega;exact h _ (by unfold St at hq;omega)
theorem ae0{A:t_}(hA:A.Ok){now:Nat->Nat}(h:∀i,i<A.n->now i<=200){i:Nat}(hi:i<A.n):cL.dv (kind A now i).1/\U0 (kind A now i).2:=by
 refine⟨?_,λb hb=>?_⟩
 ·have:=h i hi
  show cL.dv (now i:Int)
  exact⟨by omega,by omega⟩
 have:=aeZ h (hA.step i hi b hb);unfold kind;rw[kC];show-32768<=(val now (A.d i b):Int)/\(val now (A.d i b):Int)<=32767
 omega
def kl(A:t_)(now:Nat->Nat)(i:Nat):List Kind:=dO [dead] ((kinds A now).take i)
theorem Xs(A:t_)(now:Nat->Nat):kl A now A.n=mb A now:=by unfold kl mb;rw[gD (by simp[kinds])]
theorem Ji(A:t_)(now:Nat->Nat){i:Nat}(hi:i<A.n):∃h:i<(kinds A now).length,(kinds A now)[i]=kind A now i:=⟨by simpa[kinds]using hi,by simp[kinds]⟩
theorem ae1(A:t_)(now:Nat->Nat){i:Nat}(hi:i<A.n)(h:kind A now i∈kl A now i):kl A now (i+1)=kl A now i/\next A now i=idx (kl A now i) (kind A now i):=by
 obtain⟨hl,e⟩:=Ji A now hi;have h2:=ZZ (D:=[dead]) hl;unfold kl at h;rw[e,if_pos h]at h2;refine⟨?_,h2⟩;unfold kl;rw[ic hl,kU,e,more,if_pos];exact h
theorem ae2(A:t_)(now:Nat->Nat){i:Nat}(hi:i<A.n)(h:kind A now i∉kl A now i):kl A now (i+1)=kl A now i++[kind A now i]/\next A now i=(kl A now i).length:=by
 obtain⟨hl,e⟩:=Ji A now hi;have h2:=ZZ (D:=[dead]) hl;unfold kl at h;rw[e,if_neg h]at h2;refine⟨?_,h2⟩;unfold kl;rw[ic hl,kU,e,more,if_neg];exact h
theorem abO(A:t_)(now:Nat->Nat)(i:Nat):(kl A now i).length<=A.n+1:=by
 have h:=Bo (A:=A) now;have e:kinds A now=(kinds A now).take i++(kinds A now).drop i:=(List.take_append_drop _ _).symm;have hap:∀(a b D:List Kind),dO D (a++b)=dO (dO D a) b:=by
  intro a
  induction a with
  |nil=>intro b D;rfl
  |cons x a ih=>intro b D;exact ih b _
 obtain⟨E,h2⟩:=sO ((kinds A now).drop i) (kl A now i);have h3:mb A now=kl A now i++E:=by
  unfold mb;rw[e,hap];exact h2
 rw[h3,bT]at h;omega
set_option maxRecDepth 100000 in
theorem Lb(vr vt:Value)(R:List Row)(tags:List Int)(w:World)(h:HL w vr vt R tags)(hc:lZ R tags=0):
 Calls aC 99 #[iH vr vt] w (cJ ⟨λ_=>True,λ(g:Nat)=>ak (ah ⟨g,0,aj⟩) R.length R.length,λg=>[fA 3 lX g R.length λi=>(dl (eJ R tags) i:Int)]⟩ w):=by
 obtain⟨hA,hlt⟩:=oW hc;obtain⟨bt,ct,rfl,ht1,ht2,Mb⟩:=h.hT;obtain⟨br,cr,rfl,Wg,qE,xG⟩:=h.hR;have en:(eJ R tags).n=R.length:=rfl;have uc:0<R.length:=hA.pos;have hle:R.length<=200:=hA.le;obtain⟨b,off,rfl,hr⟩:=xG uc;obtain⟨bb,og,rfl,hrt⟩:=Mb J;unfold maxLen at qE ht2;have ahG:∀i,i<R.length->(eJ R tags).tag i=tags.getD i 0:=λi _=>rfl;clear xG Mb h;refine enter (args:=[iH (ak (ah ⟨b,off,aj⟩) R.length cr) (ak (ah ⟨bb,og,aj⟩) tags.length ct)]) (n:=98) Tryz.func99 I I I ?_;refine bZ (bx (bH I I I λg1=>?_))
 repeat(first|refine GA ?_|refine gV (aw aI.ty I (aD (i:=0) I I)) ?_)
 refine pM lX 0 I I J J I λg3=>?_;refine zL ?_
 repeat(first|refine GA ?_|refine gV (aw aI.ty I (aD (i:=0) I I)) ?_)
 refine kO (ι:=Nat) (λi=>i<=tags.length) (λi=>[(1,aH (ah ⟨g1,0,aj⟩)),(3,ak (ah ⟨g3,0,aj⟩) R.length R.length),(22,ak (ah ⟨bb,og,aj⟩) tags.length ct),(23,ap av (tags.length:Int)),(24,ap av (i:Int))])
  (λi=>[aK g1 (iH (ak (ah ⟨b,off,aj⟩) R.length cr) (ak (ah ⟨bb,og,aj⟩) tags.length ct)).cells 162,fA 3 lX g3 R.length λj=>if j<i then(zQ (eJ R tags) j:Int)else 0]) (λi=>tags.length-i) 0 (bC _) (by repeat' (first|exact cZ|refine cP I ?_)) (by rw[pL (f':=λj=>if j<0 then(zQ (eJ R tags) j:Int)else 0) λi _=>by simp]) ?_
 intro i hi
 by_cases c1:i<tags.length
 ·have eC:=gK (W:=w) (L:=[aK g1 (iH (ak (ah ⟨b,off,aj⟩) R.length cr) (ak (ah ⟨bb,og,aj⟩) tags.length ct)).cells 162,fA 3 lX g3 R.length λj=>if j<i then(zQ (eJ R tags) j:Int)else 0]) (c:=1) (f:=cL.eP) (λ_=>rfl) hrt c1 0 _ I
  have htg:=hA.tags i J;have h0:(zQ (eJ R tags) i:Int)=tags[i]+1:=by
   unfold zQ;rw[Aw c1]at htg⊢;omega
  rw[Aw c1]at htg;generalize tags[i]=x at*
  repeat(first|refine GA ?_|refine gV (aR bM.eq aI.ty I I c1) ?_|refine gV (aw aI.ty I eC) ?_|refine gV (bO bM.eq aI.ty I I (show i<R.length by omega)) ?_)
  refine iR (i:=1) (off:=i) (v:=x+1) (λj=>if j<i+1 then(zQ (eJ R tags) j:Int)else 0) aI.ty I I I I I J (λj hj=>?_) ?_
  ·by_cases e:j=i
   subst e;rw[if_pos J,if_pos I,h0];rw[if_neg e];have:j<i+1↔j<i:=by omega
   simp only[this]
  refine zL ?_
  try refine GA ?_
  exact bQ (i+1) J (by show tags.length-(i+1)<tags.length-i;omega)
 ·obtain rfl:i=tags.length:=by omega
  rw[pL (f':=λj=>(zQ (eJ R tags) j:Int)) λj hj=>if_pos (show j<tags.length by omega)];clear c1 hi
  try refine GA ?_
  refine dZ (ι:=Nat×Nat×(Nat->Nat)×Nat) (λ(f,c,now,_)=>La (eJ R tags) f c now) (λ(_,c,_,g3)=>[(1,aH (ah ⟨g1,0,aj⟩)),(3,ak (ah ⟨g3,0,aj⟩) R.length R.length),(6,ap av (c:Int))])
   (λ(_,_,now,g3)=>[aK g1 (iH (ak (ah ⟨b,off,aj⟩) R.length cr) (ak (ah ⟨bb,og,aj⟩) tags.length ct)).cells 162,fA 3 lX g3 R.length λj=>(now j:Int)]) (λ(f,_,_,_)=>f) (R.length+2,0,zQ (eJ R tags),g3) (aeY hA) ?_
  clear g3;rintro⟨f,c,now,g3⟩ gu;dsimp only at gu⊢;obtain⟨f',rfl,ahH,hgo⟩:=Oc hA gu;have Kd:=gu.lim;have q9:=Cy 0;clear gu;have aja:=Bo (A:=eJ R tags) now;rw[en]at aja
  try refine GA ?_
  refine Bp (K:=we) I λgm=>?_;refine zL ?_
  try refine GA ?_
  refine aT (lz aF.en I I) (λw hm=>q9 _) I I I ?_;intro _ _
  repeat(first|refine GA ?_|refine gV (aZ I Sc) ?_)
  refine aY I λg8=>?_;refine zL ?_;refine aV (i:=3) (cs':=(r_ dead).toArray) I I I (by rw[eT,mH]) (by kernel_rfl) (by kernel_rfl) ?_;refine zL ?_
  repeat(first|refine GA ?_|refine gV (aJ (i:=3) aI.ty I I (by rw[eT,mH])) ?_)
  refine Bq (K:=we) (i:=2) (D:=[]) (x:=dead) bM.eq I I I I ⟨⟨by decide,by decide⟩,λb hb=>by show-32768<=(eg 256 (0:Int))[b]/\(eg 256 (0:Int))[b]<=32767;rw[Vector.getElem_replicate];decide⟩ (by simp) alt ?_;refine zL ?_;refine H9 [0,1,2] ?_
  try refine GA ?_
  refine pM lX 0 I I J J I λg9=>?_;refine zL ?_
  repeat(first|refine GA ?_|refine gV (aw aI.ty I (aD (i:=0) I I)) ?_)
  refine kO (ι:=Nat) (λi=>i<=R.length) (λi=>[(1,aH (ah ⟨g1,0,aj⟩)),(3,ak (ah ⟨g3,0,aj⟩) R.length R.length),(6,ap av (c:Int)),(7,.map (ah gm)),(9,ak (ah ⟨g9,0,aj⟩) R.length R.length),(44,ak (ah ⟨b,off,aj⟩) R.length cr),(45,ap av (R.length:Int)),(46,ap av (i:Int))])
   (λi=>[aK g1 (iH (ak (ah ⟨b,off,aj⟩) R.length cr) (ak (ah ⟨bb,og,aj⟩) tags.length ct)).cells 162,fA 3 lX g3 R.length λj=>(now j:Int),fq we gm (kW (kl (eJ R tags) now i)) (kl (eJ R tags) now i).length,fA 3 lX g9 R.length λj=>if j<i then(next (eJ R tags) now j:Int)else 0]) (λi=>R.length-i) 0 (bC _) (by repeat' (first|exact cZ|refine cP I ?_)) (by rw[pL (g:=g9) (f:=λ_=>(0:Int)) (f':=λj=>if j<0 then(next (eJ R tags) now j:Int)else 0) λi _=>by simp];rfl) ?_
  intro i hi
  by_cases c2:i<R.length
  ·have eC:=gK (W:=w) (L:=[aK g1 (iH (ak (ah ⟨b,off,aj⟩) R.length cr) (ak (ah ⟨bb,og,aj⟩) tags.length ct)).cells 162,fA 3 lX g3 R.length λj=>(now j:Int),fq we gm (kW (kl (eJ R tags) now i)) (kl (eJ R tags) now i).length,fA 3 lX g9 R.length λj=>if j<i then(next (eJ R tags) now j:Int)else 0]) dE hr c2
   have fu:∀(q:Nat) (hq:q<256),(eJ R tags).d i q=(R[i])[q]:=λq hq=>N9 c2 hq;have hst:∀b,b<256->St (eJ R tags) ((eJ R tags).d i b):=λb hb=>hA.step i c2 b hb;generalize R[i]=r at*
   repeat(first|refine GA ?_|refine gV (aR bM.eq aI.ty I I c2) ?_|refine gV (aW aI.ty I (dE r) eC) ?_)
   refine aY I λg11=>?_;refine zL ?_
   try refine GA ?_
   refine aV (i:=4) (cs':=(eX r).toArray) I I I (by rw[eT,dE]) (by simpa using r8 r) (by kernel_rfl) ?_;refine zL ?_;have Jd:=Kd i c2
   repeat(first|refine GA ?_|refine gV (bO bM.eq aI.ty I I c2) ?_|refine gV (aw aI.ty I (gi (i:=1) I c2)) ?_|refine gV (aZ I (Sd _)) ?_)
   refine aY I λg12=>?_;refine zL ?_;refine aV (i:=5) (cs':=(r_ ((now i:Int),eg 256 0)).toArray) I I I (by rw[eT,mH]) (by rw[<-List.all_toArray];kernel_rfl) (by kernel_rfl) ?_;refine zL ?_
   repeat(first|refine GA ?_|refine gV (aJ (i:=4) aI.ty I I (by rw[eT,dE])) ?_)
   rw[<-ahF (eJ R tags) now i];refine tY [0,1,2,3,5] ?_;refine dZ (ι:=Nat) (λq=>q<=256) (λq=>[(1,aH (ah ⟨g1,0,aj⟩)),(3,ak (ah ⟨g3,0,aj⟩) R.length R.length),(6,ap av (c:Int)),(7,.map (ah gm)),(9,ak (ah ⟨g9,0,aj⟩) R.length R.length),(44,ak (ah ⟨b,off,aj⟩) R.length cr),(45,ap av (R.length:Int)),(46,ap av (i:Int)),(10,ap av (i:Int)),(12,aH (ah ⟨g12,0,aj⟩)),(56,C7 r),(57,ap av (q:Int))])
    (λq=>[aK g1 (iH (ak (ah ⟨b,off,aj⟩) R.length cr) (ak (ah ⟨bb,og,aj⟩) tags.length ct)).cells 162,fA 3 lX g3 R.length λj=>(now j:Int),fq we gm (kW (kl (eJ R tags) now i)) (kl (eJ R tags) now i).length,fA 3 lX g9 R.length λj=>if j<i then(next (eJ R tags) now j:Int)else 0,aK g12 (r_ ((now i:Int),Ga (eJ R tags) now i q)).toArray 293]) (λq=>256-q) 0 (bC _) ?_
   intro q hq
   by_cases c3:q<256
   ·have hcell:(eX r).toArray[q]?=ah (.int .i16 r[q]):=by rw[List.getElem?_toArray];exact qk r c3
    have hdq:=fu q c3;have hsq:=hst q c3;have xj:=Ob (eJ R tags) now i q c3;have agh:=Xr (eJ R tags) now i q c3;rw[hdq]at hsq xj agh;clear hdq fu hst;generalize r[q]=x at*;unfold St at hsq
    by_cases c4:x<0
    ·have hv:val now x=0:=by unfold val;rw[if_pos c4]
     rw[agh hv]
     repeat(first|refine GA ?_|refine gV (jw bM.eq aI.ty I I c3 hcell) ?_)
     exact bQ (q+1) J (by show 256-(q+1)<256-q;omega)
    obtain⟨m,rfl⟩:∃m:Nat,x=m:=⟨x.toNat,by omega⟩;have hm:m<R.length:=by omega
    have hlm:=Kd m hm;rw[Av]at xj
    repeat(first|refine GA ?_|refine gV (jw bM.eq aI.ty I I c3 hcell) ?_|refine gV (bO bM.eq aI.ty I I hm) ?_|refine gV (aw aI.ty I (gi (i:=1) I hm)) ?_|refine gV (iT bM.eq bM.eq I (Se J J)) ?_|refine gV (ij bM.eq aI.ty I I c3) ?_)
    refine Xq (i:=4) I I I c3 ?_;rw[xj];refine zL ?_
    try refine GA ?_
    exact bQ (q+1) J (by show 256-(q+1)<256-q;omega)
   obtain rfl:q=256:=by omega
   rw[abN];have mP:=ae0 hA Kd (i:=i) c2
   by_cases c5:kind (eJ R tags) now i∈kl (eJ R tags) now i
   ·obtain⟨e1,e2⟩:=ae1 (eJ R tags) now (i:=i) c2 c5
    generalize kind (eJ R tags) now i=k at*
    repeat(first|refine GA ?_|refine gV (aJ (i:=4) aI.ty I I (by rw[eT,mH])) ?_|refine gV (uS (K:=we) (i:=2) (x:=k) bM.eq abL I I I mP c5) ?_|refine gV (bO bM.eq aI.ty I I c2) ?_)
    refine iR (i:=3) (off:=i) (v:=(next (eJ R tags) now i:Int)) (λj=>if j<i+1 then(next (eJ R tags) now j:Int)else 0) aI.ty I I (by rw[e2];rfl) I I c2 (λj hj=>?_) ?_
    ·by_cases e:j=i
     subst e;rw[if_pos J,if_pos I];rw[if_neg e];have:j<i+1↔j<i:=by omega
     simp only[this]
    refine zL ?_
    try refine GA ?_
    refine dq [0,1,2,3] ?_;exact bQ (i+1) J (by show R.length-(i+1)<R.length-i;omega) (hl:=by rw[e1];rfl)
   obtain⟨e1,e2⟩:=ae2 (eJ R tags) now (i:=i) c2 c5;have agK:=abO (eJ R tags) now i;rw[en]at agK;generalize kind (eJ R tags) now i=k at*
   repeat(first|refine GC ?_|refine gV (aJ (i:=4) aI.ty I I (by rw[eT,mH])) ?_|refine gV (uT (K:=we) (i:=2) (x:=k) bM.eq abL I I I mP c5) ?_|refine gV (wO we bM.eq (i:=2) I I) ?_|refine GB ?_)
   refine Bq (K:=we) (i:=2) (x:=k) bM.eq I I I I mP c5 J ?_;refine zL ?_
   repeat(first|refine GA ?_|refine gV (bO bM.eq aI.ty I I c2) ?_)
   refine iR (i:=3) (off:=i) (v:=(next (eJ R tags) now i:Int)) (λj=>if j<i+1 then(next (eJ R tags) now j:Int)else 0) aI.ty I I (by rw[e2];rfl) I I c2 (λj hj=>?_) ?_
   ·by_cases e:j=i
    subst e;rw[if_pos J,if_pos I];rw[if_neg e];have:j<i+1↔j<i:=by omega
    simp only[this]
   refine zL ?_
   try refine GA ?_
   refine dq [0,1,2,3] ?_;exact bQ (i+1) J (by show R.length-(i+1)<R.length-i;omega) (hl:=by rw[e1];rfl)
  obtain rfl:i=R.length:=by omega
  rw[show kl (eJ R tags) now R.length=mb (eJ R tags) now from Xs (eJ R tags) now];rw[pL (f':=λj=>(next (eJ R tags) now j:Int)) λj hj=>if_pos hj]
  by_cases c6:(mb (eJ R tags) now).length=c
  ·rw[ahH c6]
   repeat(first|refine GC ?_|refine gV (wO we bM.eq (i:=2) I I) ?_|refine gV (dc (b:=aB) I I (decide_eq_true J)) ?_|refine GB ?_)
   exact cV I I λw hm=>hm.meets (S:=⟨λ_=>True,λ(g:Nat)=>ak (ah ⟨g,0,aj⟩) R.length R.length,λg=>[fA 3 lX g R.length λi=>(next (eJ R tags) now i:Int)]⟩) g9 trivial [3] alt I
  repeat(first|refine GC ?_|refine gV (wO we bM.eq (i:=2) I I) ?_|refine gV (dc (b:=aE) I I (decide_eq_false J)) ?_|refine GB ?_)
  refine dq [0,3] ?_;exact bQ (f',(mb (eJ R tags) now).length,next (eJ R tags) now,g9) (hgo c6) (Nat.lt_succ_self f')
theorem Gb(vr vt:Value)(R:List Row)(tags:List Int)(w:World)(h:HL w vr vt R tags):Calls aC 98 #[iH vr vt] w (cJ (ret (ap av (lZ R tags))) w):=EJ _ _ _ w h.ai'
open dg gv ep nP
set_option maxRecDepth 100000 in
theorem ahI(x y:C4)(w:World):(pz 10000 286 (aP (dX x).toArray) (aP (dX y).toArray)).run aC w= .ok (decide (x=y)) w:=by
 show(pz 10000 286 (aP #[v64 x.a,v64 x.b,v64 x.c,v64 x.d]) (aP #[v64 y.a,v64 y.b,v64 y.c,v64 y.d])).run aC w=_
 have e:(pz 10000 286 (aP #[v64 x.a,v64 x.b,v64 x.c,v64 x.d]) (aP #[v64 y.a,v64 y.b,v64 y.c,v64 y.d])).run aC w= .ok ((g_ x.a==g_ y.a)&&((g_ x.b==g_ y.b)&&((g_ x.c==g_ y.c)&&(g_ x.d==g_ y.d)))) w:=by
  unfold v64;rw[run_equalIn_array (P:=aC) w 9999 (n:=4) (e:=92) _ _ I I];have h1:aC.cellsOf 92=1:=rfl;simp[Op.eqItems,go_sem,aa4,h1]
  by_cases e1:g_ x.a=g_ y.a<;>by_cases e2:g_ x.b=g_ y.b<;>by_cases e3:g_ x.c=g_ y.c<;>by_cases e4:g_ x.d=g_ y.d<;>simp[e1,e2,e3,e4]
 rw[e]
 congr 1
 by_cases h:x=y
 subst h;simp;rw[decide_eq_false h]
 by_cases e1:g_ x.a=g_ y.a<;>by_cases e2:g_ x.b=g_ y.b<;>by_cases e3:g_ x.c=g_ y.c<;>by_cases e4:g_ x.d=g_ y.d<;>simp[e1,e2,e3,e4]
 exact h (C4.ext' (o_ e1) (o_ e2) (o_ e3) (o_ e4))
theorem Sf(w:World):(da 286 (#[]:Array (Nat×Value))).run aC w= .ok (aP (dX C4.zero).toArray) w:=by kernel_rfl
theorem ae3{x:Int}(h0: -32768<=x)(h1:x<=32767):aa1.wrap x=x:=by
 simp only[aa0,me,sx];simp;omega
theorem Od(r:Row):(eX r).toArray.toList.all fV=true:=pB.2 λu hu=>row_one [r] u (by simpa using hu)
def Jj(m:MS)(vc vr vf vfol vl ve rows:Value)(g gm n:Nat)(d:DM):Spec (Value×Value):=
 ⟨λ_=>True,λ_=>C7 (qx m n d).1,λx=>Mg vc vr vf vfol vl ve rows g gm x.1 x.2 (qx m n d).2⟩
theorem ae4(p:PS)(all:C4)(b i:Nat):KE p all b (i+1)=if all.mem i=aB/\(p.a8.getD i C4.zero).mem b=aB then(KE p all b i).bit i else KE p all b i:=rfl
theorem Sg(p:PS)(all:C4)(f b:Nat)(r:Row)(d:DM):nb p all (f+1) b r d=if 200<(fP p all b r d).2.S.length+1 then fP p all b r d else nb p all f (b+1) (fP p all b r d).1 (fP p all b r d).2:=rfl
theorem ae5{p:PS}{all:C4}{b:Nat}{r:Row}{d:DM}(hb:b<256)(h:KF p all b=C4.zero):fP p all b r d=(r.set b (-1),d):=by unfold fP;rw[if_pos h,dif_pos hb]
theorem ae6{p:PS}{all:C4}{b:Nat}{r:Row}{d:DM}(hb:b<256)(h:KF p all b≠C4.zero):fP p all b r d=((r.set b (-1)).set b ((iQ p d (KF p all b)).1:Int),(iQ p d (KF p all b)).2):=by unfold fP;rw[if_neg h,dif_pos hb]
set_option maxRecDepth 100000 in
theorem Lc(m:MS)(vc vr vf vfol vl ve rows:Value)(d:DM)(g gm n:Nat)(vs vt:Value)(w0:World)(hp:HB w0 (aP #[vc,vr,vf,vfol,vl,ve]) m)(h:KC m)(hd:DOk m.ps d)(hd2:d.S.length+1<=200)(hn:n<=d.S.length)(w:World)(B:bV)(ho:ly w0 B)
 (hm:Mem B (Mg vc vr vf vfol vl ve rows g gm vs vt d) w):
 Calls aC 97 #[aH (ah ⟨g,0,aj⟩),ap av (n:Int)] w (dz (Jj m vc vr vf vfol vl ve rows g gm n d) B):=by
 have w7:=λw' (hg:Gr w0 w') h1 h2=>HC m vc vr vf vfol vl ve vs (.map (ah gm)) rows vt d.S g n w' (hp.gr hg) h h1 h2 hn;have hst:=λd' s p6 zi h1 h2 w' B' Hs pg=>FD m vc vr vf vfol vl ve rows d' s g gm p6 zi w0 hp h h1 h2 w' B' Hs pg;obtain⟨_,_,_,_,_,_,he,h1,-⟩:=hp;simp only[nS,qc,fL,and_true]at he;obtain⟨rfl,rfl,rfl,rfl,rfl,rfl⟩:=he;have hmf:=h.Dv;clear h;obtain⟨ac,cc,rfl,-,-,hrc⟩:=h1;unfold Jj qx;generalize ki m d.S n=all at*;obtain⟨p,fi,em⟩:=m;dsimp only at*;unfold Mg at hm;have hB0:=Sf;refine dT hm (args:=[aH (ah ⟨g,0,aj⟩),ap av (n:Int)]) (n:=60) Tryz.func97 I I I ?_;clear hm;refine bZ (bx (aY I λg4=>?_));refine zL ?_;rw[F9]
 try refine GA ?_
 refine aT (gh aF.en I I I) (λw hm=>w7 w (ho.mem hm) (hm.get (i:=0) I) (Sl.dF (hm.get (i:=1) I))) I I I ?_;intro _ _;refine zL ?_;clear w7
 try refine GA ?_
 refine aY I λg5=>?_;refine zL ?_;refine fR 5 (cs':=(dX all).toArray) ?_;refine zL ?_
 try refine GA ?_
 refine aY I λg6=>?_;refine zL ?_;rw[F9]
 try refine GA ?_
 clear hn;generalize jh:nb p all 256 0 (eg 256 0) d=fin;refine dZ (ι:=Nat×Row×DM×Value×Value) (λ(b,r,d,_,_)=>b<=256/\DOk p d/\d.S.length+1<=200/\nb p all (256-b) b r d=fin) (λ(b,_,_,_,_)=>[(0,aH (ah ⟨g,0,aj⟩)),(4,aH (ah ⟨g4,0,aj⟩)),(5,aH (ah ⟨g5,0,aj⟩)),(6,aH (ah ⟨g6,0,aj⟩)),(14,ap av (b:Int))])
  (λ(_,r,d,vs,vt)=>[aK g (Mf (ak ac p.a8.length cc) vr vf vfol vl ve vs (.map (ah gm)) rows vt) 237,o8 vs d.S,tj gm d.S,gB vt d.tags,aK g4 (eX (eg 256 0)).toArray 240,aK g5 (dX all).toArray 286,aK g6 (eX r).toArray 240]) (λ(b,_,_,_,_)=>256-b) (0,eg 256 0,d,vs,vt) ⟨bC _,hd,hd2,jh⟩ ?_
 clear hd hd2 jh d vs vt;rintro⟨b,r,d,vs,vt⟩ ⟨i1,i2,i3,i4⟩;dsimp only at i1 i2 i3 i4⊢
 by_cases c1:b<256
 ·rw[show 256-b=(256-(b+1))+1 by omega,Sg]at i4
  try refine GA ?_
  refine aY I λg8=>?_;refine zL ?_
  repeat(first|refine GA ?_|refine gV (aw (v:=ak ac p.a8.length cc) aI.ty I (aD (i:=0) I I)) ?_)
  refine dZ (ι:=Nat) (λk=>k<=p.a8.length) (λk=>[(0,aH (ah ⟨g,0,aj⟩)),(4,aH (ah ⟨g4,0,aj⟩)),(5,aH (ah ⟨g5,0,aj⟩)),(6,aH (ah ⟨g6,0,aj⟩)),(7,ap av (b:Int)),(8,aH (ah ⟨g8,0,aj⟩)),(14,ap av (b:Int)),(21,ak ac p.a8.length cc),(22,ap av p.a8.length),(23,ap av (k:Int))])
   (λk=>[aK g (Mf (ak ac p.a8.length cc) vr vf vfol vl ve vs (.map (ah gm)) rows vt) 237,o8 vs d.S,tj gm d.S,gB vt d.tags,aK g4 (eX (eg 256 0)).toArray 240,aK g5 (dX all).toArray 286,aK g6 (eX r).toArray 240,aK g8 (dX (KE p all b k)).toArray 286]) (λk=>p.a8.length-k) 0 (bC _) ?_
  intro k hk
  by_cases c2:k<p.a8.length
  ·have PB:=ae4 p all b k
   have UG:p.a8.getD k C4.zero=p.a8[k]:=by rw[cH,bL c2];rfl
   rw[UG]at PB;obtain⟨bc,akM,rfl,ajb⟩:=hrc J;have ajc:=λ(L:List b_)=>RG (L:=L) (f:=dX) (c:=4) (λ_=>rfl) ho ajb c2;clear ajb hrc UG;generalize p.a8[k]=c at*;have ajd:∀(L:List b_) (j:Nat) (u:Value),(dX c)[j]?=ah u->At B L ⟨bc,akM+k*4+j,aj⟩ u:=ajc;clear ajc;have abc:=λw=>s_ all k J w;have akN:=λw=>V_ c b c1 w;generalize KE p all b k=tz at*;generalize all.mem k=b1 at*;generalize c.mem b=b2 at*;have hu8:KO.wrap (b:Int)=(b:Int):=by rw[KN];omega
   repeat(first|refine GA ?_|refine gV (aR bM.eq aI.ty I I c2) ?_|refine gV (aW (cs:=dX c) aI.ty I I (ajd _)) ?_)
   refine aY I λg10=>?_;refine zL ?_
   try refine GA ?_
   refine fR 8 (cs':=(dX c).toArray) ?_;refine zL ?_
   repeat(first|refine GA ?_|refine gV (aJ (i:=5) aI.ty I I I) ?_)
   refine aT (gh aF.en I I I) (λw hm=>abc w) I I I ?_;intro _ _;refine zL ?_
   by_cases q1:b1=aB
   ·subst q1
    repeat(first|refine GA ?_|refine gV (aJ (i:=8) aI.ty I I I) ?_|refine gV (iT bM.eq bM.eq I hu8) ?_)
    refine l5 (gh aF.en I I I) (λw hm=>akN w) I I I I I ?_;intro _ _;refine zL ?_
    by_cases q2:b2=aB
    ·subst q2
     rw[if_pos ⟨rfl,rfl⟩]at PB
     try refine GA ?_
     refine bz [7] [0,1,2,3,4,5,6] alt I I (gh aF.en I I I) (λw hm hb=>ta tz k J g8 w _ hb) I I I ?_;intro _ _;refine zL ?_
     try refine GA ?_
     exact bQ (k+1) J (by show p.a8.length-(k+1)<p.a8.length-k;omega) (hl:=by rw[PB])
    rw[if_neg (λh=>q2 h.2)]at PB;obtain rfl:=BH.2 q2
    try refine GA ?_
    refine dq [0,1,2,3,4,5,6,7] ?_;exact bQ (k+1) J (by show p.a8.length-(k+1)<p.a8.length-k;omega) (hl:=by rw[PB];rfl)
   rw[if_neg (λh=>q1 h.1)]at PB;obtain rfl:=BH.2 q1
   try refine GA ?_
   refine dq [0,1,2,3,4,5,6,7] ?_;exact bQ (k+1) J (by show p.a8.length-(k+1)<p.a8.length-k;omega) (hl:=by rw[PB];rfl)
  obtain rfl:k=p.a8.length:=by omega
  have hF:KE p all b p.a8.length=KF p all b:=rfl;rw[hF];have Ma:=ae5 (p:=p) (all:=all) (r:=r) (d:=d) c1;have rM:=ae6 (p:=p) (all:=all) (r:=r) (d:=d) c1;have J3:=ahI (KF p all b) C4.zero;clear hF hrc;generalize KF p all b=tz at*
  repeat(first|refine GA ?_|refine gV (ij bM.eq aI.ty I I c1) ?_)
  refine r9 (i:=6) I I I c1 ?_;refine zL ?_
  by_cases q1:tz=C4.zero
  ·rw[decide_eq_true q1]at J3
   rw[Ma q1,if_neg (by show ¬200<d.S.length+1;omega)]at i4;refine mX (i:=1) I gj λfu=>?_;obtain⟨ab,cs,rfl,hmS,-⟩:=fu
   repeat(first|refine GC ?_|refine gV (aJ (i:=7) aI.ty I I I) ?_|refine gV (aZ I hB0) ?_|refine gV (uD I I (by kernel_rfl) J3 I) ?_|refine gV (aw (v:=ak ab (d.S.length+1) cs) aI.ty I (aD (i:=0) I I)) ?_|refine gV (eO (b:=aE) I I (decide_eq_false J)) ?_|refine GB ?_)
   refine dq [0,1,2,3,4,5,6] ?_;exact bQ (b+1,r.set b (-1),d,ak ab (d.S.length+1) cs,vt) ⟨by omega,i2,i3,i4⟩ (by show 256-(b+1)<256-b;omega)
  rw[decide_eq_false q1]at J3;rw[rM q1]at i4;obtain⟨s1,s2,s3,s4,s5⟩:=Nv i2 tz
  repeat(first|refine GC ?_|refine gV (aJ (i:=7) aI.ty I I I) ?_|refine gV (aZ I hB0) ?_|refine gV (uD I I (by kernel_rfl) J3 I) ?_|refine GB ?_)
  refine bz [0,1,2,3] [4,5,6,7] alt I I (gh aF.en I I I) (λw hm hb=>hst d tz vs vt J (by have:=i2.tags;omega) w _ (ho.on hm (by simp[Mg])) hb) I I I ?_;rintro⟨p6,zi⟩ _
  conv=>arg 8;simp only[zJ,df,ret,id_eq,aeF,Mg]
  conv=>arg 7;simp only[aeF]
  generalize iQ p d tz=R at*;obtain⟨q,d'⟩:=R;dsimp only at i4 s1 s2 s3 s4 s5⊢;have hq:q<=200:=by omega
  refine mX (i:=5) I gj λfu=>?_;obtain⟨ab,cs,rfl,hmS,-⟩:=fu
  repeat(first|refine GA ?_|refine gV (iT bM.eq bM.eq I (ae3 J J)) ?_|refine gV (ij bM.eq aI.ty I I c1) ?_)
  refine r9 (i:=2) I I I c1 ?_;refine zL ?_;generalize (r.set b (-1)).set b (q:Int)=r' at*
  by_cases q2:200<d'.S.length+1
  ·rw[if_pos q2]at i4
   subst i4
   repeat(first|refine GC ?_|refine gV (aw (v:=ak ab (d'.S.length+1) cs) aI.ty I (aD (i:=4) I I)) ?_|refine gV (eO (b:=aB) I I (decide_eq_true J)) ?_|refine gV (aJ (i:=2) aI.ty I I (by rw[eT,dE])) ?_|refine GB ?_)
   refine aV (i:=0) (cs':=(eX r').toArray) I I I (by rw[eT,dE]) (Od r') (by rw[eT,dE]) ?_;refine zL ?_
   try refine GA ?_
   exact gT (i:=0) I I I (by rw[eT,dE]) λw hm=>hm.cg (S:=⟨λ(_:Value×Value)=>True,λ_=>C7 r',λx=>Mg (ak ac p.a8.length cc) vr vf vfol vl ve rows g gm x.1 x.2 d'⟩) (ak ab (d'.S.length+1) cs,zi) trivial [4,5,6,7] alt I
  rw[if_neg q2]at i4
  repeat(first|refine GC ?_|refine gV (aw (v:=ak ab (d'.S.length+1) cs) aI.ty I (aD (i:=4) I I)) ?_|refine gV (eO (b:=aE) I I (decide_eq_false J)) ?_|refine GB ?_)
  refine dq [4,5,6,7,0,1,2] ?_;exact bQ (b+1,r',d',ak ab (d'.S.length+1) cs,zi) ⟨by omega,s1,by show d'.S.length+1<=200;omega,i4⟩ (by show 256-(b+1)<256-b;omega)
 ·obtain rfl:b=256:=by omega
  have i4:(r,d)=fin:=i4;subst i4
  repeat(first|refine GA ?_|refine gV (aJ (i:=6) aI.ty I I (by rw[eT,dE])) ?_)
  refine aV (i:=4) (cs':=(eX r).toArray) I I I (by rw[eT,dE]) (Od r) (by rw[eT,dE]) ?_;refine zL ?_
  try refine GA ?_
  exact gT (i:=4) I I I (by rw[eT,dE]) λw hm=>hm.cg (S:=⟨λ(_:Value×Value)=>True,λ_=>C7 r,λx=>Mg (ak ac p.a8.length cc) vr vf vfol vl ve rows g gm x.1 x.2 d⟩) (vs,vt) trivial [0,1,2,3] alt I
def tp(m:MS):List Row×List Int×Int:=match vz m with
 |some (R,d)=>(R,d.tags,0)
 |none=>([],[],8)
def U1(m:MS):Spec (Value×Value):=⟨λ_=>True,λx=> .tuple #[iH x.1 x.2,ap av (tp m).2.2],λx=>[bm 240 256 x.1 (tp m).1.length ((tp m).1.flatMap eX),gB x.2 (tp m).2.1]⟩
theorem yX{m:MS}{R:List Row}{d:DM}(h:vz m=ah (R,d)):tp m=(R,d.tags,0):=by unfold tp;rw[h]
theorem Sh{m:MS}(h:vz m=aj):tp m=([],[],8):=by unfold tp;rw[h]
theorem Jk(m:MS)(f n:Nat)(R:List Row)(d:DM):td m (f+1) n R d=if n<d.S.length+1 then(if 200<(qx m n d).2.S.length+1 then aj else td m f (n+1) (R++[(qx m n d).1]) (qx m n d).2)else ah (R,d):=rfl
theorem Si(w:World):(da 162 (#[]:Array (Nat×Value))).run aC w= .ok (aP #[ak aj 0 0,ak aj 0 0]) w:=by kernel_rfl
theorem Oe(vc vr vf vfol vl ve:Value)(g gm:Nat)(w:World):(da 237 #[(0,aP #[vc,vr,vf,vfol,vl,ve]),(1,ak (ah ⟨g,0,aj⟩) 1 1),(2,.map (ah gm))]).run aC w= .ok (.agg (Mf vc vr vf vfol vl ve (ak (ah ⟨g,0,aj⟩) 1 1) (.map (ah gm)) (ak aj 0 0) (ak aj 0 0))) w:=by
 unfold Mf;go_simp
theorem Og{g:Nat}{w:World}(h:(aK g (madeCells #[ap .u64 0,ap .u64 0,ap .u64 0,ap .u64 0] (1*4)) 286).holds w):(o8 (ak (ah ⟨g,0,aj⟩) 1 1) []).holds w:=by
 rw[af8 (k:=4) I alt]at h;exact⟨rfl,.inr ⟨g,1,_,rfl,bC _,h,aX _,by decide,rfl,rfl⟩⟩
theorem BR(v:Value)(R:List Row)(r:Row):bm 240 256 v (R++[r]).length ((R++[r]).flatMap eX)=bm 240 256 v (R.length+1) (R.flatMap eX++eX r):=by
 rw[bT,ie];simp
theorem ahJ{vc vr vf vfol vl ve vs num rows tags v:Value}{j:Nat}(h:[rows,tags][j]?=ah v):(Mf vc vr vf vfol vl ve vs num rows tags)[8+j]?=ah v:=by
 match j,h with
 |0,h=>exact h
 |1,h=>exact h
theorem Ld(r:Row):(eX r).toArray=([C7 r].flatMap λv=>v.cells.toList).toArray:=by
 show _=((eX r).toArray.toList++[]).toArray
 simp
theorem Gc(r:Row):∀v∈[C7 r],v.cells.size=256:=by
 intro v hv;rw[ez.1 hv];show(eX r).toArray.size=256
 rw[eT,dE]
set_option maxRecDepth 100000 in
theorem HM(v:Value)(m:MS)(w:World)(hp:HB w v m)(h:KC m):
 Calls aC 58 #[v] w (cJ (U1 m) w):=by
 have fS:=λw' (hg:Gr w w')=>FB v m w' (hp.gr hg) h;obtain⟨vc,vr,vf,vfol,vl,ve,rfl,h1,h2,h3,h4,h5,h6⟩:=id hp;have PD:=λrows d g gm n vs vt hd hd2 hn w' B ho hm=>Lc m vc vr vf vfol vl ve rows d g gm n vs vt w hp h hd hd2 hn w' B ho hm;clear h1 h2 h3 h4 h5 hp;have hms:=h.some;have uA:=h.aes;clear h;obtain⟨ae,ce,rfl,-,hme,hre⟩:=h6;unfold maxLen at hme;have hbz:=Si;refine enter (args:=[aP #[vc,vr,vf,vfol,vl,ak ae m.empty.length ce]]) (n:=78) Tryz.func58 I I I ?_;refine bZ (bx (bH I I I λg1=>aY I λg2=>?_));refine zL ?_
 repeat(first|refine GA ?_|refine gV (aJ (i:=0) aI.ty I I I) ?_)
 refine aT (lz aF.en I I) (λw hm=>fS _ hm.below) I I I ?_;intro _ _;refine zL ?_;clear fS
 repeat(first|refine GC ?_|refine gV (dh (b:=aE) I I (decide_eq_false (by simp))) ?_|refine GB ?_)
 (repeat refine bZ ?_)
 refine ml (ι:=Nat×Nat×Nat) (λ_=>True) (λ(_,_,g5)=>[(1,aH (ah ⟨g1,0,aj⟩)),(2,aH (ah ⟨g2,0,aj⟩)),(5,aH (ah ⟨g5,0,aj⟩))])
  (λ(gs,gm,g5)=>[aK g1 #[vc,vr,vf,vfol,vl,ak ae m.empty.length ce] 157,aK g2 #[ak aj 0 0,ak aj 0 0] 162,aK g5 (Mf vc vr vf vfol vl (ak ae m.empty.length ce) (ak (ah ⟨gs,0,aj⟩) 1 1) (.map (ah gm)) (ak aj 0 0) (ak aj 0 0)) 237,o8 (ak (ah ⟨gs,0,aj⟩) 1 1) [],tj gm []]) ?_ ?_
 ·refine dG ([aK g1 #[vc,vr,vf,vfol,vl,ak ae m.empty.length ce] 157]) (.calm 0 (.two 1 (.one 2 (.calm 3 (.one 4 (.calm 5 (.done))))) 2 (.one 1 (.calm 3 (.one 4 (.calm 5 (.done))))))) (bY [0]) ?_
  repeat(first|refine GW ?_|(refine GN ?_;first|refine QW (aJ (i:=0) aI.ty I I I) ?_))
  refine e_ I I ?_ ?_
  ·refine uI (m:=1) (cap:=1) I I (aX 1) alt alt I λgs=>aO (bY [0]) ?_
   refine aM I (yv RI I λgm=>aO (bY [0]) ?_)
   repeat(first|refine GW ?_|(refine GN ?_;first|refine QW (aZ I (Oe _ _ _ _ _ _ _ _)) ?_))
   refine aM I (bH I I I λg5=>aO (bY [0]) ?_)
   try refine GW ?_
   refine pe (i:=2) (o8 (ak (ah ⟨gs,0,aj⟩) 1 1) []) I (λw h=>Og h) (λk h=>h) ?_;refine pe (i:=3) (tj gm []) I (λw h=>by unfold tj;rw[<-FC];exact h) (λk h=>h) ?_;refine dq [0,1,4,2,3] ?_;exact eQ (gs,gm,g5) trivial (by repeat' (first|exact cZ|refine cP I ?_)) I
  refine yv RI I λgm=>aO (bY [0]) ?_;refine aM I (uI (m:=1) (cap:=1) I I (aX 1) alt alt I λgs=>aO (bY [0]) ?_)
  repeat(first|refine GW ?_|(refine GN ?_;first|refine QW (aZ I (Oe _ _ _ _ _ _ _ _)) ?_))
  refine aM I (bH I I I λg5=>aO (bY [0]) ?_)
  try refine GW ?_
  refine pe (i:=3) (o8 (ak (ah ⟨gs,0,aj⟩) 1 1) []) I (λw h=>Og h) (λk h=>h) ?_;refine pe (i:=2) (tj gm []) I (λw h=>by unfold tj;rw[<-FC];exact h) (λk h=>h) ?_;refine dq [0,1,4,3,2] ?_;exact eQ (gs,gm,g5) trivial (by repeat' (first|exact cZ|refine cP I ?_)) I
 rintro⟨gs,gm,g5⟩ _;dsimp only
 try refine GA ?_
 refine fz (cs:=#[ap av (-1)]) [ap av (-1)] I I I (by intro v hv;simp at hv;subst hv;rfl) I I I λg20=>?_;refine zL ?_
 try refine GA ?_
 refine bD (i:=2) I I I I I I ?_;refine zL ?_
 repeat(first|refine GC ?_|refine gV (aw (v:=ak ae m.empty.length ce) aI.ty I (aD (i:=0) I I)) ?_|refine gV (ey (r:=(m.empty.length:Int)-1) I I J J I) ?_|refine GB ?_)
 refine kO (ι:=Nat) (λk=>k<=m.empty.length) (λk=>[(1,aH (ah ⟨g1,0,aj⟩)),(2,aH (ah ⟨g2,0,aj⟩)),(5,aH (ah ⟨g5,0,aj⟩)),(6,ap av ((k:Int)-1))])
  (λk=>[aK g1 #[vc,vr,vf,vfol,vl,ak ae m.empty.length ce] 157,aK g2 #[ak aj 0 0,ak aj 0 0] 162,aK g5 (Mf vc vr vf vfol vl (ak ae m.empty.length ce) (ak (ah ⟨gs,0,aj⟩) 1 1) (.map (ah gm)) (ak aj 0 0) (ak (ah ⟨g20,0,aj⟩) 1 1)) 237,o8 (ak (ah ⟨gs,0,aj⟩) 1 1) [],tj gm [],aK g20 #[ap av (fZ (m.empty.drop k) k)] 3]) (λk=>k) m.empty.length (aX _) (by repeat' (first|exact cZ|refine cP I ?_)) (by rw[List.drop_eq_nil_of_le (aX _)];rfl) ?_
 intro k hk
 by_cases c1:0<k
 ·obtain⟨j,rfl⟩:∃j,k=j+1:=⟨k-1,by omega⟩
  have hj:j<m.empty.length:=by omega
  obtain⟨be,ahK,rfl,abP⟩:=hre J;have akO:=λ(L:List b_)=>gK (L:=L) UF abP hj 0 _ I;have hst:fZ (m.empty.drop j) j=if m.empty[j]=aB then(j:Int)else fZ (m.empty.drop (j+1)) ((j:Int)+1):=by rw[dL hj,fZ]
  rw[show(((j+1:Nat):Int))=(j:Int)+1 by omega]at*;generalize fZ (m.empty.drop (j+1)) ((j:Int)+1)=t at*;generalize m.empty[j]=b at*;rw[show(j:Int)+1-1=(j:Int)by omega];have agi:∀(L:List b_),At (w:bV) L ⟨be,ahK+j*1+0,aj⟩ (.bool b):=akO
  by_cases c2:b=aB
  ·subst c2
   rw[if_pos I]at hst
   repeat(first|refine GC ?_|refine gV (fX (b:=aB) I I (decide_eq_true J)) ?_|refine gV (aw (v:=ak (ah ⟨be,ahK,aj⟩) m.empty.length ce) aI.ty I (aD (i:=0) I I)) ?_|refine gV (aR bM.eq aI.ty I I hj) ?_|refine gV (aw (v:= .bool aB) aI.ty I (agi _)) ?_|refine gV (aw (v:=ak (ah ⟨g20,0,aj⟩) 1 1) aI.ty I (aD (i:=2) I I)) ?_|refine gV (aR (j:=0) bM.eq aI.ty I I alt) ?_|refine GB ?_)
   refine bD (i:=5) I I I I I I ?_;refine zL ?_
   repeat(first|refine GC ?_|refine gV (ey (r:=(j:Int)-1) I I J J I) ?_|refine GB ?_)
   exact bQ j J (by show j<j+1;omega) (hl:=by rw[hst];rfl)
  rw[if_neg c2]at hst;obtain rfl:=BH.2 c2
  repeat(first|refine GC ?_|refine gV (fX (b:=aB) I I (decide_eq_true J)) ?_|refine gV (aw (v:=ak (ah ⟨be,ahK,aj⟩) m.empty.length ce) aI.ty I (aD (i:=0) I I)) ?_|refine gV (aR bM.eq aI.ty I I hj) ?_|refine gV (aw (v:= .bool aE) aI.ty I (agi _)) ?_|refine gV (ey (r:=(j:Int)-1) I I J J I) ?_|refine GB ?_)
  exact bQ j J (by show j<j+1;omega) (hl:=by rw[hst])
 ·obtain rfl:k=0:=by omega
  rw[show fZ (m.empty.drop 0) ((0:Nat):Int)=fZ m.empty 0 from I];have jh:td m (201-0) 0 [] ⟨[],[fZ m.empty 0]⟩=vz m:=rfl;generalize fZ m.empty 0=t0 at*;refine T4 (i:=5) (gB (ak (ah ⟨g20,0,aj⟩) 1 1) [t0]) I (λw h=>KI h) (λk h=>h) ?_
  repeat(first|refine GC ?_|refine gV (fX (b:=aE) I I (decide_eq_false J)) ?_|refine GB ?_)
  refine iJ 240 256 ?_;refine tY [1,2,3,4,5,6] ?_;clear hre;refine dZ (ι:=Nat×List Row×DM×Value×Value×Value) (λ(n,R,d,_,_,_)=>R.length=n/\n<=d.S.length+1/\DOk m.ps d/\d.S.length+1<=200/\td m (201-n) n R d=vz m) (λ(n,_,_,_,_,_)=>[(2,aH (ah ⟨g2,0,aj⟩)),(5,aH (ah ⟨g5,0,aj⟩)),(7,ap av (n:Int))])
   (λ(_,R,d,vs,wg,vt)=>[aK g2 #[ak aj 0 0,ak aj 0 0] 162,aK g5 (Mf vc vr vf vfol vl (ak ae m.empty.length ce) vs (.map (ah gm)) wg vt) 237,o8 vs d.S,tj gm d.S,gB vt d.tags,bm 240 256 wg R.length (R.flatMap eX)]) (λ(n,_,_,_,_,_)=>201-n) (0,[],⟨[],[t0]⟩,ak (ah ⟨gs,0,aj⟩) 1 1,ak aj 0 0,ak (ah ⟨g20,0,aj⟩) 1 1) ⟨rfl,bC _,⟨aa9,rfl⟩,by show 0+1<=200;omega,jh⟩ ?_
  clear jh hk c1;rintro⟨n,R,d,vs,wg,vt⟩ ⟨i0,i1,i2,i3,i4⟩;dsimp only at i0 i1 i2 i3 i4⊢;refine ix (i:=2) I gj λfu=>?_;obtain⟨ab,cs,rfl,hmS,-⟩:=fu
  by_cases c1:n<d.S.length+1
  ·rw[show 201-n=(201-(n+1))+1 by omega,Jk,if_pos c1]at i4
   obtain⟨s1,s2,s3⟩:=Nw (p:=m.ps) (ki m d.S n) 256 0 (eg 256 0) d i2 i3;have abQ:=λw' (pg:Mem (w:bV) [aK g2 #[ak aj 0 0,ak aj 0 0] 162,aK g5 (Mf vc vr vf vfol vl (ak ae m.empty.length ce) (ak ab (d.S.length+1) cs) (.map (ah gm)) wg vt) 237,o8 (ak ab (d.S.length+1) cs) d.S,tj gm d.S,gB vt d.tags,bm 240 256 wg R.length (R.flatMap eX)] w') (hb:Mem (bV.on w' (Mg vc vr vf vfol vl (ak ae m.empty.length ce) wg g5 gm (ak ab (d.S.length+1) cs) vt d)) (Mg vc vr vf vfol vl (ak ae m.empty.length ce) wg g5 gm (ak ab (d.S.length+1) cs) vt d) w')=>PD wg d g5 gm n (ak ab (d.S.length+1) cs) vt i2 i3 J w' _ ((ly.self w).on pg (by simp[Mg])) hb;rw[show nb m.ps (ki m d.S n) 256 0 (eg 256 0) d=qx m n d from I]at s1 s2 s3;obtain⟨r',d',mQ⟩:∃r' d',qx m n d=(r',d'):=⟨_,_,rfl⟩;rw[mQ]at i4 s1 s2 s3;dsimp only at i4 s1 s2 s3
   repeat(first|refine GC ?_|refine gV (aw (v:=ak ab (d.S.length+1) cs) aI.ty I (aD (i:=1) I I)) ?_|refine gV (fI (b:=aB) I I (decide_eq_true J)) ?_|refine GB ?_)
   (repeat refine bZ ?_)
   refine ml (ι:=Value×Value×Value) (λ_=>True) (λ_=>[(2,aH (ah ⟨g2,0,aj⟩)),(5,aH (ah ⟨g5,0,aj⟩)),(7,ap av (n:Int))])
    (λ(p6,rA,zi)=>[aK g2 #[ak aj 0 0,ak aj 0 0] 162,aK g5 (Mf vc vr vf vfol vl (ak ae m.empty.length ce) p6 (.map (ah gm)) rA zi) 237,o8 p6 d'.S,tj gm d'.S,gB zi d'.tags,bm 240 256 rA (R++[r']).length ((R++[r']).flatMap eX)]) ?_ ?_
   ·refine dG ([]) (.calm 0 (.calm 1 (.calm 2 (.calm 3 (.calm 4 (.calm 6 (.calm 7 (.two 5 (.one 8 (.one 9 (.one 10 (.calm 11 (.calm 12 (.calm 13 (.one 14 (.done)))))))) 8 (.two 5 (.one 9 (.one 10 (.calm 11 (.calm 12 (.calm 13 (.one 14 (.done))))))) 9 (.one 5 (.one 10 (.calm 11 (.calm 12 (.calm 13 (.one 14 (.done)))))))))))))))) (bY []) ?_
    try refine GW ?_
    refine e_ I I ?_ ?_
    ·refine dy (aw (v:=wg) aI.ty I (aD (i:=1) I I)) I I I (aO (bY []) ?_)
     refine aM I (bz [1,2,3,4] [0,5] alt I I (gh aF.en I I I) (λw' hm hb=>abQ w' hm hb) I I I ?_);rintro⟨p6,zi⟩ _
     conv=>arg 8;simp only[zJ,df,ret,id_eq,Jj,Mg]
     conv=>arg 7;simp only[Jj]
     rw[mQ];dsimp only;refine aO (bY []) ?_;refine aM I (fz (cs:=(eX r').toArray) [C7 r'] I I I (Gc r') I (Ld r') I λg62=>(aO (bY []) ?_));refine aM I (eM (i:=1) (e:=240) (size:=256) (bytes:=512) (m:=R.length) (xs:=R.flatMap eX) (k:=1) (ys:=eX r') I (kT (i:=6) I (λj u h=>by simpa using h) (aX 1) alt) I I (by rw[dE]) (λu hu=>row_one [r'] u (by simpa using hu)) J J I λrA=>(aO (bY []) ?_))
     try refine GW ?_
     refine aM I (aU (i:=1) I λjm mz=>bD (i:=2) I I I jm mz I (aO (bY []) ?_))
     try refine GW ?_
     refine dq [0,2,3,4,5,1] ?_;exact eQ (p6,rA,zi) trivial (by repeat' (first|exact cZ|refine cP I ?_)) (by dsimp only;rw[BR];rfl)
    refine bz [1,2,3,4] [0,5] alt I I (gh aF.en I I I) (λw' hm hb=>abQ w' hm hb) I I I ?_;rintro⟨p6,zi⟩ _
    conv=>arg 8;simp only[zJ,df,ret,id_eq,Jj,Mg]
    conv=>arg 7;simp only[Jj]
    rw[mQ];dsimp only;refine aO (bY []) ?_;refine e_ I I ?_ ?_
    ·refine dy (aw (v:=wg) aI.ty I (aD (i:=2) I I)) I I I (aO (bY []) ?_)
     refine aM I (fz (cs:=(eX r').toArray) [C7 r'] I I I (Gc r') I (Ld r') I λg62=>(aO (bY []) ?_));refine aM I (eM (i:=1) (e:=240) (size:=256) (bytes:=512) (m:=R.length) (xs:=R.flatMap eX) (k:=1) (ys:=eX r') I (kT (i:=6) I (λj u h=>by simpa using h) (aX 1) alt) I I (by rw[dE]) (λu hu=>row_one [r'] u (by simpa using hu)) J J I λrA=>(aO (bY []) ?_))
     try refine GW ?_
     refine aM I (aU (i:=1) I λjm mz=>bD (i:=2) I I I jm mz I (aO (bY []) ?_))
     try refine GW ?_
     refine dq [0,2,3,4,5,1] ?_;exact eQ (p6,rA,zi) trivial (by repeat' (first|exact cZ|refine cP I ?_)) (by dsimp only;rw[BR];rfl)
    refine fz (cs:=(eX r').toArray) [C7 r'] I I I (Gc r') I (Ld r') I λg62=>(aO (bY []) ?_);refine aM I (dy (aw (v:=wg) aI.ty I (aD (i:=2) I I)) I I I (aO (bY []) ?_));refine aM I (eM (i:=1) (e:=240) (size:=256) (bytes:=512) (m:=R.length) (xs:=R.flatMap eX) (k:=1) (ys:=eX r') I (kT (i:=6) I (λj u h=>by simpa using h) (aX 1) alt) I I (by rw[dE]) (λu hu=>row_one [r'] u (by simpa using hu)) J J I λrA=>(aO (bY []) ?_))
    try refine GW ?_
    refine aM I (aU (i:=1) I λjm mz=>bD (i:=2) I I I jm mz I (aO (bY []) ?_))
    try refine GW ?_
    refine dq [0,2,3,4,5,1] ?_;exact eQ (p6,rA,zi) trivial (by repeat' (first|exact cZ|refine cP I ?_)) (by dsimp only;rw[BR];rfl)
   clear abQ;rintro⟨p6,rA,zi⟩ _;dsimp only;refine ix (i:=2) I gj λfu=>?_;obtain⟨ab',cs',rfl,alM,-⟩:=fu
   by_cases c2:200<d'.S.length+1
   ·rw[if_pos c2]at i4
    have ho:=Sh i4.symm;unfold U1;rw[ho]
    repeat(first|refine GC ?_|refine gV (aw (v:=ak ab' (d'.S.length+1) cs') aI.ty I (aD (i:=1) I I)) ?_|refine gV (eO (b:=aB) I I (decide_eq_true J)) ?_|refine gV (aZ I hbz) ?_|refine GB ?_)
    refine fR 0 ?_;refine zL ?_
    try refine GA ?_
    refine eI 240 256 (eI 3 1 ?_);exact dH (i:=0) I I I I I λw hm=>hm.meets (S:=⟨λ(_:Value×Value)=>True,λx=> .tuple #[iH x.1 x.2,ap av 8],λx=>[bm 240 256 x.1 0 [],bm 3 1 x.2 0 []]⟩) (ak aj 0 0,ak aj 0 0) trivial [6,7] alt I
   rw[if_neg c2]at i4
   repeat(first|refine GC ?_|refine gV (aw (v:=ak ab' (d'.S.length+1) cs') aI.ty I (aD (i:=1) I I)) ?_|refine gV (eO (b:=aE) I I (decide_eq_false J)) ?_|refine GB ?_)
   exact bQ (n+1,R++[r'],d',ak ab' (d'.S.length+1) cs',rA,zi) ⟨by rw[bT,i0];rfl,by show n+1<=d'.S.length+1;omega,s1,by show d'.S.length+1<=200;omega,i4⟩ (by show 201-(n+1)<201-n;omega)
  have i5:vz m=ah (R,d):=by
   rw[<-i4,show 201-n=(201-(n+1))+1 by omega,Jk,if_neg c1]
  have ho:=yX i5;unfold U1;rw[ho];refine ix (i:=4) I gj λfu=>?_;obtain⟨at',ct',rfl,-⟩:=fu;refine ix (i:=5) I gj λfu=>?_;obtain⟨ar',cr',rfl,-⟩:=fu
  repeat(first|refine GC ?_|refine gV (aw (v:=ak ab (d.S.length+1) cs) aI.ty I (aD (i:=1) I I)) ?_|refine gV (fI (b:=aE) I I (decide_eq_false J)) ?_|refine gV (aW (cs:=[ak ar' R.length cr',ak at' d.tags.length ct']) aI.ty I I (λj v hj=>aD (i:=1) I (ahJ hj))) ?_|refine GB ?_)
  refine fR 0 (cs':=#[ak ar' R.length cr',ak at' d.tags.length ct']) ?_;refine zL ?_
  try refine GA ?_
  exact dH (i:=0) I I I I I λw hm=>hm.meets (S:=⟨λ(_:Value×Value)=>True,λx=> .tuple #[iH x.1 x.2,ap av 0],λx=>[bm 240 256 x.1 R.length (R.flatMap eX),gB x.2 d.tags]⟩) (ak ar' R.length cr',ak at' d.tags.length ct') trivial [5,4] alt I
end cB
namespace nP
open dg gv ep cX
open cB (lZ eJ xt K')
def Oh(p:PS)(S:List C4)(all:C4)(b:Nat):Int:=if KF p all b=C4.zero then-1 else((idx S (KF p all b)+1:Nat):Int)
def wh(p:PS)(S:List C4)(all:C4)(b:Nat)(x:Int):Prop:=x=Oh p S all b/\(KF p all b=C4.zero\/KF p all b∈S)
theorem wh.Q_{p:PS}{S:List C4}{all:C4}{b:Nat}{x:Int}(h:wh p S all b x)(E:List C4):wh p (S++E) all b x:=by
 obtain⟨h1,h2⟩:=h;refine⟨?_,h2.imp id λh=>uw _ h⟩;rw[h1];unfold Oh
 by_cases c:KF p all b=C4.zero
 simp_all;rw[if_neg c,if_neg c,qH (h2.resolve_left c)]
def rB(p:PS)(t0:Int)(d:DM):Prop:=d.tags=t0::d.S.map (nP.ph p)
theorem Xt(p:PS)(t0:Int)(d:DM)(s:C4):(∃E,(iQ p d s).2.S=d.S++E)/\s∈(iQ p d s).2.S/\(iQ p d s).1=idx (iQ p d s).2.S s+1/\(rB p t0 d->rB p t0 (iQ p d s).2):=by
 unfold iQ
 by_cases c:s∈d.S
 simp_all
 rw[if_neg c];refine⟨⟨[s],rfl⟩,KQ _ (ez.2 I),?_,λh=>?_⟩
 simp_all[idx,List.idxOf_append]
 show d.tags++[nP.ph p s]=t0::(d.S++[s]).map (nP.ph p)
 rw[h,eK];rfl
theorem abR(p:PS)(t0:Int)(all:C4)(b:Nat)(hb:b<256)(r:Row)(d:DM):(∃E,(fP p all b r d).2.S=d.S++E)/\(∀c (h:c<256),c≠b->(fP p all b r d).1[c]=r[c])/\wh p (fP p all b r d).2.S all b ((fP p all b r d).1[b])/\(rB p t0 d->rB p t0 (fP p all b r d).2):=by
 unfold fP
 by_cases c:KF p all b=C4.zero
 ·rw[if_pos c,dif_pos hb]
  refine⟨⟨[],(fj _).symm⟩,λc' h hc=>?_,⟨?_,.inl c⟩,id⟩;exact Vector.getElem_set_ne hb h (Ne.symm hc);rw[Vector.getElem_set_self hb];unfold Oh;rw[if_pos c]
 rw[if_neg c,dif_pos hb];obtain⟨h1,h2,h3,h4⟩:=Xt p t0 d (KF p all b);refine⟨h1,λc' h hc=>?_,⟨?_,.inr h2⟩,h4⟩
 grind
 simp_all[Oh]
theorem U2(p:PS)(t0:Int)(all:C4):∀(f b:Nat) (r:Row) (d:DM),b+f=256->(nb p all f b r d).2.S.length+1<=200->
 (∃E,(nb p all f b r d).2.S=d.S++E)/\(∀c (h:c<256),c<b->(nb p all f b r d).1[c]=r[c])/\(∀c (h:c<256),b<=c->wh p (nb p all f b r d).2.S all c ((nb p all f b r d).1[c]))/\(rB p t0 d->rB p t0 (nb p all f b r d).2)
 |0,b,r,d,hbf,_=>⟨⟨[],(fj _).symm⟩,λ_ _ _=>rfl,λc h hc=>by omega,id⟩
 | f +1,b,r,d,hbf,hl=>by
  obtain⟨⟨E1,h1⟩,h2,h3,h4⟩:=abR p t0 all b J r d;have e:nb p all (f+1) b r d=if 200<(fP p all b r d).2.S.length+1 then fP p all b r d else nb p all f (b+1) (fP p all b r d).1 (fP p all b r d).2:=rfl
  rw[e]at hl⊢
  by_cases c:200<(fP p all b r d).2.S.length+1
  grind;rw[if_neg c]at hl⊢;obtain⟨⟨E2,q1⟩,q2,q3,q4⟩:=U2 p t0 all f (b+1) _ _ J hl;refine⟨⟨E1++E2,by simp_all⟩,λc' h hc=>?_,λc' h hc=>?_,λh=>q4 (h4 h)⟩;rw[q2 c' h J,h2 c' h J]
  by_cases ec:c'=b
  ·subst ec
   rw[q2 c' h J,q1];exact h3.Q_ E2
  grind
theorem Jl(m:MS)(S E:List C4){n:Nat}(h:n<=S.length):ki m (S++E) n=ki m S n:=by
 cases n with
 |zero=>rfl
 |succ n=>
  show nQ m.ps ((S++E).getD n C4.zero) _=nQ m.ps (S.getD n C4.zero) _
  grind
structure MkI(m:MS)(t0:Int)(n:Nat)(R:List Row)(d:DM):Prop where
 len:R.length=n
 le:n<=d.S.length+1
 Dv:d.S.length+1<=200
 cell:∀q,q<n->∀c (h:c<256),wh m.ps d.S (ki m d.S q) c ((R.getD q xt)[c])
 tags:rB m.ps t0 d
theorem Oi(m:MS)(t0:Int):∀(f n:Nat) (R:List Row) (d:DM) (R':List Row) (d':DM),td m f n R d=ah (R',d')->MkI m t0 n R d->MkI m t0 (d'.S.length+1) R' d'
 |0,_,_,_,_,_,h,_=>by cases h
 | f + 1,n,R,d,R',d',h,hi=>by
  have e:td m (f+1) n R d=if n<d.S.length+1 then(if 200<(qx m n d).2.S.length+1 then aj else td m f (n+1) (R++[(qx m n d).1]) (qx m n d).2)else ah (R,d):=rfl
  rw[e]at h
  by_cases c1:n<d.S.length+1
  ·rw[if_pos c1]at h
   by_cases c2:200<(qx m n d).2.S.length+1
   simp_all;rw[if_neg c2]at h;refine Oi m t0 f (n+1) _ _ R' d' h ?_;obtain⟨⟨E,q1⟩,_,q3,q4⟩:=U2 m.ps t0 (ki m d.S n) 256 0 (eg 256 0) d rfl (by simp_all[qx]);have q1:(qx m n d).2.S=d.S++E:=q1;have q3:∀c (h:c<256),0<=c->wh m.ps (qx m n d).2.S (ki m d.S n) c ((qx m n d).1[c]):=q3;have hlen:=congrArg ky q1;rw[bT]at hlen;refine⟨by rw[bT,hi.len];rfl,by omega,by omega,λq hq c hc=>?_,q4 hi.tags⟩
   by_cases eq:q=n
   ·subst eq
    rw[sR (by rw[hi.len];exact aX _),hi.len,BK];show wh m.ps (qx m q d).2.S (ki m (qx m q d).2.S q) c ((qx m q d).1[c])
    rw[q1,Jl m d.S E J,<-q1];exact q3 c hc (bC _)
   rw[lC (by rw[hi.len];omega),q1,Jl m d.S E J];exact(hi.cell q J c hc).Q_ E
  rw[if_neg c1]at h;simp only[dM,ju]at h;obtain⟨rfl,rfl⟩:=h;have:n=d.S.length+1:=by have:=hi.le;omega
  simp_all
theorem BS{m:MS}{R:List Row}{d:DM}(h:vz m=ah (R,d)):MkI m (fZ m.empty 0) (d.S.length+1) R d:=
 Oi m (fZ m.empty 0) 201 0 [] ⟨[],[fZ m.empty 0]⟩ R d h ⟨rfl,bC _,by simp,λq hq=>absurd hq (oU q),rfl⟩
theorem abS(R:List Row)(q c:Nat)(h:c<256):((R.getD q xt).toList.getD c 0)=(R.getD q xt)[c]:=by
 simp_all
theorem Le{p:PS}{n:Nat}(hr:∀r∈p.rules,0<=r/\r<n)(hl:p.rules.length=p.a8.length)(s:C4):∀k,k<=p.a8.length->(mG p s k= -1/\∀i,i<k->s.mem i=aB->p.last.getD i aE=aB->False)\/(∃i,i<k/\s.mem i=aB/\p.last.getD i aE=aB/\mG p s k=p.rules.getD i 0/\0<=mG p s k/\mG p s k<n/\∀i,i<k->s.mem i=aB->p.last.getD i aE=aB->mG p s k<=p.rules.getD i 0)
 |0,_=> .inl ⟨rfl,λi hi=>absurd hi (oU i)⟩
 | k +1,hk=>by
  have MJ:0<=p.rules.getD k 0/\p.rules.getD k 0<n:=by
   grind[bX]
  have e:mG p s (k+1)=if s.mem k=aB/\p.last.getD k aE=aB/\(mG p s k<0\/p.rules.getD k 0<mG p s k)then p.rules.getD k 0 else mG p s k:=rfl
  rw[e];have ih:=Le hr hl s k J
  grind
theorem Ge:∀(l:List Bool) (k:Nat),(fZ l k= -1/\∀i,i<l.length->l.getD i aE=aE)\/(∃i,i<l.length/\fZ l k=((k+i:Nat):Int)/\l.getD i aE=aB/\∀j,j<i->l.getD j aE=aE)
 |[],_=> .inl ⟨rfl,λ_ _=>rfl⟩
 |true::l,k=> .inr ⟨0,Nat.zero_lt_succ _,rfl,rfl,λj hj=>absurd hj (oU j)⟩
 |false::l,k=>by
  have e:fZ (false::l) (k:Int)=fZ l ((k+1:Nat):Int):=rfl;rw[e];rcases Ge l (k+1)with⟨h1,h2⟩|⟨i,h1,h2,h3,h4⟩
  grind
  refine .inr ⟨i+1,by simp_all,by omega,h3,λj hj=>?_⟩
  cases j with
  |zero=>rfl
  |succ j=>simp_all
theorem Jm{l:List Bool}: -1<=fZ l 0/\fZ l 0<(l.length:Int):=by
 rcases Ge l 0 with⟨h1,_⟩|⟨i,h1,h2,_⟩
 grind
 simp_all
section
variable{es:List Re}{m:MS}{R:List Row}{d:DM}
theorem ae7(hm:KC m)(hi:MkI m (fZ m.empty 0) (d.S.length+1) R d){k:Nat}(hk:k<d.S.length+1):d.tags.getD k 0=(if h:k=0 then fZ m.empty 0 else nP.ph m.ps (d.S[k-1]' J))/\ -1<=d.tags.getD k 0/\d.tags.getD k 0<20:=by
 have h:=hi.tags;unfold rB at h;rw[h];have h20:=hm.aes
 cases k with
 |zero=>
  have:=Jm (l:=m.empty);refine⟨rfl,this.1,?_⟩;have e:(fZ m.empty 0::d.S.map (nP.ph m.ps)).getD 0 0=fZ m.empty 0:=rfl;rw[e];omega
 | succ k=>
  have hk:k<d.S.length:=by omega
  have e:(fZ m.empty 0::d.S.map (nP.ph m.ps)).getD (k+1) 0=nP.ph m.ps d.S[k]:=by
   simp_all
  rw[e];refine⟨rfl,?_⟩;unfold nP.ph;rcases Le hm.rules hm.ok.ps.rules d.S[k] m.ps.a8.length (aX _)with⟨h1,_⟩|⟨_,_,_,_,_,h1,h2,_⟩
  omega;omega
theorem abT(hm:KC m)(hi:MkI m (fZ m.empty 0) (d.S.length+1) R d):lZ R d.tags=0:=by
 have hl:=hi.len;have hf:=hi.Dv;refine K' ⟨?_,?_,λq hq b hb=>?_,λq hq=>?_⟩ ?_;show 0<R.length;omega
 show R.length<=200;omega
 ·have hq:q<R.length:=hq
  show-1<=(R.getD q xt).toList.getD b 0/\(R.getD q xt).toList.getD b 0<(R.length:Int)
  rw[abS R q b hb,(hi.cell q J b hb).1];unfold Oh
  by_cases c:KF m.ps (ki m d.S q) b=C4.zero
  grind;rw[if_neg c];have:=mY ((hi.cell q J b hb).2.resolve_left c);omega
 ·have hq:q<R.length:=hq
  exact(ae7 hm hi J).2
 have h:=hi.tags;unfold rB at h;rw[h,hl,dj,dY]
end
end nP
namespace cB
open Go.RowKit cL dV
section
variable{α:Type}{s:yt α}{F:Nat->Prop}{vs:List Value}{S:List (List α)}{W:bV}{L:List b_}{w:World}
theorem Jn(h:(eG (cO s) F (vs.map λv=>[v]) S).holds w):vs.length=S.length:=by have:=h.1.1;rwa [dY]at this
theorem Sj(h:(eG (cO s) F (vs.map λv=>[v]) S).holds w){q:Nat}(hq:q<S.length){v:Value}(hv:vs[q]?=ah v):jO s F w v S[q]:=by
 have hnv:q<vs.length:=(dK.1 hv).1;obtain⟨v',e,hs⟩:=h.1.2 q hq (by simp_all);rw[oR]at e;have h2:=(dK.1 hv).2;rw[h2]at e;rw[(yR e).1];exact hs
theorem abU(h:(eG (cO s) F (vs.map λv=>[v]) S).holds w){q:Nat}(hq:q<S.length){v:Value}(hv:vs[q]?=ah v):∃base cap,v= .slice base S[q].length cap/\S[q].length<=cap/\cap<=9223372036854775807/\(0<S[q].length->∃b off,base=ah ⟨b,off,aj⟩):=by
 obtain⟨base,cap,e,h1,h2,h3⟩:=Sj h hq hv;exact⟨base,cap,e,h1,by unfold maxLen at h2;omega,λhn=>let ⟨b,off,h4,_⟩:=h3 hn;⟨b,off,h4⟩⟩
theorem Sk{f:α->List Value}{c:Nat}{hc:∀a,(f a).length=c}{p:α->Prop}(Ma:0<c){i:Nat}(hi:L[i]?=ah (eG (cO (zz f c hc p)) F (vs.map λv=>[v]) S)){q:Nat}(hq:q<S.length){v:Value}(hv:vs[q]?=ah v):SlL W L v S[q].length (S[q].flatMap f):=λ_ hm=>
 jO.flat Ma (Sj (hm.get hi) hq hv)
end
end cB
end Go.Proofs.YtahecdbmhhpanaaGreat

/- Part 3 of what SessionWholeUpto needs: PlC, PlD, PlacesM, PlM, PlR, ItO, SmM, SmU, SmP, Els, ItD, SortJ, ItE, ItF, ItG, ItA, ItP, OutA, WrG, SmIe, SmIn, BoE, PlE, PlP, PlacesS, PlK, ClimbL, ClimbO, ClimbA, TdS, LrM, LrN, Opens, CfgL, SpecL, SpecS, SpecI, SpecJ, BeginL, IntS, PlT, GateL, GateM, DfS, DfaP, DfN, DfT, SmO, SmT, SmK, SmW, SmD. -/
import Derived.Test.YthmakbpkkoeabaaGreatMgB
import Derived.Shelf.SlGeneric
import Derived.Shelf.SlSortCmp.NoneTotal
import Derived.Ground.SlsfProg
import Derived.Lib.IndexMore
namespace Go.Proofs.YthmakbpkkoeabaaGreat
set_option linter.unusedVariables false
set_option linter.unusedSimpArgs false
open _root_.And renaming intro->cP
open _root_.Array renaming getElem?_eq_some_iff->kC,getElem?_toList->q6,getElem?_eq_getElem->yt,length_toList->ul,getElem?_modify->Eh
open _root_.Array.mk renaming injEq->q7
open _root_.BitVec renaming ofNat->iM
open _root_.Bool renaming false->aF,true->aD,and_eq_true->fc,or_eq_true->nD,eq_false_iff->wg
open _root_.Go.Instr renaming build->dg,field->Z0
open _root_.Go.IntKind renaming i64->aB,bits->mf,signed->sB,wrap_u64->ux,u64->uy,min->I8,max->I9
open _root_.Go.Op renaming shift->iN
open _root_.Go.Program renaming keyLits->AX
open _root_.Go.Proofs.Tryz renaming prog->aE
open _root_.Go.Value renaming slice->av,int->az,pointer->aK,agg->aQ,bool->fT
open _root_.Go.Value.agg renaming injEq->lT
open _root_.Go.Value.int renaming injEq->Ei
open _root_.Go.Value.slice renaming injEq->jN
open _root_.Go.World renaming block_lt_of_cell?->og
open _root_.Int renaming toNat_natCast->dD,eq_ofNat_of_zero_le->gU,toNat_of_nonneg->u_
open _root_.List renaming getElem?_eq_getElem->bM,length_append->bK,getD_eq_getElem?_getD->de,getElem_mem->cH,getElem?_eq_some_iff->dX,length_cons->dj,all_cons->c_,drop_eq_getElem_cons->eH,replicate->dl,all_nil->db,take_succ_eq_append_getElem->gv,mem_singleton->eV,size_toArray->eM,mem_cons->dM,length_map->eI,append_assoc->eY,take_of_length_le->gT,map_append->eZ,nil_append->e7,flatMap_append->ir,not_mem_nil->fz,mem_append->gj,map_cons->ff,length_nil->iv,mem_iff_getElem->iC,mem_cons_self->iO,getElem?_map->jy,mem_map->fG,mem_cons_of_mem->kJ,cons_append->kD,drop_eq_nil_of_le->oD,take_append_drop->om,getElem?_toArray->oE,length_take->jz,take_length->mW,mem_of_getElem?->mL,getElem?_eq_none->ta,ext_getElem?->mh,flatMap_cons->oo,getElem_map->q9,any_eq_true->sU,all_eq_true->pq,setIfInBounds_toArray->uC,getElem?_take->yv,drop_length->yK,mem_append_left->uE,mem_flatMap->vd,mem_filterMap->QM,drop_zero->wh,foldl_append->Z1,nodup_append->Z2,idxOf_cons->Z3,map->Z4
open _root_.List.Pairwise renaming of_map->agr
open _root_.List.cons renaming injEq->jA,inj->Z5
open _root_.Nat renaming le_refl->bC,zero_le->bH,zero_add->cX,le_trans->fH,lt_of_lt_of_le->kE,add_assoc->kF,mul_le_mul_right->x8,mul_one->lP,pow_lt_pow_right->Ej,mod_lt->x_,div_le_self->Ek,blt_eq->Bz,sub_zero->E0,succ_pos->E3,le_succ->Z6
open _root_.Option renaming some->aj,none->ak,getD_some->jD
open _root_.Option.some renaming injEq->dL,inj->sE
open _root_.Prod renaming ext->nw
open _root_.True renaming intro->cV
open _root_.UInt8 renaming ofNat->fV
open _root_.Vector renaming replicate->eC,getElem_ofFn->kM,ext->kN,getElem_set->wj,ofFn->rf,toList->QN
set_option maxHeartbeats 16000000
namespace bZ
open Go.RowKit cL dQ dh gu eg
set_option maxRecDepth 100000 in
theorem Z7{M:Nat}(IH:JY M)(a b1:Re)(ha:a.size<=M)(GP:b1.size<=M)(g:Nat)(vf ve:Value)(bU:Int)(p:PS)(x:Xh)(v:Value)(w:World)(B:bP)(hp:MP p)(hx:x.vs.length=p.follow.length)(hn:p.bm.length+(a.size+b1.size+1)<=100000)(QJ:cL.dV bU)(hv:ot (Bw B) B.w v (l5 (.Jn a b1)))(hm:Mem B (nQ g vf ve bU x p) w):
 Calls aE 73 #[aK (aj ⟨g,0,ak⟩),v] w (cZ (cT g vf ve bU (cK bU (.Jn a b1) p)) B):=by
 obtain⟨vk,rfl,_,SY⟩:=hv;obtain⟨bk,ck,rfl,h1,h2,h3⟩:=SY;obtain⟨b,off,rfl,hF,eR⟩:=h3 (by show 0<2;decide);obtain⟨kb,kc,hr,we⟩:=qD (k:=0) eR (by show 0<2;decide);obtain⟨kb2,kc2,tV,ly⟩:=qD (k:=1) eR (by show 1<2;decide);have J0:=λ(L:List b9) (j:Nat) (v:Value) hj=>s_ (L:=L) hF hr j v hj;have q_:=λ(L:List b9) (j:Nat) (v:Value) hj=>s_ (L:=L) hF tV j v hj;clear h3 eR hr tV;obtain⟨Gw,Xf,hp3,hp4,hp5⟩:=l9 bU a p hp;obtain⟨kp1,kp2,kp3,kp4,kp5⟩:=l9 bU b1 _ Gw;have VO:=λw B hv hm=>IH a ha g vf ve bU p x (qY (l5 a).kind (l5 a).uO (av kb (l5 a).kids.length kc)) w B hp hx J QJ hv hm;have By:=λx1 kr w B hv hm=>IH b1 GP g vf ve bU (cK bU a p).2 x1 (qY (l5 b1).kind (l5 b1).uO (av kb2 (l5 b1).kids.length kc2)) w B Gw kr J QJ hv hm;rw[show cK bU (.Jn a b1) p=(⟨(cK bU a p).1.empty&&(cK bU b1 (cK bU a p).2).1.empty,if(cK bU a p).1.empty then re (cK bU a p).1.first (cK bU b1 (cK bU a p).2).1.first else(cK bU a p).1.first,if(cK bU b1 (cK bU a p).2).1.empty then re (cK bU a p).1.last (cK bU b1 (cK bU a p).2).1.last else(cK bU b1 (cK bU a p).2).1.last⟩,{(cK bU b1 (cK bU a p).2).2 with follow:=fF (cK bU b1 (cK bU a p).2).2.follow (cK bU a p).1.last (cK bU b1 (cK bU a p).2).1.first})from rfl];generalize cK bU b1 (cK bU a p).2=R2 at*;generalize cK bU a p=R1 at*;obtain⟨⟨e1,iu,kT⟩,p1⟩:=R1;obtain⟨⟨e2,iF,kz⟩,p2⟩:=R2;dsimp only at Gw Xf hp3 hp4 hp5 kp1 kp2 kp3 kp4 kp5 By⊢;unfold nQ at hm;refine du hm (args:=[aK (aj ⟨g,0,ak⟩),qY 4 C4.zero (av (aj ⟨b,off,ak⟩) 2 ck)]) (n:=176) Tryz.func73 I I I ?_;clear hm;refine cB (bD (bL I I I λg3=>a8 I λg4=>?_));refine zL ?_
 repeat(first|refine GA ?_|refine gV (aC (v:=az aB 4) aL.ty I (aI (i:=6) I I)) ?_)
 (repeat refine cB ?_)
 refine ml (ι:=Xh×Value×Value×Value×Value×Nat×Nat) (λy=>y.1.vs.length=p2.follow.length) (λy=>[(0,aK (aj ⟨g,0,ak⟩)),(4,aK (aj ⟨g4,0,ak⟩)),(9,aK (aj ⟨y.2.2.2.2.2.1,0,ak⟩)),(10,aK (aj ⟨y.2.2.2.2.2.2,0,ak⟩))])
  (λy=>nQ g vf ve bU y.1 p2++[gL y.2.1 iu,gL y.2.2.1 kT,gL y.2.2.2.1 iF,gL y.2.2.2.2.1 kz,aR g4 #[.bool aF,av ak 0 0,av ak 0 0] 197,aR y.2.2.2.2.2.1 #[.bool e1,y.2.1,y.2.2.1] 197,aR y.2.2.2.2.2.2 #[.bool e2,y.2.2.2.1,y.2.2.2.2.1] 197]) ?_ ?_
 ·refine dH ([aR g3 (mG 4 C4.zero (av (aj ⟨b,off,ak⟩) 2 ck)).toArray 87]) (.calm 0 (.calm 1 (.calm 2 (.calm 3 (.calm 4 (.calm 6 (.calm 7 (.calm 8 (.calm 9 (.calm 10 (.three 5 (.three 11 (.two 12 (.one 13 (.one 14 (.one 15 (.done)))) 13 (.one 12 (.one 14 (.one 15 (.done))))) 12 (.two 11 (.one 13 (.one 14 (.one 15 (.done)))) 13 (.one 11 (.one 14 (.one 15 (.done))))) 13 (.two 11 (.one 12 (.one 14 (.one 15 (.done)))) 12 (.one 11 (.one 14 (.one 15 (.done)))))) 12 (.two 5 (.two 11 (.one 13 (.one 14 (.one 15 (.done)))) 13 (.one 11 (.one 14 (.one 15 (.done))))) 13 (.one 5 (.one 11 (.one 14 (.one 15 (.done)))))) 13 (.two 5 (.two 11 (.one 12 (.one 14 (.one 15 (.done)))) 12 (.one 11 (.one 14 (.one 15 (.done))))) 12 (.one 5 (.one 11 (.one 14 (.one 15 (.done))))))))))))))))) (bV [6]) ?_
  repeat(first|refine GW ?_|(refine GN ?_;first|refine QW (aC (v:=av (aj ⟨b,off,ak⟩) 2 ck) aL.ty I (aI (i:=0) I I)) ?_|refine QW (aZ (j:=0) bQ.eq aL.ty I I aln) ?_|refine QW (aZ (j:=1) bQ.eq aL.ty I I aln) ?_|refine QW (aY aL.ty I I (J0 _)) ?_|refine QW (aY aL.ty I I (q_ _)) ?_))
  refine zn I I I ?_ ?_ ?_
  ·refine bz [0,1,2,3,4,5] [6,7] aln I I (fC aJ.en I I I) (λw hm hb=>VO w _ (fg (hm.pick [0,1,2,3,4,5] aln I) we) hb) I I I ?_
   rintro⟨⟨uf,uh,gY,ui,n9,F1⟩,mv,lU⟩ kr;have kr:n9.length=p1.follow.length:=kr
   conv=>arg 8;simp only[zJ,cD,ret,id_eq,cT,nQ]
   conv=>arg 7;simp only[cT]
   refine aO (bV [0]) ?_;refine zn I I I ?_ ?_ ?_
   ·refine bz [2,3,4,5,6,7] [0,1,8,9] aln I I (fC aJ.en I I I) (λw hm hb=>By ⟨uf,uh,gY,ui,n9,F1⟩ kr w _ (fg (hm.pick [2,3,4,5,6,7] aln I) ly) hb) I I I ?_
    rintro⟨⟨qv,qw,fm,qx,lJ,F2⟩,kj,kL⟩ fK;have fK:lJ.length=p2.follow.length:=fK
    conv=>arg 8;simp only[zJ,cD,ret,id_eq,cT,nQ]
    conv=>arg 7;simp only[cT]
    refine aO (bV [0]) ?_;refine eN I I ?_ ?_
    ·refine a8 I λg7=>(aO (bV [0]) ?_)
     refine aM I (a8 I λg8=>(aO (bV [0]) ?_));refine aM I (aX (i:=2) I λ_ pP=>aX (i:=3) I λ_ pQ=>aW (i:=12) (cs':=#[.bool e1,mv,lU]) I I I I (by simp only[c_,db,pP,pQ];rfl) I (aO (bV [0]) ?_))
     try refine GW ?_
     refine aM I (aX (i:=10) I λ_ pR=>aX (i:=11) I λ_ pS=>aW (i:=13) (cs':=#[.bool e2,kj,kL]) I I I I (by simp only[c_,db,pR,pS];rfl) I (aO (bV [0]) ?_))
     try refine GW ?_
     refine dv [4,5,6,7,8,9,2,3,10,11,1,12,13] ?_;exact eh (⟨qv,qw,fm,qx,lJ,F2⟩,mv,lU,kj,kL,g7,g8) fK (by repeat' (first|exact cV|refine cP I ?_)) I
    refine a8 I λg8=>(aO (bV [0]) ?_);refine aM I (a8 I λg7=>(aO (bV [0]) ?_));refine aM I (aX (i:=2) I λ_ pP=>aX (i:=3) I λ_ pQ=>aW (i:=13) (cs':=#[.bool e1,mv,lU]) I I I I (by simp only[c_,db,pP,pQ];rfl) I (aO (bV [0]) ?_))
    try refine GW ?_
    refine aM I (aX (i:=10) I λ_ pR=>aX (i:=11) I λ_ pS=>aW (i:=12) (cs':=#[.bool e2,kj,kL]) I I I I (by simp only[c_,db,pR,pS];rfl) I (aO (bV [0]) ?_))
    try refine GW ?_
    refine dv [4,5,6,7,8,9,2,3,10,11,1,13,12] ?_;exact eh (⟨qv,qw,fm,qx,lJ,F2⟩,mv,lU,kj,kL,g7,g8) fK (by repeat' (first|exact cV|refine cP I ?_)) I
   ·refine a8 I λg7=>(aO (bV [0]) ?_)
    refine eN I I ?_ ?_
    ·refine bz [2,3,4,5,6,7] [0,1,8,9,10] aln I I (fC aJ.en I I I) (λw hm hb=>By ⟨uf,uh,gY,ui,n9,F1⟩ kr w _ (fg (hm.pick [2,3,4,5,6,7] aln I) ly) hb) I I I ?_
     rintro⟨⟨qv,qw,fm,qx,lJ,F2⟩,kj,kL⟩ fK;have fK:lJ.length=p2.follow.length:=fK
     conv=>arg 8;simp only[zJ,cD,ret,id_eq,cT,nQ]
     conv=>arg 7;simp only[cT]
     refine aO (bV [0]) ?_;refine aM I (a8 I λg8=>(aO (bV [0]) ?_));refine aM I (aX (i:=2) I λ_ pP=>aX (i:=3) I λ_ pQ=>aW (i:=4) (cs':=#[.bool e1,mv,lU]) I I I I (by simp only[c_,db,pP,pQ];rfl) I (aO (bV [0]) ?_))
     try refine GW ?_
     refine aM I (aX (i:=11) I λ_ pR=>aX (i:=12) I λ_ pS=>aW (i:=13) (cs':=#[.bool e2,kj,kL]) I I I I (by simp only[c_,db,pR,pS];rfl) I (aO (bV [0]) ?_))
     try refine GW ?_
     refine dv [5,6,7,8,9,10,2,3,11,12,1,4,13] ?_;exact eh (⟨qv,qw,fm,qx,lJ,F2⟩,mv,lU,kj,kL,g7,g8) fK (by repeat' (first|exact cV|refine cP I ?_)) I
    refine a8 I λg8=>(aO (bV [0]) ?_);refine aM I (bz [2,3,4,5,6,7] [0,1,8,9,10,11] aln I I (fC aJ.en I I I) (λw hm hb=>By ⟨uf,uh,gY,ui,n9,F1⟩ kr w _ (fg (hm.pick [2,3,4,5,6,7] aln I) ly) hb) I I I ?_);rintro⟨⟨qv,qw,fm,qx,lJ,F2⟩,kj,kL⟩ fK;have fK:lJ.length=p2.follow.length:=fK
    conv=>arg 8;simp only[zJ,cD,ret,id_eq,cT,nQ]
    conv=>arg 7;simp only[cT]
    refine aO (bV [0]) ?_;refine aM I (aX (i:=2) I λ_ pP=>aX (i:=3) I λ_ pQ=>aW (i:=4) (cs':=#[.bool e1,mv,lU]) I I I I (by simp only[c_,db,pP,pQ];rfl) I (aO (bV [0]) ?_))
    try refine GW ?_
    refine aM I (aX (i:=12) I λ_ pR=>aX (i:=13) I λ_ pS=>aW (i:=5) (cs':=#[.bool e2,kj,kL]) I I I I (by simp only[c_,db,pR,pS];rfl) I (aO (bV [0]) ?_))
    try refine GW ?_
    refine dv [6,7,8,9,10,11,2,3,12,13,1,4,5] ?_;exact eh (⟨qv,qw,fm,qx,lJ,F2⟩,mv,lU,kj,kL,g7,g8) fK (by repeat' (first|exact cV|refine cP I ?_)) I
   refine a8 I λg8=>(aO (bV [0]) ?_);refine eN I I ?_ ?_
   ·refine bz [2,3,4,5,6,7] [0,1,8,9,10] aln I I (fC aJ.en I I I) (λw hm hb=>By ⟨uf,uh,gY,ui,n9,F1⟩ kr w _ (fg (hm.pick [2,3,4,5,6,7] aln I) ly) hb) I I I ?_
    rintro⟨⟨qv,qw,fm,qx,lJ,F2⟩,kj,kL⟩ fK;have fK:lJ.length=p2.follow.length:=fK
    conv=>arg 8;simp only[zJ,cD,ret,id_eq,cT,nQ]
    conv=>arg 7;simp only[cT]
    refine aO (bV [0]) ?_;refine aM I (a8 I λg7=>(aO (bV [0]) ?_));refine aM I (aX (i:=2) I λ_ pP=>aX (i:=3) I λ_ pQ=>aW (i:=13) (cs':=#[.bool e1,mv,lU]) I I I I (by simp only[c_,db,pP,pQ];rfl) I (aO (bV [0]) ?_))
    try refine GW ?_
    refine aM I (aX (i:=11) I λ_ pR=>aX (i:=12) I λ_ pS=>aW (i:=4) (cs':=#[.bool e2,kj,kL]) I I I I (by simp only[c_,db,pR,pS];rfl) I (aO (bV [0]) ?_))
    try refine GW ?_
    refine dv [5,6,7,8,9,10,2,3,11,12,1,13,4] ?_;exact eh (⟨qv,qw,fm,qx,lJ,F2⟩,mv,lU,kj,kL,g7,g8) fK (by repeat' (first|exact cV|refine cP I ?_)) I
   refine a8 I λg7=>(aO (bV [0]) ?_);refine aM I (bz [2,3,4,5,6,7] [0,1,8,9,10,11] aln I I (fC aJ.en I I I) (λw hm hb=>By ⟨uf,uh,gY,ui,n9,F1⟩ kr w _ (fg (hm.pick [2,3,4,5,6,7] aln I) ly) hb) I I I ?_);rintro⟨⟨qv,qw,fm,qx,lJ,F2⟩,kj,kL⟩ fK;have fK:lJ.length=p2.follow.length:=fK
   conv=>arg 8;simp only[zJ,cD,ret,id_eq,cT,nQ]
   conv=>arg 7;simp only[cT]
   refine aO (bV [0]) ?_;refine aM I (aX (i:=2) I λ_ pP=>aX (i:=3) I λ_ pQ=>aW (i:=5) (cs':=#[.bool e1,mv,lU]) I I I I (by simp only[c_,db,pP,pQ];rfl) I (aO (bV [0]) ?_))
   try refine GW ?_
   refine aM I (aX (i:=12) I λ_ pR=>aX (i:=13) I λ_ pS=>aW (i:=4) (cs':=#[.bool e2,kj,kL]) I I I I (by simp only[c_,db,pR,pS];rfl) I (aO (bV [0]) ?_))
   try refine GW ?_
   refine dv [6,7,8,9,10,11,2,3,12,13,1,5,4] ?_;exact eh (⟨qv,qw,fm,qx,lJ,F2⟩,mv,lU,kj,kL,g7,g8) fK (by repeat' (first|exact cV|refine cP I ?_)) I
  ·refine a8 I λg7=>(aO (bV [6]) ?_)
   refine eN I I ?_ ?_
   ·refine bz [0,1,2,3,4,5] [6,7,8] aln I I (fC aJ.en I I I) (λw hm hb=>VO w _ (fg (hm.pick [0,1,2,3,4,5] aln I) we) hb) I I I ?_
    rintro⟨⟨uf,uh,gY,ui,n9,F1⟩,mv,lU⟩ kr;have kr:n9.length=p1.follow.length:=kr
    conv=>arg 8;simp only[zJ,cD,ret,id_eq,cT,nQ]
    conv=>arg 7;simp only[cT]
    refine aO (bV [0]) ?_;refine eN I I ?_ ?_
    ·refine bz [3,4,5,6,7,8] [0,1,2,9,10] aln I I (fC aJ.en I I I) (λw hm hb=>By ⟨uf,uh,gY,ui,n9,F1⟩ kr w _ (fg (hm.pick [3,4,5,6,7,8] aln I) ly) hb) I I I ?_
     rintro⟨⟨qv,qw,fm,qx,lJ,F2⟩,kj,kL⟩ fK;have fK:lJ.length=p2.follow.length:=fK
     conv=>arg 8;simp only[zJ,cD,ret,id_eq,cT,nQ]
     conv=>arg 7;simp only[cT]
     refine aO (bV [0]) ?_;refine aM I (a8 I λg8=>(aO (bV [0]) ?_));refine aM I (aX (i:=3) I λ_ pP=>aX (i:=4) I λ_ pQ=>aW (i:=2) (cs':=#[.bool e1,mv,lU]) I I I I (by simp only[c_,db,pP,pQ];rfl) I (aO (bV [0]) ?_))
     try refine GW ?_
     refine aM I (aX (i:=11) I λ_ pR=>aX (i:=12) I λ_ pS=>aW (i:=13) (cs':=#[.bool e2,kj,kL]) I I I I (by simp only[c_,db,pR,pS];rfl) I (aO (bV [0]) ?_))
     try refine GW ?_
     refine dv [5,6,7,8,9,10,3,4,11,12,1,2,13] ?_;exact eh (⟨qv,qw,fm,qx,lJ,F2⟩,mv,lU,kj,kL,g7,g8) fK (by repeat' (first|exact cV|refine cP I ?_)) I
    refine a8 I λg8=>(aO (bV [0]) ?_);refine aM I (bz [3,4,5,6,7,8] [0,1,2,9,10,11] aln I I (fC aJ.en I I I) (λw hm hb=>By ⟨uf,uh,gY,ui,n9,F1⟩ kr w _ (fg (hm.pick [3,4,5,6,7,8] aln I) ly) hb) I I I ?_);rintro⟨⟨qv,qw,fm,qx,lJ,F2⟩,kj,kL⟩ fK;have fK:lJ.length=p2.follow.length:=fK
    conv=>arg 8;simp only[zJ,cD,ret,id_eq,cT,nQ]
    conv=>arg 7;simp only[cT]
    refine aO (bV [0]) ?_;refine aM I (aX (i:=3) I λ_ pP=>aX (i:=4) I λ_ pQ=>aW (i:=2) (cs':=#[.bool e1,mv,lU]) I I I I (by simp only[c_,db,pP,pQ];rfl) I (aO (bV [0]) ?_))
    try refine GW ?_
    refine aM I (aX (i:=12) I λ_ pR=>aX (i:=13) I λ_ pS=>aW (i:=5) (cs':=#[.bool e2,kj,kL]) I I I I (by simp only[c_,db,pR,pS];rfl) I (aO (bV [0]) ?_))
    try refine GW ?_
    refine dv [6,7,8,9,10,11,3,4,12,13,1,2,5] ?_;exact eh (⟨qv,qw,fm,qx,lJ,F2⟩,mv,lU,kj,kL,g7,g8) fK (by repeat' (first|exact cV|refine cP I ?_)) I
   refine a8 I λg8=>(aO (bV [6]) ?_);refine aM I (bz [0,1,2,3,4,5] [6,7,8,9] aln I I (fC aJ.en I I I) (λw hm hb=>VO w _ (fg (hm.pick [0,1,2,3,4,5] aln I) we) hb) I I I ?_);rintro⟨⟨uf,uh,gY,ui,n9,F1⟩,mv,lU⟩ kr;have kr:n9.length=p1.follow.length:=kr
   conv=>arg 8;simp only[zJ,cD,ret,id_eq,cT,nQ]
   conv=>arg 7;simp only[cT]
   refine aO (bV [0]) ?_;refine aM I (bz [4,5,6,7,8,9] [0,1,2,3,10,11] aln I I (fC aJ.en I I I) (λw hm hb=>By ⟨uf,uh,gY,ui,n9,F1⟩ kr w _ (fg (hm.pick [4,5,6,7,8,9] aln I) ly) hb) I I I ?_);rintro⟨⟨qv,qw,fm,qx,lJ,F2⟩,kj,kL⟩ fK;have fK:lJ.length=p2.follow.length:=fK
   conv=>arg 8;simp only[zJ,cD,ret,id_eq,cT,nQ]
   conv=>arg 7;simp only[cT]
   refine aO (bV [0]) ?_;refine aM I (aX (i:=4) I λ_ pP=>aX (i:=5) I λ_ pQ=>aW (i:=2) (cs':=#[.bool e1,mv,lU]) I I I I (by simp only[c_,db,pP,pQ];rfl) I (aO (bV [0]) ?_))
   try refine GW ?_
   refine aM I (aX (i:=12) I λ_ pR=>aX (i:=13) I λ_ pS=>aW (i:=3) (cs':=#[.bool e2,kj,kL]) I I I I (by simp only[c_,db,pR,pS];rfl) I (aO (bV [0]) ?_))
   try refine GW ?_
   refine dv [6,7,8,9,10,11,4,5,12,13,1,2,3] ?_;exact eh (⟨qv,qw,fm,qx,lJ,F2⟩,mv,lU,kj,kL,g7,g8) fK (by repeat' (first|exact cV|refine cP I ?_)) I
  refine a8 I λg8=>(aO (bV [6]) ?_);refine eN I I ?_ ?_
  ·refine bz [0,1,2,3,4,5] [6,7,8] aln I I (fC aJ.en I I I) (λw hm hb=>VO w _ (fg (hm.pick [0,1,2,3,4,5] aln I) we) hb) I I I ?_
   rintro⟨⟨uf,uh,gY,ui,n9,F1⟩,mv,lU⟩ kr;have kr:n9.length=p1.follow.length:=kr
   conv=>arg 8;simp only[zJ,cD,ret,id_eq,cT,nQ]
   conv=>arg 7;simp only[cT]
   refine aO (bV [0]) ?_;refine eN I I ?_ ?_
   ·refine bz [3,4,5,6,7,8] [0,1,2,9,10] aln I I (fC aJ.en I I I) (λw hm hb=>By ⟨uf,uh,gY,ui,n9,F1⟩ kr w _ (fg (hm.pick [3,4,5,6,7,8] aln I) ly) hb) I I I ?_
    rintro⟨⟨qv,qw,fm,qx,lJ,F2⟩,kj,kL⟩ fK;have fK:lJ.length=p2.follow.length:=fK
    conv=>arg 8;simp only[zJ,cD,ret,id_eq,cT,nQ]
    conv=>arg 7;simp only[cT]
    refine aO (bV [0]) ?_;refine aM I (a8 I λg7=>(aO (bV [0]) ?_));refine aM I (aX (i:=3) I λ_ pP=>aX (i:=4) I λ_ pQ=>aW (i:=13) (cs':=#[.bool e1,mv,lU]) I I I I (by simp only[c_,db,pP,pQ];rfl) I (aO (bV [0]) ?_))
    try refine GW ?_
    refine aM I (aX (i:=11) I λ_ pR=>aX (i:=12) I λ_ pS=>aW (i:=2) (cs':=#[.bool e2,kj,kL]) I I I I (by simp only[c_,db,pR,pS];rfl) I (aO (bV [0]) ?_))
    try refine GW ?_
    refine dv [5,6,7,8,9,10,3,4,11,12,1,13,2] ?_;exact eh (⟨qv,qw,fm,qx,lJ,F2⟩,mv,lU,kj,kL,g7,g8) fK (by repeat' (first|exact cV|refine cP I ?_)) I
   refine a8 I λg7=>(aO (bV [0]) ?_);refine aM I (bz [3,4,5,6,7,8] [0,1,2,9,10,11] aln I I (fC aJ.en I I I) (λw hm hb=>By ⟨uf,uh,gY,ui,n9,F1⟩ kr w _ (fg (hm.pick [3,4,5,6,7,8] aln I) ly) hb) I I I ?_);rintro⟨⟨qv,qw,fm,qx,lJ,F2⟩,kj,kL⟩ fK;have fK:lJ.length=p2.follow.length:=fK
   conv=>arg 8;simp only[zJ,cD,ret,id_eq,cT,nQ]
   conv=>arg 7;simp only[cT]
   refine aO (bV [0]) ?_;refine aM I (aX (i:=3) I λ_ pP=>aX (i:=4) I λ_ pQ=>aW (i:=5) (cs':=#[.bool e1,mv,lU]) I I I I (by simp only[c_,db,pP,pQ];rfl) I (aO (bV [0]) ?_))
   try refine GW ?_
   refine aM I (aX (i:=12) I λ_ pR=>aX (i:=13) I λ_ pS=>aW (i:=2) (cs':=#[.bool e2,kj,kL]) I I I I (by simp only[c_,db,pR,pS];rfl) I (aO (bV [0]) ?_))
   try refine GW ?_
   refine dv [6,7,8,9,10,11,3,4,12,13,1,5,2] ?_;exact eh (⟨qv,qw,fm,qx,lJ,F2⟩,mv,lU,kj,kL,g7,g8) fK (by repeat' (first|exact cV|refine cP I ?_)) I
  refine a8 I λg7=>(aO (bV [6]) ?_);refine aM I (bz [0,1,2,3,4,5] [6,7,8,9] aln I I (fC aJ.en I I I) (λw hm hb=>VO w _ (fg (hm.pick [0,1,2,3,4,5] aln I) we) hb) I I I ?_);rintro⟨⟨uf,uh,gY,ui,n9,F1⟩,mv,lU⟩ kr;have kr:n9.length=p1.follow.length:=kr
  conv=>arg 8;simp only[zJ,cD,ret,id_eq,cT,nQ]
  conv=>arg 7;simp only[cT]
  refine aO (bV [0]) ?_;refine aM I (bz [4,5,6,7,8,9] [0,1,2,3,10,11] aln I I (fC aJ.en I I I) (λw hm hb=>By ⟨uf,uh,gY,ui,n9,F1⟩ kr w _ (fg (hm.pick [4,5,6,7,8,9] aln I) ly) hb) I I I ?_);rintro⟨⟨qv,qw,fm,qx,lJ,F2⟩,kj,kL⟩ fK;have fK:lJ.length=p2.follow.length:=fK
  conv=>arg 8;simp only[zJ,cD,ret,id_eq,cT,nQ]
  conv=>arg 7;simp only[cT]
  refine aO (bV [0]) ?_;refine aM I (aX (i:=4) I λ_ pP=>aX (i:=5) I λ_ pQ=>aW (i:=3) (cs':=#[.bool e1,mv,lU]) I I I I (by simp only[c_,db,pP,pQ];rfl) I (aO (bV [0]) ?_))
  try refine GW ?_
  refine aM I (aX (i:=12) I λ_ pR=>aX (i:=13) I λ_ pS=>aW (i:=2) (cs':=#[.bool e2,kj,kL]) I I I I (by simp only[c_,db,pR,pS];rfl) I (aO (bV [0]) ?_))
  try refine GW ?_
  refine dv [6,7,8,9,10,11,4,5,12,13,1,3,2] ?_;exact eh (⟨qv,qw,fm,qx,lJ,F2⟩,mv,lU,kj,kL,g7,g8) fK (by repeat' (first|exact cV|refine cP I ?_)) I
 clear VO By J0 q_;rintro⟨⟨vc,vr,vfol,vl,vs,F⟩,mv,lU,kj,kL,g7,g8⟩ fK;have fK:vs.length=p2.follow.length:=fK;dsimp only
 conv=>arg 7;simp only[zA,zB,zC,zD,zE,zF,zG,zH,zI,cD,ret,id_eq,nQ]
 have Lo:=ki hp4;have GH:=ki hp5;have ZL:=ki kp4;have hl4:=ki kp5
 repeat(first|refine GA ?_|refine gV (aC (v:=lU) aL.ty I (aI (i:=11) I I)) ?_|refine gV (aC (v:=kj) aL.ty I (aI (i:=12) I I)) ?_)
 refine bz [0,3,4,7,8] [1,2,5,6,9,10,11,12] aln I I (qq aJ.en I I I I) (λw hm hb=>Ac g vc vr vf vfol vl ve bU lU kj vs F p2.follow kT iF w _ fK (by rw[kp1.follow];omega) (by rw[kp1.follow];exact kp1.ris) (by rw[kp1.follow];exact n0 hp5 kp2) (by rw[kp1.follow];exact kp4) hb) I I I ?_;rintro⟨pO,F'⟩ ZM;have ZM:pO.length=p2.follow.length:=ZM
 conv=>arg 8;simp only[zJ,cD,ret,id_eq,Tp]
 refine lA (i:=3) I λba ca hva _ _=>?_;refine lA (i:=4) I λbb cb AN _ _=>?_;subst hva AN
 cases e1 with
 | true=>
  cases e2 with
  | true=>
   repeat(first|refine GA ?_|refine gV (aC aL.ty I (aI (i:=6) I I)) ?_|refine gV (aC aL.ty I (aI (i:=7) I I)) ?_|refine gV (bB I (nJ _ _ _ _ _ _ _)) ?_)
   refine a8 I λg11=>?_;refine zL ?_;refine gG 13 (cs':=#[.bool aD,av ba iu.length ca,av bb kz.length cb]) ?_;refine zL ?_
   repeat(first|refine GA ?_|refine gV (aC aL.ty I (aI (i:=6) I I)) ?_|refine gV (aC aL.ty I (aI (i:=7) I I)) ?_)
   refine aU (fC aJ.en I I I) (λw' hm=>iK _ kj iu iF w' (Sl.dx (hm.get (i:=3) I)) (Sl.dx (hm.get (i:=12) I)) J J) I I I ?_;intro vu _
   conv=>arg 8;simp only[zJ,cD,ret,id_eq,tP]
   try refine GA ?_
   refine aX (i:=14) I λqu1 qu2=>bJ (i:=13) I I I qu1 qu2 I ?_;refine zL ?_
   repeat(first|refine GA ?_|refine gV (aC aL.ty I (aI (i:=6) I I)) ?_|refine gV (aC aL.ty I (aI (i:=7) I I)) ?_)
   refine aU (fC aJ.en I I I) (λw' hm=>iK lU _ kT kz w' (Sl.dx (hm.get (i:=11) I)) (Sl.dx (hm.get (i:=4) I)) J J) I I I ?_;intro vu2 _
   conv=>arg 8;simp only[zJ,cD,ret,id_eq,tP]
   try refine GA ?_
   refine aX (i:=15) I λqv1 qv2=>bJ (i:=13) I I I qv1 qv2 I ?_;refine zL ?_
   repeat(first|refine GA ?_|refine gV (aP (i:=13) aL.ty I I I) ?_|refine gV (aC aL.ty I (aI (i:=6) I I)) ?_|refine gV (aC aL.ty I (aI (i:=7) I I)) ?_)
   refine aW (i:=5) (cs':=#[.bool aD,vu,vu2]) I I I I (by simp only[c_,db,qu2,qv2];rfl) I ?_;refine zL ?_
   try refine GA ?_
   refine fW (i:=5) I I I I λw hm=>?_;exact hm.b_ (S:=cT g vf ve bU (⟨aD,re iu iF,re kT kz⟩,{p2 with follow:=fF p2.follow kT iF})) (⟨vc,vr,vfol,vl,pO,F'⟩,vu,vu2) (by show pO.length=(fF p2.follow kT iF).length;rw[lu];exact ZM) [8,0,1,9,10,2,14,15] aln I
  | false=>
   repeat(first|refine GA ?_|refine gV (aC aL.ty I (aI (i:=6) I I)) ?_|refine gV (aC aL.ty I (aI (i:=7) I I)) ?_|refine gV (bB I (nJ _ _ _ _ _ _ _)) ?_)
   refine a8 I λg11=>?_;refine zL ?_;refine gG 13 (cs':=#[.bool aF,av ba iu.length ca,av bb kz.length cb]) ?_;refine zL ?_
   repeat(first|refine GA ?_|refine gV (aC aL.ty I (aI (i:=6) I I)) ?_|refine gV (aC aL.ty I (aI (i:=7) I I)) ?_)
   refine aU (fC aJ.en I I I) (λw' hm=>iK _ kj iu iF w' (Sl.dx (hm.get (i:=3) I)) (Sl.dx (hm.get (i:=12) I)) J J) I I I ?_;intro vu _
   conv=>arg 8;simp only[zJ,cD,ret,id_eq,tP]
   try refine GA ?_
   refine aX (i:=14) I λqu1 qu2=>bJ (i:=13) I I I qu1 qu2 I ?_;refine zL ?_
   repeat(first|refine GA ?_|refine gV (aP (i:=13) aL.ty I I I) ?_|refine gV (aC aL.ty I (aI (i:=6) I I)) ?_|refine gV (aC aL.ty I (aI (i:=7) I I)) ?_)
   refine aW (i:=5) (cs':=#[.bool aF,vu,av bb kz.length cb]) I I I I (by simp only[c_,db,qu2];rfl) I ?_;refine zL ?_
   try refine GA ?_
   refine fW (i:=5) I I I I λw hm=>?_;exact hm.b_ (S:=cT g vf ve bU (⟨aF,re iu iF,kz⟩,{p2 with follow:=fF p2.follow kT iF})) (⟨vc,vr,vfol,vl,pO,F'⟩,vu,av bb kz.length cb) (by show pO.length=(fF p2.follow kT iF).length;rw[lu];exact ZM) [8,0,1,9,10,2,14,4] aln I
 | false=>
  cases e2 with
  | true=>
   repeat(first|refine GA ?_|refine gV (aC aL.ty I (aI (i:=6) I I)) ?_|refine gV (aC aL.ty I (aI (i:=7) I I)) ?_|refine gV (bB I (nJ _ _ _ _ _ _ _)) ?_)
   refine a8 I λg11=>?_;refine zL ?_;refine gG 13 (cs':=#[.bool aF,av ba iu.length ca,av bb kz.length cb]) ?_;refine zL ?_
   repeat(first|refine GA ?_|refine gV (aC aL.ty I (aI (i:=6) I I)) ?_|refine gV (aC aL.ty I (aI (i:=7) I I)) ?_)
   refine aU (fC aJ.en I I I) (λw' hm=>iK lU _ kT kz w' (Sl.dx (hm.get (i:=11) I)) (Sl.dx (hm.get (i:=4) I)) J J) I I I ?_;intro vu2 _
   conv=>arg 8;simp only[zJ,cD,ret,id_eq,tP]
   try refine GA ?_
   refine aX (i:=14) I λqv1 qv2=>bJ (i:=13) I I I qv1 qv2 I ?_;refine zL ?_
   repeat(first|refine GA ?_|refine gV (aP (i:=13) aL.ty I I I) ?_|refine gV (aC aL.ty I (aI (i:=6) I I)) ?_|refine gV (aC aL.ty I (aI (i:=7) I I)) ?_)
   refine aW (i:=5) (cs':=#[.bool aF,av ba iu.length ca,vu2]) I I I I (by simp only[c_,db,qv2];rfl) I ?_;refine zL ?_
   try refine GA ?_
   refine fW (i:=5) I I I I λw hm=>?_;exact hm.b_ (S:=cT g vf ve bU (⟨aF,iu,re kT kz⟩,{p2 with follow:=fF p2.follow kT iF})) (⟨vc,vr,vfol,vl,pO,F'⟩,av ba iu.length ca,vu2) (by show pO.length=(fF p2.follow kT iF).length;rw[lu];exact ZM) [8,0,1,9,10,2,3,14] aln I
  | false=>
   repeat(first|refine GA ?_|refine gV (aC aL.ty I (aI (i:=6) I I)) ?_|refine gV (aC aL.ty I (aI (i:=7) I I)) ?_|refine gV (bB I (nJ _ _ _ _ _ _ _)) ?_)
   refine a8 I λg11=>?_;refine zL ?_;refine gG 13 (cs':=#[.bool aF,av ba iu.length ca,av bb kz.length cb]) ?_;refine zL ?_
   repeat(first|refine GA ?_|refine gV (aP (i:=13) aL.ty I I I) ?_|refine gV (aC aL.ty I (aI (i:=6) I I)) ?_|refine gV (aC aL.ty I (aI (i:=7) I I)) ?_)
   refine gG 5 (cs':=#[.bool aF,av ba iu.length ca,av bb kz.length cb]) ?_;refine zL ?_
   try refine GA ?_
   refine fW (i:=5) I I I I λw hm=>?_;exact hm.b_ (S:=cT g vf ve bU (⟨aF,iu,kz⟩,{p2 with follow:=fF p2.follow kT iF})) (⟨vc,vr,vfol,vl,pO,F'⟩,av ba iu.length ca,av bb kz.length cb) (by show pO.length=(fF p2.follow kT iF).length;rw[lu];exact ZM) [8,0,1,9,10,2,3,4] aln I
theorem Dk:∀M,JY M
 |0=>λe h=>by have:=e.size_pos;omega
 | M +1=>λe h g vf ve bU p x v w B hp hx hn hr hv hm=>by
  cases e with
  |none=>grind[VJ]
  |empty=>grind[QH]
  |byte c=>grind[VL]
  | star a=>
   have h:a.size+1<=M+1:=h;exact VM (Dk M) a J g vf ve bU p x v w B hp hx hn hr hv hm
  | Jo a b=>
   have h:a.size+b.size+1<=M+1:=h;exact ZZ (Dk M) a b J J g vf ve bU p x v w B hp hx hn hr hv hm
  | Jn a b=>
   have h:a.size+b.size+1<=M+1:=h;exact Z7 (Dk M) a b J J g vf ve bU p x v w B hp hx hn hr hv hm
end bZ
namespace eg
open dh gu
structure MS where
 ps:PS
 first:List Int
 empty:List Bool
def MS.zero:MS:=⟨⟨[],[],[],[]⟩,[],[]⟩
def gh(last:List Bool)(l:List Int):List Bool:=l.foldl (λb x=>b.set x.toNat aD) last
def xK(i:Nat)(m:MS)(e:Re):MS:=
 ⟨{(cK i e m.ps).2 with last:=gh (cK i e m.ps).2.last (cK i e m.ps).1.last},re m.first (cK i e m.ps).1.first,m.empty++[(cK i e m.ps).1.empty]⟩
def l6:Nat->MS->List Re->Int×MS
 |_,m,[]=>(0,m)
 |i,m,e::r=>if 200<(xK i m e).ps.bm.length then(2,.zero)else l6 (i+1) (xK i m e) r
abbrev MW(r:Rx):Int:=(lI r 1 0).1
def kl:List Rx->Int
 |[]=>0
 |r::l=>if MW r≠0 then MW r else kl l
structure QO(m:MS):Prop where
 ps:MP m.ps
 first:H9 m.ps.bm.length m.first
theorem E4(last:List Bool)(l:List Int):(gh last l).length=last.length:=by
 unfold gh
 induction l generalizing last with
 |nil=>rfl
 |cons x r ih=>simp_all
theorem VP(last:List Bool)(l:List Int){k:Nat}(hk:k<l.length):gh last (l.take (k+1))=(gh last (l.take k)).set l[k].toNat true:=by
 unfold gh;rw[gv hk,Z1];rfl
theorem J1:QO .zero:=⟨⟨rfl,rfl,rfl,λl h=>by cases h⟩,w8 _⟩
theorem Ts(i:Nat){m:MS}(h:QO m)(e:Re):QO (xK i m e)/\(xK i m e).ps.bm.length<=m.ps.bm.length+e.size:=by
 obtain⟨h1,h2,h3,h4,h5⟩:=l9 i e m.ps h.ps;exact⟨⟨⟨h1.rules,h1.follow,(E4 _ _).trans h1.last,h1.ris⟩,s8 (n0 h.first h2).2 h4.2⟩,h3⟩
theorem H':∀{l:List Rx},kl l=0->∀r∈l,MW r=0
 |[],_,r,hr=>by grind
 | q::l,h,r,hr=>by
  rw[kl]at h;split at h;contradiction
  rename_i c
  rcases dM.1 hr with rfl|hr
  omega
  exact H' h r hr
end eg
namespace bZ
open Go.RowKit cL dQ dh gu eg
theorem tb(w:World):(dg 132 (#[]:Array (Nat×Value))).run aE w= .ok (aQ #[av ak 0 0,av ak 0 0,av ak 0 0,av ak 0 0,av ak 0 0,av ak 0 0]) w:=by
 go_simp
theorem VQ(w:World):(dg 195 (#[]:Array (Nat×Value))).run aE w= .ok (aQ #[av ak 0 0,av ak 0 0,av ak 0 0,av ak 0 0,av ak 0 0,av ak 0 0,az aB 0]) w:=by
 go_simp
structure PIx where
 vc:Value
 vr:Value
 vf:Value
 vfol:Value
 vl:Value
 ve:Value
 vs:List Value
 F:Nat->Prop
def QQ(x:PIx)(m:MS):List b9:=
 [a_ 84 4 x.vc m.ps.bm.length (m.ps.bm.flatMap ed),gL x.vr m.ps.rules,gL x.vf m.first,yJ x.vfol x.vs,v_ x.F x.vs m.ps.follow,a_ 4 1 x.vl m.ps.last.length (m.ps.last.map fT),a_ 4 1 x.ve m.empty.length (m.empty.map fT)]
def QR(x:PIx):Array Value:=#[x.vc,x.vr,x.vf,x.vfol,x.vl,x.ve]
def rh(R:Int×MS):Spec PIx:=⟨λx=>x.vs.length=R.2.ps.follow.length,λx=> .tuple #[.agg (QR x),az aB R.1],λx=>QQ x R.2⟩
def Z8:PIx:=⟨av ak 0 0,av ak 0 0,av ak 0 0,av ak 0 0,av ak 0 0,av ak 0 0,[],λ_=>False⟩
theorem J2{n:Nat}{W:bP}{Q:Exit->Act->World->Prop}{fr:Fr}{L:List b9}{e':Exit}(h:E n W e' Q fr (L++QQ Z8 .zero)):E n W e' Q fr L:=by
 refine dJ 84 4 (dJ 3 1 (dJ 3 1 (dJ 26 1 (qC (v_ (λ_=>False) [] []) (λk hk=>hk.elim (λh=>by cases h) id) (λw=>jM) (dJ 4 1 (dJ 4 1 ?_))))));simp only[eY,kD,e7];exact h
theorem adl{vc vr vf vfol vl ve v:Value}{bU:Int}{j:Nat}(h:[vc,vr,vf,vfol,vl,ve][j]?=aj v):(To vc vr vf vfol vl ve bU)[0+j]?=aj v:=by
 rw[cX]
 match j,h with
 |0,h=>exact h
 |1,h=>exact h
 |2,h=>exact h
 |3,h=>exact h
 |4,h=>exact h
 |5,h=>exact h
def Hn(b:Bool):List Value:=[.bool b]
theorem VR(b:Bool):(Hn b).length=1:=rfl
theorem BA(l:List Bool):l.flatMap Hn=l.map fT:=by
 induction l with
 |nil=>rfl
 |cons x r ih=>rw[oo,ih];rfl
def Ia(rs:List Rx)(R:Int×MS):Prop:=
  ((rs.length=0\/20<rs.length)/\R=(1,.zero))\/(¬(rs.length=0\/20<rs.length)/\kl rs≠0/\R=(kl rs,.zero))\/
    (¬(rs.length=0\/20<rs.length)/\kl rs=0/\∃es:List Re,rs=es.map l5/\(∀e∈es,e.size<=100)/\R=l6 0 .zero es)
theorem QT{l:List Rx}{k:Nat}(h:k<l.length):kl (l.drop k)=if MW l[k]≠0 then MW l[k]else kl (l.drop (k+1)):=by
 rw[eH h,kl]
theorem E5(v:Value)(rs:List Rx)(R:Int×MS)(w:World)(hv:kw yo (qo w) w v rs)(hR:Ia rs R):
    Calls aE 39 #[v] w (bX (rh R) w):=by
  obtain⟨bk,ck,rfl,h1,h2,h3⟩:=hv;unfold maxLen at h2;refine enter (args:=[av bk rs.length ck]) (n:=104) Tryz.func39 I I I ?_;refine cB (bD (a8 I λg2=>?_));refine zL ?_;rcases hR with⟨c1,rfl⟩|hR
  · by_cases c2:rs.length=0
    · repeat(first|refine GC ?_|refine gV (cY (b:=aD) I I (decide_eq_true J)) ?_|refine gV (bB I tb) ?_|refine GB ?_)
      refine gG 0 ?_;refine zL ?_
      try refine GA ?_
      refine J2 ?_;exact dT (i:=0) I I I I I λw hm=>hm.meets (S:=rh (1,.zero)) Z8 I [1,2,3,4,5,6,7] aln I
    have c3:20<rs.length:=c1.resolve_left c2
    repeat(first|refine GC ?_|refine gV (cY (b:=aF) I I (decide_eq_false J)) ?_|refine gV (dW (b:=aD) I I (decide_eq_true J)) ?_|refine gV (bB I tb) ?_|refine GB ?_)
    refine gG 0 ?_;refine zL ?_
    try refine GA ?_
    refine J2 ?_;exact dT (i:=0) I I I I I λw hm=>hm.meets (S:=rh (1,.zero)) Z8 I [1,2,3,4,5,6,7] aln I
  have hlen:¬(rs.length=0\/20<rs.length):=by rcases hR with⟨h,_⟩|⟨h,_⟩<;>exact h
  repeat(first|refine GC ?_|refine gV (cY (b:=aF) I I (decide_eq_false J)) ?_|refine gV (dW (b:=aF) I I (decide_eq_false J)) ?_|refine GB ?_)
  refine d_ (ι:=Nat) (λk=>k<=rs.length/\kl rs=kl (rs.drop k)) (λk=>[(0,av bk rs.length ck),(2,aK (aj ⟨g2,0,ak⟩)),(22,av bk rs.length ck),(23,az aB rs.length),(24,az aB (k:Int))])
    (λ_=>[aR g2 #[av ak 0 0,av ak 0 0,av ak 0 0,av ak 0 0,av ak 0 0,av ak 0 0] 132]) (λk=>rs.length-k) 0 ⟨bH _,rfl⟩ ?_
  rintro k ⟨i1,i2⟩
  by_cases c6:k<rs.length
  · obtain⟨b,off,rfl,hF,eR⟩:=h3 J
    obtain⟨kb,kc,hr,VN⟩:=qD eR c6;have dy:=λ(L:List b9) (j:Nat) (v:Value) (hj:(mG rs[k].kind rs[k].uO (.slice kb rs[k].kids.length kc))[j]?=aj v)=>iP (L:=L) hr hj;have iH:∀w',Gr w w'->Calls aE 72 #[qY rs[k].kind rs[k].uO (.slice kb rs[k].kids.length kc)] w' (bX (ret (az aB (MW rs[k]))) w'):=λw' hg=>uW _ _ w' (VN.gr hg);have hdr:=QT c6;clear h3 eR hr;generalize rs[k]=r at*
    repeat(first|refine GA ?_|refine gV (aZ bQ.eq aL.ty I I c6) ?_|refine gV (aY aL.ty I I (dy _)) ?_)
    refine a8 I λg5=>?_;refine zL ?_;refine gG 1 (cs':=(mG r.kind r.uO (av kb r.kids.length kc)).toArray) ?_;refine zL ?_
    repeat(first|refine GA ?_|refine gV (aP (i:=1) aL.ty I I I) ?_)
    refine aU (ja aJ.en I I) (λw hm=>iH _ hm.below) I I I ?_;intro _ _;refine zL ?_
    by_cases c7:MW r=0
    · repeat(first|refine GC ?_|refine gV (dc (b:=aF) I I (decide_eq_false (by simpa using c7))) ?_|refine GB ?_)
      refine dv [0] ?_;exact bW (k+1) ⟨by omega,by rw[i2,hdr,if_neg (by simpa using c7)]⟩ (by show rs.length-(k+1)<rs.length-k;omega)
    have hne:kl rs≠0:=by rw[i2,hdr,if_pos c7];exact c7
    rcases hR with⟨_,_,rfl⟩|⟨_,h0,_⟩
    · rw[i2,hdr,if_pos c7]
      repeat(first|refine GC ?_|refine gV (dc (b:=aD) I I (decide_eq_true c7)) ?_|refine gV (bB I tb) ?_|refine GB ?_)
      refine gG 0 ?_;refine zL ?_
      try refine GA ?_
      refine J2 ?_;exact dT (i:=0) I I I I I λw hm=>hm.meets (S:=rh (MW r,.zero)) Z8 I [2,3,4,5,6,7,8] aln I
    exact absurd h0 hne
  · obtain rfl:k=rs.length:=by omega
    have h0:kl rs=0:=by rw[i2,oD (bC _)];rfl
    obtain⟨es,rfl,hsz,rfl⟩:∃es:List Re,rs=es.map l5/\(∀e∈es,e.size<=100)/\R=l6 0 .zero es:=by
      rcases hR with⟨_,h,_⟩|⟨_,_,h⟩
      exact absurd h0 h;exact h
    have h20:(Z4 l5 es).length<=20:=by omega
    clear hR hlen i1 i2
    repeat(first|refine GA ?_|refine gV (bB I VQ) ?_)
    refine bL I I I λg7=>?_;refine zL ?_
    try refine GA ?_
    refine iz 84 4 (iz 3 1 (iz 26 1 (mP (v_ (λ_=>False) [] []) (λk hk=>hk.elim (λh=>by cases h) id) (λw=>jM) (iz 4 1 (iz 3 1 (iz 4 1 ?_))))));refine d_ (ι:=Nat×MS×Xh×Value×Value×Int) (λ(k,m,x,_,_,_)=>k<=es.length/\l6 0 .zero es=l6 k m (es.drop k)/\QO m/\m.ps.bm.length<=200/\x.vs.length=m.ps.follow.length/\m.empty.length=k) (λ(k,_,_,_,_,_)=>[(2,aK (aj ⟨g2,0,ak⟩)),(7,aK (aj ⟨g7,0,ak⟩)),(37,av bk (es.map l5).length ck),(38,az aB (es.map l5).length),(39,az aB (k:Int))])
      (λ(_,m,x,vf,ve,bU)=>[aR g2 #[av ak 0 0,av ak 0 0,av ak 0 0,av ak 0 0,av ak 0 0,av ak 0 0] 132]++nQ g7 vf ve bU x m.ps++[gL vf m.first,a_ 4 1 ve m.empty.length (m.empty.map fT)]) (λ(k,_,_,_,_,_)=>es.length-k)
      (0,.zero,⟨av ak 0 0,av ak 0 0,av ak 0 0,av ak 0 0,[],λ_=>False⟩,av ak 0 0,av ak 0 0,0) ⟨bH _,rfl,J1,bH _,rfl,rfl⟩ ?_
    rintro⟨k,m,⟨vc,vr,vfol,vl,vs,F⟩,vf,ve,bU⟩ ⟨i1,i2,i3,i4,i5,i6⟩;dsimp only at i1 i2 i3 i4 i5 i6⊢
    conv=>arg 7;simp only[zA,zB,zC,zD,zE,zF,zG,zH,zI,cD,ret,id_eq,nQ]
    have hml:(Z4 l5 es).length=es.length:=eI ..
    by_cases c6:k<es.length
    · obtain⟨b,off,rfl,hF,eR⟩:=h3 J
      obtain⟨kb,kc,hr,VN⟩:=qD (k:=k) eR J;have dy:=λ(L:List b9) (j:Nat) (v:Value) (hj:(mG (es.map l5)[k].kind (es.map l5)[k].uO (.slice kb (es.map l5)[k].kids.length kc))[j]?=aj v)=>iP (L:=L) hr hj;have hke:(es.map l5)[k]' J=l5 es[k]:=q9 ..;rw[hke]at dy VN;have hse:=hsz es[k] (cH c6);rw[eH c6,l6]at i2;clear h3 eR hr hke;generalize es[k]=e at*;have hst:=Ts k i3 e;have Hm:=l9 k e m.ps i3.ps;have hno:=λv w B hv hm=>Dk 100 e hse g7 vf ve k m.ps ⟨vc,vr,vfol,vl,vs,F⟩ v w B i3.ps i5 J ⟨by omega,by omega⟩ hv hm
      repeat(first|refine GA ?_|refine gV (aZ bQ.eq aL.ty I I J) ?_|refine gV (aY aL.ty I I (dy _)) ?_)
      refine a8 I λg9=>?_;refine zL ?_
      try refine GA ?_
      refine gG 9 (cs':=(mG (l5 e).kind (l5 e).uO (av kb (l5 e).kids.length kc)).toArray) ?_;refine zL ?_
      try refine GA ?_
      refine bJ (i:=1) I I I I I I ?_;refine zL ?_
      repeat(first|refine GA ?_|refine gV (aP (i:=9) aL.ty I I I) ?_)
      refine bz [1,2,3,4,5,6] [0,7,8,9] aln I I (fC aJ.en I I I) (λw hm hb=>hno _ w _ (fg (hm.pick [1,2,3,4,5,6] aln I) (VN.mono λk hk=>⟨hk,id⟩)) hb) I I I ?_;rintro⟨⟨GS,CV,xJ,Tr,pO,F'⟩,va,vb⟩ SG
      conv=>arg 8;simp only[zJ,cD,ret,id_eq,cT,nQ]
      conv=>arg 7;simp only[cT]
      have SG:pO.length=(cK k e m.ps).2.follow.length:=SG;unfold xK at i2 hst;generalize cK k e m.ps=R at*;obtain⟨⟨em,first,last⟩,p'⟩:=R;dsimp only at i2 hst Hm SG⊢;obtain⟨n1,n2,n3,n4,n5⟩:=Hm;have Lo:=ki i3.first;have GH:=ki n4;have ZL:=ki n5;refine aX (i:=10) I λ_ qa=>aX (i:=11) I λ_ qb=>a8 I λg10=>?_;refine zL ?_;refine aW (i:=12) (cs':=#[.bool em,va,vb]) I I I I (by simp only[c_,db,qa,qb];rfl) I ?_;refine zL ?_
      try refine GA ?_
      (repeat refine cB ?_)
      refine ml (ι:=Value) (λXj=>Xj.oneCell'=aD) (λ_=>[(2,aK (aj ⟨g2,0,ak⟩)),(7,aK (aj ⟨g7,0,ak⟩)),(10,aK (aj ⟨g10,0,ak⟩)),(37,av (aj ⟨b,off,ak⟩) (es.map l5).length ck),(38,az aB (es.map l5).length),(39,az aB (k:Int))])
        (λXj=>[aR g2 #[av ak 0 0,av ak 0 0,av ak 0 0,av ak 0 0,av ak 0 0,av ak 0 0] 132,aR g7 (To GS CV Xj xJ Tr ve (k:Int)) 195,a_ 84 4 GS p'.bm.length (p'.bm.flatMap ed),gL CV p'.rules,yJ xJ pO,v_ F' pO p'.follow,a_ 4 1 Tr p'.last.length (p'.last.map fT),gL Xj (re m.first first),a_ 4 1 ve m.empty.length (m.empty.map fT),aR g10 #[.bool em,va,vb] 197,gL vb last]) ?_ ?_
      · refine dH ([aR g10 #[.bool em,va,vb] 197]) (.calm 0 (.calm 1 (.calm 2 (.calm 3 (.calm 4 (.calm 6 (.calm 7 (.one 5 (.one 8 (.calm 9 (.calm 10 (.calm 11 (.one 12 (.done)))))))))))))) (bV [12]) ?_
        repeat(first|refine GW ?_|(refine GN ?_;first|refine QW (aC aL.ty I (aI (i:=0) I I)) ?_))
        refine aM I (dm (aC (v:=vf) aL.ty I (aI (i:=4) I I)) I I I (aO (bV [12]) ?_));refine aM I (aU (fC aJ.en I I I) (λw' hm=>iK vf va m.first first w' (Sl.dx (hm.get (i:=1) I)) (Sl.dx (hm.get (i:=10) I)) J J) I I I ?_);intro Xj _
        conv=>arg 8;simp only[zJ,cD,ret,id_eq,tP]
        refine aO (bV [12]) ?_
        try refine GW ?_
        refine aM I (aX (i:=13) I λqf1 qf2=>bJ (i:=4) I I I qf1 qf2 I (aO (bV [12]) ?_))
        try refine GW ?_
        refine dv [0,4,5,6,7,8,9,13,2,12,11] ?_;exact eh Xj qf2 (by repeat' (first|exact cV|refine cP I ?_)) I
      intro Xj C9
      (repeat refine cB ?_)
      refine ml (ι:=Value) (λTt=>Tt.oneCell'=aD) (λ_=>[(2,aK (aj ⟨g2,0,ak⟩)),(7,aK (aj ⟨g7,0,ak⟩)),(10,aK (aj ⟨g10,0,ak⟩)),(37,av (aj ⟨b,off,ak⟩) (es.map l5).length ck),(38,az aB (es.map l5).length),(39,az aB (k:Int))])
        (λTt=>[aR g2 #[av ak 0 0,av ak 0 0,av ak 0 0,av ak 0 0,av ak 0 0,av ak 0 0] 132,aR g7 (To GS CV Xj xJ Tr Tt (k:Int)) 195,a_ 84 4 GS p'.bm.length (p'.bm.flatMap ed),gL CV p'.rules,yJ xJ pO,v_ F' pO p'.follow,a_ 4 1 Tr p'.last.length (p'.last.map fT),gL Xj (re m.first first),a_ 4 1 Tt (m.empty++[em]).length ((m.empty++[em]).map fT),aR g10 #[.bool em,va,vb] 197,gL vb last]) ?_ ?_
      · refine dH ([aR g10 #[.bool em,va,vb] 197]) (.calm 0 (.calm 1 (.calm 2 (.calm 3 (.calm 4 (.calm 6 (.calm 7 (.two 5 (.one 8 (.one 9 (.calm 10 (.calm 11 (.calm 12 (.one 13 (.done))))))) 8 (.one 5 (.one 9 (.calm 10 (.calm 11 (.calm 12 (.one 13 (.done))))))))))))))) (bV [9]) ?_
        repeat(first|refine GW ?_|(refine GN ?_;first|refine QW (aC aL.ty I (aI (i:=0) I I)) ?_))
        refine eN I I ?_ ?_
        · refine dm (aC (v:=ve) aL.ty I (aI (i:=1) I I)) I I I (aO (bV [9]) ?_)
          refine aM I (fw (cs:=#[.bool em]) [.bool em] I I I (by intro v hv;simp at hv;subst hv;rfl) I I I λg71=>(aO (bV [9]) ?_));refine aM I (ee (i:=8) (e:=4) (size:=1) (bytes:=1) (m:=m.empty.length) (xs:=m.empty.map fT) (k:=1) (ys:=[.bool em]) I (kI (i:=11) I (λj u h=>by simpa using h) (bC 1) aln) I I I (λu hu=>by rw[eV.1 hu];rfl) J J I λTt=>(aO (bV [9]) ?_))
          try refine GW ?_
          refine aM I (aX (i:=8) I λqe1 qe2=>bJ (i:=1) I I I qe1 qe2 I (aO (bV [9]) ?_))
          try refine GW ?_
          refine dv [0,1,2,3,4,5,6,7,8,9,10] ?_;exact eh Tt qe2 (by repeat' (first|exact cV|refine cP I ?_)) (by rw[<-Bx Tt m.empty em];rfl)
        refine fw (cs:=#[.bool em]) [.bool em] I I I (by intro v hv;simp at hv;subst hv;rfl) I I I λg71=>(aO (bV [9]) ?_);refine aM I (dm (aC (v:=ve) aL.ty I (aI (i:=1) I I)) I I I (aO (bV [9]) ?_));refine aM I (ee (i:=8) (e:=4) (size:=1) (bytes:=1) (m:=m.empty.length) (xs:=m.empty.map fT) (k:=1) (ys:=[.bool em]) I (kI (i:=11) I (λj u h=>by simpa using h) (bC 1) aln) I I I (λu hu=>by rw[eV.1 hu];rfl) J J I λTt=>(aO (bV [9]) ?_))
        try refine GW ?_
        refine aM I (aX (i:=8) I λqe1 qe2=>bJ (i:=1) I I I qe1 qe2 I (aO (bV [9]) ?_))
        try refine GW ?_
        refine dv [0,1,2,3,4,5,6,7,8,9,10] ?_;exact eh Tt qe2 (by repeat' (first|exact cV|refine cP I ?_)) (by rw[<-Bx Tt m.empty em];rfl)
      intro Tt he';rw[show p'.last.map fT=p'.last.flatMap Hn from(BA _).symm];refine iR (i:=10) (φ:=∃a c,vb=av a last.length c/\(0<last.length->∃gl,a=aj ⟨gl,0,ak⟩)) I (λw h=>by
        obtain⟨y1,y2⟩:=(show w.ownsRow 0 3 1 vb last.length (last.map (az .i64))from h);rcases y2 with⟨y3,y4⟩|⟨gl,cap,kU,hv,_⟩
        exact⟨ak,0,by rw[y3,y4],λh=>by omega⟩;exact⟨_,_,hv,λ_=>⟨gl,rfl⟩⟩) λAN=>?_
      obtain⟨al,cl,rfl,hal⟩:=AN;refine iR (i:=6) (φ:=0<p'.last.length->∃gb cb,Tr=av (aj ⟨gb,0,ak⟩) p'.last.length cb) I (λw h=>by
        obtain⟨y1,y2⟩:=(show w.ownsRow 0 4 1 Tr p'.last.length (p'.last.flatMap Hn)from h);rcases y2 with⟨y3,y4⟩|⟨gl,cap,kU,hv,_⟩
        intro h;omega;exact λ_=>⟨gl,cap,hv⟩) λhvl=>?_
      repeat(first|refine GA ?_|refine gV (aC (v:=av al last.length cl) aL.ty I (aI (i:=9) I I)) ?_)
      refine tW [0,1,2,3,4,5,6,7,8,10] ?_;refine d_ (ι:=Nat) (λj=>j<=last.length) (λj=>[(2,aK (aj ⟨g2,0,ak⟩)),(7,aK (aj ⟨g7,0,ak⟩)),(37,av (aj ⟨b,off,ak⟩) (es.map l5).length ck),(38,az aB (es.map l5).length),(39,az aB (k:Int)),(77,av al last.length cl),(78,az aB last.length),(79,az aB (j:Int))])
        (λj=>[aR g2 #[av ak 0 0,av ak 0 0,av ak 0 0,av ak 0 0,av ak 0 0,av ak 0 0] 132,aR g7 (To GS CV Xj xJ Tr Tt (k:Int)) 195,a_ 84 4 GS p'.bm.length (p'.bm.flatMap ed),gL CV p'.rules,yJ xJ pO,v_ F' pO p'.follow,a_ 4 1 Tr p'.last.length ((gh p'.last (last.take j)).flatMap Hn),gL Xj (re m.first first),a_ 4 1 Tt (m.empty++[em]).length ((m.empty++[em]).map fT),gL (av al last.length cl) last]) (λj=>last.length-j) 0 (bH _) ?_
      intro j j1
      by_cases c7:j<last.length
      · obtain⟨gl,rfl⟩:=hal J
        have hx:=n5.2 last[j] (cH c7);have hgx:last[j]?=aj last[j]:=bM c7;have hms:=VP p'.last last c7;have akX:=E4 p'.last (last.take j);generalize last[j]=xx at*;obtain⟨xn,rfl⟩:=gU hx.1;rw[dD]at hms;have hxn:xn<p'.last.length:=by rw[n1.last];omega
        obtain⟨gb,cb,rfl⟩:=hvl J;have ags:∀(L:List b9) (hi:L[9]?=aj (gL (av (aj ⟨gl,0,ak⟩) last.length cl) last)),At (w:bP) L ⟨gl,0+j*1,ak⟩ (az aB (xn:Int)):=λL hi=>jP hi (by rw[jy,cX,lP,hgx];rfl)
        repeat(first|refine GA ?_|refine gV (aZ bQ.eq aL.ty I I c7) ?_|refine gV (aC (v:=az aB (xn:Int)) aL.ty I (ags _ I)) ?_|refine gV (aC (v:=av (aj ⟨gb,0,ak⟩) p'.last.length cb) aL.ty I (aI (i:=1) I I)) ?_|refine gV (aZ bQ.eq aL.ty I I hxn) ?_)
        refine A' VR (i:=6) (k:=xn) (l:=gh p'.last (last.take j)) (a:=aD) aL.ty I I J J J I I I ?_;rw[<-hms];refine zL ?_
        try refine GA ?_
        exact bW (j+1) J (by show last.length-(j+1)<last.length-j;omega)
      obtain rfl:j=last.length:=by omega
      rw[gT (bC _),BA];refine iR (i:=2) (φ:=∃a c,GS=av a p'.bm.length c) I (λw h=>by
        obtain⟨a,c,h,_⟩:=Sl.dx (show w.ownsRow 0 84 4 GS p'.bm.length (p'.bm.flatMap ed)from h);exact⟨a,c,h⟩) λXi=>?_
      obtain⟨ac,cc,rfl⟩:=Xi
      by_cases c8:200<p'.bm.length
      · rw[if_pos c8]at i2
        rw[i2]
        repeat(first|refine GC ?_|refine gV (aC (v:=av ac p'.bm.length cc) aL.ty I (aI (i:=1) I I)) ?_|refine gV (dW (b:=aD) I I (decide_eq_true J)) ?_|refine gV (bB I tb) ?_|refine GB ?_)
        refine gG 0 ?_;refine zL ?_
        try refine GA ?_
        refine J2 ?_;exact dT (i:=0) I I I I I λw hm=>hm.meets (S:=rh (2,.zero)) Z8 I [10,11,12,13,14,15,16] aln I
      rw[if_neg c8]at i2
      repeat(first|refine GC ?_|refine gV (aC (v:=av ac p'.bm.length cc) aL.ty I (aI (i:=1) I I)) ?_|refine gV (dW (b:=aF) I I (decide_eq_false J)) ?_|refine GB ?_)
      refine dv [0,1,2,3,4,5,6,7,8] ?_;exact bW (k+1,⟨{p' with last:=gh p'.last last},re m.first first,m.empty++[em]⟩,⟨av ac p'.bm.length cc,CV,xJ,Tr,pO,F'⟩,Xj,Tt,(k:Int)) ⟨by omega,i2,hst.1,by show p'.bm.length<=200;omega,SG,by rw[bK,List.length_singleton,i6]⟩ (by show es.length-(k+1)<es.length-k;omega) (hl:=by dsimp only;rw[show p'.last.length=(gh p'.last last).length from(E4 _ _).symm];rfl)
    obtain rfl:k=es.length:=by omega
    rw[oD (bC _)]at i2;rw[i2]
    try refine GA ?_
    refine aX (i:=2) I λ_ a1=>aX (i:=3) I λ_ a2=>aX (i:=4) I λ_ a3=>aX (i:=6) I λ_ a4=>aX (i:=7) I λ_ a5=>aX (i:=8) I λ_ a6=>?_
    repeat(first|refine GA ?_|refine gV (aY (cs:=[vc,vr,vf,vfol,vl,ve]) aL.ty I I (λj v hj=>aI (i:=1) I (adl hj))) ?_)
    refine aW (i:=0) (cs':=#[vc,vr,vf,vfol,vl,ve]) I I I I (by simp only[c_,db,a1,a2,a3,a4,a5,a6];rfl) I ?_;refine zL ?_
    try refine GA ?_
    exact dT (i:=0) I I I I I λw hm=>hm.meets (S:=rh (0,m)) ⟨vc,vr,vf,vfol,vl,ve,vs,F⟩ i5 [2,3,7,4,5,6,8] aln I
open lB
theorem Tu:∀{rs:List Rx},kl rs=0->∃es:List Re,rs=es.map l5/\∀e∈es,Fit e 1 0
 |[],_=>⟨[],rfl,λ_ h=>by cases h⟩
 |r::l,h=>by
  have hr:=H' h r (iO ..);have hl:kl l=0:=by simp_all[kl]
  obtain⟨es,rfl,h2⟩:=Tu hl;obtain⟨e,rfl,hf,_⟩:=Jp (tM r) r 1 0 (lI r 1 0).2 (bC _) (by grind);refine⟨e::es,rfl,λx hx=>?_⟩;rcases dM.1 hx with rfl|hx
  exact hf;exact h2 x hx
theorem Z9{e:Re}(h:Fit e 1 0):e.size<=100:=by have:=h.sz;omega
theorem Ib:∀(es:List Re) (i:Nat) (m:MS),(l6 i m es).1≠0->(l6 i m es).2= .zero
 |[],_,_,h=>absurd I h
 |e::r,i,m,h=>by
  rw[l6]at h⊢;split at h
  simp_all
  rename_i c;rw[if_neg c];exact Ib r _ _ h
theorem VS(rs:List Rx):(∃k:Int,k≠0/\Ia rs (k,.zero))\/∃(es:List Re) (m:MS),rs=es.map l5/\(∀e∈es,Fit e 1 0)/\0<es.length/\es.length<=20/\l6 0 .zero es=(0,m)/\Ia rs (0,m):=by
 by_cases c:rs.length=0\/20<rs.length
 exact .inl ⟨1,by decide,.inl ⟨c,rfl⟩⟩
 by_cases h:kl rs=0
 ·obtain⟨es,h1,h2⟩:=Tu h
  have hR:Ia rs (l6 0 .zero es):= .inr (.inr ⟨c,h,es,h1,λe he=>Z9 (h2 e he),rfl⟩);have hz:=Ib es 0 .zero;have hl:rs.length=es.length:=by rw[h1,eI]
  obtain⟨k,m,e⟩:∃k m,l6 0 .zero es=(k,m):=⟨_,_,rfl⟩;rw[e]at hR hz
  by_cases h0:k=0
  ·subst h0
   exact .inr ⟨es,m,h1,h2,by omega,by omega,e,hR⟩
  obtain rfl:m= .zero:=hz h0;exact .inl ⟨k,h0,hR⟩
 exact .inl ⟨kl rs,h,.inr (.inl ⟨c,h,rfl⟩)⟩
theorem Z_{e:TypeId}{size n:Nat}{v:Value}{xs:List Value}(w:World)(h:(a_ e size v n xs).holds w):∃a c,v=av a n c/\(0<n->∃g,a=aj ⟨g,0,ak⟩):=by
 rcases(show w.ownsRow 0 e size v n xs from h).2 with⟨rfl,rfl⟩|⟨g,cap,kU,rfl,_⟩
 simp;exact⟨_,_,rfl,λ_=>⟨g,rfl⟩⟩
theorem gJ{e:TypeId}{size n:Nat}{v:Value}{xs:List Value}(w:World)(h:(a_ e size v n xs).holds w):∃a c,v=av a n c/\n<=9223372036854775807/\(0<n->∃g,a=aj ⟨g,0,ak⟩):=by
 rcases(show w.ownsRow 0 e size v n xs from h).2 with⟨rfl,rfl⟩|⟨g,cap,kU,rfl,_,_,hn,hm,_⟩
 simp;exact⟨_,_,rfl,by grind[maxLen],λ_=>⟨g,rfl⟩⟩
theorem adm{F:Nat->Prop}{v:Value}{vs:List Value}{nj:List (List Int)}{w:World}(hr:(yJ v vs).holds w)(he:(v_ F vs nj).holds w)(hl:vs.length=nj.length):kw (bR fP) (qo w) w v nj:=by
 have Gy:w.ownsRow 0 26 1 v vs.length (vs.flatMap Ab):=hr;obtain⟨base,cap,h1,h2,h3,h4⟩:=Sl.dx Gy;rw[hl]at h1 h2;refine⟨base,cap,h1,h2,h3,λh0=>?_⟩;obtain⟨b,off,h5,h6⟩:=h4 J;rw[VI]at h6;refine⟨b,off,h5,?_,λi hi=>⟨[vs[i]' J],⟨vs[i]' J,rfl,?_⟩,λj u hj=>?_⟩⟩
 ·have:=h6 0 _ (bM J)
  exact og w _ this
 ·have hs:=ZX he hi J
  obtain⟨⟨q1,q2⟩,q3⟩:=he;obtain⟨v',L6,kV,_,hF⟩:=q2 i hi J;rw[q9]at L6;simp only[Ab,jA,and_true]at L6;rw[<-rS]at hs;refine kw.of_flat hs kV (λb hb=>q3 b (hF b (by simp_all))) λa n cp hv=>q3 a.block (hF _ (by rw[<-L6,hv];rfl))
 have hj0:j=0:=by grind
 subst hj0;have:=h6 i u (by simp_all);show w.cell? ⟨b,off+i*1+0,ak⟩=aj u
 simp_all
end bZ
namespace bZ
open Go.RowKit cL dQ aV dO dR bI cz
def J3:wY bI.Item:=zq jj 3 (λ_=>rfl) (λ_=>True)
theorem J4{κ τ:Type}[DecidableEq κ][DecidableEq τ](f:κ->τ)(x:κ):∀(D:List κ),(∀y∈D,f y=f x->y=x)->idx (D.map f) (f x)=idx D x
 |[],_=>rfl
 | y::D,h=>by
  have ih:=J4 f x D λz hz=>h z (kJ _ hz);unfold idx at ih⊢;rw[ff,Z3,Z3,ih]
  by_cases e:y=x
  subst e;simp;have:¬f y=f x:=λe2=>e (h y (iO ..) e2);rw[show(f y==f x)=aF by simpa using this,show(y==x)=aF by simpa using e]
def w9(s:List bI.Item):Prop:=∀it∈s,0<=it.1/\it.1<256/\0<=it.2.1/\it.2.1<256/\0<=it.2.2/\it.2.2<256
theorem VT{S:List (List bI.Item)}{s:List bI.Item}(hS:∀t∈S,w9 t)(hs:w9 s):iJ s∈S.map iJ↔s∈S:=by
 constructor
 ·intro h
  obtain⟨t,ht,e⟩:=fG.1 h;rw[<-EQ (hS t ht) hs e];exact ht
 exact List.mem_map_of_mem
def stL(g6 gm g7:Nat)(vS vN:Value)(w_:List Value)(F:Nat->Prop)(S:List (List bI.Item)):List b9:=
 [aR g6 #[.map (aj gm)] 126,fv iD gm (lp (S.map iJ)) S.length,aR g7 #[vS,vN] 157,a_ 226 1 vS S.length w_,eo (bR J3) F (w_.map λv=>[v]) S]
theorem Ad{w:World}{e:TypeId}{size n:Nat}{v:Value}{xs:List Value}(h:(a_ e size v n xs).holds w):∀k,v.ownBlock=aj k->k<w.heap.size:=λk hk=>(a_ e size v n xs).lt w h k (.inl hk)
theorem VU{w:World}{v:Value}{l:List bI.Item}(h:(a_ 231 3 v l.length (l.flatMap jj)).holds w):(bR J3).is (λk=>v.ownBlock=aj k) w [v] l:=
 ⟨v,rfl,kw.of_flat (Sl.dx h) (λ_ _=>trivial) (λ_ h=>h) (λa n cp hv=>by rw[hv];rfl)⟩
theorem Ck(g6 gm g7:Nat)(vS vN:Value)(w_:List Value)(F:Nat->Prop)(S:List (List bI.Item))(vl:Value)(s:List bI.Item)(hS:∀t∈S,w9 t)(hs:w9 s)(hSl:S.length<=1000)(rQ:s.length<=20000)(w:World)(B:bP)
 (hm:Mem B (stL g6 gm g7 vS vN w_ F S++[a_ 231 3 vl s.length (s.flatMap jj)]) w):
 Calls aE 88 #[vl,aK (aj ⟨g6,0,ak⟩),aK (aj ⟨g7,0,ak⟩)] w (cZ ⟨λ(_:Value×List Value×(Nat->Prop))=>True,λ_=>az aB ((jC S s).1:Int),λx=>stL g6 gm g7 x.1 vN x.2.1 x.2.2 (jC S s).2⟩ B):=by
 have Cm:=VT hS hs;have hix:=J4 iJ s S λt ht e=>EQ (hS t ht) hs e;have kV:iD.ok (iJ s):=by
  show(iJ s).length<=9223372036854775807
  rw[H6];omega
 unfold stL at hm;refine du hm (args:=[vl,aK (aj ⟨g6,0,ak⟩),aK (aj ⟨g7,0,ak⟩)]) (n:=30) Tryz.func88 I I I ?_;refine iR (i:=3) I gJ λgK=>?_;obtain⟨aS,cS,rfl,-⟩:=gK
 try refine GA ?_
 refine dH ([aR g6 #[.map (aj gm)] 126,fv iD gm (lp (S.map iJ)) S.length,a_ 231 3 vl s.length (s.flatMap jj)]) (.calm 0 (.calm 1 (.calm 2 (.calm 3 (.calm 4 (.calm 5 (.calm 6 (.calm 7 (.calm 8 (.done)))))))))) (bV [0,1,5]) ?_
 repeat(first|refine GW ?_|(refine GN ?_;first|refine QW (aC (v:= .map (aj gm)) aL.ty I (aI (i:=0) I I)) ?_))
 refine oP I (ja aJ.en I I) (λw hm=>EW vl s w (Sl.dx (hm.get (i:=2) I)) hs rQ) I I I ?_
 by_cases c:s∈S
 ·have hst:jC S s=(idx S s,S):=if_pos c
  rw[hst]
  repeat(first|refine GW ?_|(refine GN ?_;first|refine QW (vj (K:=iD) (x:=iJ s) bQ.eq nZ (i:=1) I I I kV (Cm.2 c)) ?_))
  rw[hix]
  try refine GA ?_
  exact cJ I I λw hm=>hm.b_ (S:=⟨λ(_:Value×List Value×(Nat->Prop))=>True,λ_=>az aB (idx S s:Int),λx=>stL g6 gm g7 x.1 vN x.2.1 x.2.2 S⟩) (av aS S.length cS,w_,F) trivial [0,1,2,3,4] aln I
 ·have hst:jC S s=(S.length,S++[s]):=if_neg c
  rw[hst];have hn:iJ s∉S.map iJ:=λh=>c (Cm.1 h);have GK:=HO hn;have aic:lp (S.map iJ) (iJ s)=none:=if_neg hn;rw[eI]at GK;clear hix Cm
  repeat(first|refine GW ?_|(refine GN ?_;first|refine QW (vm (K:=iD) (x:=iJ s) bQ.eq nZ (i:=1) I I I kV hn) ?_))
  repeat(first|refine GA ?_|refine gV (aC (v:=av aS S.length cS) aL.ty I (aI (i:=2) I I)) ?_)
  refine dH ([aR g6 #[.map (aj gm)] 126,a_ 231 3 vl s.length (s.flatMap jj)]) (.calm 0 (.calm 1 (.calm 2 (.calm 3 (.one 4 (.done)))))) (bV [0,5]) ?_
  repeat(first|refine GW ?_|(refine GN ?_;first|refine QW (aC (v:= .map (aj gm)) aL.ty I (aI (i:=0) I I)) ?_))
  refine oP I (ja aJ.en I I) (λw hm=>EW vl s w (Sl.dx (hm.get (i:=1) I)) hs rQ) I I I ?_
  try refine GW ?_
  refine aM I ?_;refine mB (i:=1) (x:=iJ s) (v:=az aB (S.length:Int)) iD bQ.eq I I I I kV J ?_;refine zL ?_;rw[GK,aic,if_neg aln];refine aO (bV [0,5]) ?_
  try refine GW ?_
  repeat(first|refine GA ?_|refine gV (aC (v:=av aS S.length cS) aL.ty I (aI (i:=2) I I)) ?_)
  refine aX (i:=5) I λLo GH=>?_;refine iA (i:=3) I I Lo GH I I (λz h=>by cases h;rfl) J J I λz vS'=>?_;refine zL ?_;refine pB (eo (bR J3) (λk=>F k\/vl.ownBlock=aj k) ((w_.map λv=>[v])++[[vl]]) (S++[s])) 5 4 [0,1,2,3] aln I I I (λk hk=>hk.elim (λh=>by cases h) λh=>h.elim (λh=> .inr (.inr h)) λh=> .inl (.inl h)) (λw hr he=>mO he (VU hr) (Ad hr)) ?_;refine zL ?_
  try refine GA ?_
  refine aX (i:=3) I λju l_=>bJ (i:=2) I I I ju l_ I ?_;refine zL ?_
  try refine GA ?_
  exact cJ I I λw hm=>hm.b_ (S:=⟨λ(_:Value×List Value×(Nat->Prop))=>True,λ_=>az aB (S.length:Int),λx=>stL g6 gm g7 x.1 vN x.2.1 x.2.2 (S++[s])⟩) (vS',w_++[vl],λk=>F k\/vl.ownBlock=aj k) trivial [0,1,2,3,4] aln (by dsimp only[stL];rw[eZ,eZ,bK];rfl)
end bZ
namespace cz
section
variable(A:tX)(bl:Nat->Nat)
def E6(Q:List Nat)(tq:Int):List Nat:=if bl tq.toNat∈Q.map bl then Q else Q++[tq.toNat]
def pT(Q:List Nat)(tq:Int):List Nat×Int:=if val bl tq=0 then(Q,-1)else(E6 bl Q tq,(idx ((E6 bl Q tq).map bl) (bl tq.toNat):Int))
def lD(q:Nat)(Q:List Nat):Nat->List Nat×List Int
 |0=>(Q,[])
 |k+1=>((pT bl (lD q Q k).1 (A.d q k)).1,(lD q Q k).2++[(pT bl (lD q Q k).1 (A.d q k)).2])
def vec(l:List Int):Row:=rf λb:Fin 256=>l.getD b 0
def xL:Nat->Nat->List Nat->List Row->List Nat×List Row
 |0,_,Q,out=>(Q,out)
 |f+1,n,Q,out=>if n<Q.length then xL f (n+1) (lD A bl (Q.getD n 0) Q 256).1 (out++[vec (lD A bl (Q.getD n 0) Q 256).2])else(Q,out)
def nf:List Nat×List Row:=xL A bl (A.n+1) 0 [0] []
end
def pU(A:tX):tX:=⟨(nf A (dr A)).1.length,λk b=>((nf A (dr A)).2.getD k (eC 256 0)).toList.getD b 0,λk=>((nf A (dr A)).1.map A.tag).getD k 0⟩
section
variable{A:tX}{bl:Nat->Nat}
structure VV(A:tX)(bl:Nat->Nat)(Q:List Nat):Prop where
 head:∃R,Q=0::R/\∀q∈R,bl q≠0
 lt:∀q∈Q,q<A.n
 nodup:(Q.map bl).Nodup
theorem VV.len{Q:List Nat}(h:VV A bl Q):Q.length<=A.n/\0<Q.length:=by
 have h1:Q.Nodup:=agr bl (λa b hne e=>hne (by rw[e])) h.nodup;refine⟨nU h1 h.lt,?_⟩;obtain⟨R,rfl,_⟩:=h.head;simp
theorem aid(hA:A.Ok):VV A bl [0]:=⟨⟨[],rfl,by simp⟩,λq hq=>by simp at hq;subst hq;exact hA.pos,by simp⟩
theorem adn{Q:List Nat}(h:VV A bl Q){tq:Int}(h1:St A tq)(h0:val bl tq≠0):VV A bl (E6 bl Q tq):=by
 unfold E6;unfold val at h0;split at h0;exact absurd I h0;split;exact h
 rename_i ajZ hn
 unfold St at h1;obtain⟨R,rfl,hR⟩:=h.head;refine⟨⟨R++[tq.toNat],rfl,λq hq=>?_⟩,λq hq=>?_,?_⟩
 grind
 ·rcases gj.1 hq with hq|hq
  exact h.lt q hq;simp at hq;subst hq;omega
 rw[eZ];refine Z2.2 ⟨h.nodup,by simp,λa ha b hb e=>?_⟩;simp at hb;subst hb e;exact hn ha
theorem ado(Q:List Nat)(tq:Int):∃E,E6 bl Q tq=Q++E:=by
 unfold E6;split;exact⟨[],by simp⟩;exact⟨_,rfl⟩
theorem adp(Q:List Nat)(tq:Int):bl tq.toNat∈(E6 bl Q tq).map bl:=by
 grind[E6]
theorem MX{Q:List Nat}(h:VV A bl Q){tq:Int}(h1:St A tq):VV A bl (pT bl Q tq).1:=by
 grind[pT,adn]
theorem MY(Q:List Nat)(tq:Int):∃E,(pT bl Q tq).1=Q++E:=by
 unfold pT;split;exact⟨[],by simp⟩;exact ado Q tq
theorem J5(q:Nat)(Q:List Nat):∀k,(lD A bl q Q k).2.length=k
 |0=>rfl
 |k+1=>by simp[lD,J5 q Q k]
theorem aj0(hA:A.Ok){q:Nat}(hq:q<A.n){b:Nat}(hb:b<256):St A (A.d q b):=hA.step q hq b hb
theorem Dl(hA:A.Ok){Q:List Nat}(h:VV A bl Q){q:Nat}(hq:q<A.n):∀k,k<=256->VV A bl (lD A bl q Q k).1
 |0,_=>h
 |k+1,hk=>MX (Dl hA h hq k J) (aj0 hA hq J)
theorem J6(q:Nat)(Q:List Nat):∀k,∃E,(lD A bl q Q k).1=Q++E
 |0=>⟨[],by simp[lD]⟩
 |k+1=>by
  obtain⟨E,h⟩:=J6 q Q k;obtain⟨E',h'⟩:=MY (bl:=bl) (lD A bl q Q k).1 (A.d q k);exact⟨E++E',by simp only[lD];rw[h',h,eY]⟩
def E7(A:tX)(bl:Nat->Nat)(Q:List Nat)(q b:Nat)(x:Int):Prop:=(val bl (A.d q b)=0->x= -1)/\(val bl (A.d q b)≠0->val bl (A.d q b)∈Q.map bl/\x=(idx (Q.map bl) (val bl (A.d q b)):Int))
theorem E7.more{Q:List Nat}{q b:Nat}{x:Int}(h:E7 A bl Q q b x)(E:List Nat):E7 A bl (Q++E) q b x:=by
 refine⟨h.1,λh0=>?_⟩;obtain⟨h1,h2⟩:=h.2 h0;rw[eZ,qE h1];exact⟨uE _ h1,h2⟩
theorem adq(Q:List Nat)(q b:Nat):E7 A bl (pT bl Q (A.d q b)).1 q b (pT bl Q (A.d q b)).2:=by
 unfold pT;split
 ·rename_i h;exact⟨λ_=>rfl,λh'=>absurd h h'⟩
 rename_i h
 refine⟨λh'=>absurd h' h,λ_=>?_⟩;have e:val bl (A.d q b)=bl (A.d q b).toNat:=by
  unfold val at h⊢;split at h;exact absurd I h
  rename_i hn;rw[if_neg hn]
 rw[e];exact⟨adp Q _,rfl⟩
theorem Z'(q:Nat)(Q:List Nat):∀k b,b<k->E7 A bl (lD A bl q Q k).1 q b ((lD A bl q Q k).2.getD b 0)
 |0,_,h=>by omega
 | k +1,b,h=>by
  have hl:=J5 (A:=A) (bl:=bl) q Q k;simp only[lD]
  by_cases c:b<k
  ·have ih:=Z' q Q k b c
   obtain⟨E,e⟩:=MY (bl:=bl) (lD A bl q Q k).1 (A.d q k);rw[e,lC J];exact ih.more E
  obtain rfl:b=k:=by omega
  simp_all[adq]
structure VW(A:tX)(bl:Nat->Nat)(n:Nat)(Q:List Nat)(out:List Row):Prop where
 len:out.length=n
 le:n<=Q.length
 rows:∀k,k<n->∀b,b<256->E7 A bl Q (Q.getD k 0) b ((out.getD k (eC 256 0)).toList.getD b 0)
theorem Ic(_:A.Ok){n:Nat}{Q:List Nat}{out:List Row}(h:VW A bl n Q out)(hn:n<Q.length):VW A bl (n+1) (lD A bl (Q.getD n 0) Q 256).1 (out++[vec (lD A bl (Q.getD n 0) Q 256).2]):=by
 obtain⟨E,e⟩:=J6 (A:=A) (bl:=bl) (Q.getD n 0) Q 256;have hr:=Z' (A:=A) (bl:=bl) (Q.getD n 0) Q 256;have hlen:=h.len;refine⟨by grind,by grind,λk hk b hb=>?_⟩;have o8:k<Q.length:=by omega
 rw[e]at hr⊢;rw[lC o8]
 by_cases c:k<n
 ·rw[lC J]
  exact(h.rows k c b hb).more E
 obtain rfl:k=n:=by omega
 simp_all[vec]
theorem wk{Q:List Nat}{n:Nat}(h:n<Q.length):Q.getD n 0∈Q:=by
 simp_all
theorem aaa(hA:A.Ok):∀(f n:Nat) (Q:List Nat) (out:List Row),VV A bl Q->VW A bl n Q out->A.n+1<=f+n->VV A bl (xL A bl f n Q out).1/\VW A bl (xL A bl f n Q out).1.length (xL A bl f n Q out).1 (xL A bl f n Q out).2
 |0,n,Q,out,hQ,hO,hf=>by have:=hQ.len;have:=hO.le;omega
 | f +1,n,Q,out,hQ,hO,hf=>by
  unfold xL;split
  ·rename_i hn
   exact aaa hA f _ _ _ (Dl hA hQ (hQ.lt _ (wk hn)) 256 (bC _)) (Ic hA hO hn) J
  rename_i hn
  have:=hO.le;obtain rfl:n=Q.length:=by omega
  exact⟨hQ,hO⟩
theorem E8(hA:A.Ok):VV A bl (nf A bl).1/\VW A bl (nf A bl).1.length (nf A bl).1 (nf A bl).2:=
 aaa hA _ _ _ _ (aid hA) ⟨rfl,bH _,λk hk=>by omega⟩ J
theorem MZ(hA:A.Ok){k:Nat}(hk:k<(pU A).n){b:Nat}(hb:b<256):E7 A (dr A) (nf A (dr A)).1 ((nf A (dr A)).1.getD k 0) b ((pU A).d k b):=
 (E8 (bl:=dr A) hA).2.rows k hk b hb
theorem J4{Q:List Nat}(hn:(Q.map bl).Nodup){k:Nat}(hk:k<Q.length):idx (Q.map bl) (bl (Q.getD k 0))=k:=by
 have h:k<(Q.map bl).length:=by simp_all
 have:=Ee hn h;rw[q9]at this;rw[de,bM hk];exact this
theorem Tv{k:Nat}(hk:k<(pU A).n):(pU A).tag k=A.tag ((nf A (dr A)).1.getD k 0):=by
 have o8:k<(nf A (dr A)).1.length:=hk;show((nf A (dr A)).1.map A.tag).getD k 0=_
 simp_all
theorem Dm(hA:A.Ok):(pU A).Ok:=by
 obtain⟨hQ,hO⟩:=E8 (bl:=dr A) hA;obtain⟨h1,h2⟩:=hQ.len;have hle:=hA.le;refine⟨h2,fH h1 hle,λk hk b hb=>?_,λk hk=>by rw[Tv hk];exact hA.tags _ (hQ.lt _ (wk hk))⟩;have hr:=MZ hA hk hb
 by_cases c:val (dr A) (A.d ((nf A (dr A)).1.getD k 0) b)=0
 rw[hr.1 c];exact⟨by omega,by omega⟩;obtain⟨r1,r2⟩:=hr.2 c;have:=nC r1;rw[eI]at this;rw[r2];exact⟨by omega,by show _<((nf A (dr A)).1.length:Int);omega⟩
def Ie(A:tX)(k:Int):Int:=if k<0 then-1 else((nf A (dr A)).1.getD k.toNat 0:Int)
theorem aab(hA:A.Ok){k:Int}(hk:St (pU A) k):St A (Ie A k):=by
 unfold Ie St at*;have:=hA.pos;split;omega;have:=(E8 (bl:=dr A) hA).1.lt _ (wk (show k.toNat<(nf A (dr A)).1.length by simp_all[pU]));omega
theorem aj1(hA:A.Ok):Ie A 0=0:=by
 obtain⟨R,e,_⟩:=(E8 (bl:=dr A) hA).1.head;show((nf A (dr A)).1.getD 0 0:Int)=0
 grind
theorem aac(hA:A.Ok){k:Int}(hk:St (pU A) k){b:Nat}(hb:b<256):val (dr A) (Ie A (dt (pU A) k b))=val (dr A) (dt A (Ie A k) b):=by
 by_cases c:k<0
 simp_all[dt,Ie];have hkl:k.toNat<(pU A).n:=by simp_all[St]
 have hr:=MZ hA hkl hb;have hq:(nf A (dr A)).1.getD k.toNat 0=(Ie A k).toNat:=by simp_all[Ie,if_neg]
 have ajZ:¬Ie A k<0:=by simp_all[Ie,if_neg]
 have e1:dt (pU A) k b=(pU A).d k.toNat b:=by simp_all[dt,if_neg]
 have e2:dt A (Ie A k) b=A.d (Ie A k).toNat b:=by simp_all[dt,if_neg]
 rw[hq]at hr;rw[e1,e2]
 by_cases c2:val (dr A) (A.d (Ie A k).toNat b)=0
 rw[hr.1 c2,c2];rfl;obtain⟨r1,r2⟩:=hr.2 c2;have hlt:=nC r1;rw[r2];generalize hv:val (dr A) (A.d (Ie A k).toNat b)=v at*;have hg:=w7 hlt;rw[eI]at hlt;rw[q9]at hg;unfold Ie;rw[if_neg J,dD];show val (dr A) (((nf A (dr A)).1.getD (idx ((nf A (dr A)).1.map (dr A)) v) 0:Nat):Int)=v
 unfold val;rw[if_neg J,dD,de,bM hlt];exact hg
theorem If(hA:A.Ok):∀(s:List UInt8) {k:Int},St (pU A) k->tg (pU A) (go (pU A) k s)=tg A (go A (Ie A k) s)
 |[],k,hk=>by
  unfold go tg Ie
  by_cases c:k<0
  omega;rw[if_neg c,if_neg c,if_neg J,dD];exact Tv (by unfold St at hk;omega)
 |b::s,k,hk=>by
  have hb:=b.toNat_lt;have h1:=If hA s (xF (Dm hA) hk hb);have h2:same A (Ie A (dt (pU A) k b.toNat)) (dt A (Ie A k) b.toNat):=((HM hA).same hA (aab hA (xF (Dm hA) hk hb)) (xF hA (aab hA hk) hb)).1 (aac hA hk hb);show tg (pU A) (go (pU A) (dt (pU A) k b.toNat) s)=tg A (go A (dt A (Ie A k) b.toNat) s)
  rw[h1];exact h2 s
theorem VX(hA:A.Ok)(s:List UInt8):tg (pU A) (go (pU A) 0 s)=tg A (go A 0 s):=by
 have:=If hA s (k:=0) ⟨by omega,by have:=(Dm hA).pos;omega⟩
 simp_all[aj1]
end
section
variable{A B:tX}
def QU(A B:tX)(q r:Int):Prop:=∀s,tg A (go A q s)=tg B (go B r s)
theorem QU.step{q r:Int}(h:QU A B q r)(b:Nat)(hb:b<256):QU A B (dt A q b) (dt B r b):=λs=>by
 have:=h (fV b::s);have e:(fV b).toNat=b:=by simp;omega
 simp_all[go]
theorem Ae(f:Nat->Nat)(q:Nat):val f (q:Int)=f q:=by rfl
end
abbrev Pr:=Int×Int
abbrev Step:=Pr×Int×Nat
def QX:Step:=((0,0),-1,0)
section
end
def back(todo:List Step):Nat->Nat->List UInt8
 |0,_=>[]
 |f+1,i=>if(todo.getD i QX).2.1<0 then []else fV (todo.getD i QX).2.2::back todo f (todo.getD i QX).2.1.toNat
section
end
end cz
namespace bZ
open Go.RowKit cL dQ
section
variable{α:Type}{s:wY α}{F:Nat->Prop}{vs:List Value}{S:List (List α)}{W:bP}{L:List b9}{w:World}
theorem Ig(h:(eo (bR s) F (vs.map λv=>[v]) S).holds w):vs.length=S.length:=by have:=h.1.1;rwa [eI]at this
theorem QY(h:(eo (bR s) F (vs.map λv=>[v]) S).holds w){q:Nat}(hq:q<S.length){v:Value}(hv:vs[q]?=aj v):kw s F w v S[q]:=by
 have hnv:q<vs.length:=(dX.1 hv).1;obtain⟨v',e,hs⟩:=h.1.2 q hq (by simp_all);rw[q9]at e;have h2:=(dX.1 hv).2;rw[h2]at e;rw[(Z5 e).1];exact hs
theorem aad(h:(eo (bR s) F (vs.map λv=>[v]) S).holds w){q:Nat}(hq:q<S.length){v:Value}(hv:vs[q]?=aj v):∃base cap,v= .slice base S[q].length cap/\S[q].length<=cap/\cap<=9223372036854775807/\(0<S[q].length->∃b off,base=aj ⟨b,off,ak⟩):=by
 obtain⟨base,cap,e,h1,h2,h3⟩:=QY h hq hv;exact⟨base,cap,e,h1,by unfold maxLen at h2;omega,λhn=>let ⟨b,off,h4,_⟩:=h3 hn;⟨b,off,h4⟩⟩
theorem Q0{f:α->List Value}{c:Nat}{hc:∀a,(f a).length=c}{p:α->Prop}(Gq:0<c){i:Nat}(hi:L[i]?=aj (eo (bR (zq f c hc p)) F (vs.map λv=>[v]) S)){q:Nat}(hq:q<S.length){v:Value}(hv:vs[q]?=aj v):SlL W L v S[q].length (S[q].flatMap f):=λ_ hm=>
 kw.flat Gq (QY (hm.get hi) hq hv)
end
open aV dO dR bI cz
def E9(c:bI.Item->Nat)(x:bI.Item):Value:=az aB (c x:Int)
def BB(c:bI.Item->Nat)(it:bI.Item)(x:bI.Item):Nat:=if x=it then c x+1 else c x
structure rT(c:bI.Item->Nat)(out:List bI.Item)(b:Nat):Prop where
 zero:∀x,c x=0↔x∉out
 le:∀x,c x<=b
theorem rT.put{c:bI.Item->Nat}{out:List bI.Item}{b:Nat}(h:rT c out b)(it:bI.Item):rT (BB c it) (more out it) (b+2):=by
 refine⟨λx=>?_,λx=>?_⟩
 ·unfold BB
  by_cases e:x=it
  ·subst e
   rw[if_pos I]
   constructor
   intro h;omega;intro h;exact absurd (uY.2 (.inr I)) h
  rw[if_neg e,h.zero x];rw[uY]
  constructor
  intro h1 h2;exact h2.elim h1 e;intro h1 h2;exact h1 (.inl h2)
 unfold BB;have:=h.le x;split<;>omega
def GU(g5 gm g6 b:Nat)(v:Value)(c:bI.Item->Nat)(out:List bI.Item):List b9:=
 [aR g5 #[.map (aj gm)] 270,qt JQ gm (az aB 0) (E9 c) b,aR g6 #[v] 226,a_ 231 3 v out.length (out.flatMap jj)]
theorem adr(x:bI.Item):∀u∈jj x,u.oneCell'=true:=by
 intro u hu;simp only[jj,dM,fz,or_false]at hu;rcases hu with rfl|rfl|rfl<;>rfl
theorem M0(g5 gm g6 b:Nat)(v:Value)(c:bI.Item->Nat)(out:List bI.Item)(it:bI.Item)(hit:JQ.ok it)(hp:rT c out b)(hb:b+2<=1152921504606846976)(ho:out.length+1<=1000000)(w:World)(B:bP)(hm:Mem B (GU g5 gm g6 b v c out) w):
 Calls aE 116 #[aQ (jj it).toArray,aK (aj ⟨g5,0,ak⟩),aK (aj ⟨g6,0,ak⟩)] w (cZ ⟨λ_=>True,λ_=> .tuple #[],λv'=>GU g5 gm g6 (b+2) v' (BB c it) (more out it)⟩ B):=by
 unfold GU at hm;have hle:=hp.le it;have hz:=hp.zero it;obtain⟨n,hn⟩:∃n,c it=n:=⟨_,rfl⟩;obtain⟨F,hF⟩:∃F,E9 c=F:=⟨_,rfl⟩;obtain⟨F',hF'⟩:∃F',E9 (BB c it)=F':=⟨_,rfl⟩;have hcv:F it=az aB (n:Int):=by rw[<-hF,<-hn];rfl
 have hF1:F' it=az aB ((n+1:Nat):Int):=by rw[<-hF',<-hn];show az .i64 ((BB c it it:Nat):Int)=_;unfold BB;rw[if_pos I]
 have tZ:∀y,JQ.ok y->F' y=if y=it then az aB ((n+1:Nat):Int)else F y:=λy _=>by
  rw[<-hF',<-hF,<-hn];show az .i64 ((BB c it y:Nat):Int)=if y=it then _ else az .i64 ((c y:Nat):Int)
  unfold BB
  by_cases e:y=it
  subst e;rw[if_pos I,if_pos I];rw[if_neg e,if_neg e]
 rw[hF]at hm;rw[hn]at hle hz;clear hp;refine du hm (args:=[aQ (jj it).toArray,aK (aj ⟨g5,0,ak⟩),aK (aj ⟨g6,0,ak⟩)]) (n:=18) Tryz.func116 I I I ?_;refine cB (bD (bL I I I λg3=>?_));refine zL ?_
 try refine GA ?_
 (repeat refine cB ?_)
 refine ml (ι:=Unit) (λ_=>True) (λ_=>[(1,aK (aj ⟨g5,0,ak⟩)),(2,aK (aj ⟨g6,0,ak⟩)),(3,aK (aj ⟨g3,0,ak⟩))]) (λ_=>[aR g5 #[.map (aj gm)] 270,qt JQ gm (az aB 0) F' (b+1+1),aR g6 #[v] 226,a_ 231 3 v out.length (out.flatMap jj),aR g3 (jj it).toArray 231]) ?_ ?_
 ·refine dH ([aR g5 #[.map (aj gm)] 270,aR g3 (jj it).toArray 231]) (.calm 0 (.calm 1 (.two 2 (.calm 3 (.one 4 (.calm 5 (.one 6 (.done))))) 4 (.calm 5 (.one 2 (.calm 3 (.one 6 (.done)))))))) (bV [0,4]) ?_
  repeat(first|refine GW ?_|(refine GN ?_;first|refine QW (aC (v:= .map (aj gm)) aL.ty I (aI (i:=0) I I)) ?_|refine QW (aP (i:=1) aL.ty I I I) ?_))
  refine eN I I ?_ ?_
  ·refine dm (Ea JQ bQ.eq nZ (i:=1) I I (x:=it) I hit hcv) I I I (aO (bV [0,4]) ?_)
   repeat(first|(refine GN ?_;first|refine QW QP ?_|refine QW (fl (r:=((n+1:Nat):Int)) I I J J J) ?_|refine GX ?_)|refine GW ?_)
   refine aM I (MJ JQ bQ.eq nZ (i:=1) I I (x:=it) I hit J I λst=>aO (bV [0,4]) ?_)
   try refine GW ?_
   refine aM I (H4 JQ F' bQ.eq (i:=1) I I I I hit J tZ (aO (bV [0,4]) ?_))
   try refine GW ?_
   exact eh () trivial (by repeat' (first|exact cV|refine cP I ?_)) I
  refine MJ JQ bQ.eq nZ (i:=1) I I (x:=it) I hit J I λst=>aO (bV [0,4]) ?_
  try refine GW ?_
  refine aM I (dm (ZT JQ bQ.eq nZ (i:=1) I I (x:=it) I hit hcv) I I I (aO (bV [0,4]) ?_))
  repeat(first|(refine GN ?_;first|refine QW QP ?_|refine QW (fl (r:=((n+1:Nat):Int)) I I J J J) ?_|refine GX ?_)|refine GW ?_)
  refine aM I (H4 JQ F' bQ.eq (i:=1) I I I I hit J tZ (aO (bV [0,4]) ?_))
  try refine GW ?_
  exact eh () trivial (by repeat' (first|exact cV|refine cP I ?_)) I
 rintro⟨⟩ _
 by_cases c1:it∈out
 ·have Y0:more out it=out:=if_pos c1
  rw[Y0];have hn0:n≠0:=λe=>hz.1 e c1;clear tZ hcv
  repeat(first|refine GC ?_|refine gV (aC (v:= .map (aj gm)) aL.ty I (aI (i:=0) I I)) ?_|refine gV (aP (i:=4) aL.ty I I I) ?_|refine gV (Ea JQ bQ.eq nZ (i:=1) I I (x:=it) I hit hF1) ?_|refine gV (cY (b:=aF) I I (decide_eq_false J)) ?_|refine GB ?_)
  exact lR I λw hm=>hm.b_ (S:=⟨λ(_:Value)=>True,λ_=> .tuple #[],λv'=>GU g5 gm g6 (b+2) v' (BB c it) out⟩) v trivial [0,1,2,3] aln (by unfold GU;rw[<-hF'];rfl)
 ·have Y0:more out it=out++[it]:=if_neg c1
  rw[Y0];have hn0:n=0:=hz.2 c1;clear tZ hcv
  repeat(first|refine GC ?_|refine gV (aC (v:= .map (aj gm)) aL.ty I (aI (i:=0) I I)) ?_|refine gV (aP (i:=4) aL.ty I I I) ?_|refine gV (Ea JQ bQ.eq nZ (i:=1) I I (x:=it) I hit hF1) ?_|refine gV (cY (b:=aD) I I (decide_eq_true J)) ?_|refine gV (aC (v:=v) aL.ty I (aI (i:=2) I I)) ?_|refine GB ?_)
  refine fw (cs:=(jj it).toArray) [aQ (jj it).toArray] I I I (by intro v hv;simp only[dM,fz,or_false]at hv;subst hv;rfl) I I I λg16=>?_;refine zL ?_;refine ee (i:=3) (e:=231) (size:=3) (bytes:=24) (m:=out.length) (xs:=out.flatMap jj) (k:=1) (ys:=jj it) I (kI (i:=5) I (λj u h=>by simpa using h) (bC 1) aln) I I I (adr it) J J I λv'=>?_;refine zL ?_;refine aX (i:=3) I λju l_=>?_;refine bJ (i:=2) I I I ju l_ I ?_;refine zL ?_
  try refine GA ?_
  exact lR I λw hm=>hm.b_ (S:=⟨λ(_:Value)=>True,λ_=> .tuple #[],λv'=>GU g5 gm g6 (b+2) v' (BB c it) (out++[it])⟩) v' trivial [0,1,2,3] aln (by unfold GU;rw[<-hF',ir,bK];rfl)
open Go.Shelf
def Q1:Go.Shelf.Ren:=⟨λ|6=>119|15=>135|14=>136|28=>156|29=>157|20=>158|21=>159|22=>160|23=>161|24=>162|25=>163|26=>164|27=>165|46=>174|47=>170|48=>171|49=>175|50=>176|57=>178|n=>n,λ|22=>226|24=>231|25=>275|3=>3|39=>234|0=>0|53=>315|55=>82|4=>4|46=>309|45=>308|50=>129|5=>5|9=>9|66=>324|70=>252|76=>331|77=>332|n=>n,λ|n=>n⟩
theorem aae:Go.Proofs.SlLaysF0.n6 aE Q1:={
 mixed:=by rfl
 f6:=⟨Tryz.f119.name,by rfl,Tryz.func119.trans (congrArg aj (by rfl))⟩
 f14:=⟨Tryz.f136.name,by rfl,Tryz.func136.trans (congrArg aj (by rfl))⟩
 f15:=Tryz.func135.trans (congrArg aj (by rfl))
 f20:=⟨Tryz.f158.name,by rfl,Tryz.func158.trans (congrArg aj (by rfl))⟩
 f21:=⟨Tryz.f159.name,by rfl,Tryz.func159.trans (congrArg aj (by rfl))⟩
 f22:=⟨Tryz.f160.name,by rfl,Tryz.func160.trans (congrArg aj (by rfl))⟩
 f23:=⟨Tryz.f161.name,by rfl,Tryz.func161.trans (congrArg aj (by rfl))⟩
 f24:=⟨Tryz.f162.name,by rfl,Tryz.func162.trans (congrArg aj (by rfl))⟩
 f25:=⟨Tryz.f163.name,by rfl,Tryz.func163.trans (congrArg aj (by rfl))⟩
 f26:=⟨Tryz.f164.name,by rfl,Tryz.func164.trans (congrArg aj (by rfl))⟩
 f27:=⟨Tryz.f165.name,by rfl,Tryz.func165.trans (congrArg aj (by rfl))⟩
 f28:=Tryz.func156.trans (congrArg aj (by rfl))
 f29:=Tryz.func157.trans (congrArg aj (by rfl))
 f46:=⟨Tryz.f174.name,by rfl,Tryz.func174.trans (congrArg aj (by rfl))⟩
 f47:=Tryz.func170.trans (congrArg aj (by rfl))
 f48:=Tryz.func171.trans (congrArg aj (by rfl))
 f49:=⟨Tryz.f175.name,by rfl,Tryz.func175.trans (congrArg aj (by rfl))⟩
 f50:=⟨Tryz.f176.name,by rfl,Tryz.func176.trans (congrArg aj (by rfl))⟩
 f57:=⟨Tryz.f178.name,by rfl,Tryz.func178.trans (congrArg aj (by rfl))⟩
 t0:=Tryz.underlying0
 a0:=Tryz.isAgg0
 z0:=Tryz.sizeOf0
 v0:=Tryz.zeroValue0
 t3:=Tryz.underlying3
 a3:=Tryz.isAgg3
 z3:=Tryz.sizeOf3
 v3:=Tryz.zeroValue3
 t4:=Tryz.underlying4
 a4:=Tryz.isAgg4
 z4:=Tryz.sizeOf4
 v4:=Tryz.zeroValue4
 t5:=Tryz.underlying5
 a5:=Tryz.isAgg5
 z5:=Tryz.sizeOf5
 v5:=Tryz.zeroValue5
 t9:=Tryz.underlying9
 a9:=Tryz.isAgg9
 z9:=Tryz.sizeOf9
 v9:=Tryz.zeroValue9
 t22:=Tryz.underlying226
 a22:=Tryz.isAgg226
 z22:=Tryz.sizeOf226
 v22:=Tryz.zeroValue226
 t25:=Tryz.underlying275
 a25:=Tryz.isAgg275
 z25:=Tryz.sizeOf275
 v25:=Tryz.zeroValue275
 t39:=Tryz.underlying234
 a39:=Tryz.isAgg234
 z39:=Tryz.sizeOf234
 v39:=Tryz.zeroValue234
 t45:=Tryz.underlying308
 a45:=Tryz.isAgg308
 z45:=Tryz.sizeOf308
 v45:=Tryz.zeroValue308
 t46:=Tryz.underlying309
 a46:=Tryz.isAgg309
 z46:=Tryz.sizeOf309
 v46:=Tryz.zeroValue309
 t50:=Tryz.underlying129
 a50:=Tryz.isAgg129
 z50:=Tryz.sizeOf129
 v50:=Tryz.zeroValue129
 t53:=Tryz.underlying315
 a53:=Tryz.isAgg315
 z53:=Tryz.sizeOf315
 v53:=Tryz.zeroValue315
 t55:=Tryz.underlying82
 a55:=Tryz.isAgg82
 z55:=Tryz.sizeOf82
 v55:=Tryz.zeroValue82
 t66:=Tryz.underlying324
 a66:=Tryz.isAgg324
 z66:=Tryz.sizeOf324
 v66:=Tryz.zeroValue324
 t70:=Tryz.underlying252
 a70:=Tryz.isAgg252
 z70:=Tryz.sizeOf252
 v70:=Tryz.zeroValue252
 t76:=Tryz.underlying331
 a76:=Tryz.isAgg331
 z76:=Tryz.sizeOf331
 v76:=Tryz.zeroValue331
 t77:=Tryz.underlying332
 a77:=Tryz.isAgg332
 z77:=Tryz.sizeOf332
 v77:=Tryz.zeroValue332}
end bZ
namespace bZ
open Go.RowKit cL dQ bI Go.Sort
theorem Q2(w:World)(n g:Nat)(d:Array Value)(os:Array Obj){k:Nat}(hk:k<w.heap.size)(hg:k≠g):(grow (putRow id (Go.Sort.ahead w n) g 0 d) os).heap[k]?=w.heap[k]?:=by
 rw[heap_grow_old _ _ (by rw[size_putRow];exact hk)];show(w.heap.modify g _)[k]?=w.heap[k]?
 rw[Eh,if_neg (λh=>hg h.symm)]
theorem aaf{B:bP}{w:World}{e:TypeId}{g cap m size:Nat}{xs:List Value}(hm:Mem B [a_ e size (av (aj ⟨g,0,ak⟩) m cap) m xs] w)(d:Array Value)(hd:d.size=m*size)(n:Nat)(os:Array Obj):
 Mem B [a_ e size (av (aj ⟨g,0,ak⟩) m cap) m d.toList] (grow (putRow id (Go.Sort.ahead w n) g 0 d) os):=by
 have ho:w.ownsRow 0 e size (av (aj ⟨g,0,ak⟩) m cap) m xs:=hm.get (i:=0) I;obtain⟨hl,hr⟩:=ho;rcases hr with⟨h,_⟩|⟨g2,QD,kU,hv,_,hg,hc,hx,hs,ht⟩
 ·cases h
 cases hv
 have MN:B.may g:=(hm.owns.all 0 _ I).2 g (.inl I);have hgw:g<w.heap.size:=(kC.1 hg).1;have ZW:(grow (putRow id (Go.Sort.ahead w n) g 0 d) os).heap[g]?=aj (.cells (putCells id 0 d kU) e (0,0)):=by
  rw[heap_grow_old _ _ (by rw[size_putRow];exact hgw)];show(w.heap.modify g (onCells (putCells id 0 d)))[g]?=_
  rw[Eh,if_pos I,hg];rfl
 have hle:m*size<=cap*size:=x8 _ hc;refine⟨⟨hm.low.os,hm.low.tape,hm.low.output,?_,λk hk hx=>?_⟩,eP.one ⟨?_,.inr ⟨g,cap,_,rfl,bH _,ZW,hc,hx,?_,?_⟩⟩ λk hk=>?_⟩
 ·rw[size_grow,size_putRow];exact fH hm.low.size (Nat.le_add_right _ _)
 ·have hkg:k≠g:=λe=>by
   subst e;rcases MN with h|h
   omega;exact hx h
  rw[Q2 w n g d os (kE hk hm.low.size) hkg];exact hm.low.block k hk hx
 ·rw[ul,hd]
 ·unfold putCells;rw[Array.size_mapIdx];exact hs
 ·apply mh
  intro j;rw[yv]
  by_cases hj:j<m*size
  ·have hjc:j<kU.size:=by omega
   rw[if_pos hj,q6,q6];unfold putCells;rw[Array.getElem?_mapIdx,yt hjc,Option.map_some,if_pos ⟨bH _,by omega⟩,E0,getElem!_pos d j J,yt (by omega:j<d.size)];rfl
  rw[if_neg hj,q6,Array.getElem?_eq_none J]
 ·rcases hk with h|h
  simp only[a_,Value.ownBlock,dL]at h;subst h;exact MN;exact h.elim
theorem agt:SWO (ltOf MB):=⟨Th,λ_ _ _ h1 h2=>agh h1 h2,λx y z h1 h2=>by
 have h1:Qs x y=false:=h1;have h2:Qs y z=false:=h2;show Qs x z=aF
 rw[Qt]at*;omega⟩
theorem Tw(l:List bI.Item):(flatK jj 3 l.toArray).toList=l.flatMap jj:=by
 have hL:(l.flatMap jj).length=l.length*3:=k_ l8 l;apply mh;intro t
 by_cases ht:t<l.length*3
 ·have hd:t/3<l.length:=by omega
  have h1:=get_flatK jj 3 l.toArray t (by simpa using ht);rw[getElem!_pos (flatK jj 3 l.toArray) t (by simpa using ht),getElem!_pos l.toArray (t/3) (by simpa using hd)]at h1;have h2:=uV (c:=3) (l.map jj) (λx hx=>by obtain⟨y,_,rfl⟩:=fG.1 hx;exact l8 y) (t/3) (t %3) (by simpa using hd) (x_ _ aln);rw[show t/3*3+t %3=t by omega,q9]at h2;rw[q6,yt (by simpa using ht),h1];show _=(l.map jj).flatten[t]?
  rw[h2];have h3:t %3<(jj l[t/3]).length:=by rw[l8];exact x_ _ aln
  rw[bM h3];simp only[List.getElem_toArray];rw[getElem!_pos (jj l[t/3]) (t %3) h3]
 rw[ta (by rw[ul,size_flatK];simp;omega),ta J]
theorem Q3{w:World}{e:TypeId}{g cap m size:Nat}{xs:List Value}(ho:w.ownsRow 0 e size (av (aj ⟨g,0,ak⟩) m cap) m xs)(d:Array Value)(hd:d.toList=xs):Holds id w g 0 d/\g<w.heap.size:=by
 obtain⟨hl,hr⟩:=ho;rcases hr with⟨h,_⟩|⟨g2,QD,kU,hv,_,hg,hc,hx,hs,ht⟩
 cases h
 cases hv
 refine⟨λj hj=>?_,(kC.1 hg).1⟩;have hle:m*size<=cap*size:=x8 _ hc;have hj2:j<xs.length:=by rw[<-hd];simpa using hj
 have hcj:kU[j]?=aj d[j]:=by
  have:=congrArg (λl=>l[j]?) ht;rw[yv,if_pos J,q6,<-hd,q6,yt hj]at this;exact this
 refine⟨?_,?_⟩;rw[cell_of_row w g (0+j) _ _ _ hg,cX,hcj,getElem!_pos d j hj];rfl;unfold World.frozen?;rw[hg];simp
def ads:Prop:=∀(x y:bI.Item) (w:World),Calls aE 120 #[aQ (jj x).toArray,aQ (jj y).toArray] w λe w'=>e= .returned (az aB (MB x y))/\∃q os',w'=grow (w.drewN q) os'
theorem adt(aj2:ads)(v:Value)(l:List bI.Item)(w:World)(B:bP)(hm:Mem B [a_ 231 3 v l.length (l.flatMap jj)] w)(hl:l.length<4611686018427387904):
 Calls aE 119 #[v,.func (.func 120) #[] #[]] w (cZ ⟨λ(_:Unit)=>True,λ_=> .tuple #[],λ_=>[a_ 231 3 v l.length ((vU l).flatMap jj)]⟩ B):=by
 have ho:w.ownsRow 0 231 3 v l.length (l.flatMap jj):=hm.get (i:=0) I;have CP:=ho;rcases ho.2 with⟨rfl,h0⟩|⟨g,cap,kU,rfl,_,hg,hc,hx,hs,ht⟩
 ·obtain rfl:l=[]:=List.length_eq_zero_iff.1 h0
  refine(AnyF.slices_SortFunc_none aae ak 0 _ w).mono λe w' ⟨he,hw⟩=>⟨(),trivial,he,?_⟩;rw[hw];exact(by simpa[vU]using hm)
 ·obtain⟨h1,h2⟩:=Q3 CP (flatK jj 3 l.toArray) (Tw l)
  have aj3:CmpLays aE 120 #[] jj 3 MB g 0 l.toArray.size w:=λm os dk _ x y=>by
   have h:=aj2 x y (sortWorldK jj 3 w g 0 m dk os)
   simpa using h
  have h:=AnyQ.slices_SortFunc_total aae 3 Tryz.isAgg231 Tryz.sizeOf231 jj l8 (λx v hv=>by simp only[jj,dM,fz,or_false]at hv;rcases hv with rfl|rfl|rfl<;>rfl) MB agt 120 #[] g 0 cap l.toArray w aJ.en aj3 h1 h2 (by simpa using hl) Vx;have hz:l.toArray.size=l.length:=by simp
  rw[hz]at h;refine h.mono λe w' ⟨he,n,os,hw⟩=>⟨(),trivial,he,?_⟩;have hlen:(vU l).length=l.length:=MD l;have hq:=aaf hm (flatK jj 3 (vU l).toArray) (by rw[size_flatK];simp[hlen]) n os;rw[Tw]at hq;rw[hw];exact hq
end bZ
namespace bZ
open Go.RowKit cL dQ aV dO dR bI cz
def SlB(B:bP)(v:Value)(n:Nat)(xs:List Value):Prop:=
 ∃base cap,v=av base n cap/\n<=cap/\cap<=maxLen/\(0<n->∃b off,base=aj ⟨b,off,ak⟩/\Bw B b/\Rd B.w b off xs)
theorem Tz{l:List aV.Prod}{w0:World}{W:bP}{vb:Nat->Value}{k dn:Nat}{x:Option Nat}{bb:Option Addr}{cc m:Nat}(ho:mI w0 W)(hv:VD (λq=>q<w0.heap.size) w0 vb l)(hk:k<=l.length)(hx:x.isSome=decide (k=l.length))(hb:adf vb k x=av bb m cc)(hd:dn<(fQ l (k:Int)).length):
 ∃b off,bb=aj ⟨b,off,ak⟩/\∀(L:List b9) (i:Nat),L[i]?=aj (Bv x)->∀j u,(eu (fQ l (k:Int))[dn])[j]?=aj u->At W L ⟨b,off+dn*2+j,ak⟩ u:=by
 cases x with
 |some g=>
  have hk:k=l.length:=by simpa using hx
  subst hk;have e:fQ l (l.length:Int)=[(2,0)]:=by unfold fQ;rw[if_pos I]
  have hb:av (aj ⟨g,0,ak⟩) 1 1=av bb m cc:=hb
  cases hb
  refine⟨g,0,rfl,λL i hi j u hj=>?_⟩;have hd0:dn=0:=by rw[e]at hd;simpa using hd
  subst hd0;simp only[e,List.getElem_cons_zero]at hj;rw[show 0+0*2+j=j by omega];exact aI hi (by simpa[eu]using hj)
 | none=>
  have o8:k<l.length:=by
   have:¬k=l.length:=by simpa using hx
   omega
  have e:fQ l (k:Int)=(df l (k:Int)).2:=by unfold fQ;rw[if_neg J]
  have hs:=(hv k o8).flat (f:=eu) aln;have hb:vb k=av bb m cc:=hb;rw[hb]at hs;obtain⟨base,cap,h1,_,_,h3⟩:=hs
  cases h1
  have Ya:dn<(df l (k:Int)).2.length:=by rw[<-e];exact hd
  obtain⟨b,off,rfl,hr⟩:=h3 J;refine⟨b,off,rfl,λL i _ j u hj=>?_⟩;simp only[e]at hj;exact uR (W:=W) (L:=L) EV (off:=off) (λq y hq=>iX ho (hr q y hq)) Ya j u hj
theorem VY(g:ep){it:bI.Item}(h:it.2.2.toNat<64):vV (kS g) it<18446744073709551616:=by
 have h1:kS g it.1 it.2.1<18446744073709551616:=Tl aln;unfold vV;split;exact Nat.or_lt_two_pow (n:=64) (Nat.xor_lt_two_pow (n:=64) h1 aln) (Ej aln h);exact h1
theorem yL{i bits:Nat}{out:List bI.Item}:∀k,(fL i bits out k).length<=out.length+k
 |0=>bC _
 |k+1=>by
  rw[fL];have:=yL (i:=i) (bits:=bits) (out:=out) k;have h2:(more (fL i bits out k) ((i:Int),0,(k:Int))).length<=(fL i bits out k).length+1:=by unfold more;split<;>simp
  split<;>omega
theorem E_{l:List aV.Prod}{T:Nat}{N:Int}{bits:Nat}{out:List bI.Item}:∀i,(fM l T N bits out i).length<=out.length+i*(T+1)
 |0=>by rw[Nat.zero_mul];exact bC _
 |i+1=>by
  rw[fM,Nat.succ_mul];have:=E_ (l:=l) (T:=T) (N:=N) (bits:=bits) (out:=out) i;have h2:=yL (i:=i) (bits:=bits) (out:=fM l T N bits out i) (T+1);split<;>omega
theorem Dn{L:List b9}{is:List Nat}{o:b9}(h:o∈is.filterMap λi=>L[i]?):o∈L:=by
 obtain⟨i,_,hi⟩:=QM.1 h;exact mL hi
def opL(g:ep)(bp:Option Addr)(cp go gm:Nat)(f:RK->Option Value)(c:Nat):List b9:=[aR go (Cj g.aT g.bx (av bp g.aH.length cp) gm).toArray 268,fv jo gm f c]
theorem Fa{κ:Type}[DecidableEq κ]:∀(l D:List κ),(dU D l).length<=D.length+l.length
 |[],D=>by simp[dU]
 |k::r,D=>by
  rw[dU];have:=Fa r (if k∈D then D else D++[k]);have h2:(if k∈D then D else D++[k]).length<=D.length+1:=by split<;>simp
  rw[dj];omega
theorem aag{l:List aV.Prod}{T:Nat}{x:bI.Item}(h:eK l T x)(hl:l.length<=40)(hw:∀q∈l,q.2.length<=8)(hT:T<=30):JQ.ok x:=by
 obtain⟨a1,a2,a3,a4,a5,a6⟩:=h;have:=mS (l:=l) (p:=x.1) hw;exact⟨⟨by omega,by omega⟩,⟨by omega,by omega⟩,by omega,by omega⟩
def wm(g:ep)(T:Nat)(l0:List bI.Item)(bp:Option Addr)(cp go gm c:Nat):Spec ((RK->Option Value)×Nat×Value):=
 ⟨λx=>kh (kS g) x.1/\x.2.1<=c+12000,λx=>x.2.2,λx=>opL g bp cp go gm x.1 x.2.1++[a_ 231 3 x.2.2 (kg g.aH T (kS g) l0).length ((kg g.aH T (kS g) l0).flatMap jj)]⟩
theorem aie{i j:Nat}(hi:i<=1000)(hj:j<=1000):JQ.ok ((i:Int),0,(j:Int)):=by
 show(-9223372036854775808<=(i:Int)/\(i:Int)<=9223372036854775807)/\(-9223372036854775808<=(0:Int)/\(0:Int)<=9223372036854775807)/\(-9223372036854775808<=(j:Int)/\(j:Int)<=9223372036854775807)
 omega
theorem Ih(a c:Int)(w:World):(dg 231 #[(0,az aB a),(2,az aB c)]).run aE w= .ok (aQ #[az aB a,az aB 0,az aB c]) w:=by kernel_rfl
attribute [local irreducible] Op.shift Go.bits in
theorem wo(g:ep)(hg:cC g=0)(bp:Option Addr)(cp:Nat)(vb:Nat->Value)(w0:World)(hG:kK (λq=>q<w0.heap.size) w0 (dP g.aT g.bx (av bp g.aH.length cp)) g)(AN:VD (λq=>q<w0.heap.size) w0 vb g.aH)(oM:0<g.aH.length->∃b off,bp=aj ⟨b,off,ak⟩/\∀i,i<g.aH.length->Rd w0 b (off+i*2) [az aB (df g.aH (i:Int)).1,vb i])
 (go gm c:Nat) (f:RK->Option Value) (T:Nat) (J7:g.aT=(T:Int)) (hT:T<=30) (l0:List bI.Item) (vl:Value) (h0:∀x∈l0,eK g.aH T x) (hl0:l0.length<=20000) (hc:kh (kS g) f) (hcc:c<=900000000000000) (w:World) (B:bP) (ho:mI w0 B) (hvl:SlB B vl l0.length (l0.flatMap jj))
 (hm:Mem B (opL g bp cp go gm f c) w):
 Calls aE 90 #[aK (aj ⟨go,0,ak⟩),vl] w (cZ (wm g T l0 bp cp go gm c) B):=by
 obtain⟨-,-,-,-,Af,hgb⟩:=cU hg;have Ii:∀q∈g.aH,q.2.length<=8:=λq hq=>(hgb q hq).1;have M3:=λg5 VZ g6 b v cn out it hit hp hb hn w' B' qu=>M0 g5 VZ g6 b v cn out it hit hp hb hn w' B' qu;unfold opL at hm;obtain⟨bl,cl,rfl,o9,zo,JU⟩:=hvl;unfold maxLen at zo;refine du hm (args:=[aK (aj ⟨go,0,ak⟩),av bl l0.length cl]) (n:=117) Tryz.func90 I I I ?_
 try refine GA ?_
 refine acS JQ (z:=az aB 0) I λVZ=>?_;refine zL ?_
 try refine GA ?_
 refine a8 I λg5=>?_;refine zL ?_;refine bJ (i:=3) I I I I I I ?_;refine zL ?_
 try refine GA ?_
 refine a8 I λg6=>?_;refine zL ?_
 repeat(first|refine GA ?_|refine gV (sO I I) ?_)
 conv=>arg 7;simp only[zA,zB,zC,zD,zE,zF,zG,zH,zI,cD,ret,id_eq]
 refine mP (a_ 231 3 (av ak 0 0) 0 []) (λk hk=>hk.elim (λh=>by cases h) id) (λw=>⟨by decide,.inl ⟨rfl,rfl⟩⟩) ?_;refine tW [0,1,3,2,4,5] ?_
 conv=>arg 7;simp only[zA,zB,zC,zD,zE,zF,zG,zH,zI,cD,ret,id_eq]
 refine d_ (ι:=Nat×Value×(bI.Item->Nat)) (λ(j,_,cn)=>j<=l0.length/\rT cn (dU [] (l0.take j)) (2*j)) (λ(j,_,_)=>[(0,aK (aj ⟨go,0,ak⟩)),(6,aK (aj ⟨g6,0,ak⟩)),(7,.func (.func 116) #[] #[aK (aj ⟨g5,0,ak⟩),aK (aj ⟨g6,0,ak⟩)]),(18,av bl l0.length cl),(19,az aB (l0.length:Int)),(20,az aB (j:Int))])
  (λ(j,v,cn)=>[aR go (Cj g.aT g.bx (av bp g.aH.length cp) gm).toArray 268,fv jo gm f c]++GU g5 VZ g6 (2*j) v cn (dU [] (l0.take j))) (λ(j,_,_)=>l0.length-j) (0,av ak 0 0,λ_=>0) ⟨bH _,⟨λx=>by simp[dU],λx=>bH _⟩⟩ ?_
 rintro⟨j,v,cn⟩ ⟨j1,j2⟩;dsimp only at j1 j2⊢
 by_cases c1:j<l0.length
 ·obtain⟨b,off,rfl,GP,OP⟩:=JU J
  have dy:=λL=>uR (W:=B) (L:=L) l8 (off:=off) (λq u hq=>s_ GP OP q u hq) c1;have V0:=h0 l0[j] (cH c1);have hxo:=aag V0 Af Ii hT;have Hm:(dU [] (l0.take j)).length<=j:=fH (Fa _ _) (by rw[iv,jz];omega);have tZ:more (dU [] (l0.take j)) l0[j]=dU [] (l0.take (j+1)):=by rw[gv c1,lg]
  have GV:=j2.put l0[j];rw[tZ]at GV;have M3:=λw' B' qu=>M3 g5 VZ g6 (2*j) v cn (dU [] (l0.take j)) l0[j] hxo j2 J J w' B' qu;rw[tZ]at M3;generalize dU [] (l0.take j)=out at*;generalize hoq:dU [] (l0.take (j+1))=aif at*;generalize l0[j]=x at*
  repeat(first|refine GA ?_|refine gV (aZ bQ.eq aL.ty I I c1) ?_|refine gV (aY aL.ty I (l8 x) (dy _)) ?_)
  refine a8 I λg9=>?_;refine zL ?_;refine gG 6 (cs':=(jj x).toArray) ?_;refine zL ?_
  repeat(first|refine GA ?_|refine gV (aP (i:=6) aL.ty I I I) ?_)
  refine bz [2,3,4,5] [0,1,6] aln I I (CO aJ.en I I) (λw hm hb=>M3 w _ hb) I I I ?_;intro v' _;refine zL ?_
  try refine GA ?_
  refine dv [0,1,3,4,5,6] ?_;exact bW (j+1,v',BB cn x) ⟨by show j+1<=l0.length;omega,by show rT _ (dU [] (l0.take (j+1))) _;rw[hoq];exact GV⟩ (by show l0.length-(j+1)<l0.length-j;omega) (hl:=by dsimp only;rw[hoq];rfl)
 ·obtain rfl:j=l0.length:=by omega
  rw[mW]at j2;have ue:(dU [] l0).length<=20000:=fH (Fa _ _) (by rw[iv];omega);clear JU
  try refine GA ?_
  conv=>arg 7;simp only[zA,zB,zC,zD,zE,zF,zG,zH,zI,cD,ret,id_eq,mW,GU,kD,e7]
  refine d_ (ι:=Nat×List bI.Item×(RK->Option Value)×Nat×Value×(bI.Item->Nat)×Nat) (λ(n,out,f',c',_,cn',b)=>WkI g.aH T (kS g) l0 n out/\tN g.aH T (kS g) (12000-n) n out=tN g.aH T (kS g) 12000 0 (dU [] l0)/\kh (kS g) f'/\c'<=c+n/\rT cn' out b/\b<=40000+2480*n)
   (λ(n,_,_,_,_,_,_)=>[(0,aK (aj ⟨go,0,ak⟩)),(6,aK (aj ⟨g6,0,ak⟩)),(7,.func (.func 116) #[] #[aK (aj ⟨g5,0,ak⟩),aK (aj ⟨g6,0,ak⟩)]),(10,az aB (n:Int))])
   (λ(_,out,f',c',v',cn',b)=>[aR go (Cj g.aT g.bx (av bp g.aH.length cp) gm).toArray 268,fv jo gm f' c',aR g5 #[.map (aj VZ)] 270,qt JQ VZ (az aB 0) (E9 cn') b,aR g6 #[v'] 226,a_ 231 3 v' out.length (out.flatMap jj)]) (λ(n,_)=>12000-n) (0,dU [] l0,f,c,v,cn,2*l0.length) ⟨EO l0,rfl,hc,bC _,j2,by omega⟩ ?_
  rintro⟨n,out,f',c',v',cn',b⟩ ⟨i1,i2,i3,i4,i5,i6⟩;dsimp only at i1 i2 i3 i4 i5 i6⊢;have J8:=Bt Ii Af hT i1.nd λx hx=>zW h0 (i1.cl x hx);refine iR (i:=5) I gJ λgK=>?_;obtain⟨bv,cv,rfl,-,HU⟩:=gK
  by_cases c2:n<out.length
  ·obtain⟨gz,rfl⟩:=HU J
   have jU:=i1.cl out[n] (cH c2);have hxr:=zW h0 jU;have dy:=λ(L:List b9) (i:Nat) (hL:L[i]?=aj (a_ 231 3 (av (aj ⟨gz,0,ak⟩) out.length cv) out.length (out.flatMap jj)))=>pz (W:=B) l8 hL c2;have hwx:tN g.aH T (kS g) (12000-(n+1)) (n+1) (vW g.aH T (kS g) out[n] out)=tN g.aH T (kS g) 12000 0 (dU [] l0):=by
    rw[<-i2,show 12000-n=(12000-(n+1))+1 by omega,tN,if_pos c2,de,bM c2];rfl
   have hwk:=Ti i1 c2;clear i2 jU;generalize hxx:out[n]=x at*;obtain⟨p,d,lo⟩:=x;have agu:=hxr;obtain⟨r1,r2,r3,r4,r5,r6⟩:=agu;dsimp only at r1 r2 r3 r4 r5 r6;obtain⟨k,rfl⟩:=gU r1;obtain⟨dn,rfl⟩:=gU r3;obtain⟨ln,rfl⟩:=gU r5;have hk:k<=g.aH.length:=by omega
   have H5:=λw' (qu:Mem B [] w')=>s7 g.aT g.bx bp cp g.aH vb w0 w' B k hk ho qu (λi hi=>let ⟨b,c,h,_⟩:=AN i hi;⟨b,_,c,h⟩) oM
   repeat(first|refine GC ?_|refine gV (aC (v:=av (aj ⟨gz,0,ak⟩) out.length cv) aL.ty I (aI (i:=4) I I)) ?_|refine gV (e_ (i:=5) bQ.eq I I) ?_|refine GB ?_)
   refine dH ([aR go (Cj g.aT g.bx (av bp g.aH.length cp) gm).toArray 268,aR g6 #[av (aj ⟨gz,0,ak⟩) out.length cv] 226,a_ 231 3 (av (aj ⟨gz,0,ak⟩) out.length cv) out.length (out.flatMap jj)]) (.calm 0 (.calm 1 (.calm 2 (.calm 3 (.calm 4 (.calm 5 (.calm 6 (.calm 7 (.calm 8 (.one 9 (.calm 10 (.done)))))))))))) (bV [0,4,5]) ?_
   repeat(first|refine GW ?_|(refine GN ?_;first|refine QW (aY aL.ty I (cs:=[az aB g.aT,az aB g.bx,av bp g.aH.length cp]) I (λj v h=>aI (i:=0) I (JR h))) ?_|refine QW (aC (v:=av (aj ⟨gz,0,ak⟩) out.length cv) aL.ty I (aI (i:=1) I I)) ?_|refine QW (aZ bQ.eq aL.ty I I c2) ?_|refine QW (aC (v:=az aB (k:Int)) aL.ty I (dy _ 2 I 0 _ I)) ?_))
   refine aM I ?_;refine aU (fC aJ.en I I I) (λw hm=>H5 _ (hm.pick [] aln I)) I I I ?_;rintro xb hxb
   conv=>arg 8;simp only[zJ,cD,ret,id_eq,z8]
   conv=>arg 7;simp only[z8]
   obtain⟨bb,cc,hbv,hlc,-⟩:=Aa (W:=B) (i:=6) (L:=[aR go (Cj g.aT g.bx (av bp g.aH.length cp) gm).toArray 268,fv jo gm f' c',aR g5 #[.map (aj VZ)] 270,qt JQ VZ (az aB 0) (E9 cn') b,aR g6 #[av (aj ⟨gz,0,ak⟩) out.length cv] 226,a_ 231 3 (av (aj ⟨gz,0,ak⟩) out.length cv) out.length (out.flatMap jj),Bv xb]) ho AN hk hxb rfl;have rQ:=λ(L:List b9) (i:Nat) (hi:L[i]?=aj (Bv xb))=>(Aa (W:=B) (L:=L) ho AN hk hxb hi);rw[hbv]at rQ⊢;have hb8:=mS (l:=g.aH) (p:=(k:Int)) Ii;refine aO (bV [0,4,5]) ?_
   try refine GW ?_
   clear H5
   by_cases c3:dn=(fQ g.aH (k:Int)).length
   ·repeat(first|refine GC ?_|refine gV (aC (v:=av (aj ⟨gz,0,ak⟩) out.length cv) aL.ty I (aI (i:=4) I I)) ?_|refine gV (aZ bQ.eq aL.ty I I c2) ?_|refine gV (aC (v:=az aB (dn:Int)) aL.ty I (dy _ 5 I 1 _ I)) ?_|refine gV (cY (b:=aD) I I (decide_eq_true J)) ?_|refine GB ?_)
    have V1:vW g.aH T (kS g) ((k:Int),(dn:Int),(ln:Int)) out=out:=by
     unfold vW qK;dsimp only;rw[dD,ta J]
    rw[V1]at hwk hwx;refine dv [0,1,2,3,4,5] ?_;exact bW (n+1,out,f',c',av (aj ⟨gz,0,ak⟩) out.length cv,cn',b) ⟨hwk,hwx,i3,by show c'<=c+(n+1);omega,i5,by show b<=40000+2480*(n+1);omega⟩ (by show 12000-(n+1)<12000-n;omega)
   have hlt:dn<(fQ g.aH (k:Int)).length:=by omega
   obtain⟨b2,o2,rfl,hba⟩:=Tz ho AN hk hxb hbv hlt;have tZ:qK g.aH ((k:Int),(dn:Int),(ln:Int))=aj (fQ g.aH (k:Int))[dn]:=by
    unfold qK;dsimp only;rw[dD,bM hlt]
   generalize hyy:(fQ g.aH (k:Int))[dn]=y at*;obtain⟨yk,yn⟩:=y
   by_cases c4:yk=2
   ·subst c4
    have V1:vW g.aH T (kS g) ((k:Int),(dn:Int),(ln:Int)) out=fM g.aH T yn (vV (kS g) ((k:Int),(dn:Int),(ln:Int))) out g.aH.length:=by
     unfold vW;rw[tZ];dsimp only;rw[if_pos I]
    rw[V1]at hwk hwx
    repeat(first|refine GC ?_|refine gV (aC (v:=av (aj ⟨gz,0,ak⟩) out.length cv) aL.ty I (aI (i:=4) I I)) ?_|refine gV (aZ bQ.eq aL.ty I I c2) ?_|refine gV (aZ bQ.eq aL.ty I I hlt) ?_|refine gV (aC (v:=az aB (dn:Int)) aL.ty I (dy _ 5 I 1 _ I)) ?_|refine gV (cY (b:=aF) I I (decide_eq_false J)) ?_|refine gV (aC (v:=az aB 2) aL.ty I (hba _ 6 I 0 _ I)) ?_|refine gV (dc (b:=aF) I I (decide_eq_false (λh=>h I))) ?_|refine gV (aY (cs:=jj ((k:Int),(dn:Int),(ln:Int))) aL.ty I I (dy _ 5 I)) ?_|refine GB ?_)
    refine bz [0,1] [2,3,4,5,6] aln I I (fC aJ.en I I I) (λw hm hb=>ML g hg bp cp vb w0 hG AN oM go gm c' f' ((k:Int),(dn:Int),(ln:Int)) T hT hxr (by dsimp only;rw[dD];exact hlt) i3 J w _ (ho.on hm λo h=>Dn h) hb) I I I ?_;rintro⟨f2,M4⟩ ⟨Xk,agv⟩;dsimp only at Xk agv;refine zL ?_;have akY:=VY g (it:=((k:Int),(dn:Int),(ln:Int))) (by show((ln:Int)).toNat<64;omega);generalize vV (kS g) ((k:Int),(dn:Int),(ln:Int))=bits at*
    repeat(first|refine GA ?_|refine gV (aC (v:=av bp g.aH.length cp) aL.ty I (aI (i:=5) I I)) ?_)
    refine tW [5,6,0,1,2,3,4] ?_
    conv=>arg 7;simp only[zA,zB,zC,zD,zE,zF,zG,zH,zI,cD,ret,id_eq]
    refine d_ (ι:=Nat×Value×(bI.Item->Nat)×Nat) (λ(i,_,cn2,b3)=>i<=g.aH.length/\rT cn2 (fM g.aH T yn bits out i) b3/\b3<=b+62*i)
     (λ(i,_,_,_)=>[(0,aK (aj ⟨go,0,ak⟩)),(6,aK (aj ⟨g6,0,ak⟩)),(7,.func (.func 116) #[] #[aK (aj ⟨g5,0,ak⟩),aK (aj ⟨g6,0,ak⟩)]),(10,az aB (n:Int)),(11,av (aj ⟨b2,o2,ak⟩) (fQ g.aH (k:Int)).length cc),(12,ie bits),(74,av bp g.aH.length cp),(75,az aB (g.aH.length:Int)),(76,az aB (i:Int))])
     (λ(i,v2,cn2,b3)=>[aR go (Cj g.aT g.bx (av bp g.aH.length cp) gm).toArray 268,fv jo gm f2 M4,aR g5 #[.map (aj VZ)] 270,qt JQ VZ (az aB 0) (E9 cn2) b3,aR g6 #[v2] 226,a_ 231 3 v2 (fM g.aH T yn bits out i).length ((fM g.aH T yn bits out i).flatMap jj),Bv xb]) (λ(i,_)=>g.aH.length-i) (0,av (aj ⟨gz,0,ak⟩) out.length cv,cn',b) ⟨bH _,i5,by omega⟩ ?_
    rintro⟨i,v2,cn2,b3⟩ ⟨p1,p2,p3⟩;dsimp only at p1 p2 p3⊢
    by_cases c5:i<g.aH.length
    ·obtain⟨E,hE⟩:=vZ (l:=g.aH) (T:=T) yn bits out i
     have Hm:=E_ (l:=g.aH) (T:=T) (N:=yn) (bits:=bits) (out:=out) i;have GY:fM g.aH T yn bits out (i+1)=if(df g.aH (i:Int)).1=yn then fL i bits (fM g.aH T yn bits out i) (T+1)else fM g.aH T yn bits out i:=rfl
     have akZ:i*(T+1)<=40*31:=Nat.mul_le_mul J J;generalize hou:fM g.aH T yn bits out i=ou at*;have hno:n<ou.length:=by rw[hE,bK];omega
     have hox:ou[n]=((k:Int),(dn:Int),(ln:Int)):=by
      subst hE;rw[List.getElem_append_left c2];exact hxx
     refine iR (i:=5) I gJ λgK=>?_;obtain⟨bv2,cv2,rfl,-,aj4⟩:=gK;obtain⟨gz2,rfl⟩:=aj4 J;have q_:=λ(L:List b9) (i:Nat) (hL:L[i]?=aj (a_ 231 3 (av (aj ⟨gz2,0,ak⟩) ou.length cv2) ou.length (ou.flatMap jj)))=>pz (W:=B) l8 hL hno;rw[hox]at q_;obtain⟨pb,po,rfl,hpr⟩:=oM J;have hpi:=hpr i c5;have hvo:(vb i).oneCell'=true:=ada (AN i c5);generalize hhd:(df g.aH (i:Int)).1=hd at*;generalize vb i=vbi at hpi hvo
     repeat(first|refine GA ?_|refine gV (aZ bQ.eq aL.ty I I c5) ?_|refine gV (aY aL.ty I (cs:=[az aB hd,vbi]) I (λj v h=>iX ho (hpi j v h))) ?_)
     refine a8 I λg14=>?_;refine zL ?_
     try refine GA ?_
     refine aW (i:=7) (cs':=#[az aB hd,vbi]) I I I I (by simp only[c_,db,hvo];rfl) I ?_;refine zL ?_
     try refine GA ?_
     refine dH ([aR g14 #[az aB hd,vbi] 149,aR g6 #[av (aj ⟨gz2,0,ak⟩) ou.length cv2] 226,a_ 231 3 (av (aj ⟨gz2,0,ak⟩) ou.length cv2) ou.length (ou.flatMap jj),Bv xb]) (.calm 0 (.calm 1 (.calm 2 (.calm 3 (.calm 4 (.calm 5 (.calm 6 (.calm 7 (.calm 8 (.calm 9 (.calm 10 (.calm 11 (.done))))))))))))) (bV [7,4,5,6]) ?_
     by_cases c6:hd=yn
     ·rw[if_pos c6]at GY
      repeat(first|(refine GN ?_;first|refine QW QP ?_|refine QW (aC (v:=az aB hd) aL.ty I (aI (i:=0) I I)) ?_|refine QW (aC (v:=av (aj ⟨gz2,0,ak⟩) ou.length cv2) aL.ty I (aI (i:=1) I I)) ?_|refine QW (aZ bQ.eq aL.ty I I hno) ?_|refine QW (aC (v:=az aB (dn:Int)) aL.ty I (q_ _ 2 I 1 _ I)) ?_|refine QW (aZ bQ.eq aL.ty I I hlt) ?_|refine QW (aC (v:=az aB yn) aL.ty I (hba _ 3 I 1 _ I)) ?_|refine QW (dc (b:=aF) I I (decide_eq_false (λh=>h c6))) ?_|refine GX ?_)|refine GW ?_)
      repeat(first|refine GC ?_|refine gV (aC (v:=az aB g.aT) aL.ty I (aI (i:=0) I I)) ?_|refine gV (fl (r:=((T+1:Nat):Int)) I I J J J) ?_|refine GB ?_)
      refine tW [0,1,2,3,4,5,6] ?_
      conv=>arg 7;simp only[zA,zB,zC,zD,zE,zF,zG,zH,zI,cD,ret,id_eq]
      refine d_ (ι:=Nat×Value×(bI.Item->Nat)×Nat) (λ(j,_,cn3,b4)=>j<=T+1/\rT cn3 (fL i bits ou j) b4/\b4<=b3+2*j)
       (λ(j,_,_,_)=>[(0,aK (aj ⟨go,0,ak⟩)),(6,aK (aj ⟨g6,0,ak⟩)),(7,.func (.func 116) #[] #[aK (aj ⟨g5,0,ak⟩),aK (aj ⟨g6,0,ak⟩)]),(10,az aB (n:Int)),(11,av (aj ⟨b2,o2,ak⟩) (fQ g.aH (k:Int)).length cc),(12,ie bits),(13,az aB (i:Int)),(74,av (aj ⟨pb,po,ak⟩) g.aH.length cp),(75,az aB (g.aH.length:Int)),(76,az aB (i:Int)),(98,az aB ((T+1:Nat):Int)),(99,az aB (j:Int))])
       (λ(j,v3,cn3,b4)=>[aR go (Cj g.aT g.bx (av (aj ⟨pb,po,ak⟩) g.aH.length cp) gm).toArray 268,fv jo gm f2 M4,aR g5 #[.map (aj VZ)] 270,qt JQ VZ (az aB 0) (E9 cn3) b4,aR g6 #[v3] 226,a_ 231 3 v3 (fL i bits ou j).length ((fL i bits ou j).flatMap jj),Bv xb]) (λ(j,_)=>T+1-j) (0,av (aj ⟨gz2,0,ak⟩) ou.length cv2,cn2,b3) ⟨bH _,p2,by omega⟩ ?_
      rintro⟨j,v3,cn3,b4⟩ ⟨s1,s2,s3⟩;dsimp only at s1 s2 s3⊢
      by_cases c7:j<T+1
      ·have ak0:=yL (i:=i) (bits:=bits) (out:=ou) j
       have V2:fL i bits ou (j+1)=if bits.testBit j=aD then more (fL i bits ou j) ((i:Int),0,(j:Int))else fL i bits ou j:=rfl
       have GV:=s2.put ((i:Int),0,(j:Int));have hdv:bits/2^j<=bits:=Ek _ _;have ha1:=agm (y:=bits/2^j) J;have zu:∀w,(iN .shr .u64 (bits:Int) .i64 (j:Int)).run aE w= .ok (.int .u64 ((bits/2^j:Nat):Int)) w:=λw=>ZU bits j 64 .u64 .i64 I J w;have H5:=z_ bits j;generalize hol:fL i bits ou j=ol at*;generalize bits/2^j=D1 at*
       by_cases c8:bits.testBit j=aD
       ·rw[if_pos c8]at V2
        have GP:D1 %2=1:=by rw[c8]at H5;simpa using H5
        repeat(first|refine GC ?_|refine gV (px I I zu) ?_|refine gV (nB I I ha1) ?_|refine gV (cY (b:=aD) I I (decide_eq_true J)) ?_|refine gV (bB I (Ih _ _)) ?_|refine GB ?_)
        refine bz [2,3,4,5] [0,1,6] aln I I (CO aJ.en I I) (λw hm hb=>M3 g5 VZ g6 b4 v3 cn3 ol ((i:Int),0,(j:Int)) (aie J J) s2 J J w _ hb) I I I ?_;intro v4 _
        conv=>arg 8;simp only[zJ,cD,ret,id_eq,GU]
        try refine GA ?_
        refine dv [0,1,3,4,5,6,2] ?_;exact bW (j+1,v4,BB cn3 ((i:Int),0,(j:Int)),b4+2) ⟨by show j+1<=T+1;omega,by show rT _ (fL i bits ou (j+1)) _;rw[V2];exact GV,by show b4+2<=b3+2*(j+1);omega⟩ (by show T+1-(j+1)<T+1-j;omega) (hl:=by dsimp only;rw[V2];rfl)
       rw[if_neg c8]at V2;have GP:¬D1 %2=1:=by rw[wg.2 c8]at H5;simpa using H5
       repeat(first|refine GC ?_|refine gV (px I I zu) ?_|refine gV (nB I I ha1) ?_|refine gV (cY (b:=aF) I I (decide_eq_false J)) ?_|refine GB ?_)
       exact bW (j+1,v3,cn3,b4) ⟨by show j+1<=T+1;omega,by show rT _ (fL i bits ou (j+1)) _;rw[V2];exact s2,by show b4<=b3+2*(j+1);omega⟩ (by show T+1-(j+1)<T+1-j;omega) (hl:=by dsimp only;rw[V2])
      obtain rfl:j=T+1:=by omega
      try refine GA ?_
      exact bW (i+1,v3,cn3,b4) ⟨by show i+1<=g.aH.length;omega,by show rT cn3 (fM g.aH T yn bits out (i+1)) b4;rw[GY];exact s2,by show b4<=b+62*(i+1);omega⟩ (by show g.aH.length-(i+1)<g.aH.length-i;omega) (hl:=by dsimp only;rw[GY])
     rw[if_neg c6]at GY
     repeat(first|(refine GN ?_;first|refine QW QP ?_|refine QW (aC (v:=az aB hd) aL.ty I (aI (i:=0) I I)) ?_|refine QW (aC (v:=av (aj ⟨gz2,0,ak⟩) ou.length cv2) aL.ty I (aI (i:=1) I I)) ?_|refine QW (aZ bQ.eq aL.ty I I hno) ?_|refine QW (aC (v:=az aB (dn:Int)) aL.ty I (q_ _ 2 I 1 _ I)) ?_|refine QW (aZ bQ.eq aL.ty I I hlt) ?_|refine QW (aC (v:=az aB yn) aL.ty I (hba _ 3 I 1 _ I)) ?_|refine QW (dc (b:=aD) I I (decide_eq_true c6)) ?_|refine GX ?_)|refine GW ?_)
     try refine GA ?_
     refine dv [0,1,2,3,4,5,6] ?_;exact bW (i+1,av (aj ⟨gz2,0,ak⟩) ou.length cv2,cn2,b3) ⟨by show i+1<=g.aH.length;omega,by show rT cn2 (fM g.aH T yn bits out (i+1)) b3;rw[GY];exact p2,by show b3<=b+62*(i+1);omega⟩ (by show g.aH.length-(i+1)<g.aH.length-i;omega) (hl:=by dsimp only;rw[GY];rfl)
    obtain rfl:i=g.aH.length:=by omega
    try refine GA ?_
    refine dv [0,1,2,3,4,5] ?_;exact bW (n+1,fM g.aH T yn bits out g.aH.length,f2,M4,v2,cn2,b3) ⟨hwk,hwx,Xk,by show M4<=c+(n+1);omega,p2,by show b3<=40000+2480*(n+1);omega⟩ (by show 12000-(n+1)<12000-n;omega)
   repeat(first|refine GC ?_|refine gV (aC (v:=av (aj ⟨gz,0,ak⟩) out.length cv) aL.ty I (aI (i:=4) I I)) ?_|refine gV (aZ bQ.eq aL.ty I I c2) ?_|refine gV (aZ bQ.eq aL.ty I I hlt) ?_|refine gV (aC (v:=az aB (dn:Int)) aL.ty I (dy _ 5 I 1 _ I)) ?_|refine gV (cY (b:=aF) I I (decide_eq_false J)) ?_|refine gV (aC (v:=az aB yk) aL.ty I (hba _ 6 I 0 _ I)) ?_|refine gV (dc (b:=aD) I I (decide_eq_true c4)) ?_|refine GB ?_)
   have V1:vW g.aH T (kS g) ((k:Int),(dn:Int),(ln:Int)) out=out:=by
    unfold vW;rw[tZ];dsimp only;rw[if_neg c4]
   rw[V1]at hwk hwx;refine dv [0,1,2,3,4,5] ?_;exact bW (n+1,out,f',c',av (aj ⟨gz,0,ak⟩) out.length cv,cn',b) ⟨hwk,hwx,i3,by show c'<=c+(n+1);omega,i5,by show b<=40000+2480*(n+1);omega⟩ (by show 12000-(n+1)<12000-n;omega)
  have hn:n=out.length:=by have:=i1.le;omega
  have hR:tN g.aH T (kS g) 12000 0 (dU [] l0)=out:=by
   rw[<-i2,show 12000-n=(11999-n)+1 by omega,tN,if_neg c2]
  have hcI:kg g.aH T (kS g) l0=vU out:=by unfold kg;rw[hR]
  repeat(first|refine GA ?_|refine gV (aC (v:=av bv out.length cv) aL.ty I (aI (i:=4) I I)) ?_)
  refine bz [5] [0,1,2,3,4] aln I I (fC aJ.en I I I) (λw hm hb=>adt adh (av bv out.length cv) out w _ hb J) I I I ?_;intro _ _;refine zL ?_
  repeat(first|refine GA ?_|refine gV (aC (v:=av bv out.length cv) aL.ty I (aI (i:=4) I I)) ?_)
  exact cJ I I λw hm=>hm.b_ (S:=wm g T l0 bp cp go gm c) (f',c',av bv out.length cv) ⟨i3,by show c'<=c+12000;omega⟩ [0,1,5] aln (by unfold wm opL;dsimp only;rw[hcI,MD];rfl)
theorem SlB.row{W:bP}{L Lx:List b9}{w:World}(hm:Mem W L w){i n size:Nat}{e:TypeId}{v:Value}{xs:List Value}(hi:L[i]?=aj (a_ e size v n xs))(is:List Nat)(hL:Lx=is.filterMap λi=>L[i]?)(hni:i∉is):SlB (bP.on w Lx) v n xs:=by
 have hh:(a_ e size v n xs).holds w:=hm.get hi;obtain⟨base,cap,rfl,h1,h2,h3⟩:=Sl.dx hh;refine⟨base,cap,rfl,h1,h2,λhn=>?_⟩;obtain⟨b,off,rfl,hr⟩:=h3 hn;have hf:(a_ e size (av (aj ⟨b,off,ak⟩) n cap) n xs).fy b:=by
  rcases(show w.ownsRow 0 e size _ n xs from hh).2 with⟨hv,_⟩|⟨g,cp,kU,hv,_⟩
  cases hv
  cases hv;exact .inl I
 refine⟨b,off,rfl,⟨(a_ e size _ n xs).lt w hh b hf,?_⟩,hr⟩;rintro⟨o,ho,hfo⟩;subst hL;obtain⟨j,hj,SA⟩:=QM.1 ho;exact hm.owns.apart i j _ _ (λh=>hni (h▸hj)) hi SA b hf hfo
theorem SlB.at{B:bP}{L:List b9}{α:Type}{f:α->List Value}{c:Nat}(hc:∀a,(f a).length=c){base:Option Addr}{cap n:Nat}{l:List α}(h:SlB B (av base n cap) n (l.flatMap f))(hn:0<n):∃b off,base=aj ⟨b,off,ak⟩/\∀(k:Nat) (hk:k<l.length) (j:Nat) (u:Value),(f l[k])[j]?=aj u->At B L ⟨b,off+k*c+j,ak⟩ u:=by
 obtain⟨M5,A3,h0,h1,h2,h3⟩:=h
 cases h0
 obtain⟨b,off,rfl,ho,hr⟩:=h3 hn;exact⟨b,off,rfl,λk hk j u hj=>uR (W:=B) (L:=L) hc (off:=off) (λq y hq=>s_ ho hr q y hq) hk j u hj⟩
theorem V3{l:List aV.Prod}{s:List bI.Item}{x:dw}{k:Nat}(h:k<s.length):mT l (s.take (k+1)) x=if qK l s[k]=aj x then mT l (s.take k) x++[ade s[k]]else mT l (s.take k) x:=by
 unfold mT;rw[gv h,List.filter_append,eZ]
 by_cases c:qK l s[k]=aj x
 rw[if_pos c,List.filter_cons_of_pos (by simpa using c)];rfl;rw[if_neg c,List.filter_cons_of_neg (by simpa using c)];simp
theorem M6{l:List aV.Prod}{s:List bI.Item}{x:dw}:(mT l s x).length<=s.length:=by
 unfold mT;rw[eI];exact List.length_filter_le _ _
theorem J9(g:ep)(hg:cC g=0)(bp:Option Addr)(cp:Nat)(vb:Nat->Value)(w0:World)(hG:kK (λq=>q<w0.heap.size) w0 (dP g.aT g.bx (av bp g.aH.length cp)) g)(AN:VD (λq=>q<w0.heap.size) w0 vb g.aH)(oM:0<g.aH.length->∃b off,bp=aj ⟨b,off,ak⟩/\∀i,i<g.aH.length->Rd w0 b (off+i*2) [az aB (df g.aH (i:Int)).1,vb i])
 (go gm c:Nat) (f:RK->Option Value) (T:Nat) (J7:g.aT=(T:Int)) (hT:T<=30) (s:List bI.Item) (x:dw) (vl:Value) (h0:∀it∈s,eK g.aH T it) (hl0:s.length<=20000) (hc:kh (kS g) f) (hcc:c<=900000000000000) (w:World) (B:bP) (ho:mI w0 B) (hvl:SlB B vl s.length (s.flatMap jj))
 (hm:Mem B (opL g bp cp go gm f c) w):
 Calls aE 92 #[aK (aj ⟨go,0,ak⟩),vl,aQ (eu x).toArray] w (cZ (wm g T (mT g.aH s x) bp cp go gm c) B):=by
 have jU:=λv h2 h3 w' B' LK xE qu=>wo g hg bp cp vb w0 hG AN oM go gm c f T J7 hT (mT g.aH s x) v h2 h3 hc hcc w' B' LK xE qu;have hol:=M6 (l:=g.aH) (s:=s) (x:=x);have Lr:=lq (l:=g.aH) (T:=T) (x:=x) h0;obtain⟨bl,cl,rfl,o9,zo,JU⟩:=id hvl;clear JU;unfold maxLen at zo;unfold opL at hm;refine du hm (args:=[aK (aj ⟨go,0,ak⟩),av bl s.length cl,aQ (eu x).toArray]) (n:=50) Tryz.func92 I I I ?_;refine cB (bD (bL I I I λg5=>?_));refine zL ?_
 try refine GA ?_
 refine iz 231 3 ?_
 conv=>arg 7;simp only[zA,zB,zC,zD,zE,zF,zG,zH,zI,cD,ret,id_eq]
 refine d_ (ι:=Nat×Value) (λ(k,_)=>k<=s.length) (λ(k,v)=>[(0,aK (aj ⟨go,0,ak⟩)),(5,aK (aj ⟨g5,0,ak⟩)),(7,v),(11,av bl s.length cl),(12,az aB s.length),(13,az aB (k:Int))])
  (λ(k,v)=>[aR go (Cj g.aT g.bx (av bp g.aH.length cp) gm).toArray 268,fv jo gm f c,aR g5 (eu x).toArray 182,a_ 231 3 v (mT g.aH (s.take k) x).length ((mT g.aH (s.take k) x).flatMap jj)]) (λ(k,_)=>s.length-k) (0,av ak 0 0) (bH _) ?_
 rintro⟨k,v⟩ i1;dsimp only at i1⊢
 by_cases c1:k<s.length
 ·obtain⟨b,off,rfl,dy⟩:=hvl.at (L:=[]) l8 J
  have EX:∀(L:List b9) (j:Nat) (u:Value),(jj s[k])[j]?=aj u->At B L ⟨b,off+k*3+j,ak⟩ u:=λL=>by
   obtain⟨b',zz,he,h⟩:=hvl.at (L:=L) l8 J
   cases he
   exact h k c1
  clear dy;have hxr:=h0 s[k] (cH c1);have tZ:=V3 (l:=g.aH) (x:=x) c1;have xI:(mT g.aH (s.take k) x).length<=20000:=fH M6 (by rw[jz];omega);generalize mT g.aH (s.take k) x=ov at*;generalize GY:mT g.aH (s.take (k+1)) x=ov' at*;clear jU Lr hol;generalize s[k]=it at*;obtain⟨p,d,lo⟩:=it;have agu:=hxr;obtain⟨r1,r2,r3,r4,r5,r6⟩:=agu;dsimp only at r1 r2 r3 r4 r5 r6;obtain⟨kn,rfl⟩:=gU r1;obtain⟨dn,rfl⟩:=gU r3;obtain⟨ln,rfl⟩:=gU r5;have hk:kn<=g.aH.length:=by omega
  have H5:=λw' (qu:Mem B [] w')=>s7 g.aT g.bx bp cp g.aH vb w0 w' B kn hk ho qu (λi hi=>let ⟨b,c,h,_⟩:=AN i hi;⟨b,_,c,h⟩) oM;have Ii:∀q∈g.aH,q.2.length<=8:=λq hq=>((cU hg).2.2.2.2.2 q hq).1;have hb8:=mS (l:=g.aH) (p:=(kn:Int)) Ii
  repeat(first|refine GA ?_|refine gV (aZ bQ.eq aL.ty I I c1) ?_|refine gV (aY (cs:=jj ((kn:Int),(dn:Int),(ln:Int))) aL.ty I I (EX _)) ?_)
  refine a8 I λg9=>?_;refine zL ?_;refine gG 4 (cs':=(jj ((kn:Int),(dn:Int),(ln:Int))).toArray) ?_;refine zL ?_
  try refine GA ?_
  refine dH ([aR go (Cj g.aT g.bx (av bp g.aH.length cp) gm).toArray 268,aR g9 (jj ((kn:Int),(dn:Int),(ln:Int))).toArray 231]) (.calm 0 (.calm 1 (.calm 2 (.calm 3 (.calm 4 (.calm 5 (.one 6 (.calm 7 (.done))))))))) (bV [0,4]) ?_
  repeat(first|refine GW ?_|(refine GN ?_;first|refine QW (aY aL.ty I (cs:=[az aB g.aT,az aB g.bx,av bp g.aH.length cp]) I (λj v h=>aI (i:=0) I (JR h))) ?_|refine QW (aC (v:=az aB (kn:Int)) aL.ty I (aI (i:=1) I I)) ?_))
  refine aM I ?_;refine aU (fC aJ.en I I I) (λw hm=>H5 _ (hm.pick [] aln I)) I I I ?_;rintro xb hxb
  conv=>arg 8;simp only[zJ,cD,ret,id_eq,z8]
  conv=>arg 7;simp only[z8]
  obtain⟨bb,cc,hbv,hlc,-⟩:=Aa (W:=B) (i:=5) (L:=[aR go (Cj g.aT g.bx (av bp g.aH.length cp) gm).toArray 268,fv jo gm f c,aR g5 (eu x).toArray 182,a_ 231 3 v ov.length (ov.flatMap jj),aR g9 (jj ((kn:Int),(dn:Int),(ln:Int))).toArray 231,Bv xb]) ho AN hk hxb rfl;rw[hbv];refine aO (bV [0,4]) ?_
  try refine GW ?_
  clear H5
  by_cases c2:dn<(fQ g.aH (kn:Int)).length
  ·obtain⟨b2,o2,rfl,hba⟩:=Tz ho AN hk hxb hbv c2
   have hns:qK g.aH ((kn:Int),(dn:Int),(ln:Int))=aj (fQ g.aH (kn:Int))[dn]:=by
    unfold qK;dsimp only;rw[dD,bM c2]
   have Jc:=λw=>Zw (fQ g.aH (kn:Int))[dn] x w;generalize (fQ g.aH (kn:Int))[dn]=y at*;rw[hns]at tZ
   try refine GA ?_
   refine dH ([aR g5 (eu x).toArray 182,aR g9 (jj ((kn:Int),(dn:Int),(ln:Int))).toArray 231,Bv xb]) (.calm 0 (.calm 1 (.calm 2 (.calm 3 (.calm 4 (.calm 5 (.calm 6 (.calm 7 (.calm 8 (.calm 9 (.calm 10 (.calm 11 (.calm 12 (.calm 13 (.done))))))))))))))) (bV [2,4,5]) ?_
   by_cases c3:y=x
   ·subst c3
    rw[if_pos I]at tZ;rw[decide_eq_true I]at Jc
    repeat(first|(refine GN ?_;first|refine QW QP ?_|refine QW (aC (v:=az aB (dn:Int)) aL.ty I (aI (i:=1) I I)) ?_|refine QW (aZ bQ.eq aL.ty I I c2) ?_|refine QW (aY (cs:=eu y) aL.ty I I (hba _ 2 I)) ?_|refine QW (aP (i:=0) aL.ty I I I) ?_|refine QW (D6 I I (by kernel_rfl) Jc) ?_|refine GX ?_)|refine GW ?_)
    repeat(first|refine GA ?_|refine gV (aC (v:=az aB (dn:Int)) aL.ty I (aI (i:=4) I I)) ?_)
    refine bJ (i:=4) I I I I I I ?_;refine zL ?_
    repeat(first|refine GA ?_|refine gV (aP (i:=4) aL.ty I I I) ?_)
    refine jR (i:=3) I I I I I I I (λz h=>by cases h;rfl) J J I λz v'=>?_;refine zL ?_
    try refine GA ?_
    refine dv [0,1,2,3] ?_;exact bW (k+1,v') (by show k+1<=s.length;omega) (by show s.length-(k+1)<s.length-k;omega) (hl:=by dsimp only;rw[GY,tZ,bK,ir];rfl)
   rw[if_neg (λh=>c3 (sE h))]at tZ;rw[decide_eq_false c3]at Jc
   repeat(first|(refine GN ?_;first|refine QW QP ?_|refine QW (aC (v:=az aB (dn:Int)) aL.ty I (aI (i:=1) I I)) ?_|refine QW (aZ bQ.eq aL.ty I I c2) ?_|refine QW (aY (cs:=eu y) aL.ty I I (hba _ 2 I)) ?_|refine QW (aP (i:=0) aL.ty I I I) ?_|refine QW (D6 I I (by kernel_rfl) Jc) ?_|refine GX ?_)|refine GW ?_)
   try refine GA ?_
   refine dv [0,1,2,3] ?_;exact bW (k+1,v) (by show k+1<=s.length;omega) (by show s.length-(k+1)<s.length-k;omega) (hl:=by dsimp only;rw[GY,tZ];rfl)
  have hns:qK g.aH ((kn:Int),(dn:Int),(ln:Int))=none:=by
   unfold qK;dsimp only;rw[dD,ta J]
  rw[hns,if_neg (λh=>by cases h)]at tZ
  try refine GA ?_
  refine dH ([aR g5 (eu x).toArray 182,aR g9 (jj ((kn:Int),(dn:Int),(ln:Int))).toArray 231,Bv xb]) (.calm 0 (.calm 1 (.calm 2 (.calm 3 (.calm 4 (.calm 5 (.calm 6 (.calm 7 (.calm 8 (.calm 9 (.calm 10 (.calm 11 (.calm 12 (.calm 13 (.done))))))))))))))) (bV [2,4,5]) ?_
  repeat(first|refine GW ?_|(refine GN ?_;first|refine QW (aC (v:=az aB (dn:Int)) aL.ty I (aI (i:=1) I I)) ?_))
  try refine GA ?_
  refine dv [0,1,2,3] ?_;exact bW (k+1,v) (by show k+1<=s.length;omega) (by show s.length-(k+1)<s.length-k;omega) (hl:=by dsimp only;rw[GY,tZ];rfl)
 ·obtain rfl:k=s.length:=by omega
  rw[mW]
  try refine GA ?_
  refine bz [0,1] [2,3] aln I I (fC aJ.en I I I) (λw hm hb=>jU v Lr J w _ (ho.on hm λo h=>Dn h) (SlB.row hm (i:=3) I [0,1] I aln) hb) I I I ?_;rintro⟨f2,c2,v2⟩ ⟨Xk,agv⟩
  conv=>arg 8;simp only[zJ,cD,ret,id_eq,wm,opL]
  conv=>arg 7;simp only[wm]
  try refine GA ?_
  exact cJ I I λw hm=>hm.b_ (S:=wm g T (mT g.aH s x) bp cp go gm c) (f2,c2,v2) ⟨Xk,agv⟩ [2,3,4] aln I
def jS(g:ep):List (List Int)×List (List bI.Item)×Int:=if cC g≠0 then([],[],cC g)else match allI g.aH g.aT.toNat g.bx.toNat (kS g)with
 |some (Nx,S)=>(Nx,S,0)
 |none=>([],[],8)
def adu(g:ep):Spec (Value×Value×List Value×(Nat->Prop)×List Value×(Nat->Prop)):=⟨λ_=>True,λx=> .tuple #[aQ #[x.1,x.2.1],az aB (jS g).2.2],λx=>[a_ 226 1 x.1 (jS g).2.1.length x.2.2.1,eo (bR J3) x.2.2.2.1 (x.2.2.1.map λv=>[v]) (jS g).2.1,a_ 26 1 x.2.1 (jS g).1.length x.2.2.2.2.1,eo (bR fP) x.2.2.2.2.2 (x.2.2.2.2.1.map λv=>[v]) (jS g).1]⟩
theorem M7(w:World):(dg 157 (#[]:Array (Nat×Value))).run aE w= .ok (aQ #[av ak 0 0,av ak 0 0]) w:=by kernel_rfl
theorem wq{l:List aV.Prod}{T:Nat}{s:List bI.Item}(hw:∀q∈l,q.2.length<=8)(hl:l.length<=40)(hT:T<=30)(h:∀it∈s,eK l T it):w9 s:=λit hit=>by
 obtain⟨a1,a2,a3,a4,a5,a6⟩:=h it hit;have:=mS (l:=l) (p:=it.1) hw;omega
theorem SlB.els{W:bP}{L Lx:List b9}{w:World}(hm:Mem W L w){i n:Nat}{F:Nat->Prop}{w_:List Value}{S:List (List bI.Item)}(hi:L[i]?=aj (eo (bR J3) F (w_.map λv=>[v]) S))(is:List Nat)(hL:Lx=is.filterMap λi=>L[i]?)(hni:i∉is){s:List bI.Item}(hs:S[n]?=aj s){v:Value}(hv:w_[n]?=aj v):SlB (bP.on w Lx) v s.length (s.flatMap jj):=by
 obtain⟨hn,rfl⟩:=dX.1 hs;obtain⟨⟨h1,h2⟩,h3⟩:=hm.get hi;have hnv:n<w_.length:=(dX.1 hv).1;obtain⟨v',e,hs⟩:=h2 n hn (by rw[eI];exact hnv);rw[q9]at e;obtain rfl:v=v':=by
  have:=(dX.1 hv).2;rw[this]at e;exact(Z5 e).1
 obtain⟨base,cap,rfl,a1,a2,a3⟩:=hs;refine⟨base,cap,rfl,a1,a2,λh0=>?_⟩;obtain⟨b,off,rfl,hF,_⟩:=a3 h0;have ue:=kw.flat (f:=jj) (c:=3) (hc:=λ_=>rfl) (p:=λ_=>True) (F:=F) aln (⟨aj ⟨b,off,ak⟩,cap,rfl,a1,a2,a3⟩:kw J3 F w _ S[n]);obtain⟨M5,A3,e',_,_,q⟩:=ue;obtain⟨b',zz,e2,hr⟩:=q h0
 cases e'
 cases e2
 refine⟨b,off,rfl,⟨h3 b hF,?_⟩,hr⟩;rintro⟨o,ho,hfo⟩;subst hL;obtain⟨j,hj,SA⟩:=QM.1 ho;exact hm.owns.apart i j _ _ (λh=>hni (h▸hj)) hi SA b (.inr hF) hfo
theorem aah{a b c k:Nat}(h1:a<=b+12000)(h2:b<=c+12000*k):a<=c+12000*(k+1):=by rw[Nat.mul_succ,<-kF];exact fH h1 (Nat.add_le_add_right h2 _)
theorem Fb:∀(l:List Value),(l.map λv=>[v]).flatten=l
 |[]=>rfl
 |v::l=>by rw[ff,List.flatten_cons,Fb l];rfl
theorem Cn{w:World}{v:Value}{l:List Int}(hp:∀x∈l,cL.dV x)(h:(a_ 3 1 v l.length (l.map (az .i64))).holds w):(bR fP).is (λk=>v.ownBlock=aj k) w [v] l:=
 ⟨v,rfl,kw.of_flat (by have:=Sl.dx h;rwa [show l.map (az .i64)=l.flatMap (λn=>[az .i64 n])by rw[List.map_eq_flatMap]]at this) hp (λ_ h=>h) (λa n cp hv=>by rw[hv];rfl)⟩
theorem V4(v:Value)(g:ep)(w:World)(hG:kK (λk=>k<w.heap.size) w v g):
 Calls aE 50 #[v] w (bX (adu g) w):=by
 have hG0:=hG;have iH:=λw' (hg:Gr w w')=>ke v g w' (hG.gr hg);obtain⟨vp,rfl,hp,ht,hn⟩:=hG;obtain⟨vb,bp,cp,rfl,-,-,AN,oM⟩:=ZR hp;have A7:=JS g.aT g.bx (av bp g.aH.length cp);have A5:=M7;have hO:jS g=if cC g≠0 then([],[],cC g)else match allI g.aH g.aT.toNat g.bx.toNat (kS g)with
  |some (Nx,S)=>(Nx,S,0)
  |none=>([],[],8):=rfl
 unfold adu;refine enter (args:=[dP g.aT g.bx (av bp g.aH.length cp)]) (n:=81) Tryz.func50 I I I ?_;refine cB (bD (bL I I I λg1=>?_));refine zL ?_
 try refine GA ?_
 refine a8 I λg2=>?_;refine zL ?_
 repeat(first|refine GA ?_|refine gV (aP (i:=0) aL.ty I I I) ?_)
 refine aU (ja aJ.en I I) (λw hm=>iH w hm.below) I I I ?_;intro _ _;refine zL ?_
 by_cases c0:cC g=0
 ·rw[if_neg (by rw[c0];simp)]at hO
  rw[c0];obtain⟨hT1,hT2,hN1,YT,Af,hgb⟩:=cU c0;have Ii:∀q∈g.aH,q.2.length<=8:=λq hq=>(hgb q hq).1;obtain⟨T,J7⟩:∃T:Nat,g.aT=(T:Int):=⟨g.aT.toNat,by omega⟩;obtain⟨N,hNn⟩:∃N:Nat,g.bx=(N:Int):=⟨g.bx.toNat,by omega⟩;rw[show g.aT.toNat=T by omega,show g.bx.toNat=N by omega]at hO;have hT:T<=30:=by omega
  have aih:0<g.aH.length->∃b off,bp=aj ⟨b,off,ak⟩/\∀i,i<g.aH.length->Rd w b (off+i*2) [az aB (df g.aH (i:Int)).1,vb i]:=λh=>let ⟨b,off,h1,_,h3⟩:=oM h;⟨b,off,h1,λi hi=>(h3 i hi).1⟩
  have jU:=λgo gm l0 vl h1 h2 w' B' LK xE qu=>wo g c0 bp cp vb w hG0 AN aih go gm 0 (λ_=>ak) T J7 hT l0 vl h1 h2 (λx v h=>by cases h) J w' B' LK xE qu;have hst:=λgo gm c f s x vl h1 h2 h3 h4 w' B' LK xE qu=>J9 g c0 bp cp vb w hG0 AN aih go gm c f T J7 hT s x vl h1 h2 h3 h4 w' B' LK xE qu;have Lu:=GQ T N J J (av bp g.aH.length cp)
  repeat(first|refine GA ?_|refine gV (aP (i:=0) aL.ty I I I) ?_)
  refine aU (ja aJ.en I I) (λw hm=>A7 w) I I I ?_;rintro⟨go,gm⟩ _
  conv=>arg 8;simp only[zJ,cD,ret,id_eq,adi]
  conv=>arg 7;simp only[adi]
  try refine GA ?_
  refine Bh (K:=iD) I λgq=>?_;refine zL ?_
  try refine GA ?_
  refine a8 I λg6=>?_;refine zL ?_;refine bJ (i:=5) I I I I I I ?_;refine zL ?_
  try refine GA ?_
  refine a8 I λg7=>?_;refine zL ?_
  repeat(first|refine GA ?_|refine gV (sO I I) ?_|refine gV (aC (v:=av bp g.aH.length cp) aL.ty I (aI (i:=0) I I)) ?_|refine gV (aC (v:=az aB g.aT) aL.ty I (aI (i:=0) I I)) ?_|refine gV (bB I (Ih _ _)) ?_)
  refine fO (cs:=(jj ((g.aH.length:Int),0,g.aT)).toArray) I I I I I λg33=>?_;refine zL ?_;refine zk (i:=7) (m:=1) 3 I I aln ?_;refine zL ?_;have Xl:∀x∈[(((g.aH.length:Int),0,g.aT):bI.Item)],eK g.aH T x:=by rw[J7];exact iI Af hT
  try refine GA ?_
  refine bz [3,2] [0,1,4,5,6] aln I I (fC aJ.en I I I) (λw' hm hb=>jU go gm [((g.aH.length:Int),0,g.aT)] _ Xl (by simp) w' _ ((mI.self w).on hm λo h=>Dn h) (SlB.row hm (i:=7) I [3,2] I aln) hb) I I I ?_;rintro⟨f2,c2,v2⟩ ⟨Xk,zo⟩
  conv=>arg 8;simp only[zJ,cD,ret,id_eq,wm,opL]
  conv=>arg 7;simp only[wm]
  have yq:kg g.aH T (kS g) [((g.aH.length:Int),0,g.aT)]=nI g.aH T (kS g):=by rw[J7];rfl
  rw[yq];have agw:∀it∈nI g.aH T (kS g),eK g.aH T it:=jm Ii Af hT (iI Af hT);have aii:=v7 (lk:=kS g) Ii Af hT (l0:=[((g.aH.length:Int),0,(T:Int))]) (iI Af hT);have aij:(nI g.aH T (kS g)).length<=11439:=sZ Ii Af hT (iI Af hT);dsimp only at Xk zo;refine rD 226 1 ?_;refine LV (eo (bR J3) (λ_=>False) [] []) (λk hk=>hk.elim (λh=>by cases h) id) (λw=>jM) ?_;refine zL ?_;have hsm:=wq Ii Af hT agw;have zu:jC [] (nI g.aH T (kS g))=(0,[nI g.aH T (kS g)]):=if_neg (by simp)
  try refine GA ?_
  refine bz [3,2,4,8,9,7] [0,1,5,6] aln I I (CO aJ.en I I) (λw' hm hb=>Ck g6 gq g7 (av ak 0 0) (av ak 0 0) [] (λ_=>False) [] v2 (nI g.aH T (kS g)) (λt h=>by cases h) hsm (by simp) J w' _ hb) I I I ?_;rintro⟨vS,w_,F⟩ _
  conv=>arg 8;simp only[zJ,cD,ret,id_eq,stL]
  rw[zu];dsimp only;refine rD 26 1 ?_;refine LV (eo (bR fP) (λ_=>False) [] []) (λk hk=>hk.elim (λh=>by cases h) id) (λw=>jM) ?_;refine zL ?_
  try refine GA ?_
  refine d_ (ι:=Nat×List (List bI.Item)×List (List Int)×(RK->Option Value)×Nat×Value×Value×List Value×(Nat->Prop)×List Value×(Nat->Prop))
   (λ(n,S,Nx,f,c,_,_,_,_,_,_)=>n<=S.length/\Nx.length=n/\JO g.aH T (kS g) S/\S.length<=200/\xH g.aH T N (kS g) (202-n) n Nx S=allI g.aH T N (kS g)/\kh (kS g) f/\c<=12000+1200000*n/\∀t∈S,t.length<=11439)
   (λ(n,_,_,_,_,_,_,_,_,_,_)=>[(1,aK (aj ⟨g1,0,ak⟩)),(2,aK (aj ⟨g2,0,ak⟩)),(5,aK (aj ⟨go,0,ak⟩)),(7,aK (aj ⟨g7,0,ak⟩)),(8,.func (.func 88) #[] #[aK (aj ⟨g6,0,ak⟩),aK (aj ⟨g7,0,ak⟩)]),(9,az aB (n:Int))])
   (λ(_,S,Nx,f,c,vS,vN,w_,F,Co,G)=>[aR g1 (dP g.aT g.bx (av bp g.aH.length cp)).cells 33,aR g2 #[av ak 0 0,av ak 0 0] 157,aR go (Cj g.aT g.bx (av bp g.aH.length cp) gm).toArray 268,fv jo gm f c,aR g6 #[.map (aj gq)] 126,fv iD gq (lp (S.map iJ)) S.length,aR g7 #[vS,vN] 157,a_ 226 1 vS S.length w_,eo (bR J3) F (w_.map λv=>[v]) S,a_ 26 1 vN Nx.length Co,eo (bR fP) G (Co.map λv=>[v]) Nx]) (λ(n,_,_,_,_,_,_,_,_,_,_)=>202-n)
   (0,[nI g.aH T (kS g)],[],f2,c2,vS,av ak 0 0,w_,F,[],λ_=>False) ⟨bH _,rfl,⟨by simp,λs hs=>by rw[eV.1 hs];exact agw,λs hs=>by rw[eV.1 hs];exact aii⟩,by simp,rfl,Xk,by omega,λt ht=>by rw[eV.1 ht];exact aij⟩ ?_
  clear jU agw aii aij hsm zu Xk zo Xl yq A7 iH;rintro⟨n,S,Nx,f,c,vS,vN,w_,F,Co,G⟩ ⟨i1,i2,i3,i4,i5,i6,i7,i8⟩;dsimp only at i1 i2 i3 i4 i5 i6 i7 i8⊢;refine iR (i:=7) I gJ λgK=>?_;obtain⟨aS,cS,rfl,-,haS⟩:=gK
  by_cases c1:n<S.length
  ·rw[show 202-n=(201-n)+1 by omega,xH,if_pos c1]at i5
   have hgd:S.getD n []=S[n]:=by rw[de,bM c1];rfl
   rw[hgd]at i5;have Xl:=i3.right S[n] (cH c1);have hsn:S[n]?=aj S[n]:=bM c1;generalize W_:S[n]=s0 at*;have hyl:(mU T N).length=T+N:=zY T N;rw[<-J7,<-hNn]at Lu;generalize mU T N=ys at*
   repeat(first|refine GA ?_|refine gV (aC (v:=av aS S.length cS) aL.ty I (aI (i:=6) I I)) ?_|refine gV (aP (i:=0) aL.ty I I I) ?_)
   refine aU (ja aJ.en I I) (λw hm=>Lu w) I I I ?_;intro vy _
   conv=>arg 8;simp only[zJ,cD,ret,id_eq,cD]
   conv=>arg 7;simp only[cD]
   refine nP (i:=11) I gJ λgK=>?_;obtain⟨ay,cy,rfl,-,hay⟩:=gK
   try refine GA ?_
   refine iz 3 1 ?_
   conv=>arg 7;simp only[zA,zB,zC,zD,zE,zF,zG,zH,zI,cD,ret,id_eq]
   refine d_ (ι:=Nat×List Int×List (List bI.Item)×(RK->Option Value)×Nat×Value×List Value×(Nat->Prop)×Value)
    (λ(k,nx,S',f',c',_,_,_,_)=>k<=ys.length/\(∃E,S'=S++E)/\JO g.aH T (kS g) S'/\S'.length<=200/\zX g.aH T (kS g) s0 (ys.drop k) nx S'=zX g.aH T (kS g) s0 ys [] S/\kh (kS g) f'/\c'<=c+12000*k/\nx.length=k/\(∀y∈nx,cL.dV y)/\∀t∈S',t.length<=11439)
    (λ(k,_,_,_,_,_,_,_,vx)=>[(1,aK (aj ⟨g1,0,ak⟩)),(2,aK (aj ⟨g2,0,ak⟩)),(5,aK (aj ⟨go,0,ak⟩)),(7,aK (aj ⟨g7,0,ak⟩)),(8,.func (.func 88) #[] #[aK (aj ⟨g6,0,ak⟩),aK (aj ⟨g7,0,ak⟩)]),(9,az aB (n:Int)),(10,vx),(44,av ay ys.length cy),(45,az aB (ys.length:Int)),(46,az aB (k:Int))])
    (λ(_,nx,S',f',c',vS',CW,F',vx)=>[aR g1 (dP g.aT g.bx (av bp g.aH.length cp)).cells 33,aR g2 #[av ak 0 0,av ak 0 0] 157,aR go (Cj g.aT g.bx (av bp g.aH.length cp) gm).toArray 268,fv jo gm f' c',aR g6 #[.map (aj gq)] 126,fv iD gq (lp (S'.map iJ)) S'.length,aR g7 #[vS',vN] 157,a_ 226 1 vS' S'.length CW,eo (bR J3) F' (CW.map λv=>[v]) S',a_ 26 1 vN Nx.length Co,eo (bR fP) G (Co.map λv=>[v]) Nx,a_ 182 2 (av ay ys.length cy) ys.length (ys.flatMap eu),a_ 3 1 vx nx.length (nx.map (az .i64))]) (λ(k,_,_,_,_,_,_,_,_)=>ys.length-k)
    (0,[],S,f,c,av aS S.length cS,w_,F,av ak 0 0) ⟨bH _,⟨[],(List.append_nil _).symm⟩,i3,i4,rfl,i6,by omega,rfl,(λy hy=>by cases hy),i8⟩ ?_
   clear Lu;rintro⟨k,nx,S',f',c',vS',CW,F',vx⟩ ⟨j1,⟨E,hE⟩,j3,j4,j5,j6,j7,j8,j9,j10⟩;dsimp only at j1 hE j3 j4 j5 j6 j7 j8 j9 j10⊢
   by_cases c2:k<ys.length
   ·have hn':n<S'.length:=by rw[hE,bK];omega
    have aik:S'[n]?=aj s0:=by rw[hE,List.getElem?_append_left c1];exact hsn
    refine iR (i:=7) I gJ λgK=>?_;obtain⟨aS',cS',rfl,-,aj5⟩:=gK;obtain⟨gS',rfl⟩:=aj5 J;refine iR (i:=8) I (λw h=>h.1.1) λhvl=>?_;rw[eI]at hvl;have hvn:CW[0+n]?=aj (CW[n]' J):=by rw[cX];exact bM _
    have ail:CW[n]?=aj (CW[n]' J):=bM _;generalize CW[n]' J=vn at hvn ail;obtain⟨gy,rfl⟩:=hay J;have dy:=λ(L:List b9) (i:Nat) (hL:L[i]?=aj (a_ 182 2 (av (aj ⟨gy,0,ak⟩) ys.length cy) ys.length (ys.flatMap eu)))=>pz (W:=(w:bP)) EV hL c2;rw[eH c2,zX]at j5;generalize ys[k]=x at*;have rQ:s0.length<=11439:=j10 s0 (mL aik)
    repeat(first|refine GA ?_|refine gV (aZ bQ.eq aL.ty I I c2) ?_|refine gV (aY (cs:=eu x) aL.ty I I (dy _ 11 I)) ?_)
    refine a8 I λg12=>?_;refine zL ?_;refine gG 13 (cs':=(eu x).toArray) ?_;refine zL ?_
    try refine GA ?_
    refine dH ([aR g7 #[av (aj ⟨gS',0,ak⟩) S'.length cS',vN] 157,a_ 226 1 (av (aj ⟨gS',0,ak⟩) S'.length cS') S'.length CW,aR g12 (eu x).toArray 182]) (.calm 0 (.calm 1 (.calm 2 (.calm 3 (.calm 4 (.calm 5 (.calm 6 (.one 7 (.calm 8 (.done)))))))))) (bV [6,7,13]) ?_
    repeat(first|refine GW ?_|(refine GN ?_;first|refine QW (aC (v:=av (aj ⟨gS',0,ak⟩) S'.length cS') aL.ty I (aI (i:=0) I I)) ?_|refine QW (bY bQ.eq aL.ty I I hn') ?_|refine QW (aC (v:=vn) aL.ty I (jP (i:=1) I hvn)) ?_|refine QW (aP (i:=2) aL.ty I I I) ?_))
    refine aM I ?_;refine bz [2,3] [0,1,4,5,6,7,8,9,10,11,12,13] aln I I (qq aJ.en I I I I) (λw' hm hb=>hst go gm c' f' s0 x vn Xl J j6 J w' _ ((mI.self w).on hm λo h=>Dn h) (SlB.els hm (i:=8) I [2,3] I aln aik ail) hb) I I I ?_;rintro⟨f2,M4,v2⟩ ⟨Xk,zo⟩;dsimp only at Xk zo
    conv=>arg 8;simp only[zJ,cD,ret,id_eq,wm,opL]
    conv=>arg 7;simp only[wm]
    rw[show kg g.aH T (kS g) (mT g.aH s0 x)=jn g.aH T (kS g) s0 x from I];refine aO (bV [4,5,11]) ?_
    try refine GW ?_
    try refine GA ?_
    refine nP (i:=14) I gJ λgK=>?_;obtain⟨a2,cv2,rfl,-,ha2⟩:=gK;obtain⟨hlE,hlC,hlS⟩:=H2 (lk:=kS g) Ii Af hT j3 Xl x;have hcc:M4<=c+12000*(k+1):=aah zo j7;have aj6:∀it∈jn g.aH T (kS g) s0 x,eK g.aH T it:=jm Ii Af hT (lq Xl);have aj7:(jn g.aH T (kS g) s0 x).length<=11439:=sZ Ii Af hT (lq Xl)
    by_cases c3:jn g.aH T (kS g) s0 x=[]
    ·have hcell:qL g.aH T (kS g) s0 x S'=(-1,S'):=if_pos c3
     rw[hcell,if_neg (by show ¬200<S'.length;omega)]at j5;dsimp only at j5;have hl0:(jn g.aH T (kS g) s0 x).length=0:=by rw[c3];rfl
     repeat(first|refine GA ?_|refine gV (aC (v:=av (aj ⟨gS',0,ak⟩) S'.length cS') aL.ty I (aI (i:=4) I I)) ?_)
     refine iA (i:=10) I I I I I I (λz h=>by cases h;rfl) J J I λz vx'=>?_;refine zL ?_
     try refine GA ?_
     refine dv [0,1,12,13,2,3,4,5,6,7,8,9,10] ?_;exact bW (k+1,nx++[-1],S',f2,M4,av (aj ⟨gS',0,ak⟩) S'.length cS',CW,F',vx') ⟨by show k+1<=ys.length;omega,⟨E,hE⟩,j3,j4,j5,Xk,hcc,by show(nx++[-1]).length=k+1;rw[bK,j8];rfl,λy hy=>(gj.1 hy).elim (j9 y) λh=>by rw[eV.1 h];exact⟨by omega,by omega⟩,j10⟩ (by show ys.length-(k+1)<ys.length-k;omega) (hl:=by dsimp only;rw[bK,eZ];rfl)
    have hcell:qL g.aH T (kS g) s0 x S'=(((jC S' (jn g.aH T (kS g) s0 x)).1:Int),(jC S' (jn g.aH T (kS g) s0 x)).2):=if_neg c3;have hsm:=wq Ii Af hT aj6;have hSm:∀t∈S',w9 t:=λt ht=>wq Ii Af hT (j3.right t ht);have xp:0<(jn g.aH T (kS g) s0 x).length:=List.length_pos_iff.2 c3;have hq:(jC S' (jn g.aH T (kS g) s0 x)).1<=S'.length:=by
     unfold jC;split
     ·rename_i hm;exact Nat.le_of_lt (nC hm)
     exact bC _
    rw[hcell]at j5 hlE hlC hlS;dsimp only at j5 hlE hlC hlS
    try refine GA ?_
    refine bz [2,3,4,5,6,14] [0,1,7,8,9,10,11,12,13] aln I I (CO aJ.en I I) (λw' hm hb=>Ck g6 gq g7 (av (aj ⟨gS',0,ak⟩) S'.length cS') vN CW F' S' _ (jn g.aH T (kS g) s0 x) hSm hsm J J w' _ hb) I I I ?_;rintro⟨vS2,aj8,F2⟩ _
    conv=>arg 8;simp only[zJ,cD,ret,id_eq,stL]
    have Fc:∀t∈(jC S' (jn g.aH T (kS g) s0 x)).2,t.length<=11439:=by
     unfold jC;split;exact j10;intro t ht;rcases gj.1 ht with h|h
     exact j10 t h;rw[eV.1 h];exact aj7
    generalize jC S' (jn g.aH T (kS g) s0 x)=R at*;obtain⟨q,S2⟩:=R;dsimp only at j5 hlE hlC hlS hq Fc⊢;refine nP (i:=12) I gJ λgK=>?_;obtain⟨aS2,cS2,rfl,-,ak1⟩:=gK;obtain⟨E2,hE2⟩:=hlE
    by_cases c4:200<S2.length
    ·rw[if_pos c4]at j5
     rw[<-j5]at i5
     repeat(first|refine GC ?_|refine gV (aC (v:=av aS2 S2.length cS2) aL.ty I (aI (i:=11) I I)) ?_|refine gV (dW (b:=aD) I I (decide_eq_true J)) ?_|refine gV (bB I A5) ?_|refine GB ?_)
     have hOn:jS g=([],[],8):=by rw[hO,<-i5]
     rw[hOn];refine gG 1 ?_;refine zL ?_
     try refine GA ?_
     refine dJ 226 1 (qC (eo (bR J3) (λ_=>False) [] []) (λk hk=>hk.elim (λh=>by cases h) id) (λw=>jM) (dJ 26 1 (qC (eo (bR fP) (λ_=>False) [] []) (λk hk=>hk.elim (λh=>by cases h) id) (λw=>jM) ?_)));exact dT (i:=1) I I I I I λw hm=>hm.meets (S:=⟨λ(_:Value×Value×List Value×(Nat->Prop)×List Value×(Nat->Prop))=>True,λx=> .tuple #[aQ #[x.1,x.2.1],az aB 8],λx=>[a_ 226 1 x.1 0 x.2.2.1,eo (bR J3) x.2.2.2.1 (x.2.2.1.map λv=>[v]) [],a_ 26 1 x.2.1 0 x.2.2.2.2.1,eo (bR fP) x.2.2.2.2.2 (x.2.2.2.2.1.map λv=>[v]) []]⟩) (av ak 0 0,av ak 0 0,[],λ_=>False,[],λ_=>False) trivial [14,15,16,17] aln I
    rw[if_neg c4]at j5
    repeat(first|refine GC ?_|refine gV (aC (v:=av aS2 S2.length cS2) aL.ty I (aI (i:=11) I I)) ?_|refine gV (dW (b:=aF) I I (decide_eq_false J)) ?_|refine GB ?_)
    refine iA (i:=5) I I I I I I (λz h=>by cases h;rfl) J J I λz vx'=>?_;refine zL ?_
    try refine GA ?_
    refine dv [0,1,7,8,9,10,11,12,13,2,3,4,5] ?_;exact bW (k+1,nx++[(q:Int)],S2,f2,M4,av aS2 S2.length cS2,aj8,F2,vx') ⟨by show k+1<=ys.length;omega,⟨E++E2,by rw[hE2,hE,eY]⟩,hlS,by show S2.length<=200;omega,j5,Xk,hcc,by show(nx++[(q:Int)]).length=k+1;rw[bK,j8];rfl,λy hy=>(gj.1 hy).elim (j9 y) λh=>by rw[eV.1 h];exact⟨by omega,by omega⟩,λt ht=>Fc t ht⟩ (by show ys.length-(k+1)<ys.length-k;omega) (hl:=by dsimp only;rw[bK,eZ];rfl)
   obtain rfl:k=ys.length:=by omega
   rw[oD (bC _),zX]at j5;rw[<-j5]at i5;dsimp only at i5
   repeat(first|refine GA ?_|refine gV (aC (v:=vN) aL.ty I (aI (i:=6) I I)) ?_)
   refine aX (i:=12) I λLo GH=>?_;refine iA (i:=9) I I Lo GH I I (λz h=>by cases h;rfl) J J I λz vN'=>?_;refine zL ?_;refine pB (eo (bR fP) (λk=>G k\/vx.ownBlock=aj k) ((Co.map λv=>[v])++[[vx]]) (Nx++[nx])) 12 10 [0,1,2,3,4,5,6,7,8,9] aln I I I (λk hk=>hk.elim (λh=>by cases h) λh=>h.elim (λh=> .inr (.inr h)) λh=> .inl (.inl h)) (λw hr he=>mO he (Cn j9 hr) (Ad hr)) ?_;refine zL ?_
   try refine GA ?_
   refine aX (i:=9) I λju l_=>bJ (i:=6) I I I ju l_ I ?_;refine zL ?_
   try refine GA ?_
   exact bW (n+1,S',Nx++[nx],f',c',vS',vN',CW,F',Co++[vx],λk=>G k\/vx.ownBlock=aj k) ⟨by show n+1<=S'.length;rw[hE,bK];omega,by show(Nx++[nx]).length=n+1;rw[bK,i2];rfl,j3,j4,by show xH g.aH T N (kS g) (202-(n+1)) (n+1) (Nx++[nx]) S'=_;rw[show 202-(n+1)=201-n by omega];exact i5,j6,by dsimp only;omega,j10⟩ (by show 202-(n+1)<202-n;omega) (hl:=by dsimp only;rw[bK,eZ];rfl)
  have hA:allI g.aH T N (kS g)=aj (Nx,S):=by rw[<-i5,show 202-n=(201-n)+1 by omega,xH,if_neg c1]
  rw[hA]at hO;have hO:jS g=(Nx,S,0):=hO;rw[hO];refine iR (i:=9) I gJ λgK=>?_;obtain⟨aN,cN,rfl,-⟩:=gK
  repeat(first|refine GA ?_|refine gV (aC (v:=av aS S.length cS) aL.ty I (aI (i:=6) I I)) ?_|refine gV (aP (i:=6) aL.ty I I I) ?_)
  refine gG 1 (cs':=#[av aS S.length cS,av aN Nx.length cN]) ?_;refine zL ?_
  try refine GA ?_
  exact dT (i:=1) I I I I I λw hm=>hm.meets (S:=⟨λ(_:Value×Value×List Value×(Nat->Prop)×List Value×(Nat->Prop))=>True,λx=> .tuple #[aQ #[x.1,x.2.1],az aB 0],λx=>[a_ 226 1 x.1 S.length x.2.2.1,eo (bR J3) x.2.2.2.1 (x.2.2.1.map λv=>[v]) S,a_ 26 1 x.2.1 Nx.length x.2.2.2.2.1,eo (bR fP) x.2.2.2.2.2 (x.2.2.2.2.1.map λv=>[v]) Nx]⟩) (av aS S.length cS,av aN Nx.length cN,w_,F,Co,G) trivial [7,8,9,10] aln I
 ·rw[if_pos c0]at hO
  rw[hO]
  repeat(first|refine GC ?_|refine gV (dc (b:=aD) I I (decide_eq_true c0)) ?_|refine gV (bB I A5) ?_|refine GB ?_)
  refine gG 1 ?_;refine zL ?_
  try refine GA ?_
  refine dJ 226 1 (qC (eo (bR J3) (λ_=>False) [] []) (λk hk=>hk.elim (λh=>by cases h) id) (λw=>jM) (dJ 26 1 (qC (eo (bR fP) (λ_=>False) [] []) (λk hk=>hk.elim (λh=>by cases h) id) (λw=>jM) ?_)));exact dT (i:=1) I I I I I λw hm=>hm.meets (S:=⟨λ(_:Value×Value×List Value×(Nat->Prop)×List Value×(Nat->Prop))=>True,λx=> .tuple #[aQ #[x.1,x.2.1],az aB (cC g)],λx=>[a_ 226 1 x.1 0 x.2.2.1,eo (bR J3) x.2.2.2.1 (x.2.2.1.map λv=>[v]) [],a_ 26 1 x.2.1 0 x.2.2.2.2.1,eo (bR fP) x.2.2.2.2.2 (x.2.2.2.2.1.map λv=>[v]) []]⟩) (av ak 0 0,av ak 0 0,[],λ_=>False,[],λ_=>False) trivial [2,3,4,5] aln I
end bZ
namespace bI
open aV dO cz
section
variable{l:List aV.Prod}{T N:Nat}{lk:Int->Int->Nat}{Nx:List (List Int)}{S:List (List Item)}
theorem M8{P:List Item->Prop}(hP:∀s x,(∀it∈s,eK l T it)->P s->P (jn l T lk s x)){s:List Item}(hs:∀it∈s,eK l T it)(h0:P s):∀(xs:List dw) (nx:List Int) (S:List (List Item)) (Tj:List Int) (S':List (List Item)),(∀s∈S,P s)->zX l T lk s xs nx S=aj (Tj,S')->∀s∈S',P s
 | [],nx,S,Tj,S',hS,h=>by
  simp_all[zX]
 | x::xs,nx,S,Tj,S',hS,h=>by
  rw[zX]at h
  by_cases c:200<(qL l T lk s x S).2.length
  simp_all;rw[if_neg c]at h;refine M8 hP hs h0 xs _ _ Tj S' ?_ h;intro s' xE;unfold qL at xE;split at xE;exact hS s' xE;unfold jC at xE;split at xE;exact hS s' xE;rcases gj.1 xE with h'|h'
  exact hS s' h';rw[eV.1 h'];exact hP s x hs h0
theorem Fe{P:List Item->Prop}(hw:∀q∈l,q.2.length<=8)(hl:l.length<=40)(hT:T<=30)(hP:∀s x,(∀it∈s,eK l T it)->P s->P (jn l T lk s x)):∀(f n:Nat) (Nx:List (List Int)) (S:List (List Item)) (Nx':List (List Int)) (S':List (List Item)),(∀s∈S,P s/\∀it∈s,eK l T it)->xH l T N lk f n Nx S=aj (Nx',S')->∀s∈S',P s
 |0,_,_,_,_,_,_,h=>by cases h
 | f + 1,n,Nx,S,Nx',S',hS,h=>by
  rw[xH]at h
  by_cases c:n<S.length
  ·rw[if_pos c]at h
   have Bu:S.getD n []=S[n]:=by simp_all
   have hn:=hS _ (cH c);rw[<-Bu]at hn
   cases e:zX l T lk (S.getD n []) (mU T N) [] S with
   |none=>simp_all
   | some r=>
    obtain⟨nx,S1⟩:=r;rw[e]at h;have hQ:∀s x,(∀it∈s,eK l T it)->(P s/\∀it∈s,eK l T it)->P (jn l T lk s x)/\∀it∈jn l T lk s x,eK l T it:=λs x h1 h2=>⟨hP s x h1 h2.1,jm hw hl hT (lq h1)⟩;exact Fe hw hl hT hP f (n+1) _ S1 Nx' S' (M8 hQ hn.2 hn (mU T N) [] S nx S1 hS e) h
  simp_all
theorem adv(hw:∀q∈l,q.2.length<=8)(hl:l.length<=40)(hT:T<=30)(h:allI l T N lk=aj (Nx,S)):∀q,q<S.length->∀it∈S.getD q [],it.1=(l.length:Int)->it.2.2=(T:Int):=by
 have W_:∀it∈nI l T lk,eK l T it:=jm hw hl hT (iI hl hT);have V1:∀{it2 it:Item},JN l T lk it2 it->it.1<(l.length:Int):=λ{it2 it} h=>by
  obtain⟨_,i,k,_,h2,_,_,_,rfl⟩:=h;show(i:Int)<_
  omega
 have:=Fe (P:=λs=>∀it∈s,it.1=(l.length:Int)->it.2.2=(T:Int)) (N:=N) hw hl hT (λs x hs hP it hit h1=>by
  have hm:=(iq (lk:=lk) hw hl hT (lq (x:=x) hs) (x:=it)).1 hit
  cases hm with
  |base hb=>
   obtain⟨it',h2,h3,rfl⟩:=ME.1 hb;exact hP it' h2 h1
  |step _ h2=>grind) 202 0 [] [nI l T lk] Nx S (λs hs=>by
   rw[eV.1 hs];refine⟨λit hit h1=>?_,W_⟩;have hm:=(iq (lk:=lk) hw hl hT (iI hl hT) (x:=it)).1 hit
   cases hm with
   |base hb=>simp_all
   |step _ h2=>grind) h
 grind
theorem adw(hw:∀q∈l,q.2.length<=8)(hl:l.length<=40)(hT:T<=30)(h:allI l T N lk=aj (Nx,S)):∀s∈S,s.length<=11439:=
 Fe (P:=λs=>s.length<=11439) (N:=N) hw hl hT (λs x hs _=>sZ hw hl hT (lq hs)) 202 0 [] [nI l T lk] Nx S (λs hs=>by
  rw[eV.1 hs];exact⟨sZ hw hl hT (iI hl hT),jm hw hl hT (iI hl hT)⟩) h
end
end bI
namespace bZ
open Go.RowKit cL dQ aV dO dR bI cz
theorem TA{g:ep}(h:(jS g).2.2=0):cC g=0/\allI g.aH g.aT.toNat g.bx.toNat (kS g)=aj ((jS g).1,(jS g).2.1):=by
 unfold jS at h⊢
 grind
theorem adx{g:ep}(h:(jS g).2.2≠0):(jS g).2.1=[]/\(jS g).1=[]:=by
 unfold jS at h⊢
 grind
end bZ
namespace bZ
open Go.RowKit cL dQ
def WrI(p:Nat->Nat->Prop)(v:Value):Prop:=v=av ak 0 0\/∃g n cap,v=av (aj ⟨g,0,ak⟩) n cap/\n<=cap/\cap<=9223372036854775807/\p g cap
theorem WrI.imp{p q:Nat->Nat->Prop}{v:Value}(h:WrI p v)(hpq:∀g cap,p g cap->q g cap):WrI q v:=
 h.elim .inl λ⟨g,n,cap,h1,h2,h3,h4⟩=> .inr ⟨g,n,cap,h1,h2,h3,hpq _ _ h4⟩
section
variable(e:TypeId)(sz:Nat)
def wrP(F:Nat->Prop)(w:World)(g cap:Nat):Prop:=F g/\∃cs:Array Value,w.heap[g]?=aj (.cells cs e (0,0))/\cs.size=cap*sz
variable{e sz}in
theorem wrP.stay{F:Nat->Prop}{w w':World}{g cap:Nat}(h:wrP e sz F w g cap)(hk:w'.heap[g]?=w.heap[g]?):wrP e sz F w' g cap:=
 let ⟨h1,cs,h2,h3⟩:=h;⟨h1,cs,by rw[hk];exact h2,h3⟩
end
section
variable{e:TypeId}{sz:Nat}
theorem agx{v:Value}{n:Nat}{xs:List Value}{w:World}(hr:(a_ e sz v n xs).holds w):WrI (wrP e sz (λk=>v.ownBlock=aj k) w) v:=by
 have h1:w.ownsRow 0 e sz v n xs:=hr;rcases h1.2 with⟨hv,h0⟩|⟨g,cap,cs,hv,hb,hg,PI,LH,hcs,oB⟩
 exact .inl hv;exact .inr ⟨g,_,cap,hv,PI,by unfold maxLen at LH;omega,by rw[hv];rfl,cs,hg,hcs⟩
end
theorem jp(a:Int):(cL.eJ a).length=1:=rfl
theorem CX(v:Value)(l:List Int)(w:World)(hs:Sl w v l.length (l.flatMap cL.eJ))(hl:l.length*8<=140737488355328):
 Calls aE 59 #[v] w (bX (cD 3 1 l.length (l.flatMap cL.eJ) id) w):=by
 obtain⟨base,cap,rfl,lf,jL,eR⟩:=hs;unfold maxLen at jL;refine enter (args:=[av base l.length cap]) (n:=8) Tryz.func59 I I I ?_;have rQ:∀w',Gr w w'->Sl w' (av base l.length cap) l.length (l.flatMap cL.eJ):=λw' hg=>Sl.gr ⟨base,cap,rfl,lf,jL,eR⟩ hg;clear eR
 cases base with
 | none=>
  repeat(first|refine GC ?_|refine gV (ku bQ.eq I I I) ?_|refine GB ?_)
  have h0:l=[]:=by
   cases l with
   |nil=>rfl
   |cons x l=>obtain⟨_,_,h,_,_,h2⟩:=rQ w (Gr.refl w);simp only[jN]at h;obtain⟨rfl,_⟩:=h;obtain⟨b,off,h,_⟩:=h2 (by simp);cases h
  subst h0;refine dJ 3 1 ?_;exact cJ I I λw hm=>hm.meets (S:=cD 3 1 0 [] id) _ trivial [0] aln I
 |some p=>
  repeat(first|refine GC ?_|refine gV (ku bQ.eq I I I) ?_|refine GB ?_)
  refine wX I λg=>?_
  try refine GA ?_
  refine ee (i:=0) I (λw' hm=>rQ w' hm.below) I I (k_ jp l) (Td l) J J I λv'=>?_;rw[e7]
  try refine GA ?_
  refine cJ I I λw hm=>?_;exact hm.meets (S:=cD 3 1 l.length (l.flatMap cL.eJ) id) v' trivial [0] aln (by simp[cD])
def boC(b:Bool):List Value:=[.bool b]
theorem TB(a:Bool):(boC a).length=1:=rfl
open dh eg
theorem ady{F:Nat->Prop}{w:World}{cs:List Value}{l:List Int}(h:(bR fP).is F w cs l):∃v,cs=[v]/\Sl w v l.length (l.flatMap cL.eJ):=by
 obtain⟨v,h1,h2⟩:=h;exact⟨v,h1,h2.flat aln⟩
theorem tc{w w':World}{v:Value}{l:List (List Int)}(h:kw (bR fP) (qo w) w v l)(hg:Gr w w'):kw (bR fP) (qo w') w' v l:=
 (h.stay λk hk=>hg.block k hk).mono λ_ hk=>kE hk hg.size
def GZ(w:World)(v:Value)(m:MS):Prop:=
 ∃ vc vr vf vfol vl ve,v=aQ #[vc,vr,vf,vfol,vl,ve]/\Sl w vc m.ps.bm.length (m.ps.bm.flatMap ed)/\Sl w vr m.ps.rules.length (m.ps.rules.flatMap cL.eJ)/\Sl w vf m.first.length (m.first.flatMap cL.eJ)/\
  kw (bR fP) (qo w) w vfol m.ps.follow/\Sl w vl m.ps.last.length (m.ps.last.flatMap boC)/\Sl w ve m.empty.length (m.empty.flatMap boC)
theorem GZ.gr{w w':World}{v:Value}{m:MS}(h:GZ w v m)(hg:Gr w w'):GZ w' v m:=by
 obtain⟨vc,vr,vf,vfol,vl,ve,h0,h1,h2,h3,h4,h5,h6⟩:=h;exact⟨vc,vr,vf,vfol,vl,ve,h0,h1.gr hg,h2.gr hg,h3.gr hg,tc h4 hg,h5.gr hg,h6.gr hg⟩
open gu
theorem M9(l:List Bool):l.flatMap boC=l.map fT:=BA l
theorem adz{w:World}{x:PIx}{m:MS}(hl:x.vs.length=m.ps.follow.length)(h0:(a_ 84 4 x.vc m.ps.bm.length (m.ps.bm.flatMap ed)).holds w)(h1:(gL x.vr m.ps.rules).holds w)(h2:(gL x.vf m.first).holds w)(h3:(yJ x.vfol x.vs).holds w)(h4:(v_ x.F x.vs m.ps.follow).holds w)
 (h5:(a_ 4 1 x.vl m.ps.last.length (m.ps.last.map fT)).holds w) (h6:(a_ 4 1 x.ve m.empty.length (m.empty.map fT)).holds w):GZ w (.agg (QR x)) m:=by
 refine⟨_,_,_,_,_,_,rfl,Sl.dx h0,?_,?_,adm h3 h4 hl,?_,?_⟩
 ·rw[rS];exact Sl.dx h1
 ·rw[rS];exact Sl.dx h2
 ·rw[M9];exact Sl.dx h5
 ·rw[M9];exact Sl.dx h6
theorem Mem.aj9{w:World}{B:bP}{L:List b9}{x:PIx}{m:MS}(i:Nat)(hm:Mem B L w)(hl:x.vs.length=m.ps.follow.length)(h:QQ x m=[i,i+1,i+2,i+3,i+4,i+5,i+6].filterMap λj=>L[j]?)(hlen:i+6<L.length):GZ w (.agg (QR x)) m:=by
 have g:∀j,j<7->∃o,L[i+j]?=aj o/\(QQ x m)[j]?=aj o:=by
  intro j hj;have e:∀k,k<7->∃o,L[i+k]?=aj o:=λk hk=>⟨_,bM J⟩;rw[h];obtain⟨o0,e0⟩:∃o,L[i]?=aj o:=e 0 J;obtain⟨o1,e1⟩:=e 1 J;obtain⟨o2,e2⟩:=e 2 J;obtain⟨o3,e3⟩:=e 3 J;obtain⟨o4,e4⟩:=e 4 J;obtain⟨o5,e5⟩:=e 5 J;obtain⟨o6,e6⟩:=e 6 J;simp only[List.filterMap_cons,e0,e1,e2,e3,e4,e5,e6,List.filterMap_nil]
  match j,hj with
  |0,_=>simp_all
  |1,_=>simp_all
  |2,_=>simp_all
  |3,_=>simp_all
  |4,_=>simp_all
  |5,_=>simp_all
  |6,_=>simp_all
 have k:∀j o,j<7->(QQ x m)[j]?=aj o->o.holds w:=λj o hj ho=>by
  obtain⟨o',h1,h2⟩:=g j hj;rw[h2]at ho
  cases ho
  exact hm.get h1
 exact adz hl (k 0 _ J I) (k 1 _ J I) (k 2 _ J I) (k 3 _ J I) (k 4 _ J I) (k 5 _ J I) (k 6 _ J I)
end bZ
namespace eg
open dh gu
structure J_(m:MS):Prop where
 ok:QO m
 rules:∀r∈m.ps.rules,0<=r/\r<m.empty.length
 tY:m.ps.bm.length<=200
 some:0<m.empty.length
 ri:m.empty.length<=20
theorem nK(bU:Int):∀(e:Re) (p:PS),(∀r∈p.rules,0<=r/\r<=bU)->0<=bU->∀r∈(cK bU e p).2.rules,0<=r/\r<=bU
 | .empty,p,h,_=>h
 | .none,p,h,_=>h
 | .byte c,p,h,h0=>λr hr=>by
  have hr:r∈p.rules++[bU]:=hr;rcases gj.1 hr with hr|hr
  exact h r hr;rw[eV.1 hr];omega
 | .star a,p,h,h0=>nK bU a p h h0
 | .Jo a b,p,h,h0=>nK bU b _ (nK bU a p h h0) h0
 | .Jn a b,p,h,h0=>nK bU b _ (nK bU a p h h0) h0
theorem J':∀(es:List Re) (i:Nat) (m m':MS),QO m->m.empty.length=i->(∀r∈m.ps.rules,0<=r/\r<i)->m.ps.bm.length<=200->l6 i m es=(0,m')->QO m'/\m'.empty.length=i+es.length/\(∀r∈m'.ps.rules,0<=r/\r<(i+es.length:Nat))/\m'.ps.bm.length<=200
 | [],i,m,m',h1,h2,h3,h4,h=>by
  cases h
  simp_all
 | e ::r,i,m,m',h1,h2,h3,h4,h=>by
  rw[l6]at h;split at h
  cases h
  rename_i c
  have:=J' r (i+1) (xK i m e) m' (Ts i h1 e).1 (by show(m.empty++[_]).length=_;simp[h2]) (λx hx=>by
   have:=nK i e m.ps (λr hr=>by grind) J x hx;omega) J h
  grind
theorem Dp{es:List Re}{m:MS}(h0:0<es.length)(h20:es.length<=20)(h:l6 0 .zero es=(0,m)):J_ m:=by
 obtain⟨h1,h2,h3,h4⟩:=J' es 0 .zero m J1 rfl (λr hr=>by cases hr) (bH _) h;rw[cX]at h2 h3;exact⟨h1,λr hr=>by simp_all,h4,by omega,by omega⟩
end eg
namespace bZ
open Go.RowKit cL dQ dh gu eg
theorem Cp(v:Value)(l:List Int)(n:Nat)(w:World)(hv:Sl w v l.length (l.flatMap cL.eJ))(h:H9 n l):
 Calls aE 109 #[v,az aB (n:Int)] w (bX (ret (.bool aD)) w):=by
 obtain⟨base,cap,rfl,lf,jL,eR⟩:=hv;unfold maxLen at jL;refine enter (args:=[av base l.length cap,az aB (n:Int)]) (n:=35) Tryz.func109 I I I ?_
 try refine GA ?_
 refine d_ (ι:=Nat) (λk=>k<=l.length) (λk=>[(0,av base l.length cap),(1,az aB (n:Int)),(7,av base l.length cap),(8,az aB l.length),(9,az aB (k:Int))]) (λ_=>[]) (λk=>l.length-k) 0 (bH _) ?_;intro k h1
 by_cases c2:k<l.length
 ·obtain⟨b,off,rfl,hr⟩:=eR J
  have dy:=gd (L:=([]:List b9)) jp hr c2 0 _ I;have hx:=h.2 _ (cH c2)
  by_cases c3:0<k
  ·have hp:=List.pairwise_iff_getElem.1 h.1 (k-1) k J c2 J
   have q_:=gd (L:=([]:List b9)) jp hr (k:=k-1) J 0 _ I;generalize l[k]=x at*;generalize l[k-1]' J=y at*
   repeat(first|refine GC ?_|refine gV (aZ bQ.eq aL.ty I I c2) ?_|refine gV (aC (v:=az aB x) aL.ty I dy) ?_|refine gV (ez (b:=aF) I I (decide_eq_false J)) ?_|refine gV (aZ (j:=k-1) bQ.eq aL.ty I I J) ?_|refine gV (aC (v:=az aB y) aL.ty I q_) ?_|refine gV (fu (b:=aF) I I (decide_eq_false J)) ?_|refine gV (dW (b:=aD) I I (decide_eq_true J)) ?_|refine gV (eT (r:=((k-1:Nat):Int)) I I J J J) ?_|refine gV (ye (b:=aF) I I (decide_eq_false J)) ?_|refine GB ?_)
   exact bW (k+1) J (by show l.length-(k+1)<l.length-k;omega)
  generalize l[k]=x at*
  repeat(first|refine GC ?_|refine gV (aZ bQ.eq aL.ty I I c2) ?_|refine gV (aC (v:=az aB x) aL.ty I dy) ?_|refine gV (ez (b:=aF) I I (decide_eq_false J)) ?_|refine gV (fu (b:=aF) I I (decide_eq_false J)) ?_|refine gV (dW (b:=aF) I I (decide_eq_false J)) ?_|refine GB ?_)
  exact bW (k+1) J (by show l.length-(k+1)<l.length-k;omega)
 ·try refine GA ?_
  exact eB
theorem yM{w:World}{b off:Nat}{l:List (List Int)}{F:Nat->Prop}(hr:∀i (h:i<l.length),∃cs,(bR fP).is F w cs l[i]/\Rd w b (off+i*(bR fP).c) cs){k:Nat}(hk:k<l.length):∃u,Sl w u l[k].length (l[k].flatMap cL.eJ)/\Rd w b (off+k*1) [u]:=by
 obtain⟨cs,h1,h2⟩:=hr k hk;obtain⟨u,rfl,h3⟩:=ady h1;exact⟨u,h3,h2⟩
theorem Ff(v:Value)(m:MS)(w:World)(hp:GZ w v m)(h:J_ m):
 Calls aE 75 #[v] w (bX (ret (az aB 0)) w):=by
 obtain⟨vc,vr,vf,vfol,vl,ve,rfl,h1,h2,h3,h4,h5,h6⟩:=hp;have hmR:=h.rules;have hmf:=h.tY;have hms:=h.some;have sG:=h.ri;have l1:=h.ok.ps.rules;have l2:=h.ok.ps.follow;have l3:=h.ok.ps.last;have q1:=λw' (hg:Gr w w')=>Cp vf m.first m.ps.bm.length w' (h3.gr hg) h.ok.first;have TC:=h.ok.ps.ris;clear h h3;obtain⟨⟨cl,rul,nj,la⟩,fi,em⟩:=m;dsimp only at*;rw[l1]at h2;obtain⟨ac,cc,rfl,_⟩:=h1;obtain⟨ar,cr,rfl,hcr,hmr,hrr⟩:=h2;obtain⟨afo,cfo,rfl,hcf,ak2,hrf⟩:=h4;obtain⟨al,cl2,rfl,_⟩:=h5;obtain⟨ae,ce,rfl,_⟩:=h6;rw[l2]at hcf;unfold maxLen at*;have q1':=q1;clear q1;generalize hn:cl.length=n at*;refine enter (args:=[aQ #[av ac n cc,av ar n cr,vf,av afo nj.length cfo,av al la.length cl2,av ae em.length ce]]) (n:=80) Tryz.func75 I I I ?_;refine cB (bD (bL I I I λg1=>?_));refine zL ?_
 repeat(first|refine GC ?_|refine gV (aC (v:=av ac n cc) aL.ty I (aI (i:=0) I I)) ?_|refine gV (aC (v:=av ar n cr) aL.ty I (aI (i:=0) I I)) ?_|refine gV (aC (v:=av afo nj.length cfo) aL.ty I (aI (i:=0) I I)) ?_|refine gV (aC (v:=av al la.length cl2) aL.ty I (aI (i:=0) I I)) ?_|refine gV (aC (v:=av ae em.length ce) aL.ty I (aI (i:=0) I I)) ?_|refine gV (aC (v:=vf) aL.ty I (aI (i:=0) I I)) ?_|refine gV (dc (b:=aF) I I (decide_eq_false J)) ?_|refine gV (dW (b:=aF) I I (decide_eq_false J)) ?_|refine gV (cY (b:=aF) I I (decide_eq_false J)) ?_|refine GB ?_)
 refine k7 (fC aJ.en I I I) (λw hm=>q1' _ hm.below) I I I I I ?_;intro _ _;refine zL ?_;clear q1'
 try refine GA ?_
 refine d_ (ι:=Nat) (λk=>k<=n) (λk=>[(1,aK (aj ⟨g1,0,ak⟩)),(3,az aB (n:Int)),(46,az aB (n:Int)),(47,az aB (k:Int))]) (λ_=>[aR g1 #[av ac n cc,av ar n cr,vf,av afo nj.length cfo,av al la.length cl2,av ae em.length ce] 132]) (λk=>n-k) 0 (bH _) ?_;intro k hk
 by_cases c1:k<n
 ·obtain⟨br,Q4,rfl,eR⟩:=hrr J
  obtain⟨bf,adA,rfl,_,V5⟩:=hrf J;obtain⟨u,hu,hd⟩:=yM V5 (show k<nj.length by omega);have agy:=λ(L:List b9)=>gd (L:=L) jp eR (show k<rul.length by omega) 0 _ I;have agz:=λ(L:List b9)=>iP (L:=L) hd (j:=0) (v:=u) I;have hx:=hmR _ (cH (show k<rul.length by omega));have q:=λw' (hg:Gr w w')=>Cp u nj[k] n w' (hu.gr hg) (TC _ (cH _));clear hrr hrf eR V5 hd hu;generalize rul[k]=x at*
  try refine GA ?_
  refine dH ([aR g1 #[av ac n cc,av (aj ⟨br,Q4,ak⟩) n cr,vf,av (aj ⟨bf,adA,ak⟩) nj.length cfo,av al la.length cl2,av ae em.length ce] 132]) (.calm 0 (.calm 1 (.calm 2 (.calm 3 (.calm 4 (.calm 5 (.calm 6 (.calm 7 (.calm 8 (.calm 9 (.calm 10 (.calm 11 (.calm 12 (.calm 13 (.calm 14 (.calm 15 (.calm 16 (.calm 17 (.calm 18 (.calm 19 (.calm 20 (.calm 21 (.calm 22 (.calm 23 (.one 24 (.calm 25 (.calm 26 (.done)))))))))))))))))))))))))))) (bV [0]) ?_
  repeat(first|(refine GN ?_;first|refine QW QP ?_|refine QW (aC (v:=av (aj ⟨br,Q4,ak⟩) n cr) aL.ty I (aI (i:=0) I I)) ?_|refine QW (aZ bQ.eq aL.ty I I c1) ?_|refine QW (aC (v:=az aB x) aL.ty I (agy _)) ?_|refine QW (ez (b:=aF) I I (decide_eq_false J)) ?_|refine QW (aC (v:=av ae em.length ce) aL.ty I (aI (i:=0) I I)) ?_|refine QW (aC (v:=av (aj ⟨bf,adA,ak⟩) nj.length cfo) aL.ty I (aI (i:=0) I I)) ?_|refine QW (aZ (j:=k) bQ.eq aL.ty I I J) ?_|refine QW (aC (v:=u) aL.ty I (agz _)) ?_|refine QW (fu (b:=aF) I I (decide_eq_false J)) ?_|refine GX ?_)|refine GW ?_)
  refine aM I (C' I I I (aU (fC aJ.en I I I) (λw hm=>q w hm.below) I I I λ_ _=>(aO (bV [0]) ?_)))
  try refine GW ?_
  try refine GA ?_
  refine dv [0] ?_;exact bW (k+1) J (by show n-(k+1)<n-k;omega)
 ·repeat(first|refine GC ?_|refine gV (dW (b:=aF) I I (decide_eq_false J)) ?_|refine GB ?_)
  exact eB
end bZ
namespace eX
open aV dO fX dR yD CR
inductive TD where
 |sym (x:dw)
 |close (p:Int)
def bT:List TD->List dw->Nat->List TD×List dw×Nat×Bool
 |[],out,a=>([],out,a,aD)
 | .sym x::r,out,a=>(.sym x::r,out,a,aD)
 | .close p::r,out,a=>if a+1<=2000 then bT r (out++[(3,p)]) (a+1)else(r,out++[(3,p)],a+1,aF)
def opened(l:List aV.Prod)(p:Int)(r:List TD):List TD:=(df l p).2.map .sym++ .close p::r
def fR(l:List aV.Prod)(nx:Int->Int):Nat->List TD->List dw->Nat->List TD×List dw×Nat×Int
 |0,st,out,a=>(st,out,a,14)
 | f +1,st,out,a=>
  if(bT st out a).2.2.2=aF then((bT st out a).1,(bT st out a).2.1,(bT st out a).2.2.1,14)else
  match(bT st out a).1 with
  | .sym x::r=>
   if x.1=1 then((bT st out a).1,(bT st out a).2.1,(bT st out a).2.2.1,0)
   else if nx x.2<0 then((bT st out a).1,(bT st out a).2.1,(bT st out a).2.2.1,13)
   else if(bT st out a).2.2.1+1<=2000/\(opened l (nx x.2) r).length<=60 then fR l nx f (opened l (nx x.2) r) ((bT st out a).2.1++[(1,nx x.2)]) ((bT st out a).2.2.1+1)
   else(opened l (nx x.2) r,(bT st out a).2.1++[(1,nx x.2)],(bT st out a).2.2.1+1,14)
  |_=>((bT st out a).1,(bT st out a).2.1,(bT st out a).2.2.1,0)
def jq(l:List aV.Prod)(nx:Int->Int)(st:List TD)(seen:Nat)(t:Int):Int×List TD×List dw:=
 match fR l nx 2001 st [] 0 with
 | (st1,fI,a1,e)=>
  if e≠0 then(e,[],[])else
  match st1 with
  | .sym x::r=>if x.2≠t then(13,[],[])else if a1+1<=2000/\(bT r (fI++[(2,(seen:Int))]) (a1+1)).2.2.2=aD then(0,(bT r (fI++[(2,(seen:Int))]) (a1+1)).1,(bT r (fI++[(2,(seen:Int))]) (a1+1)).2.1)else(14,[],[])
  |_=>(13,[],[])
def iw(l:List aV.Prod)(nx:Int->Int)(st:List TD):Int×List dw:=
 match fR l nx 2001 st [] 0 with
 |(st1,fI,_,e)=>if e≠0 then(e,[])else match st1 with|[]=>(0,fI)|_=>(13,[])
section
variable{l:List aV.Prod}{C:Int->Nat->Int->Prop}
theorem yN:∀{st:List TD} {out:List dw} {a:Nat},(bT st out a).2.2.2=aD->(bT st out a).1=[]\/∃x r,(bT st out a).1= .sym x::r
 |[],out,a,_=> .inl I
 | .sym x::r,out,a,_=> .inr ⟨x,r,rfl⟩
 | .close p::r,out,a,h=>by
  unfold bT at h⊢;split
  ·rename_i c;rw[if_pos c]at h;exact yN h
  simp_all
theorem td:∀{st:List TD} {out:List dw} {a:Nat},(bT st out a).1.length<=st.length/\a<=(bT st out a).2.2.1/\((bT st out a).2.2.2=aD->a<=2000->(bT st out a).2.2.1<=2000)/\(bT st out a).2.1.length+a=out.length+(bT st out a).2.2.1
 |[],out,a=>⟨bC _,bC _,λ_ h=>h,rfl⟩
 | .sym x::r,out,a=>⟨bC _,bC _,λ_ h=>h,rfl⟩
 | .close p::r,out,a=>by
  unfold bT;split
  ·obtain⟨h1,h2,h3,h4⟩:=@td r (out++[(3,p)]) (a+1)
   grind
  grind
def rj(g:ep):TD->Prop
 | .sym x=>right g.aT g.bx x=aD
 | .close p=>0<=p/\p<(g.aH.length:Int)
theorem rU{g:ep}:∀{st:List TD} {out:List dw} {a:Nat},(∀d∈st,rj g d)->∀d∈(bT st out a).1,rj g d
 |[],out,a,h=>h
 | .sym x::r,out,a,h=>h
 | .close p::r,out,a,h=>by
  unfold bT;split;exact rU λd hd=>h d (kJ _ hd);exact λd hd=>h d (kJ _ hd)
theorem BC{g:ep}(hg:cC g=0){p:Int}(h0:0<=p)(h1:p<(g.aH.length:Int)){r:List TD}(h:∀d∈r,rj g d):∀d∈opened g.aH p r,rj g d:=by
 intro d hd;unfold opened at hd;rw[gj]at hd;rcases hd with hd|hd
 ·obtain⟨x,hx,rfl⟩:=fG.1 hd
  exact((cU hg).2.2.2.2.2 _ (yA h0 h1)).2.2.2 x hx
 rcases dM.1 hd with rfl|hd
 exact⟨h0,h1⟩;exact h d hd
def adB(l:List aV.Prod)(nx:Int->Int):Prop:=∀n,0<=nx n->nx n<(l.length:Int)/\((0<=n)->(df l (nx n)).1=n)
theorem wt{nx:Int->Int}:∀{f:Nat} {st:List TD} {out:List dw} {a:Nat},(fR l nx f st out a).2.2.2=0\/(fR l nx f st out a).2.2.2=13\/(fR l nx f st out a).2.2.2=14
 |0,st,out,a=> .inr (.inr I)
 | f +1,st,out,a=>by
  unfold fR;split;exact .inr (.inr I);split
  ·split
   simp;split;exact .inr (.inl I);split;exact wt;exact .inr (.inr I)
  simp
theorem yO{nx:Int->Int}{f:Nat}{st:List TD}{out:List dw}{a:Nat}{R:List TD×List dw×Nat×Int}(h:fR l nx (f+1) st out a=R):
    ((bT st out a).2.2.2=aF/\R.2.2.2=14)\/((bT st out a).2.2.2=aD/\
      (((bT st out a).1=[]/\R=([],(bT st out a).2.1,(bT st out a).2.2.1,0))\/
       ∃ x r,(bT st out a).1= .sym x::r/\((x.1=1/\R=(.sym x::r,(bT st out a).2.1,(bT st out a).2.2.1,0))\/(x.1≠1/\nx x.2<0/\R.2.2.2=13)\/
         (x.1≠1/\0<=nx x.2/\((((bT st out a).2.2.1+1<=2000/\(opened l (nx x.2) r).length<=60)/\fR l nx f (opened l (nx x.2) r) ((bT st out a).2.1++[(1,nx x.2)]) ((bT st out a).2.2.1+1)=R)\/R.2.2.2=14))))):=by
  unfold fR at h
  cases hc:(bT st out a).2.2.2 with
  |false=>grind
  | true=>
    rw[hc,if_neg (by simp)]at h;refine .inr ⟨rfl,?_⟩;rcases yN hc with he|⟨x,r,he⟩
    simp_all
    grind
theorem wu{nx:Int->Int}:∀{f:Nat} {st:List TD} {out:List dw} {a:Nat} {R:List TD×List dw×Nat×Int},fR l nx f st out a=R->R.2.2.2=0->R.1=[]\/∃x r,R.1= .sym x::r/\x.1=1
 |0,st,out,a,R,h,h0=>by subst h;cases h0
 |f+1,st,out,a,R,h,h0=>by
  rcases yO h with⟨_,e⟩|⟨_,⟨_,rfl⟩|⟨x,r,_,⟨c,rfl⟩|⟨_,_,e⟩|⟨_,_,⟨_,e⟩|e⟩⟩⟩
  omega;exact .inl I;exact .inr ⟨x,r,rfl,c⟩;omega;exact wu e h0;omega
theorem Ka{g:ep}(hg:cC g=0){nx:Int->Int}(hn:adB g.aH nx):∀{f:Nat} {st:List TD} {out:List dw} {a:Nat} {R:List TD×List dw×Nat×Int},fR g.aH nx f st out a=R->R.2.2.2=0->(∀d∈st,rj g d)->∀d∈R.1,rj g d
 |0,st,out,a,R,h,h0,_=>by subst h;cases h0
 | f +1,st,out,a,R,h,h0,hs=>by
  have hc:=rU (out:=out) (a:=a) hs;rcases yO h with⟨_,e⟩|⟨_,⟨_,rfl⟩|⟨x,r,e1,⟨c,rfl⟩|⟨_,_,e⟩|⟨_,c,⟨_,e⟩|e⟩⟩⟩
  omega;exact λd hd=>nomatch hd;rw[e1]at hc;exact hc;omega
  ·rw[e1]at hc
   exact Ka hg hn e h0 (BC hg c (hn _ c).1 λd hd=>hc d (kJ _ hd))
  omega
theorem Ag{nx:Int->Int}:∀{f:Nat} {st:List TD} {out:List dw} {a:Nat} {R:List TD×List dw×Nat×Int},fR l nx f st out a=R->R.2.2.2=0->st.length<=60->a<=2000->R.1.length<=60/\R.2.2.1<=2000/\R.2.1.length+a=out.length+R.2.2.1/\a<=R.2.2.1
 |0,st,out,a,R,h,h0,_,_=>by subst h;cases h0
 | f +1,st,out,a,R,h,h0,h1,h2=>by
  obtain⟨z1,z2,z3,z4⟩:=@td st out a;rcases yO h with⟨_,e⟩|⟨ec,⟨_,rfl⟩|⟨x,r,e1,⟨c,rfl⟩|⟨_,_,e⟩|⟨_,c,⟨cc,e⟩|e⟩⟩⟩
  omega
  simp_all
  grind
  omega
  ·obtain⟨y1,y2,y3,y4⟩:=Ag e h0 cc.2 cc.1
   grind
  omega
theorem yP{nx:Int->Int}{st:List TD}{seen:Nat}{t:Int}{R:Int×List TD×List dw}(h:jq l nx st seen t=R):
 (R.1=13\/R.1=14)/\R.2=([],[])\/∃x r fI a1,fR l nx 2001 st [] 0=(.sym x::r,fI,a1,0)/\x.1=1/\x.2=t/\a1+1<=2000/\(bT r (fI++[(2,(seen:Int))]) (a1+1)).2.2.2=aD/\
  R=(0,(bT r (fI++[(2,(seen:Int))]) (a1+1)).1,(bT r (fI++[(2,(seen:Int))]) (a1+1)).2.1):=by
 unfold jq at h
 cases hd:fR l nx 2001 st [] 0 with
 |mk st1 R1=>
 obtain⟨fI,a1,e⟩:=R1;rw[hd]at h;dsimp only at h;have he:=@wt l nx 2001 st [] 0;rw[hd]at he;dsimp only at he
 by_cases c0:e=0
 ·subst c0
  rw[if_neg (by simp)]at h;rcases wu hd rfl with e1|⟨x,r,e1,e2⟩
  grind;dsimp only at e1;subst e1;dsimp only at h
  by_cases c1:x.2≠t
  rw[if_pos c1]at h;subst h;exact .inl ⟨.inl I,rfl⟩;rw[if_neg c1]at h;split at h
  ·rename_i c2
   subst h;exact .inr ⟨x,r,fI,a1,rfl,e2,by simpa using c1,c2.1,c2.2,rfl⟩
  subst h;exact .inl ⟨.inr I,rfl⟩
 grind
theorem adC{g:ep}(hg:cC g=0){nx:Int->Int}(hn:adB g.aH nx){st:List TD}{seen:Nat}{t:Int}{R:Int×List TD×List dw}(h:jq g.aH nx st seen t=R)(h0:R.1=0)(hs:∀d∈st,rj g d)(hl:st.length<=60):(∀d∈R.2.1,rj g d)/\R.2.1.length<=60/\R.2.2.length<=2000:=by
 rcases yP h with⟨e|e,_⟩|⟨x,r,fI,a1,hd,_,_,h4,h5,rfl⟩
 omega;omega;have y1:=Ka hg hn hd I hs;obtain⟨y2,y3,y4,y5⟩:=Ag hd rfl hl J;obtain⟨z1,z2,z3,z4⟩:=@td r (fI++[(2,(seen:Int))]) (a1+1);dsimp only at y1 y2 y3 y4 y5⊢;simp only[bK,dj,iv]at z4 y2 y4;have:=z3 h5 J;exact⟨rU λd hd=>y1 d (kJ _ hd),by omega,by omega⟩
theorem Ij{nx:Int->Int}{st:List TD}{R:Int×List dw}(h:iw l nx st=R):((R.1=13\/R.1=14)/\R.2=[])\/∃a1,fR l nx 2001 st [] 0=([],R.2,a1,0)/\R.1=0:=by
 unfold iw at h
 cases hd:fR l nx 2001 st [] 0 with
 |mk st1 R1=>
 obtain⟨fI,a1,e⟩:=R1;rw[hd]at h;dsimp only at h;have he:=@wt l nx 2001 st [] 0;rw[hd]at he;dsimp only at he
 by_cases c0:e=0
 ·subst c0
  rw[if_neg (by simp)]at h;rcases wu hd rfl with e1|⟨x,r,e1,e2⟩
  dsimp only at e1;subst e1;subst h;exact .inr ⟨a1,rfl,rfl⟩;dsimp only at e1;subst e1;subst h;exact .inl ⟨.inl I,rfl⟩
 rw[if_pos c0]at h;subst h;exact .inl ⟨by rcases he with h|h|h;exact absurd h c0;exact .inl h;exact .inr h,rfl⟩
end
end eX
namespace bZ
open Go.RowKit cL dQ aV dO eX
def tdB:TD->Bool| .sym _=>aF| .close _=>aD
def tdN:TD->Int| .sym _=>0| .close p=>p
def tdX:TD->dw| .sym x=>x| .close _=>(0,0)
def xM(d:TD):List Value:=[.bool (tdB d),az aB (tdN d),az aB (tdX d).1,az aB (tdX d).2]
theorem Kb(d:TD):(xM d).length=4:=rfl
theorem Kc(l:List TD):∀u∈l.flatMap xM,u.oneCell'=true:=by
 intro u hu;obtain⟨d,_,h⟩:=vd.1 hu;simp only[xM,dM,fz,or_false]at h;rcases h with rfl|rfl|rfl|rfl<;>rfl
def Lv(d:TD):Value:=aQ (xM d).toArray
theorem Ik(x:dw)(w:World):(dg 185 #[(2,aQ (eu x).toArray)]).run aE w= .ok (Lv (.sym x)) w:=by
 unfold Lv xM eu tdB tdN tdX;go_simp
theorem V6(p:Int)(w:World):(dg 185 #[(0,.bool aD),(1,az aB p)]).run aE w= .ok (Lv (.close p)) w:=by
 unfold Lv xM tdB tdN tdX;go_simp
def tQ(vt:Value)(seen over:Int)(done:Bool):Value:=aQ #[vt,az aB seen,az aB over,.bool done]
def M_(t n:Int)(vp vt vo:Value)(dN:Nat):Array Value:=#[az aB t,az aB n,vp,vt,vo,az aB (dN:Int)]
abbrev yQ(gw:Nat)(t n:Int)(vp vt vo:Value)(dN:Nat):b9:=aR gw (M_ t n vp vt vo dN) 283
abbrev xr(vt:Value)(st:List TD):b9:=a_ 185 4 vt st.length (st.reverse.flatMap xM)
abbrev jJ(vo:Value)(l:List dw):b9:=a_ 54 2 vo l.length (l.flatMap eu)
theorem BD(k n:Int)(w:World):(dg 54 #[(0,az aB k),(1,az aB n)]).run aE w= .ok (aQ (eu (k,n)).toArray) w:=by
 unfold eu;go_simp
theorem TE{P:Program}{n:Nat}{W:bP}{fr:Fr}{L:List b9}{dst:Option Tmp}{t ty:TypeId}{pos:String}{after:Array Edge}{guard:Option (Nat×Bool)}{x:Operand}{f:Nat}{v u:Value}(hx:ev fr x=aj v)(h:∀w,(Z0 t v f).run P w= .ok u w):RR P n W ⟨dst,.field t x f,ty,pos,after,guard⟩ fr L u:= .mk λa w hr _=>by
 simp[execOp,hr.ev hx,h]
theorem V7(d:TD)(w:World):(Z0 185 (Lv d) 1).run aE w= .ok (az aB (tdN d)) w:=by
 unfold Lv xM;kernel_rfl
attribute [local irreducible] Instr.build in
theorem BE(gw:Nat)(t n:Int)(vp vt vo:Value)(out:List dw)(dN:Nat)(kd m:Int)(w:World)(B:bP)(h1:out.length<=100000)(h2:dN<=100000)(hm:Mem B [yQ gw t n vp vt vo dN,jJ vo out] w):
 Calls aE 127 #[aK (aj ⟨gw,0,ak⟩),az aB kd,az aB m] w (cZ ⟨λ(_:Value)=>True,λ_=> .bool (decide (((dN+1:Nat):Int)<=2000)),λxt=>[yQ gw t n vp vt xt (dN+1),jJ xt (out++[(kd,m)])]⟩ B):=by
 refine du hm (args:=[aK (aj ⟨gw,0,ak⟩),az aB kd,az aB m]) (n:=31) Tryz.func127 I I I ?_;refine SQ (i:=1) I λju l_=>?_
 repeat(first|refine GC ?_|refine gV (aC aL.ty I (aI (i:=0) I I)) ?_|refine gV (fl (r:=((dN+1:Nat):Int)) I I J J J) ?_|refine GB ?_)
 refine bJ (i:=0) I I I I I I ?_;rw[show(M_ t n vp vt vo dN).setIfInBounds (0+5) (az aB ((dN+1:Nat):Int))=M_ t n vp vt vo (dN+1)from I];refine zL ?_
 repeat(first|refine GA ?_|refine gV (aC aL.ty I (aI (i:=0) I I)) ?_|refine gV (bB I (BD _ _)) ?_)
 refine jR (i:=1) I I I I I I I (λz h=>by cases h;rfl) J J I λz' v'=>?_;refine zL ?_;refine aX (i:=1) I λju l_=>?_
 try refine GA ?_
 refine bJ (i:=0) I I I ju l_ I ?_;rw[show(M_ t n vp vt vo (dN+1)).setIfInBounds (0+4) v'=M_ t n vp vt v' (dN+1)from I];refine zL ?_
 repeat(first|refine GC ?_|refine gV (aC (v:=az aB ((dN+1:Nat):Int)) aL.ty I (aI (i:=0) I I)) ?_|refine gV (ye I I I) ?_|refine GB ?_)
 exact cJ I I λw hm=>hm.b_ (S:=⟨λ(_:Value)=>True,λ_=> .bool (decide (((dN+1:Nat):Int)<=2000)),λxt=>[yQ gw t n vp vt xt (dN+1),jJ xt (out++[(kd,m)])]⟩) v' trivial [0,1] aln (by simp[yQ,jJ])
theorem Cq{B:bP}{L:List b9}{i g cap:Nat}{d:TD}{r:List TD}(hi:L[i]?=aj (xr (av (aj ⟨g,0,ak⟩) (r.length+1) cap) (d::r)))(j:Nat)(u:Value)(hu:(xM d)[j]?=aj u):At B L ⟨g,0+r.length*4+j,ak⟩ u:=
 pz Kb hi (k:=r.length) (by simp) j u (by simpa using hu)
theorem TF{d:TD}{r:List TD}{g cap:Nat}{w:World}(h:(xr (av (aj ⟨g,0,ak⟩) (r.length+1) cap) (d::r)).holds w):(xr (av (aj ⟨g,0,ak⟩) r.length cap) r).holds w:=by
 obtain⟨h1,h2⟩:=h;refine⟨by rw[k_ Kb];simp,?_⟩;rcases h2 with⟨h2,_⟩|⟨g',A3,kU,e,h3,h4,h5,h6,h7,h8⟩
 cases h2
 cases e
 refine .inr ⟨g,cap,kU,rfl,h3,h4,by simp at h5;omega,h6,h7,?_⟩;have:(kU.toList.take ((d::r).length*4)).take (r.length*4)=((d::r).reverse.flatMap xM).take (r.length*4):=by rw[h8]
 rw[List.take_take,Nat.min_eq_left (by simp;omega),List.reverse_cons,ir,List.take_left' (by rw[k_ Kb];simp)]at this;exact this
attribute [local irreducible] Instr.build in
theorem BF(gw:Nat)(t n:Int)(vp vt vo:Value)(d:TD)(r:List TD)(dN:Nat)(w:World)(B:bP)(h1:r.length<=100000)(hm:Mem B [yQ gw t n vp vt vo dN,xr vt (d::r)] w):
 Calls aE 126 #[aK (aj ⟨gw,0,ak⟩)] w (cZ ⟨λ(_:Value)=>True,λ_=>Lv d,λoV=>[yQ gw t n vp oV vo dN,xr oV r]⟩ B):=by
 refine du hm (args:=[aK (aj ⟨gw,0,ak⟩)]) (n:=31) Tryz.func126 I I I ?_;refine yp (i:=1) I (by simp) λg cap hv q1 q2=>?_;subst hv;simp only[dj]at*;refine cB (bD (a8 I λg2=>?_));refine zL ?_
 try refine GA ?_
 refine dH ([yQ gw t n vp (av (aj ⟨g,0,ak⟩) (r.length+1) cap) vo dN,xr (av (aj ⟨g,0,ak⟩) (r.length+1) cap) (d::r)]) (.calm 0 (.calm 1 (.calm 2 (.calm 3 (.calm 4 (.calm 5 (.calm 6 (.calm 7 (.calm 8 (.calm 9 (.calm 10 (.calm 11 (.one 12 (.one 13 (.done))))))))))))))) (bV [0,1]) ?_
 repeat(first|(refine GN ?_;first|refine QW QP ?_|refine QW (aC (v:=av (aj ⟨g,0,ak⟩) (r.length+1) cap) aL.ty I (aI (i:=0) I I)) ?_|refine QW (eT (r:=(r.length:Int)) I I J J J) ?_|refine QW (aZ (j:=r.length) bQ.eq aL.ty I I J) ?_|refine QW (aY aL.ty I I (Cq (i:=1) I)) ?_|refine GX ?_)|refine GW ?_)
 refine aM I (a8 I λg3=>?_);refine aO (bV [0,1]) ?_;refine aM I (aW (i:=3) (cs':=(xM d).toArray) I I I I I I (aO (bV [0,1]) ?_))
 try refine GW ?_
 try refine GA ?_
 refine dH ([]) (.calm 0 (.calm 1 (.calm 2 (.calm 3 (.calm 5 (.calm 6 (.calm 7 (.two 4 (.one 8 (.calm 9 (.calm 10 (.calm 11 (.calm 12 (.calm 13 (.one 14 (.done)))))))) 8 (.calm 9 (.calm 10 (.one 4 (.calm 11 (.calm 12 (.calm 13 (.one 14 (.done)))))))))))))))) (bV []) ?_
 try refine GW ?_
 refine eN I I ?_ ?_
 ·refine dm (aC (v:=av (aj ⟨g,0,ak⟩) (r.length+1) cap) aL.ty I (aI (i:=0) I I)) I I I (aO (bV []) ?_)
  refine aM I (dm (aC (v:=av (aj ⟨g,0,ak⟩) (r.length+1) cap) aL.ty I (aI (i:=0) I I)) I I I (aO (bV []) ?_))
  repeat(first|(refine GN ?_;first|refine QW QP ?_|refine QW (eT (r:=(r.length:Int)) I I J J J) ?_|refine QW (LU (j:=r.length) bQ.eq aL.ty I I J) ?_|refine GX ?_)|refine GW ?_)
  refine aM I (bJ (i:=0) I I I I I I (aO (bV []) ?_));rw[show(M_ t n vp (av (aj ⟨g,0,ak⟩) (r.length+1) cap) vo dN).setIfInBounds (0+3) (av (aj ⟨g,0,ak⟩) r.length cap)=M_ t n vp (av (aj ⟨g,0,ak⟩) r.length cap) vo dN from I]
  try refine GW ?_
  repeat(first|refine GA ?_|refine gV (aP (i:=3) aL.ty I I I) ?_)
  refine gG 2 (cs':=(xM d).toArray) ?_;refine zL ?_
  try refine GA ?_
  refine oT (i:=1) (xr (av (aj ⟨g,0,ak⟩) r.length cap) r) I (λw h=>TF h) (λk hk=>hk) ?_;exact fW (i:=2) I I I I λw hm=>hm.b_ (S:=⟨λ(_:Value)=>True,λ_=>Lv d,λoV=>[yQ gw t n vp oV vo dN,xr oV r]⟩) (av (aj ⟨g,0,ak⟩) r.length cap) trivial [0,1] aln I
 ·refine dm (aC (v:=av (aj ⟨g,0,ak⟩) (r.length+1) cap) aL.ty I (aI (i:=0) I I)) I I I (aO (bV []) ?_)
  repeat(first|(refine GN ?_;first|refine QW QP ?_|refine QW (eT (r:=(r.length:Int)) I I J J J) ?_|refine GX ?_)|refine GW ?_)
  refine aM I (dm (aC (v:=av (aj ⟨g,0,ak⟩) (r.length+1) cap) aL.ty I (aI (i:=0) I I)) I I I (aO (bV []) ?_))
  repeat(first|(refine GN ?_;first|refine QW QP ?_|refine QW (LU (j:=r.length) bQ.eq aL.ty I I J) ?_|refine GX ?_)|refine GW ?_)
  refine aM I (bJ (i:=0) I I I I I I (aO (bV []) ?_));rw[show(M_ t n vp (av (aj ⟨g,0,ak⟩) (r.length+1) cap) vo dN).setIfInBounds (0+3) (av (aj ⟨g,0,ak⟩) r.length cap)=M_ t n vp (av (aj ⟨g,0,ak⟩) r.length cap) vo dN from I]
  try refine GW ?_
  repeat(first|refine GA ?_|refine gV (aP (i:=3) aL.ty I I I) ?_)
  refine gG 2 (cs':=(xM d).toArray) ?_;refine zL ?_
  try refine GA ?_
  refine oT (i:=1) (xr (av (aj ⟨g,0,ak⟩) r.length cap) r) I (λw h=>TF h) (λk hk=>hk) ?_;exact fW (i:=2) I I I I λw hm=>hm.b_ (S:=⟨λ(_:Value)=>True,λ_=>Lv d,λoV=>[yQ gw t n vp oV vo dN,xr oV r]⟩) (av (aj ⟨g,0,ak⟩) r.length cap) trivial [0,1] aln I
theorem Q5(out:List dw)(a:Nat):bT [] out a=([],out,a,aD):=rfl
theorem Q6(x:dw)(r:List TD)(out:List dw)(a:Nat):bT (.sym x::r) out a=(.sym x::r,out,a,aD):=rfl
theorem Q7(p:Int)(r:List TD)(out:List dw){a:Nat}(h:a+1<=2000):bT (.close p::r) out a=bT r (out++[(3,p)]) (a+1):=by rw[bT,if_pos h]
theorem V8(p:Int)(r:List TD)(out:List dw){a:Nat}(h:¬a+1<=2000):bT (.close p::r) out a=(r,out++[(3,p)],a+1,aF):=by rw[bT,if_neg h]
def clS(gw:Nat)(t n:Int)(vp:Value)(c:List TD×List dw×Nat×Bool):Spec (Value×Value):=⟨λ_=>True,λ_=> .bool c.2.2.2,λx=>[yQ gw t n vp x.1 x.2 c.2.2.1,xr x.1 c.1,jJ x.2 c.2.1]⟩
theorem rW(gw:Nat)(t n:Int)(vp vt0 vo0:Value)(Xm:List TD)(ww:List dw)(Il:Nat)(w:World)(B:bP)(h1:Xm.length<=100000)(h2:Il<=2000)(h3:ww.length=Il)(hm:Mem B [yQ gw t n vp vt0 vo0 Il,xr vt0 Xm,jJ vo0 ww] w):
 Calls aE 128 #[aK (aj ⟨gw,0,ak⟩)] w (cZ (clS gw t n vp (bT Xm ww Il)) B):=by
 refine du hm (args:=[aK (aj ⟨gw,0,ak⟩)]) (n:=30) Tryz.func128 I I I ?_;clear hm
 try refine GA ?_
 generalize hC:bT Xm ww Il=C;refine d_ (ι:=List TD×List dw×Nat×Value×Value) (λ(st,out,dN,_,_)=>bT st out dN=C/\st.length<=100000/\dN<=2000/\out.length=dN) (λ_=>[(0,aK (aj ⟨gw,0,ak⟩))]) (λ(st,out,dN,vt,vo)=>[yQ gw t n vp vt vo dN,xr vt st,jJ vo out]) (λ(st,_,_,_,_)=>st.length) (Xm,ww,Il,vt0,vo0) ⟨hC,h1,h2,h3⟩ ?_;clear h1 h2 h3 hC;rintro⟨st,out,dN,vt,vo⟩ ⟨hC,h1,h2,h3⟩;dsimp only at hC h1 h2 h3⊢
 cases st with
 | nil=>
  rw[Q5]at hC;subst hC
  (repeat refine cB ?_)
  refine dH ([yQ gw t n vp vt vo dN,xr vt []]) (.calm 0 (.calm 1 (.calm 2 (.calm 3 (.calm 4 (.calm 5 (.calm 6 (.calm 7 (.calm 8 (.calm 9 (.calm 10 (.calm 11 (.calm 12 (.calm 13 (.calm 14 (.calm 15 (.calm 16 (.calm 17 (.calm 18 (.calm 19 (.calm 20 (.done)))))))))))))))))))))) (bV [0,1]) ?_
  repeat(first|(refine GN ?_;first|refine QW QP ?_|refine QW (aC (v:=vt) aL.ty I (aI (i:=0) I I)) ?_|refine QW (e_ (i:=1) bQ.eq I I) ?_|refine QW (dW (b:=aF) I I I) ?_|refine GX ?_)|refine GW ?_)
  try refine GA ?_
  exact cJ I I λw hm=>hm.b_ (S:=clS gw t n vp ([],out,dN,aD)) (vt,vo) trivial [0,1,2] aln I
 | cons d r=>
  simp only[dj]at h1;refine yp (i:=1) I (by simp) λg cap hv q1 q2=>?_;subst hv;simp only[dj]at*
  cases d with
  | sym x=>
   rw[Q6]at hC;subst hC
   (repeat refine cB ?_)
   refine dH ([yQ gw t n vp (av (aj ⟨g,0,ak⟩) (r.length+1) cap) vo dN,xr (av (aj ⟨g,0,ak⟩) (r.length+1) cap) (.sym x::r)]) (.calm 0 (.calm 1 (.calm 2 (.calm 3 (.calm 4 (.calm 5 (.calm 6 (.calm 7 (.calm 8 (.calm 9 (.calm 10 (.calm 11 (.calm 12 (.calm 13 (.calm 14 (.calm 15 (.calm 16 (.calm 17 (.calm 18 (.calm 19 (.calm 20 (.done)))))))))))))))))))))) (bV [0,1]) ?_
   repeat(first|(refine GN ?_;first|refine QW QP ?_|refine QW (aC (v:=av (aj ⟨g,0,ak⟩) (r.length+1) cap) aL.ty I (aI (i:=0) I I)) ?_|refine QW (aC (v:= .bool aF) aL.ty I (Cq (i:=1) I 0 _ I)) ?_|refine QW (eT (r:=(r.length:Int)) I I J J J) ?_|refine QW (aZ (j:=r.length) bQ.eq aL.ty I I J) ?_|refine GX ?_)|refine GW ?_)
   try refine GA ?_
   exact cJ I I λw hm=>hm.b_ (S:=clS gw t n vp (.sym x::r,out,dN,aD)) (_,vo) trivial [0,1,2] aln I
  | close p=>
   (repeat refine cB ?_)
   refine dH ([yQ gw t n vp (av (aj ⟨g,0,ak⟩) (r.length+1) cap) vo dN,xr (av (aj ⟨g,0,ak⟩) (r.length+1) cap) (.close p::r)]) (.calm 0 (.calm 1 (.calm 2 (.calm 3 (.calm 4 (.calm 5 (.calm 6 (.calm 7 (.calm 8 (.calm 9 (.calm 10 (.calm 11 (.calm 12 (.calm 13 (.calm 14 (.calm 15 (.calm 16 (.calm 17 (.calm 18 (.calm 19 (.calm 20 (.done)))))))))))))))))))))) (bV [0,1]) ?_
   repeat(first|(refine GN ?_;first|refine QW QP ?_|refine QW (aC (v:=av (aj ⟨g,0,ak⟩) (r.length+1) cap) aL.ty I (aI (i:=0) I I)) ?_|refine QW (aC (v:= .bool aD) aL.ty I (Cq (i:=1) I 0 _ I)) ?_|refine QW (eT (r:=(r.length:Int)) I I J J J) ?_|refine QW (aZ (j:=r.length) bQ.eq aL.ty I I J) ?_|refine GX ?_)|refine GW ?_)
   try refine GA ?_
   refine bz [0,1] [2] aln I I (ja aJ.en I I) (λw hm hb=>BF gw t n vp _ vo (.close p) r dN w _ J hb) I I I ?_;intro oV _;refine zL ?_;dsimp only
   repeat(first|refine GA ?_|refine gV (TE I (V7 (.close p))) ?_)
   refine bz [1,0] [2] aln I I (qq aJ.en I I I I) (λw hm hb=>BE gw t n vp oV vo out dN 3 p w _ J J hb) I I I ?_;intro xt _;refine zL ?_;dsimp only
   by_cases c:dN+1<=2000
   ·rw[Q7 p r out c]at hC
    rw[decide_eq_true (show((dN+1:Nat):Int)<=2000 by omega)]
    try refine GA ?_
    refine dv [1,0,2] ?_;exact bW (r,out++[(3,p)],dN+1,oV,xt) ⟨hC,(by show r.length<=100000;omega),c,by simp[h3]⟩ (by show r.length<r.length+1;omega)
   rw[V8 p r out c]at hC;subst hC;rw[decide_eq_false (show ¬((dN+1:Nat):Int)<=2000 by omega)]
   try refine GA ?_
   exact cJ I I λw hm=>hm.b_ (S:=clS gw t n vp (r,out++[(3,p)],dN+1,aF)) (oV,xt) trivial [1,0,2] aln I
theorem Kd(r:List TD)(d:TD):(r.reverse.flatMap xM)++xM d=(d::r).reverse.flatMap xM:=by simp
def stO(p:Nat)(r:List TD)(body:List dw)(j:Nat):List TD:=(body.drop (body.length-j)).map .sym++ .close (p:Int)::r
theorem aim(p:Nat)(r:List TD)(body:List dw):stO p r body 0= .close (p:Int)::r:=by unfold stO;rw[E0,yK];rfl
theorem adD(p:Nat)(r:List TD)(body:List dw):stO p r body body.length=body.map .sym++ .close (p:Int)::r:=by unfold stO;rw[Nat.sub_self,wh]
theorem aai(p:Nat)(r:List TD){body:List dw}{k:Nat}(hk:k<body.length):stO p r body (body.length-k)= .sym body[k]::stO p r body (body.length-k-1):=by
 unfold stO;rw[show body.length-(body.length-k)=k by omega,show body.length-(body.length-k-1)=k+1 by omega,eH hk];rfl
def opS(gw:Nat)(t n:Int)(vp:Value)(st:List TD)(out:List dw)(dN:Nat):Spec (Value×Value):=⟨λ_=>True,λ_=> .bool (decide (dN<=2000/\st.length<=60)),λx=>[yQ gw t n vp x.1 x.2 dN,xr x.1 st,jJ x.2 out]⟩
attribute [local irreducible] Instr.build in
theorem Q8(w0:World)(gw:Nat)(t n:Int)(vp:Value)(aH:List aV.Prod)(hG:kw oL (λk=>k<w0.heap.size) w0 vp aH)(hlen:aH.length<=100000)(p:Nat)(hp:p<aH.length)(h8:aH[p].2.length<=8)(vt vo:Value)(d:TD)(r:List TD)(out:List dw)(dN:Nat)(w:World)(B:bP)(h1:r.length<=100)(h2:dN<=2000)(h3:out.length=dN)(ho:mI w0 B)(hm:Mem B [yQ gw t n vp vt vo dN,xr vt (d::r),jJ vo out] w):
 Calls aE 143 #[aK (aj ⟨gw,0,ak⟩),az aB (p:Int)] w (cZ (opS gw t n vp (opened aH p r) (out++[(1,(p:Int))]) (dN+1)) B):=by
 obtain⟨bp,cp,rfl,JE,Gv,oM⟩:=hG;unfold maxLen at Gv;obtain⟨b,off,rfl,_,hr⟩:=oM J;obtain⟨bb,cb,y1,y2,y3⟩:=l7 hr hp;have TG:opened aH (p:Int) r=aH[p].2.map .sym++ .close (p:Int)::r:=by unfold opened df;rw[dD,de,bM hp];rfl
 rw[TG];clear TG oM hr;have J0:∀(L:List b9),At B L ⟨b,off+p*2+1,ak⟩ (.slice bb aH[p].2.length cb):=λL=>iX ho (y1 1 _ I);have ue:=y3.flat aln;generalize aH[p].2=body at*;clear y1 y2 y3;obtain⟨b2,cb2,he,hb4,hb5,hb6⟩:=ue;simp only[jN,true_and]at he;obtain⟨rfl,rfl⟩:=he;refine du hm (args:=[aK (aj ⟨gw,0,ak⟩),az aB (p:Int)]) (n:=61) Tryz.func143 I I I ?_;clear hm
 try refine GA ?_
 refine bz [0,1] [2] aln I I (ja aJ.en I I) (λw hm hb=>BF gw t n _ vt vo d r dN w _ J hb) I I I ?_;intro vt1 _;refine zL ?_;dsimp only;refine aX (i:=2) I λju l_=>?_
 repeat(first|refine GA ?_|refine gV (aC aL.ty I (aI (i:=1) I I)) ?_|refine gV (bB I (V6 _)) ?_)
 refine jR (i:=2) I I I I I I I (λz h=>by cases h;rfl) J J I λz' TH=>?_;refine zL ?_;refine aX (i:=2) I λju l_=>?_
 try refine GA ?_
 refine bJ (i:=1) I I I ju l_ I ?_;rw[show(M_ t n (av (aj ⟨b,off,ak⟩) aH.length cp) vt1 vo dN).setIfInBounds (0+3) TH=M_ t n (av (aj ⟨b,off,ak⟩) aH.length cp) TH vo dN from I];refine zL ?_
 repeat(first|refine GC ?_|refine gV (aC (v:=av (aj ⟨b,off,ak⟩) aH.length cp) aL.ty I (aI (i:=1) I I)) ?_|refine gV (aZ bQ.eq aL.ty I I hp) ?_|refine gV (aC aL.ty I (J0 _)) ?_|refine gV (eT (r:=(body.length:Int)-1) I I J J I) ?_|refine GB ?_)
 rw[Kd r (.close (p:Int))];refine mM (ι:=Nat×Value) (λ(j,_)=>j<=body.length) (λ(j,_)=>[(0,aK (aj ⟨gw,0,ak⟩)),(1,az aB (p:Int)),(5,av bb body.length cb),(6,az aB (((body.length-j:Nat):Int)-1))])
  (λ(j,vt)=>[jJ vo out,yQ gw t n (av (aj ⟨b,off,ak⟩) aH.length cp) vt vo dN,a_ 185 4 vt (r.length+1+j) ((stO p r body j).reverse.flatMap xM)]) (λ(j,_)=>body.length-j) (0,TH) (bH _) (by repeat' (first|exact cV|refine cP I ?_)) (by dsimp only;rw[aim]) ?_
 rintro⟨j,TI⟩ hj;dsimp only at hj⊢
 by_cases c:j<body.length
 ·obtain⟨b4,ak3,rfl,hr4⟩:=hb6 J
  have hk:body.length-1-j<body.length:=by omega
  have Vr:=λL=>uR (W:=B) (L:=L) (f:=eu) (c:=2) (λ_=>rfl) (λq x hq=>iX ho (hr4 q x hq)) hk;have hst:=aai p r hk;rw[show body.length-(body.length-1-j)=j+1 by omega,Nat.add_sub_cancel]at hst;rw[show(((body.length-j:Nat):Int)-1)=((body.length-1-j:Nat):Int)by omega];generalize body[body.length-1-j]=x at*;obtain⟨xq,xm⟩:=x;refine SQ (i:=2) I λju l_=>?_
  repeat(first|refine GC ?_|refine gV (fu (b:=aD) I I (decide_eq_true J)) ?_|refine GB ?_)
  refine dH ([]) (.calm 0 (.calm 1 (.calm 2 (.calm 3 (.calm 5 (.calm 6 (.calm 7 (.calm 8 (.calm 9 (.two 4 (.one 10 (.one 11 (.calm 12 (.calm 13 (.one 14 (.done)))))) 10 (.one 4 (.one 11 (.calm 12 (.calm 13 (.one 14 (.done)))))))))))))))) (bV []) ?_
  repeat(first|refine GW ?_|(refine GN ?_;first|refine QW (aZ (j:=body.length-1-j) bQ.eq aL.ty I I hk) ?_|refine QW (aY aL.ty I I (Vr _)) ?_|refine QW (bB I (Ik (xq,xm))) ?_))
  refine eN I I ?_ ?_
  ·refine dm (aC (v:=TI) aL.ty I (aI (i:=1) I I)) I I I (aO (bV []) ?_)
   refine aM I (fw (cs:=(xM (.sym (xq,xm))).toArray) [Lv (.sym (xq,xm))] I I I (by intro v hv;simp at hv;subst hv;rfl) I I I λg46=>(aO (bV []) ?_));refine aM I (ee (i:=2) (k:=1) (ys:=xM (.sym (xq,xm))) I (kI (i:=3) I (λj u h=>by simpa using h) (bC 1) aln) I I I (λu hu=>Kc [.sym (xq,xm)] u (by simpa using hu)) J J I λv'=>(aO (bV []) ?_))
   try refine GW ?_
   refine aM I (aX (i:=2) I λju l_=>bJ (i:=1) I I I ju l_ I (aO (bV []) ?_));rw[show(M_ t n (av (aj ⟨b,off,ak⟩) aH.length cp) TI vo dN).setIfInBounds (0+3) v'=M_ t n (av (aj ⟨b,off,ak⟩) aH.length cp) v' vo dN from I]
   try refine GW ?_
   repeat(first|refine GC ?_|refine gV (eT (r:=((body.length-(j+1):Nat):Int)-1) I I J J J) ?_|refine GB ?_)
   refine dv [0,1,2] ?_;exact bW (j+1,v') (by show j+1<=body.length;omega) (by show body.length-(j+1)<body.length-j;omega) (hl:=by dsimp only;rw[hst,<-Kd];rfl)
  refine fw (cs:=(xM (.sym (xq,xm))).toArray) [Lv (.sym (xq,xm))] I I I (by intro v hv;simp at hv;subst hv;rfl) I I I λg46=>(aO (bV []) ?_);refine aM I (dm (aC (v:=TI) aL.ty I (aI (i:=1) I I)) I I I (aO (bV []) ?_));refine aM I (ee (i:=2) (k:=1) (ys:=xM (.sym (xq,xm))) I (kI (i:=3) I (λj u h=>by simpa using h) (bC 1) aln) I I I (λu hu=>Kc [.sym (xq,xm)] u (by simpa using hu)) J J I λv'=>(aO (bV []) ?_))
  try refine GW ?_
  refine aM I (aX (i:=2) I λju l_=>bJ (i:=1) I I I ju l_ I (aO (bV []) ?_));rw[show(M_ t n (av (aj ⟨b,off,ak⟩) aH.length cp) TI vo dN).setIfInBounds (0+3) v'=M_ t n (av (aj ⟨b,off,ak⟩) aH.length cp) v' vo dN from I]
  try refine GW ?_
  repeat(first|refine GC ?_|refine gV (eT (r:=((body.length-(j+1):Nat):Int)-1) I I J J J) ?_|refine GB ?_)
  refine dv [0,1,2] ?_;exact bW (j+1,v') (by show j+1<=body.length;omega) (by show body.length-(j+1)<body.length-j;omega) (hl:=by dsimp only;rw[hst,<-Kd];rfl)
 ·obtain rfl:j=body.length:=by omega
  rw[adD];have Fc:(body.map TD.sym++ .close (p:Int)::r).length=r.length+1+body.length:=by simp;omega
  repeat(first|refine GC ?_|refine gV (fu (b:=aF) I I (decide_eq_false J)) ?_|refine GB ?_)
  refine bz [1,0] [2] aln I I (qq aJ.en I I I I) (λw hm hb=>BE gw t n _ TI vo out dN 1 (p:Int) w _ J J hb) I I I ?_;intro xt _;refine zL ?_;dsimp only;have fin:∀(x:Bool),x=decide (dN+1<=2000/\(body.map TD.sym++ .close (p:Int)::r).length<=60)->(fT x)=(opS gw t n (av (aj ⟨b,off,ak⟩) aH.length cp) (body.map .sym++ .close (p:Int)::r) (out++[(1,(p:Int))]) (dN+1)).val (TI,xt):=λx h=>by rw[h];rfl
  rw[Fc]at fin
  by_cases c2:dN+1<=2000
  ·rw[decide_eq_true (show((dN+1:Nat):Int)<=2000 by omega)]
   by_cases c3:r.length+1+body.length<=60
   ·repeat(first|refine GC ?_|refine gV (aC (v:=TI) aL.ty I (aI (i:=1) I I)) ?_|refine gV (e_ (i:=0) bQ.eq I I) ?_|refine gV (ye (b:=aD) I I (decide_eq_true J)) ?_|refine GB ?_)
    refine cJ I I λw hm=>?_;rw[fin aD (by simp[c2,c3])];exact hm.b_ (S:=opS gw t n (av (aj ⟨b,off,ak⟩) aH.length cp) (body.map .sym++ .close (p:Int)::r) (out++[(1,(p:Int))]) (dN+1)) (TI,xt) trivial [1,0,2] aln (by rw[<-Fc];rfl)
   repeat(first|refine GC ?_|refine gV (aC (v:=TI) aL.ty I (aI (i:=1) I I)) ?_|refine gV (e_ (i:=0) bQ.eq I I) ?_|refine gV (ye (b:=aF) I I (decide_eq_false J)) ?_|refine GB ?_)
   refine cJ I I λw hm=>?_;rw[fin aF (by simp[c3])];exact hm.b_ (S:=opS gw t n (av (aj ⟨b,off,ak⟩) aH.length cp) (body.map .sym++ .close (p:Int)::r) (out++[(1,(p:Int))]) (dN+1)) (TI,xt) trivial [1,0,2] aln (by rw[<-Fc];rfl)
  rw[decide_eq_false (show ¬((dN+1:Nat):Int)<=2000 by omega)]
  try refine GA ?_
  refine cJ I I λw hm=>?_;rw[fin aF (by simp[c2])];exact hm.b_ (S:=opS gw t n (av (aj ⟨b,off,ak⟩) aH.length cp) (body.map .sym++ .close (p:Int)::r) (out++[(1,(p:Int))]) (dN+1)) (TI,xt) trivial [1,0,2] aln (by rw[<-Fc];rfl)
theorem TJ(a:eX.TD):(xM a).length=4:=rfl
theorem yR(v:Value)(l:List eX.TD)(w:World)(hs:Sl w v l.length (l.flatMap xM))(pF:FuncId)(first cp:Array Value)(p:eX.TD->Bool)(Bn:Enters aE pF)
 (hp:∀a∈l,∀w',Gr w w'->Calls aE pF (first++#[(aQ (xM a).toArray)]++cp) w' (bX (ret (.bool (p a))) w')):
 Calls aE 167 #[v,.func (.func pF) first cp] w (bX (ret (az aB (rF p l))) w):=by
 obtain⟨base,cap,rfl,lf,jL,eR⟩:=hs;unfold maxLen at jL;refine enter (args:=[av base l.length cap,.func (.func pF) first cp]) (n:=19) Tryz.func167 I I I ?_
 refine GA ?_
 refine d_ (ι:=Nat) (λk=>k<=l.length/\∀j (hj:j<l.length),j<k->p l[j]=aF) (λk=>[(0,av base l.length cap),(1,.func (.func pF) first cp),(7,az aB l.length),(8,az aB (k:Int))]) (λ_=>[]) (λk=>l.length-k) 0 ⟨by omega,λj hj h=>by omega⟩ ?_;rintro k ⟨h1,h2⟩
 by_cases c2:k<l.length
 ·obtain⟨b,off,rfl,hr⟩:=eR J
  have dy:=gd (L:=([]:List b9)) TJ hr c2;have jU:=hp l[k] (cH c2)
  by_cases c3:p l[k]=aD
  ·rw[rG c2 c3 h2]
   rw[c3]at jU
   repeat(first|refine GA ?_|refine gV (aZ bQ.eq aL.ty I I c2) ?_|refine gV (aY aL.ty I I dy) ?_)
   refine aU (CO Bn I I) (λw hm=>jU w hm.below) I I I ?_;intro _ _
   refine GA ?_
   exact eB
  have OQ:p l[k]=false:=by simp_all
  rw[OQ]at jU
  repeat(first|refine GA ?_|refine gV (aZ bQ.eq aL.ty I I c2) ?_|refine gV (aY aL.ty I I dy) ?_)
  refine aU (CO Bn I I) (λw hm=>jU w hm.below) I I I ?_;intro _ _
  refine GA ?_
  exact bW (k+1) ⟨by omega,λj hj h=>if e:j<k then h2 j hj e else(by grind)⟩ J
 ·rw[rH λj hj=>h2 j hj J]
  refine GA ?_
  exact eB
theorem t_(v:Value)(l:List eX.TD)(w:World)(hs:Sl w v l.length (l.flatMap xM))(pF:FuncId)(first cp:Array Value)(p:eX.TD->Bool)(Bn:Enters aE pF)
 (hp:∀a∈l,∀w',Gr w w'->Calls aE pF (first++#[(aQ (xM a).toArray)]++cp) w' (bX (ret (.bool (p a))) w')):
 Calls aE 139 #[v,.func (.func pF) first cp] w (bX (ret (.bool (l.any p))) w):=by
 refine enter (args:=[v,.func (.func pF) first cp]) (n:=9) Tryz.func139 I I I ?_;have hh:=λw' (hg:Gr w w')=>yR v l w' (hs.gr hg) pF first cp p Bn λa ha Gs yy=>hp a ha Gs (hg.trans yy);have hr:=pA p l;rw[<-uS p l];generalize rF p l=r at*
 refine GA ?_
 refine aU (fC aJ.en I I I) (λw hm=>hh _ hm.below) I I I ?_;intro _ _
 repeat(first|refine GC ?_|refine gV (fu I I I) ?_|refine GB ?_)
 exact eB
theorem Fg(v:Value)(l:List eX.TD)(w:World)(hs:Sl w v l.length (l.flatMap xM))(hl:l.length*40<=140737488355328):
 Calls aE 142 #[v] w (bX (cD 185 4 l.length (l.flatMap xM) id) w):=by
 obtain⟨base,cap,rfl,lf,jL,eR⟩:=hs;unfold maxLen at jL;refine enter (args:=[av base l.length cap]) (n:=8) Tryz.func142 I I I ?_;have rQ:∀w',Gr w w'->Sl w' (av base l.length cap) l.length (l.flatMap xM):=λw' hg=>Sl.gr ⟨base,cap,rfl,lf,jL,eR⟩ hg
 cases base with
 | none=>
  repeat(first|refine GC ?_|refine gV (ku bQ.eq I I I) ?_|refine GB ?_)
  have h0:l=[]:=by
   simp_all
  subst h0;exact dJ 185 4<|cJ I I λw hm=>hm.meets (S:=cD 185 4 0 [] id) _ trivial [0] aln I
 |some p=>
  repeat(first|refine GC ?_|refine gV (ku bQ.eq I I I) ?_|refine GB ?_)
  refine wX I λg=>?_
  refine GA ?_
  refine ee (i:=0) I (λw' hm=>rQ w' hm.below) I I (k_ TJ l) (Kc l) J J I λv'=>?_;rw[e7]
  refine GA ?_
  refine cJ I I λw hm=>?_;exact hm.meets (S:=cD 185 4 l.length (l.flatMap xM) id) v' trivial [0] aln (by simp[cD])
end bZ
namespace bI
open aV dO fX dR cz
open CR (EI)
section
variable{l:List aV.Prod}{T N:Nat}{lk:Int->Int->Nat}{Nx:List (List Int)}{S:List (List Item)}{w:List Int}
variable{E R M:List Bool}{F W:List Nat}
theorem Na(hI:VC l T N lk S.length Nx S){q:Nat}(hq:q<S.length):∀it∈S.getD q [],eK l T it:=by
 have Bu:S.getD q []=S[q]:=by simp_all
 rw[Bu];exact hI.ss.right _ (cH hq)
end
open yD
open CR (EI)
section
variable{l:List aV.Prod}{T N:Nat}{lk:Int->Int->Nat}{Nx:List (List Int)}{S:List (List Item)}
inductive Stk(l:List aV.Prod)(T N:Nat)(lk:Int->Int->Nat)(S:List (List Item)):List Nat->List (dw×Tree)->Nat->Prop
 |start:Stk l T N lk S [0] [] 0
 |push {q s:Nat} {σ:List Nat} {ts:List (dw×Tree)} {a:Nat} {x:dw} {t:Tree} (h:Stk l T N lk S (q::σ) ts a) (hs:s<S.length) (hx:S.getD s []=jn l T lk (S.getD q []) x) (hne:jn l T lk (S.getD q []) x≠[]) (ht:HP l t x a):Stk l T N lk S (s::q::σ) ((x,t)::ts) (a+leaves t)
theorem Stk.len{σ:List Nat}{ts:List (dw×Tree)}{a:Nat}(h:Stk l T N lk S σ ts a):σ.length=ts.length+1:=by
 induction h with
 |start=>rfl
 |push _ _ _ _ _ ih=>simp_all
section
end
end
end bI
namespace yD
open aV dO fX dR
def Nb(o:dw->Nat->Nat->Nat)(x:dw)(oU:Nat)(A:Nat->Bool):Nat->Nat->Bool
 |0,_=>aF
 |k+1,b=>Nb o x oU A k b||(A (oU+k)&&decide (oU+k<=b)&&decide (0<o x (oU+k) b))
def aaj(p:Nat->Bool)(oU:Nat):Nat->Bool
 |0=>aF
 |k+1=>aaj p oU k||p (oU+k)
def adE(o:dw->Nat->Nat->Nat)(O:Nat->Nat->Bool)(n oU:Nat):List dw->(Nat->Bool)->Bool
 |[],A=>A n
 |x::r,A=>if A n=aD then aD else if x.1=2/\aaj (λa=>A a&&O x.2.toNat a) oU (n+1-oU)=aD then aD else adE o O n oU r (Nb o x oU A (n+1-oU))
def Ke(o:dw->Nat->Nat->Nat)(O:Nat->Nat->Bool)(M:List Bool)(n oU:Nat)(l:List dw):Bool:=if pH M l aD=aD then adE o O n oU l (λb=>decide (b=oU))else aF
section
variable{o:dw->Nat->Nat->Nat}{x:dw}{oU:Nat}{A:Nat->Bool}
theorem Im{b:Nat}:∀{k:Nat},Nb o x oU A k b=aD↔∃i,i<k/\A (oU+i)=aD/\oU+i<=b/\0<o x (oU+i) b
 |0=>by simp[Nb]
 | k+1=>by
  rw[Nb,nD,Im,fc,fc,decide_eq_true_iff,decide_eq_true_iff]
  grind
theorem Nc{p:Nat->Bool}:∀{k:Nat},aaj p oU k=aD↔∃i,i<k/\p (oU+i)=aD
 |0=>by simp[aaj]
 | k+1=>by
  rw[aaj,nD,Nc]
  grind
end
section
variable{w:List Int}{l:List aV.Prod}{n:Nat}{c:vz}{O:Nat->Nat->Bool}
theorem Fh:∀(b:List dw),(∀x∈b,∃ws,GJ l x ws)->∃ws,rL l b ws
 |[],_=>⟨[],.nil⟩
 |x::r,h=>by
  obtain⟨u,h1⟩:=h x (by simp);obtain⟨s,h2⟩:=Fh r λy hy=>h y (by grind);exact⟨u++s,.cons h1 h2⟩
theorem aak{a b:Nat}(h:a<=b):cut w a b++w.drop b=w.drop a:=by
 grind[cut,List.drop_drop,om]
theorem Fi(hc:Lfp w l n c)(hs:pG n l)(hO:∀(k:Nat) a,O k a=aD->a<=w.length->∃v,GJ l (2,(k:Int)) (w.drop a++v)){oU:Nat}(hf:oU<=w.length):∀(body:List dw) (A:Nat->Bool) (pre:List dw),(∀x∈body,(x.1=1\/(x.1=2/\0<=x.2/\x.2<(n:Int)))/\∃ws,GJ l x ws)->(∀b,oU<=b->b<=w.length->A b=aD->rL l pre (cut w oU b))->adE (kx c w) O w.length oU body A=aD->∃v,rL l (pre++body) (w.drop oU++v)
 | [],A,pre,_,hA,h=>by
  have:=hA w.length hf (bC _) h;rw[Tb I]at this;exact⟨[],by simp_all⟩
 | x ::r,A,pre,hx,hA,h=>by
  rw[adE]at h;split at h
  ·rename_i h1
   have h2:=hA w.length hf (bC _) h1;rw[Tb I]at h2;obtain⟨ws,h3⟩:=Fh (x::r) λy hy=>(hx y hy).2;exact⟨ws,h2.OS h3⟩
  split at h
  ·rename_i h1
   obtain⟨h1,h2⟩:=h1;obtain⟨i,h3,h4⟩:=Nc.1 h2;rw[fc]at h4;have hk:=((hx x (by simp)).1.resolve_left J).2;obtain⟨v,h5⟩:=hO _ _ h4.2 J;obtain⟨x1,x2⟩:=x;subst h1;rw[u_ hk.1]at h5;obtain⟨ws,h6⟩:=Fh r λy hy=>(hx y (by grind)).2;refine⟨v++ws,?_⟩;have h7:=(hA (oU+i) J J h4.1).OS (rL.cons h5 h6);rw[eY (w.drop (oU+i)),<-eY (cut w oU (oU+i)),aak J]at h7;exact h7
  obtain⟨v,h1⟩:=Fi hc hs hO hf r _ (pre++[x]) (λy hy=>hx y (by grind)) (λb GP OP hb=>by
   obtain⟨i,h3,h4,h5,h6⟩:=Im.1 hb;rw[<-zT (by omega:oU<=oU+i) h5];exact(hA _ J J h4).OS (ZH (Qj hc hs (hx x (by simp)).1 h5 OP h6))) h
  grind
theorem Kf{M:List Bool}(hM:∀i:Nat,M.getD i aF=aD->∃ws,GJ l (2,(i:Int)) ws)(hc:Lfp w l n c)(hs:pG n l)(hO:∀(k:Nat) a,O k a=aD->a<=w.length->∃v,GJ l (2,(k:Int)) (w.drop a++v)){oU:Nat}(hf:oU<=w.length){body:List dw}(hx:∀x∈body,x.1=1\/(x.1=2/\0<=x.2/\x.2<(n:Int)))(h:Ke (kx c w) O M w.length oU body=aD):∃v,rL l body (w.drop oU++v):=by
 unfold Ke at h;split at h
 ·rename_i hm
  refine Fi hc hs hO hf body _ [] (λx hb=>⟨hx x hb,?_⟩) (λb _ _ hb=>?_) h
  ·unfold pH at hm
   have:=pq.1 hm x hb;rcases hx x hb with c1|⟨c1,c2,_⟩
   exact⟨_,.Ex c1⟩;rw[if_neg J,if_pos c1]at this;obtain⟨ws,hw⟩:=hM _ this;obtain⟨x1,x2⟩:=x;subst c1;rw[u_ c2]at hw;exact⟨ws,hw⟩
  have:b=oU:=by simp_all
  subst this;rw[Mq];exact .nil
 cases h
end
end yD
namespace aV
abbrev Tx:=List UInt8
def dec(n:Nat):Tx:=if n<10 then [fV (48+n)]else [fV (48+n/10),fV (48+n %10)]
def xu(c:UInt8):Tx->Tx×Tx×Bool
 |[]=>([],[],aF)
 |b::r=>if b=c then([],r,aD)else(b::(xu c r).1,(xu c r).2.1,(xu c r).2.2)
def aal(x:dw):Tx:=32::(if x.1=1 then 116 else 110)::dec x.2.toNat
theorem adF(n:Nat):0<(dec n).length/\(dec n).length<=2:=by grind[dec]
theorem zT{c:UInt8}:∀{a:Tx} (b:Tx),(∀x∈a,x≠c)->xu c (a++c::b)=(a,b,aD)
 |[],b,_=>by rw[e7,xu,if_pos I]
 |x::a,b,h=>by
  rw[kD,xu,if_neg (h x (iO ..)),zT b λy hy=>h y (kJ _ hy)]
theorem aam{c:UInt8}:∀{s:Tx},(xu c s).2.2=aD->s=(xu c s).1++c::(xu c s).2.1
 |[],h=>by cases h
 | b::r,h=>by
  rw[xu]at h⊢;split at h
  simp_all
  rename_i e
  rw[if_neg e];show b::r=b::((xu c r).1++c::(xu c r).2.1)
  rw[<-aam (s:=r) h]
theorem Tc{c:UInt8}{s:Tx}(h:(xu c s).2.2=aD):(xu c s).1.length+(xu c s).2.1.length+1=s.length:=by
 have:=congrArg List.length (aam h);rw[bK,dj]at this;omega
theorem adG(x:dw):0<(aal x).length/\(aal x).length<=4:=by simp[adF,aal]
theorem zY:∀l:List dw,l.length<=(l.flatMap aal).length/\(l.flatMap aal).length<=4*l.length
 |[]=>⟨bC _,bC _⟩
 |x::l=>by
  have h1:=adG x;have h2:=zY l;rw[oo,bK,dj];omega
end aV
namespace fY
open dh gu
open aV (xu zT)
abbrev Bs:=List UInt8
abbrev Wd:=Bs×Rx
abbrev Rl:=Bs×List Bs
structure Sp where
 words:List Wd
 rules:List Rl
def xN(b:UInt8):Bool:=decide (97<=b.toNat)&&decide (b.toNat<=122)
def te(s:Bs):Bool:=decide (s≠[])&&decide (s.length<=12)&&s.all xN
def lV:List Wd->List Bs->Int×List Bs
 |[],of=>(0,of)
 |w::r,of=>if w.1≠[]/\te w.1=aF then(1,of)else if bZ.YS w.2≠0 then(bZ.YS w.2,of)else if w.1∈of then(11,of)else lV r (if w.1=[]then of else of++[w.1])
def rl:List Rl->List Bs->Int
 |[],_=>0
 |r::l,of=>if te r.1=aF then 1 else if r.1∈of then 11 else rl l of
def BG(of hd:List Bs)(l:List Bs):Bool:=l.all λx=>decide (x∈of)||decide (x∈hd)
def rX(of hd:List Bs)(l:List Rl):Bool:=l.all λr=>BG of hd r.2
def pW(s:Sp):Int:=
 if 60<s.words.length\/60<s.words.length+s.rules.length then 2
 else if(lV s.words []).1≠0 then(lV s.words []).1
 else if rl s.rules (lV s.words []).2≠0 then rl s.rules (lV s.words []).2
 else if rX (lV s.words []).2 (s.rules.map (·.1)) s.rules=aD then 0 else 11
end fY
namespace bZ
open Go.RowKit cL dQ dh gu fY
def Ah:wY Wd:=YL U6 yo
def Io:wY Rl:=YL U6 (bR U6)
def bsC(s:Bs):List Value:=[str s]
theorem TK(s:Bs):(bsC s).length=1:=rfl
def TO(F:Nat->Prop)(w:World)(v:Value)(s:Sp):Prop:=∃vw vr,v=aQ #[vw,vr]/\kw Ah F w vw s.words/\kw Io F w vr s.rules
theorem aan{α:Type}{s:wY α}{w w':World}{v:Value}{l:List α}(h:kw s (qo w) w v l)(hg:Gr w w'):kw s (qo w') w' v l:=
 (h.stay λk hk=>hg.block k hk).mono λ_ hk=>kE hk hg.size
theorem TO.gr{w w':World}{v:Value}{s:Sp}(h:TO (qo w) w v s)(hg:Gr w w'):TO (qo w') w' v s:=by
 obtain⟨vw,vr,h1,h2,h3⟩:=h;exact⟨vw,vr,h1,aan h2 hg,aan h3 hg⟩
def ze(n:Bs)(k:Int)(c:C4)(v:Value):List Value:=str n::mG k c v
theorem Q9{n:Bs}{k:Int}{c:C4}{vk:Value}{j:Nat}{v:Value}(h:(mG k c vk)[j]?=aj v):(ze n k c vk).toArray[0+1+j]?=aj v:=by
 rw[oE,cX,Nat.add_comm];exact h
theorem TP{F:Nat->Prop}{w:World}{b off:Nat}{l:List Wd}(h:∀i (h:i<l.length),∃cs,Ah.is F w cs l[i]/\Rd w b (off+i*Ah.c) cs){k:Nat}(hk:k<l.length):
 ∃base cap,Rd w b (off+k*7) (ze l[k].1 l[k].2.kind l[k].2.uO (.slice base l[k].2.kids.length cap))/\ot F w (qY l[k].2.kind l[k].2.uO (.slice base l[k].2.kids.length cap)) l[k].2/\l[k].1.length<=9223372036854775807:=by
 obtain⟨cs,⟨c1,c2,rfl,⟨rfl,h1⟩,h2⟩,h3⟩:=h k hk;have h2:kQ F w c2 l[k].2:=h2;have h4:=h2.r;obtain⟨vk,e,-,hs⟩:=h4;obtain⟨base,cap,rfl,-⟩:=hs;have e2:c2=mG l[k].2.kind l[k].2.uO (.slice base l[k].2.kids.length cap):=by
  unfold qY at e;simp only[lT]at e
  simpa using congrArg Array.toList e
 subst e2;exact⟨base,cap,h3,h2.r,h1⟩
theorem Dq{F:Nat->Prop}{w:World}{b off:Nat}{l:List Rl}(h:∀i (h:i<l.length),∃cs,Io.is F w cs l[i]/\Rd w b (off+i*Io.c) cs){k:Nat}(hk:k<l.length):
 ∃base cap,Rd w b (off+k*2) [str l[k].1,.slice base l[k].2.length cap]/\kw U6 F w (.slice base l[k].2.length cap) l[k].2/\l[k].1.length<=9223372036854775807:=by
 obtain⟨cs,⟨c1,c2,rfl,⟨rfl,h1⟩,v,rfl,hs⟩,h3⟩:=h k hk;have W_:=hs;obtain⟨base,cap,rfl,-⟩:=hs;exact⟨base,cap,h3,W_,h1⟩
theorem V9{b:UInt8}{r:Bs}:(b::r).all xN=(xN b&&r.all xN):=rfl
theorem Ip{b:UInt8}:xN b=aD↔¬((b.toNat:Int)<97)/\¬((b.toNat:Int)>122):=by
 unfold xN;simp only[fc,decide_eq_true_eq];omega
theorem Cr(s:Bs)(w:World):Calls aE 38 #[str s] w (bX (ret (.bool (te s))) w):=by
 refine enter (args:=[str s]) (n:=27) Tryz.func38 I I I ?_
 try refine GA ?_
 by_cases c0:s=[]
 ·subst c0
  repeat(first|refine GC ?_|refine gV (py (b:=aD) I I I) ?_|refine GB ?_)
  exact dG I I I
 by_cases c1:12<s.length
 ·repeat(first|refine GC ?_|refine gV (py (b:=aF) I I (decide_eq_false c0)) ?_|refine GB ?_)
  exact dG I I (by unfold te;rw[decide_eq_false (show ¬s.length<=12 by omega)];simp)
 have hB:te s=s.all xN:=by unfold te;rw[decide_eq_true c0,decide_eq_true (show s.length<=12 by omega)];rfl
 repeat(first|refine GC ?_|refine gV (py (b:=aF) I I (decide_eq_false c0)) ?_|refine GB ?_)
 refine d_ (ι:=Nat) (λk=>k<=s.length/\(s.drop k).all xN=s.all xN) (λk=>[(0,str s),(12,az aB s.length),(13,az aB (k:Int))]) (λ_=>[]) (λk=>s.length-k) 0 ⟨bH _,rfl⟩ ?_;rintro k ⟨i1,i2⟩
 by_cases c2:k<s.length
 ·rw[eH c2,V9]at i2
  have hk:=bM c2;rw[hB];generalize s[k]=b at*
  cases hb:xN b with
  | true=>
   obtain⟨b1,b2⟩:=Ip.1 hb;rw[hb,Bool.true_and]at i2
   repeat(first|refine GA ?_|refine gV (rA (b:=b) bQ.eq I I J hk) ?_)
   exact bW (k+1) ⟨by omega,i2⟩ (by show s.length-(k+1)<s.length-k;omega)
  | false=>
   rw[hb,Bool.false_and]at i2;rw[<-i2]
   by_cases b1:(b.toNat:Int)<97
   ·repeat(first|refine GA ?_|refine gV (rA (b:=b) bQ.eq I I J hk) ?_)
    exact dG I I I
   have b2:(b.toNat:Int)>122:=by
    by_cases b2:(b.toNat:Int)>122
    exact b2;rw[Ip.2 ⟨b1,b2⟩]at hb;cases hb
   repeat(first|refine GA ?_|refine gV (rA (b:=b) bQ.eq I I J hk) ?_)
   exact dG I I I
 have e:k=s.length:=by omega
 subst e;rw[yK]at i2;rw[hB,<-i2]
 try refine GA ?_
 exact dG I I I
def KeysOf(m:Bs->Option Value)(of:List Bs):Prop:=∀y,(m y).isSome=decide (y∈of)
theorem rY{m:Bs->Option Value}{of:List Bs}{y:Bs}{v:Value}(h:KeysOf m of)(e:m y=aj v):y∈of:=by
 have:=h y;rw[e]at this;exact of_decide_eq_true this.symm
theorem rZ{m:Bs->Option Value}{of:List Bs}{y:Bs}(h:KeysOf m of)(e:m y=ak):y∉of:=by
 have:=h y;rw[e]at this;exact of_decide_eq_false this.symm
theorem Nd{m:Bs->Option Value}{of:List Bs}{x:Bs}{v:Value}(h:KeysOf m of):KeysOf (λy=>if y=x then aj v else m y) (of++[x]):=λy=>by
 by_cases e:y=x
 subst e;simp;dsimp only;rw[if_neg e,h y];simp[e]
theorem ik(w:World):(zeroValue 3).run aE w= .ok (az aB 0) w:=by kernel_rfl
def tf(gm:Nat)(r:Int×List Bs):Spec ((Bs->Option Value)×Nat):=⟨λx=>KeysOf x.1 r.2/\x.2<=60,λ_=>az aB r.1,λx=>[fv iD gm x.1 x.2]⟩
theorem Nf(vw vr:Value)(l:List Wd)(gm:Nat)(w0:World)(hw:kw Ah (qo w0) w0 vw l)(hl:l.length<=60)(w:World)(B:bP)(ho:mI w0 B)(hm:Mem B [fv iD gm (λ_=>ak) 0] w):
 Calls aE 37 #[aQ #[vw,vr],.map (aj gm)] w (cZ (tf gm (lV l [])) B):=by
 obtain⟨bw,cw,rfl,-,-,eR⟩:=hw;have hnm:=λs w=>Cr s w;refine du hm (args:=[aQ #[av bw l.length cw,vr],.map (aj gm)]) (n:=49) Tryz.func37 I I I ?_;refine cB (bD (bL I I I λg2=>?_));refine zL ?_
 repeat(first|refine GA ?_|refine gV (aC (v:=av bw l.length cw) aL.ty I (aI (i:=1) I I)) ?_)
 refine tW [0] ?_;generalize jb:lV l []=fin;refine d_ (ι:=Nat×List Bs×(Bs->Option Value)×Nat) (λ(k,of,m,n)=>k<=l.length/\n<=k/\KeysOf m of/\lV (l.drop k) of=fin) (λ(k,_,_,_)=>[(1,.map (aj gm)),(11,av bw l.length cw),(12,az aB l.length),(13,az aB (k:Int))]) (λ(_,_,m,n)=>[fv iD gm m n]) (λ(k,_)=>l.length-k) (0,[],λ_=>ak,0) ⟨bH _,bC _,λy=>rfl,jb⟩ ?_;clear hm jb;rintro⟨k,of,m,n⟩ ⟨i1,i2,i3,i4⟩;dsimp only at i1 i2 i3 i4⊢
 by_cases c1:k<l.length
 ·obtain⟨b,off,rfl,_,hr⟩:=eR J
  obtain⟨bk,ck,q1,q2,q3⟩:=TP hr c1;rw[eH c1,lV]at i4;have dy:∀(L:List b9) (j:Nat) (u:Value),(ze l[k].1 l[k].2.kind l[k].2.uO (.slice bk l[k].2.kids.length ck))[j]?=aj u->At B L ⟨b,off+k*7+j,ak⟩ u:=λL j u hj=>iX ho (q1 j u hj);have iH:=λw' (hg:Gr w0 w')=>uW _ _ w' (q2.gr hg);clear hr eR q1 q2;generalize l[k]=wd at*;obtain⟨nm,r⟩:=wd;dsimp only at*;generalize YS r=er at*;generalize r.kind=rk at*;generalize r.uO=rc at*;generalize r.kids.length=rn at*
  repeat(first|refine GA ?_|refine gV (aZ bQ.eq aL.ty I I c1) ?_|refine gV (aY (cs:=ze nm rk rc (av bk rn ck)) aL.ty I I (dy _)) ?_)
  clear dy;refine a8 I λg6=>?_;refine zL ?_
  try refine GA ?_
  refine gG 1 (cs':=(ze nm rk rc (av bk rn ck)).toArray) ?_;refine zL ?_
  repeat(first|refine GA ?_|refine gV (aC (v:=str nm) aL.ty I (aI (i:=1) I I)) ?_)
  by_cases e0:nm=[]
  ·subst e0
   rw[if_neg (λh=>h.1 I)]at i4
   repeat(first|refine GC ?_|refine gV (k9 (b:=aF) I I I) ?_|refine gV (aY (cs:=mG rk rc (av bk rn ck)) aL.ty I I (λj v hj=>aI (i:=1) I (Q9 hj))) ?_|refine GB ?_)
   refine aU (ja aJ.en I I) (λw hm=>iH _ (ho.mem hm)) I I I ?_;intro _ _;refine zL ?_
   by_cases e1:er=0
   ·subst e1
    rw[if_neg (by simp)]at i4
    repeat(first|refine GA ?_|refine gV (aC (v:=str []) aL.ty I (aI (i:=1) I I)) ?_)
    cases Cm:m []with
    | some v=>
     have Gt:=rY i3 Cm;rw[if_pos Gt]at i4
     repeat(first|refine GA ?_|refine gV (aC (v:=str []) aL.ty I (aI (i:=1) I I)) ?_|refine gV (j_ iD (x:=([]:Bs)) bQ.eq ik (i:=0) I I I q3 Cm) ?_)
     subst i4;exact cJ I I λw hm=>hm.b_ (S:=tf gm _) (m,n) ⟨i3,by show n<=60;omega⟩ [0] aln I
    | none=>
     have Gt:=rZ i3 Cm;rw[if_neg Gt,if_pos I]at i4
     repeat(first|refine GC ?_|refine gV (aC (v:=str []) aL.ty I (aI (i:=1) I I)) ?_|refine gV (ka iD (x:=([]:Bs)) bQ.eq ik (i:=0) I I I q3 Cm) ?_|refine gV (k9 (b:=aF) I I I) ?_|refine GB ?_)
     refine dv [0] ?_;exact bW (k+1,of,m,n) ⟨by omega,by show n<=k+1;omega,i3,i4⟩ (by show l.length-(k+1)<l.length-k;omega)
   rw[if_pos e1]at i4
   repeat(first|refine GC ?_|refine gV (dc (b:=aD) I I (decide_eq_true e1)) ?_|refine GB ?_)
   subst i4;exact cJ I I λw hm=>hm.b_ (S:=tf gm _) (m,n) ⟨i3,by show n<=60;omega⟩ [0] aln I
  repeat(first|refine GC ?_|refine gV (k9 (b:=aD) I I (decide_eq_true e0)) ?_|refine gV (aC (v:=str nm) aL.ty I (aI (i:=1) I I)) ?_|refine GB ?_)
  refine k7 (ja aJ.en I I) (λw hm=>hnm nm w) I I I I I ?_;intro _ _;refine zL ?_
  cases hb:te nm with
  | false=>
   rw[if_pos ⟨e0,hb⟩]at i4
   try refine GA ?_
   subst i4;exact cJ I I λw hm=>hm.b_ (S:=tf gm _) (m,n) ⟨i3,by show n<=60;omega⟩ [0] aln I
  | true=>
   rw[if_neg (λh=>by rw[hb]at h;cases h.2)]at i4
   repeat(first|refine GA ?_|refine gV (aY (cs:=mG rk rc (av bk rn ck)) aL.ty I I (λj v hj=>aI (i:=1) I (Q9 hj))) ?_)
   refine aU (ja aJ.en I I) (λw hm=>iH _ (ho.mem hm)) I I I ?_;intro _ _;refine zL ?_
   by_cases e1:er=0
   ·subst e1
    rw[if_neg (by simp)]at i4
    repeat(first|refine GA ?_|refine gV (aC (v:=str nm) aL.ty I (aI (i:=1) I I)) ?_)
    cases Cm:m nm with
    | some v=>
     have Gt:=rY i3 Cm;rw[if_pos Gt]at i4
     repeat(first|refine GA ?_|refine gV (aC (v:=str nm) aL.ty I (aI (i:=1) I I)) ?_|refine gV (j_ iD (x:=nm) bQ.eq ik (i:=0) I I I q3 Cm) ?_)
     subst i4;exact cJ I I λw hm=>hm.b_ (S:=tf gm _) (m,n) ⟨i3,by show n<=60;omega⟩ [0] aln I
    | none=>
     have Gt:=rZ i3 Cm;rw[if_neg Gt,if_neg e0]at i4
     repeat(first|refine GC ?_|refine gV (aC (v:=str nm) aL.ty I (aI (i:=1) I I)) ?_|refine gV (ka iD (x:=nm) bQ.eq ik (i:=0) I I I q3 Cm) ?_|refine gV (k9 (b:=aD) I I (decide_eq_true e0)) ?_|refine GB ?_)
     refine mB (i:=0) (x:=nm) (v:=az aB (k:Int)) iD bQ.eq I I I I q3 J ?_;refine zL ?_
     try refine GA ?_
     refine dv [0] ?_;exact iW (k+1,of++[nm],_,_) ⟨by omega,by rw[Cm];show n+1<=k+1;omega,Nd i3,i4⟩ (by show l.length-(k+1)<l.length-k;omega) (by repeat' (first|exact cV|refine cP I ?_)) I
   rw[if_pos e1]at i4
   repeat(first|refine GC ?_|refine gV (dc (b:=aD) I I (decide_eq_true e1)) ?_|refine GB ?_)
   subst i4;exact cJ I I λw hm=>hm.b_ (S:=tf gm _) (m,n) ⟨i3,by show n<=60;omega⟩ [0] aln I
 ·obtain rfl:k=l.length:=by omega
  rw[yK]at i4
  try refine GA ?_
  subst i4;exact cJ I I λw hm=>hm.b_ (S:=tf gm _) (m,n) ⟨i3,by show n<=60;omega⟩ [0] aln I
open Go.ChangeShapes Go.WideShapes Go.ChangeAt
set_option maxRecDepth 100000
theorem Fj{α:Type}{s:wY α}{is:List Value->α->Prop}{w:World}{v:Value}{l:List α}(h:U4 w is s.c v l)(hi:∀cs a,is cs a->s.is (qo w) w cs a)(h0:0<s.c):kw s (qo w) w v l:=by
 obtain⟨base,cap,h1,h2,h3,h4⟩:=h;refine⟨base,cap,h1,h2,h3,λhl=>?_⟩;obtain⟨b,off,h5,h6⟩:=h4 hl;refine⟨b,off,h5,?_,λi qB=>let ⟨cs,h7,h8⟩:=h6 i qB;⟨cs,hi _ _ h7,h8⟩⟩;obtain⟨cs,h7,h8⟩:=h6 0 hl;have hlen:=s.len (hi _ _ h7);have hc:=h8 0 (cs[0]' J) (bM J);exact og w _ hc
theorem Ng{H:Type}{M:Msr aE H}{enc0:TypeId×Value->H}{W:World}:lc M enc0 W 90 (λcs x=>Ah.is (qo W) W cs x):=λfuel cs x h hm=>by
 obtain⟨hl,S3⟩:=A_ Tryz.underlying90 h hm;have hl7:cs.length=7:=hl;obtain⟨n,⟨e0,n1⟩,-⟩:=S3 0 _ rfl (yi Tryz.underlying9);obtain⟨r,h1⟩:=S3 1 _ rfl (λfuel=>En (M:=M) (enc0:=enc0) (W:=W) fuel fuel (bC _))
 replace e0:(cs.drop 0).take 1=[str n]:=e0
 replace h1:kQ (qo W) W ((cs.drop 1).take 6) r:=h1
 refine⟨(n,r),[str n],(cs.drop 1).take 6,?_,⟨rfl,n1⟩,h1⟩;rw[<-e0];have e:(cs.drop 1).take 6=cs.drop 1:=gT (by rw[List.length_drop];omega);rw[e,wh,om]
theorem Nh{H:Type}{M:Msr aE H}{enc0:TypeId×Value->H}{W:World}:lc M enc0 W 92 (λcs x=>Io.is (qo W) W cs x/\M.lim 9 x.2.length):=λfuel cs x h hm=>by
 obtain⟨hl,S3⟩:=A_ Tryz.underlying92 h hm;have GH:cs.length=2:=hl;obtain⟨n,⟨e0,n1⟩,-⟩:=S3 0 _ rfl (yi Tryz.underlying9);obtain⟨l,⟨v,e1,hs⟩,Jr⟩:=S3 1 _ rfl (sQ (c:=1) Tryz.underlying46 (by rfl) aln (yi Tryz.underlying9) λcs a h=>by rw[h.1.1];rfl)
 replace e0:(cs.drop 0).take 1=[str n]:=e0
 replace e1:(cs.drop 1).take 1=[v]:=e1
 refine⟨(n,l),⟨[str n],[v],?_,⟨rfl,n1⟩,v,rfl,Fj (s:=U6) hs (λcs a h=>⟨h.1.1,h.1.2⟩) aln⟩,Jr⟩
 match cs,GH with
 |[x,y],_=>
  simp_all
theorem Ni{H:Type}{M:Msr aE H}{enc0:TypeId×Value->H}{W:World}:lc M enc0 W 25 (λcs s=>TO (qo W) W (aQ cs.toArray) s/\∀r∈s.rules,M.lim 9 r.2.length):=λfuel cs x h hm=>by
 obtain⟨hl,S3⟩:=A_ Tryz.underlying25 h hm;have GH:cs.length=2:=hl;obtain⟨ws,⟨vw,e0,h0⟩,-⟩:=S3 0 _ rfl (sQ (c:=7) Tryz.underlying22 (by rfl) aln Ng λcs a h=>Ah.len h);obtain⟨rs,⟨vr,e1,h1⟩,-⟩:=S3 1 _ rfl (sQ (c:=2) Tryz.underlying23 (by rfl) aln Nh λcs a h=>Io.len h.1)
 replace e0:(cs.drop 0).take 1=[vw]:=e0
 replace e1:(cs.drop 1).take 1=[vr]:=e1
 refine⟨⟨ws,rs⟩,⟨vw,vr,?_,Fj (s:=Ah) h0 (λcs a h=>h) aln,Fj (s:=Io) h1 (λcs a h=>h.1) aln⟩,λr hr=>?_⟩
 ·match cs,GH with
  |[x,y],_=>
   simp_all
 obtain⟨i,hi,rfl⟩:=iC.1 hr;have hi:i<rs.length:=hi;obtain⟨base,cap,_,_,_,h4⟩:=h1;obtain⟨b,off,_,h6⟩:=h4 J;obtain⟨cs,h7,_⟩:=h6 i hi;exact h7.2
end bZ
namespace bZ
open Go.RowKit cL dQ dh gu fY Go.ChangeShapes Go.WideShapes Go.ChangeAt
set_option maxRecDepth 100000
theorem Q_{H:Type}{enc0:TypeId×Value->H}{W:World}{base:Nat}{v:Value}{d:DataW H}{ps:List MemPlace}(hv:Value.okWide aE W .any base 25 v)(h:DataW.Trod enc0 aE W 0 (λ_=>aD) aD 25 v d ps){ts:List TypeId}{ds:List (DataW H)}(hsz:(DataW.weightsEach aE ts ds).all (· <=reachBytes)=aD)(j:Nat)(hj:ts[j]?=aj 25)(hd:ds[j]?=aj d):
 ∃s:Sp,TO (qo W) W v s/\∀r∈s.rules,r.2.length*16<=140737488351232:=by
 obtain⟨cs,s,rfl,h1,h2⟩:=YH (M:=SR aE H) Tryz.underlying25 hv h Ni (LS hsz j hj hd);rw[Array.toArray_toList]at h1;exact⟨s,h1,h2⟩
end bZ
namespace yD
open aV dO fX dR bZ
def Q'(O:Nat->Nat->Bool)(h a:Nat):Nat->Nat->Bool:=λi j=>if i=h/\j=a then aD else O i j
def fal(N m:Nat)(O:Nat->Nat->Bool):Nat:=fe (λi=>fe (λj=>if O i j=aD then 0 else 1) m) N
def aao(l:List aV.Prod)(w:List Int)(O:Nat->Nat->Bool):Prop:=∀(k:Nat) a,O k a=aD->a<=w.length->∃v,GJ l (2,(k:Int)) (w.drop a++v)
theorem Kg{f f':Nat->Nat}:∀{k i:Nat},i<k->(∀j,j<k->f j<=f' j)->f i<f' i->fe f k<fe f' k
 | k +1,i,hi,h,hl=>by
  rw[fe,fe]
  by_cases e:i=k
  ·subst e
   have:=Bq (f:=f) (f':=f') i λj hj=>h j J;omega
  have:=Kg (f:=f) (f':=f') (k:=k) (i:=i) J (λj hj=>h j J) hl;have:=h k J;omega
theorem adH{N m h a:Nat}{O:Nat->Nat->Bool}(hh:h<N)(ha:a<m)(ho:O h a=aF):fal N m (Q' O h a)<fal N m O:=by
 have hle:∀i j,(if Q' O h a i j=aD then 0 else 1)<=(if O i j=aD then 0 else 1):=λi j=>by
  unfold Q'
  grind
 unfold fal;refine Kg hh (λi _=>Bq m λj _=>hle i j) (Kg ha (λj _=>hle h j) ?_);have e1:Q' O h a h a=true:=by unfold Q';rw[if_pos ⟨rfl,rfl⟩]
 rw[e1,ho];decide
structure Nj(l:List aV.Prod)(w:List Int)(o:dw->Nat->Nat->Nat)(M:List Bool)(N:Nat)(O O':Nat->Nat->Bool)(more:Bool)(i a:Nat):Prop where
 sound:aao l w O'
 less:more=aD->fal N (w.length+1) O'<fal N (w.length+1) O
 still:more=aF->O'=O/\∀q a',(q<i\/(q=i/\a'<a))->∀h:q<l.length,a'<=w.length->Ke o O M w.length a' l[q].2=aD->O l[q].1.toNat a'=aD
section
variable{l:List aV.Prod}{w:List Int}{n:Nat}{c:vz}{M:List Bool}{O O':Nat->Nat->Bool}{more:Bool}{i a:Nat}
theorem Nj.start(h:aao l w O)(o:dw->Nat->Nat->Nat)(N:Nat):Nj l w o M N O O aF 0 0:=⟨h,λh=>by grind,λ_=>⟨rfl,λq a' h=>by omega⟩⟩
theorem Nj.set(hM:∀i:Nat,M.getD i aF=aD->∃ws,GJ l (2,(i:Int)) ws)(hc:Lfp w l n c)(hs:pG n l){N:Nat}(h:Nj l w (kx c w) M N O O' more i a)(hi:i<l.length)(ha:a<=w.length)(hN:l[i].1.toNat<N)(h0:O' l[i].1.toNat a=aF)(h1:Ke (kx c w) O' M w.length a l[i].2=aD):Nj l w (kx c w) M N O (Q' O' l[i].1.toNat a) aD i (a+1):=by
 obtain⟨s1,s2,s3⟩:=hs _ (cH hi);refine⟨λk b hk hb=>?_,λ_=>?_,λe=>by cases e⟩
 ·unfold Q' at hk
  by_cases e:k=l[i].1.toNat/\b=a
  ·obtain⟨rfl,rfl⟩:=e
   obtain⟨v,hv⟩:=Kf hM hc hs h.sound ha (λx hx=>(s3 x hx)) h1;exact⟨v,.non J (cH hi) J hv⟩
  rw[if_neg e]at hk;exact h.sound k b hk hb
 have:=adH (N:=N) (m:=w.length+1) hN (by omega:a<w.length+1) h0
 cases hm:more
 ·obtain⟨rfl,_⟩:=h.still hm
  omega
 have:=h.less hm;omega
end
theorem aap{n:Nat}{l:List aV.Prod}(hf:EC n l)(hs:pG n l):EB (Mo l) (λs=>ZF n s/\yE l s) (Ce n):=
 ⟨λs xE=>⟨(EE hf).keep s xE.1,zU hs l (λ_ h=>h) _ xE.2⟩,λs xE=>(EE hf).dec s xE.1⟩
theorem aaq{g:ep}{n:Nat}(iH:cC g=0)(hn:g.bx=n):ZF n (xo n g.aH)/\yE g.aH (xo n g.aH):=by
 have hf:=zR iH hn;have hs:=Vo iH hn;have hz:∀i:Nat,(dl n aF).getD i aF=false:=λi=>by
  grind
 have h0:yE g.aH ⟨dl n aF,(dl n aF).set 0 aD,dl n aF,aF⟩:=
  ⟨λi h=>(by simp_all),λi h=>(by simp_all)⟩
 obtain⟨s',h1,h2,h3⟩:=zQ (aap hf hs) _ ⟨dl n aF,(dl n aF).set 0 aD,dl n aF,aF⟩ ⟨⟨by simp,by simp,by simp⟩,h0⟩ (bC _);have e:xo n g.aH=h_ g.aH ⟨s'.E,s'.R,s'.M,aF⟩:=h3;rw[e];exact(aap hf hs).keep s' h1
end yD
namespace bZ
open Go.RowKit cL dQ
theorem aar(a:Int):(cL.eJ a).length=1:=rfl
theorem xw(v:Value)(l:List Int)(w:World)(hs:Sl w v l.length (l.flatMap cL.eJ))(pF:FuncId)(first cp:Array Value)(p:Int->Bool)(Bn:Enters aE pF)
 (hp:∀a∈l,∀w',Gr w w'->Calls aE pF (first++#[((cL.eJ a).headD undef)]++cp) w' (bX (ret (.bool (p a))) w')):
 Calls aE 168 #[v,.func (.func pF) first cp] w (bX (ret (az aB (rF p l))) w):=by
 obtain⟨base,cap,rfl,lf,jL,eR⟩:=hs;unfold maxLen at jL;refine enter (args:=[av base l.length cap,.func (.func pF) first cp]) (n:=19) Tryz.func168 I I I ?_
 try refine GA ?_
 refine d_ (ι:=Nat) (λk=>k<=l.length/\∀j (hj:j<l.length),j<k->p l[j]=aF) (λk=>[(0,av base l.length cap),(1,.func (.func pF) first cp),(7,az aB l.length),(8,az aB (k:Int))]) (λ_=>[]) (λk=>l.length-k) 0 ⟨by omega,λj hj h=>by omega⟩ ?_;rintro k ⟨h1,h2⟩
 by_cases c2:k<l.length
 ·obtain⟨b,off,rfl,hr⟩:=eR J
  have dy:=gd (L:=([]:List b9)) aar hr c2;have jU:=hp l[k] (cH c2)
  by_cases c3:p l[k]=aD
  ·rw[rG c2 c3 h2]
   rw[c3]at jU;clear hp h2 eR
   repeat(first|refine GA ?_|refine gV (aZ bQ.eq aL.ty I I c2) ?_|refine gV (aC aL.ty I (dy 0 _ I)) ?_)
   refine aU (CO Bn I I) (λw hm=>jU w hm.below) I I I ?_;intro _ _
   try refine GA ?_
   exact eB
  have OQ:p l[k]=false:=by simpa using c3
  rw[OQ]at jU;clear hp eR c3
  repeat(first|refine GA ?_|refine gV (aZ bQ.eq aL.ty I I c2) ?_|refine gV (aC aL.ty I (dy 0 _ I)) ?_)
  refine aU (CO Bn I I) (λw hm=>jU w hm.below) I I I ?_;intro _ _
  try refine GA ?_
  exact bW (k+1) ⟨by omega,λj hj h=>if e:j<k then h2 j hj e else(by obtain rfl:j=k:=J;exact OQ)⟩ (by show l.length-(k+1)<l.length-k;omega)
 ·rw[rH λj hj=>h2 j hj J]
  clear hp h2 eR
  try refine GA ?_
  exact eB
theorem th(v:Value)(l:List Int)(w:World)(hs:Sl w v l.length (l.flatMap cL.eJ))(pF:FuncId)(first cp:Array Value)(p:Int->Bool)(Bn:Enters aE pF)
 (hp:∀a∈l,∀w',Gr w w'->Calls aE pF (first++#[((cL.eJ a).headD undef)]++cp) w' (bX (ret (.bool (p a))) w')):
 Calls aE 144 #[v,.func (.func pF) first cp] w (bX (ret (.bool (l.any p))) w):=by
 refine enter (args:=[v,.func (.func pF) first cp]) (n:=9) Tryz.func144 I I I ?_;have hh:=λw' (hg:Gr w w')=>xw v l w' (hs.gr hg) pF first cp p Bn λa ha Gs yy=>hp a ha Gs (hg.trans yy);have hr:=pA p l;rw[<-uS p l];generalize rF p l=r at*
 try refine GA ?_
 refine aU (fC aJ.en I I I) (λw hm=>hh _ hm.below) I I I ?_;intro _ _
 repeat(first|refine GC ?_|refine gV (fu I I I) ?_|refine GB ?_)
 exact eB
open dh gu eg
theorem Ra{α:Type}{f:α->List Value}{c:Nat}{W0:World}{W:bP}{L:List b9}{b off:Nat}{l:List α}(hc:∀a,(f a).length=c)(ho:mI W0 W)(h:Rd W0 b off (l.flatMap f)){k:Nat}(hk:k<l.length)(j:Nat)(u:Value)(hj:(f l[k])[j]?=aj u):At W L ⟨b,off+k*c+j,ak⟩ u:=by
 have hjc:j<c:=by grind
 rw[kF];exact SX ho h _ u (by simp_all[uQ])
end bZ
namespace ia
abbrev Ev:=Int×Int
def qM(x:Ev):Bool:=decide (x.1<1)||decide (4<x.1)||decide (x.2<0)||decide (1099511627776<x.2)
def cC(wait:List Ev)(c g:Int):Int:=if 4200<wait.length then 2 else if c<0 then 1 else if 1073741824<c then 1 else if g<0 then 1 else if 1099511627776<g then 1 else if wait.any qM=aD then 1 else 0
theorem cU{wait:List Ev}{c g:Int}(h:cC wait c g=0):wait.length<=4200/\0<=c/\c<=1073741824/\0<=g/\g<=1099511627776/\wait.any qM=false:=by
 unfold cC at h;split at h;· simp at h
 grind
def G0(wait:List Ev)(c g:Int)(l:List Ev):Int:=if cC wait c g≠0 then cC wait c g else if l.any qM=aD then 1 else if 4200<wait.length+l.length then 18 else 0
def Kh(wait:List Ev)(c g:Int)(l:List Ev):List Ev:=if G0 wait c g l=0 then wait++l else wait
theorem adI{wait:List Ev}{c g:Int}{l:List Ev}(h:G0 wait c g l=0):cC wait c g=0/\l.any qM=aF/\wait.length+l.length<=4200:=by
 grind[G0]
def oF(wait:List Ev)(c g n:Int):Int:=if cC wait c g≠0 then cC wait c g else if n<1 then 1 else if 1073741824<n then 1 else 0
def yS(wait:List Ev)(c g n:Int):Int:=if oF wait c g n=0 then min (c+n) 1073741824 else c
theorem V_{wait:List Ev}{c g n:Int}(h:oF wait c g n=0):cC wait c g=0/\1<=n/\n<=1073741824:=by
 grind[oF]
def Iq(wait:List Ev)(c g n:Int):Int:=if cC wait c g≠0 then cC wait c g else if n<0 then 1 else 0
def takeN(wait:List Ev)(c n:Int):Nat:=(min n (min c wait.length)).toNat
end ia
namespace bZ
open Go.RowKit cL dQ dh
theorem aas{j:Nat}(hj:j<64):2^j<18446744073709551616:=by
 have:=Ej (a:=2) aln hj
 rwa [show(2:Nat)^64=18446744073709551616 from I]at this
theorem aj_{P:Program}(j:Nat)(hj:j<64)(w:World):(iN .shl .u64 1 .i64 (j:Int)).run P w= .ok (.int .u64 ((2^j:Nat):Int)) w:=by
 have e:min j 64=j:=by omega
 have e2:(2:Int)^j=((2^j:Nat):Int):=by rw[Int.natCast_pow];rfl
 have e3:uy.wrap ((1:Int)*2^j)=((2^j:Nat):Int):=by
  have:=aas hj;rw[e2,ux,Int.one_mul];generalize 2^j=y at*;omega
 have h0:¬((j:Int)<0):=by omega
 simp only[iN,if_neg h0,mf,dD,e,e3,Sem.run_pure]
theorem Nk:∀b:Nat,b<256->bits .and .i64 (b:Int) 63=((b %64:Nat):Int):=by decide+kernel
theorem aat(c:C4)(i:Nat)(h:i<4):(ed c).toArray[i]?=aj (.int .u64 ((c.get i).toNat:Int)):=Ef c i h
theorem aau(c:C4)(i:Nat)(h:i<4)(v:BitVec 64):(ed c).toArray.setIfInBounds i (.int .u64 (v.toNat:Int))=(ed (c.set i v)).toArray:=by
 match i,h with
 |0,_=>rfl
 |1,_=>rfl
 |2,_=>rfl
 |3,_=>rfl
attribute [local irreducible] Op.shift Go.bits in
theorem ti(c:C4)(b:Nat)(hb:b<256)(w:World):Calls aE 111 #[oR c,az aB (b:Int)] w (bX (ret (.bool (c.mem b))) w):=by
 refine enter (args:=[aQ #[v64 c.a,v64 c.b,v64 c.c,v64 c.d],az aB (b:Int)]) (n:=14) Tryz.func111 I I I ?_;refine cB (bD (bL I I I λg=>?_));have h1:b/64<4:=by omega
 have hc:(#[v64 c.a,v64 c.b,v64 c.c,v64 c.d]:Array Value)[0+b/64]?=aj (.int .u64 ((c.get (b/64)).toNat:Int)):=by rw[cX];exact Ef c _ h1
 have hx:=(c.get (b/64)).isLt;have zu:∀w,(iN .shr .i64 (b:Int) .u64 6).run aE w= .ok (az aB ((b/64:Nat):Int)) w:=λw=>YY b 6 64 .i64 .u64 I aln w;have Xd:∀w,(iN .shr .u64 ((c.get (b/64)).toNat:Int) .i64 ((b %64:Nat):Int)).run aE w= .ok (.int .u64 (((c.get (b/64)).toNat/2^(b %64):Nat):Int)) w:=λw=>YY _ (b %64) 64 .u64 .i64 I J w;have hm:c.mem b=decide ((c.get (b/64)).toNat/2^(b %64) %2=1):=by unfold C4.mem;rw[Nat.testBit_eq_decide_div_mod_eq]
 rw[hm];have hd:(c.get (b/64)).toNat/2^(b %64)<=(c.get (b/64)).toNat:=Ek _ _;have qX:=Nk b hb;generalize (c.get (b/64)).toNat=x at*;generalize b %64=k at*;generalize b/64=i at*;generalize x/2^k=y at*;have ha:bits .and .u64 (y:Int) 1=((y %2:Nat):Int):=by
  have:=bits_and_u64_nat y 1 J aln;rw[Nat.and_one_is_mod]at this;exact this
 repeat(first|refine GC ?_|refine gV (px I I zu) ?_|refine gV (hZ bQ.eq aL.ty I I h1) ?_|refine gV (aC aL.ty I (aI (i:=0) I hc)) ?_|refine gV (nB I I qX) ?_|refine gV (px I I Xd) ?_|refine gV (nB I I ha) ?_|refine gV (cY I I I) ?_|refine GB ?_)
 exact dG I I (by congr 1;rw[decide_eq_decide];omega)
attribute [local irreducible] Op.shift Go.bits in
theorem tj(c:C4)(b:Nat)(hb:b<256)(g:Nat)(w:World)(B:bP)(hm:Mem B [aR g (ed c).toArray 256] w):
 Calls aE 113 #[aK (aj ⟨g,0,ak⟩),az aB (b:Int)] w (cZ ⟨λ(_:Unit)=>True,λ_=> .tuple #[],λ_=>[aR g (ed (c.bit b)).toArray 256]⟩ B):=by
 refine du hm (args:=[aK (aj ⟨g,0,ak⟩),az aB (b:Int)]) (n:=16) Tryz.func113 I I I ?_;clear hm;have h1:b/64<4:=by omega
 have hc:(ed c).toArray[0+b/64]?=aj (.int .u64 ((c.get (b/64)).toNat:Int)):=by rw[cX];exact aat c _ h1
 have zu:∀w,(iN .shr .i64 (b:Int) .u64 6).run aE w= .ok (az aB ((b/64:Nat):Int)) w:=λw=>YY b 6 64 .i64 .u64 I aln w;have qX:=Nk b hb;have YU:=aj_ (P:=aE) (b %64) J;have rB:=aau c (b/64) h1 (c.get (b/64)|||iM 64 (2^(b %64)));have adJ:c.bit b=c.set (b/64) (c.get (b/64)|||iM 64 (2^(b %64))):=rfl;rw[<-adJ]at rB;have Lr:bits .or .u64 ((c.get (b/64)).toNat:Int) ((2^(b %64):Nat):Int)=(((c.get (b/64))|||iM 64 (2^(b %64))).toNat:Int):=by
  have hp:=aas (j:=b %64) J;rw[bits_or_u64_nat _ _ (c.get (b/64)).isLt hp,BitVec.toNat_or,BitVec.toNat_ofNat,Nat.mod_eq_of_lt hp]
 have hm0:b %64<64:=by omega
 generalize c.get (b/64)|||iM 64 (2^(b %64))=z at*
 generalize (c.get (b/64)).toNat=x at*;generalize 2^(b %64)=y at*;generalize b %64=k at*;generalize b/64=i at*;generalize c.bit b=c' at*;have hsz:Nat.blt (0+i) (ed c).toArray.size=true:=by rw[Bz];show 0+i<4;omega
 rw[<-cX i]at rB;refine dH ([]) (.calm 0 (.calm 1 (.calm 2 (.calm 3 (.calm 4 (.calm 6 (.calm 7 (.calm 8 (.calm 10 (.one 5 (.calm 9 (.calm 11 (.one 12 (.done)))))))))))))) (bV []) ?_
 repeat(first|refine GW ?_|(refine GN ?_;first|refine QW (px I I zu) ?_|refine QW (hZ bQ.eq aL.ty I I h1) ?_|refine QW (nB I I qX) ?_|refine QW (DX I I YU) ?_))
 refine aM I (dm (aC aL.ty I (aI (i:=0) I hc)) I I I (aO (bV []) ?_))
 repeat(first|refine GW ?_|(refine GN ?_;first|refine QW (zi I I Lr) ?_|refine QW (hZ bQ.eq aL.ty I I h1) ?_))
 refine aM I (bJ (i:=0) I I I I I hsz (aO (bV []) ?_))
 try refine GW ?_
 try refine GA ?_
 exact lR I λw hm=>hm.b_ (S:=⟨λ(_:Unit)=>True,λ_=> .tuple #[],λ_=>[aR g (ed c').toArray 256]⟩) () trivial [0] aln (by rw[<-rB];rfl)
end bZ
namespace mX
open dh gu eg cz
def pX(c:C4)(l:List Int):C4:=l.foldl (λc x=>c.bit x.toNat) c
def nL(p:PS)(s:C4):Nat->C4
 |0=>C4.zero
 |i+1=>if s.mem i=aD then pX (nL p s i) (p.follow.getD i [])else nL p s i
def ni(m:MS)(S:List C4):Nat->C4
 |0=>pX C4.zero m.first
 |n+1=>nL m.ps (S.getD n C4.zero) m.ps.follow.length
def Ki(p:PS)(all:C4)(b:Nat):Nat->C4
 |0=>C4.zero
 |i+1=>if all.mem i=aD/\(p.bm.getD i C4.zero).mem b=aD then(Ki p all b i).bit i else Ki p all b i
def Kj(p:PS)(all:C4)(b:Nat):C4:=Ki p all b p.bm.length
def mC(p:PS)(s:C4):Nat->Int
 |0=> -1
 |i+1=>if s.mem i=aD/\p.last.getD i aF=aD/\(mC p s i<0\/p.rules.getD i 0<mC p s i)then p.rules.getD i 0 else mC p s i
def oW(p:PS)(s:C4):Int:=mC p s p.bm.length
structure DM where
 S:List C4
 tags:List Int
def jf(p:PS)(m:DM)(s:C4):Nat×DM:=if s∈m.S then(idx m.S s+1,m)else(m.S.length+1,⟨m.S++[s],m.tags++[oW p s]⟩)
def fZ(p:PS)(all:C4)(b:Nat)(r:Row)(m:DM):Row×DM:=
 if Kj p all b=C4.zero then(if h:b<256 then r.set b (-1)else r,m)else(if h:b<256 then(r.set b (-1)).set b ((jf p m (Kj p all b)).1:Int)else r,(jf p m (Kj p all b)).2)
def mY(p:PS)(all:C4):Nat->Nat->Row->DM->Row×DM
 |0,_,r,m=>(r,m)
 |f+1,b,r,m=>if 200<(fZ p all b r m).2.S.length+1 then fZ p all b r m else mY p all f (b+1) (fZ p all b r m).1 (fZ p all b r m).2
def qy(m:MS)(n:Nat)(d:DM):Row×DM:=mY m.ps (ni m d.S n) 256 0 (eC 256 0) d
def tk(m:MS):Nat->Nat->List Row->DM->Option (List Row×DM)
 |0,_,_,_=>ak
 |f+1,n,R,d=>if n<d.S.length+1 then(if 200<(qy m n d).2.S.length+1 then ak else tk m f (n+1) (R++[(qy m n d).1]) (qy m n d).2)else aj (R,d)
def gC:List Bool->Int->Int
 |[],_=> -1
 |b::l,k=>if b=aD then k else gC l (k+1)
def wx(m:MS):Option (List Row×DM):=tk m 201 0 [] ⟨[],[gC m.empty 0]⟩
structure DOk(p:PS)(d:DM):Prop where
 nd:d.S.Nodup
 tags:d.tags.length=d.S.length+1
theorem Nl{p:PS}{d:DM}(h:DOk p d)(s:C4):DOk p (jf p d s).2/\d.S.length<=(jf p d s).2.S.length/\(jf p d s).2.S.length<=d.S.length+1/\0<(jf p d s).1/\(jf p d s).1<(jf p d s).2.S.length+1:=by
 unfold jf
 by_cases c:s∈d.S
 ·rw[if_pos c]
  have:=nC c;exact⟨h,bC _,Z6 _,E3 _,by show idx d.S s+1<d.S.length+1;omega⟩
 rw[if_neg c];refine⟨⟨?_,?_⟩,?_,?_,E3 _,?_⟩
 ·show(d.S++[s]).Nodup
  rw[Z2];exact⟨h.nd,by simp,λa ha b hb=>by grind⟩
 ·show(d.tags++[_]).length=(d.S++[s]).length+1
  rw[bK,bK,h.tags];rfl
 simp
 simp
 simp
theorem adK{p:PS}{d:DM}(h:DOk p d)(all:C4)(b:Nat)(r:Row):DOk p (fZ p all b r d).2/\d.S.length<=(fZ p all b r d).2.S.length/\(fZ p all b r d).2.S.length<=d.S.length+1:=by
 unfold fZ;split;exact⟨h,bC _,Z6 _⟩;obtain⟨h1,h2,h3,_⟩:=Nl h (Kj p all b);exact⟨h1,h2,h3⟩
theorem Nn{p:PS}(all:C4):∀(f b:Nat) (r:Row) (d:DM),DOk p d->d.S.length+1<=200->DOk p (mY p all f b r d).2/\(mY p all f b r d).2.S.length+1<=201/\d.S.length<=(mY p all f b r d).2.S.length
 |0,_,_,d,h,hl=>⟨h,(by show d.S.length+1<=201;omega),bC _⟩
 | f+1,b,r,d,h,hl=>by
  obtain⟨h1,h2,h3⟩:=adK h all b r;rw[mY];split;exact⟨h1,by omega,h2⟩;obtain⟨q1,q2,q3⟩:=Nn all f (b+1) (fZ p all b r d).1 _ h1 J;exact⟨q1,q2,by omega⟩
theorem No(c:C4)(l:List Int){k:Nat}(hk:k<l.length):pX c (l.take (k+1))=(pX c (l.take k)).bit l[k].toNat:=by
 unfold pX;rw[gv hk,Z1];rfl
end mX
namespace bZ
open Go.RowKit cL dQ dh gu eg mX
def Lw(vc vr vf vfol vl ve vs num rows tags:Value):Array Value:=#[vc,vr,vf,vfol,vl,ve,vs,num,rows,tags]
def Rb(S:List C4):List Value:=(C4.zero::S).flatMap ed
theorem adL{w:World}{g:Nat}{cs:Array Value}{T:TypeId}(hg:w.heap[g]?=aj (.cells cs T (0,0)))(L:List b9){k:Nat}{v:Value}(hv:cs[k]?=aj v):At (w:bP) L ⟨g,k,ak⟩ v:=
 kH (by rw[cell_of_row w g k cs T (0,0) hg];exact hv)
theorem G1(m:MS)(vc vr vf vfol vl ve vs num rows tags:Value)(S:List C4)(g n:Nat)(w:World)(hp:GZ w (aQ #[vc,vr,vf,vfol,vl,ve]) m)(h:J_ m)(hg:w.heap[g]?=aj (.cells (Lw vc vr vf vfol vl ve vs num rows tags) 207 (0,0)))
 (hs:Sl w vs (S.length+1) (Rb S)) (hn:n<=S.length):
 Calls aE 110 #[aK (aj ⟨g,0,ak⟩),az aB (n:Int)] w (bX (ret (oR (ni m S n))) w):=by
 obtain⟨_,_,_,_,_,_,he,h1,h2,h3,h4,h5,h6⟩:=hp;simp only[lT,q7,jA,and_true]at he;obtain⟨rfl,rfl,rfl,rfl,rfl,rfl⟩:=he;have hmf:=h.tY;have Xg:=h.ok.first.2;have TC:=h.ok.ps.ris;have ue:=h.ok.ps.follow;clear h h1 h2 h5 h6;obtain⟨af,cf,rfl,_,ak4,hrf⟩:=h3;obtain⟨ao,co,rfl,_,hmo,hro⟩:=h4;obtain⟨ab,cs,rfl,hcs,hms,hrs⟩:=hs;unfold maxLen at*;have hm:=λL k v hv=>adL (k:=k) (v:=v) hg L hv;refine enter (args:=[aK (aj ⟨g,0,ak⟩),az aB (n:Int)]) (n:=59) Tryz.func110 I I I ?_;refine cB (bD (a8 I λg4=>?_));refine zL ?_
 try refine GA ?_
 refine a8 I λg5=>?_;refine zL ?_
 by_cases c0:n=0
 ·subst c0
  repeat(first|refine GC ?_|refine gV (cY (b:=aD) I I (decide_eq_true (by simp))) ?_|refine gV (aC (v:=av af m.first.length cf) aL.ty I (hm _ 2 _ I)) ?_|refine GB ?_)
  refine d_ (ι:=Nat) (λk=>k<=m.first.length) (λk=>[(4,aK (aj ⟨g4,0,ak⟩)),(5,aK (aj ⟨g5,0,ak⟩)),(18,av af m.first.length cf),(19,az aB m.first.length),(20,az aB (k:Int))])
   (λk=>[aR g4 (ed C4.zero).toArray 256,aR g5 (ed (pX C4.zero (m.first.take k))).toArray 256]) (λk=>m.first.length-k) 0 (bH _) ?_
  intro k hk
  by_cases c1:k<m.first.length
  ·have hx:=Xg _ (cH c1)
   have hst:=No C4.zero m.first c1;obtain⟨bf,adA,rfl,V5⟩:=hrf J;have dy:=λ(L:List b9)=>gd (L:=L) jp V5 c1 0 _ I;generalize m.first[k]=x at*;generalize pX C4.zero (m.first.take k)=c at*;obtain⟨xn,rfl⟩:=gU hx.1;rw[dD]at hst
   repeat(first|refine GA ?_|refine gV (aZ bQ.eq aL.ty I I c1) ?_|refine gV (aC (v:=az aB (xn:Int)) aL.ty I (dy _)) ?_)
   refine bz [1] [0] aln I I (fC aJ.en I I I) (λw hm hb=>tj c xn J g5 w _ hb) I I I ?_;intro _ _;refine zL ?_
   try refine GA ?_
   exact bW (k+1) J (by show m.first.length-(k+1)<m.first.length-k;omega) (hl:=by rw[hst])
  obtain rfl:k=m.first.length:=by omega
  rw[gT (bC _)];unfold ni;generalize pX C4.zero m.first=c at*
  repeat(first|refine GA ?_|refine gV (aP (i:=1) aL.ty I I I) ?_)
  refine gG 0 (cs':=(ed c).toArray) ?_;refine zL ?_
  try refine GA ?_
  exact fW (i:=0) I I I I λw hm=>hm.ret
 ·obtain⟨q,rfl⟩:∃q,n=q+1:=⟨n-1,by omega⟩
  obtain⟨bs,agA,rfl,ain⟩:=hrs J;have agB:=λ(L:List b9)=>gd (L:=L) (f:=ed) (c:=4) (λ_=>rfl) (show Rd w bs agA ((C4.zero::S).flatMap ed)from ain) (k:=q+1) (by simp;omega);have hgd:S.getD q C4.zero=S[q]' J:=by rw[de,bM J];rfl
  rw[show ni m S (q+1)=nL m.ps (S.getD q C4.zero) m.ps.follow.length from I,hgd];have agB:∀(L:List b9) (j:Nat) (u:Value),(ed (S[q]' J))[j]?=aj u->At (w:bP) L ⟨bs,agA+(q+1)*4+j,ak⟩ u:=λL j u hj=>agB L j u hj;clear hgd ain hrs hrf Xg;generalize S[q]' J=s at*
  repeat(first|refine GC ?_|refine gV (cY (b:=aF) I I (decide_eq_false J)) ?_|refine gV (aC (v:=av ao m.ps.follow.length co) aL.ty I (hm _ 3 _ I)) ?_|refine GB ?_)
  refine d_ (ι:=Nat) (λk=>k<=m.ps.follow.length) (λk=>[(0,aK (aj ⟨g,0,ak⟩)),(1,az aB ((q+1:Nat):Int)),(4,aK (aj ⟨g4,0,ak⟩)),(5,aK (aj ⟨g5,0,ak⟩)),(32,av ao m.ps.follow.length co),(33,az aB m.ps.follow.length),(34,az aB (k:Int))])
   (λk=>[aR g4 (ed C4.zero).toArray 256,aR g5 (ed (nL m.ps s k)).toArray 256]) (λk=>m.ps.follow.length-k) 0 (bH _) ?_
  intro k hk
  by_cases c1:k<m.ps.follow.length
  ·obtain⟨bo,aj',rfl,_,aka⟩:=hro J
   obtain⟨u,hu,hd⟩:=yM aka c1;have agz:=λ(L:List b9)=>iP (L:=L) hd (j:=0) (v:=u) I;have hrx:=(TC _ (cH c1)).2;have hgd:m.ps.follow.getD k []=m.ps.follow[k]:=by rw[de,bM c1];rfl
   have hst:nL m.ps s (k+1)=if s.mem k=aD then pX (nL m.ps s k) m.ps.follow[k]else nL m.ps s k:=by rw[nL,hgd]
   clear hgd;obtain⟨au,cu,rfl,_,hmu,JX⟩:=hu;unfold maxLen at hmu;generalize m.ps.follow[k]=l at*;generalize nL m.ps s k=c at*
   repeat(first|refine GA ?_|refine gV (aZ bQ.eq aL.ty I I c1) ?_|refine gV (aC (v:=av au l.length cu) aL.ty I (agz _)) ?_|refine gV (aC (v:=av (aj ⟨bs,agA,ak⟩) (S.length+1) cs) aL.ty I (hm _ 6 _ I)) ?_|refine gV (aZ (j:=q+1) bQ.eq aL.ty I I J) ?_|refine gV (aY (cs:=ed s) aL.ty I I (agB _)) ?_)
   have aav:=λw=>ti s k J w;generalize hb:s.mem k=b at*;refine aU (fC aJ.en I I I) (λw hm=>aav w) I I I ?_;intro _ _;refine zL ?_
   by_cases c2:b=aD
   ·subst c2
    rw[if_pos I]at hst
    try refine GA ?_
    refine d_ (ι:=Nat) (λj=>j<=l.length) (λj=>[(0,aK (aj ⟨g,0,ak⟩)),(1,az aB ((q+1:Nat):Int)),(4,aK (aj ⟨g4,0,ak⟩)),(5,aK (aj ⟨g5,0,ak⟩)),(32,av (aj ⟨bo,aj',ak⟩) m.ps.follow.length co),(33,az aB m.ps.follow.length),(34,az aB (k:Int)),(48,av au l.length cu),(49,az aB l.length),(50,az aB (j:Int))])
     (λj=>[aR g4 (ed C4.zero).toArray 256,aR g5 (ed (pX c (l.take j))).toArray 256]) (λj=>l.length-j) 0 (bH _) ?_
    intro j hj
    by_cases c3:j<l.length
    ·have hx:=hrx _ (cH c3)
     have agC:=No c l c3;obtain⟨bf,adA,rfl,V5⟩:=JX J;have dy:=λ(L:List b9)=>gd (L:=L) jp V5 c3 0 _ I;generalize l[j]=x at*;generalize pX c (l.take j)=c' at*;obtain⟨xn,rfl⟩:=gU hx.1;rw[dD]at agC
     repeat(first|refine GA ?_|refine gV (aZ bQ.eq aL.ty I I c3) ?_|refine gV (aC (v:=az aB (xn:Int)) aL.ty I (dy _)) ?_)
     refine bz [1] [0] aln I I (fC aJ.en I I I) (λw hm hb=>tj c' xn J g5 w _ hb) I I I ?_;intro _ _;refine zL ?_
     try refine GA ?_
     exact bW (j+1) J (by show l.length-(j+1)<l.length-j;omega) (hl:=by rw[agC])
    obtain rfl:j=l.length:=by omega
    rw[gT (bC _)]
    try refine GA ?_
    exact bW (k+1) J (by show m.ps.follow.length-(k+1)<m.ps.follow.length-k;omega) (hl:=by rw[hst])
   rw[if_neg c2]at hst;obtain rfl:=wg.2 c2
   try refine GA ?_
   exact bW (k+1) J (by show m.ps.follow.length-(k+1)<m.ps.follow.length-k;omega) (hl:=by rw[hst])
  obtain rfl:k=m.ps.follow.length:=by omega
  generalize nL m.ps s m.ps.follow.length=c at*
  repeat(first|refine GA ?_|refine gV (aP (i:=1) aL.ty I I I) ?_)
  refine gG 0 (cs':=(ed c).toArray) ?_;refine zL ?_
  try refine GA ?_
  exact fW (i:=0) I I I I λw hm=>hm.ret
open cz
theorem adM:laidOutB aE=true:=by kernel_rfl
theorem setRow:(256:TypeId)<aE.types.size:=of_decide_eq_true (by kernel_rfl)
theorem adN:(match aE.underlying 256 with|some (.array _ _)|some (.struct _)=>aD|_=>aF)=true:=by kernel_rfl
theorem adO(x:C4):∃l,keyOf aE 256 (oR x)=aj l:=by
 obtain⟨a,b,c,d⟩:=x;have e1:aE.keyType 256=true:=by kernel_rfl
 have e2:aE.cellsOf 256=4:=by kernel_rfl
 have e3:aE.cellsOf 82=1:=by kernel_rfl
 have e4:∃d,aE.types.size+1=d+2:=⟨aE.types.size-1,by have:0<aE.types.size:=Nat.lt_of_le_of_lt (bH 256) setRow;omega⟩;obtain⟨dd,e4⟩:=e4;have key:∀v:BitVec 64,aE.keyLits (dd+1) 82 [.int .u64 (ij v)]=aj [.int .u64 (ij v)]:=λv=>by
  have hw:(Lit.int .u64 (ij v)).wf=true:=by
   have h0:=afV v;have h1:=afW v;simp[Lit.wf,I8,I9,sB,mf,h0,h1]
  simp[AX,Tryz.underlying82,hw]
 have hl:aE.keyLits (dd+2) 256 [.int .u64 (ij a),.int .u64 (ij b),.int .u64 (ij c),.int .u64 (ij d)]=aj [.int .u64 (ij a),.int .u64 (ij b),.int .u64 (ij c),.int .u64 (ij d)]:=by
  unfold AX;simp[Tryz.underlying256,e2,e3,List.range_succ_eq_map,key]
 have hf:(oR ⟨a,b,c,d⟩).formed aE 256=true:=by simp[oR,Value.formed,Tryz.underlying256,e2]
 unfold keyOf;rw[Tryz.underlying256];refine⟨.string (keyBytes ([.int .u64 (ij a),.int .u64 (ij b),.int .u64 (ij c),.int .u64 (ij d)])),?_⟩;show(if(aE.keyType 256&&(oR ⟨a,b,c,d⟩).formed aE 256)=aD then(aE.keyLits (aE.types.size+1) 256 [.int .u64 (ij a),.int .u64 (ij b),.int .u64 (ij c),.int .u64 (ij d)]).map (λls=>Lit.string (keyBytes ls))else ak)=_
 rw[e1,hf,e4,hl];rfl
set_option maxRecDepth 100000 in
def Rf:zr aE 256 C4 where
 kv:=oR
 ok _:=True
 law:=deep_law_laid adM (m:=2) J setRow (by kernel_rfl) adN
 key x _:=adO x
 inj x y h:=by
  simp only[oR,lT,q7,jA,Ei,true_and,and_true]at h;exact C4.ext' (oQ h.1) (oQ h.2.1) (oQ h.2.2.1) (oQ h.2.2.2)
theorem Np(w:World):(zeroValue 3).run aE w= .ok (az aB 0) w:=by kernel_rfl
def pY(D:List C4)(x:C4):Option Value:=if x∈D then aj (az aB ((idx D x+1:Nat):Int))else ak
theorem Rg{D:List C4}{x:C4}(hn:x∉D):(λy=>if y=x then aj (az aB ((D.length+1:Nat):Int))else pY D y)=pY (D++[x]):=by
 funext y
 unfold pY
 by_cases c:y=x
 ·subst c
  rw[if_pos I,if_pos (by simp)];have:=rJ (D:=D) (k:=y);unfold more at this;rw[if_neg hn,if_neg hn]at this;rw[this]
 rw[if_neg c]
 by_cases c2:y∈D
 rw[if_pos c2,if_pos (uE _ c2),qE c2];rw[if_neg c2,if_neg (by simp[c,c2])]
theorem Fk:(λ(_:C4)=>(none:Option Value))=pY []:=by funext y;unfold pY;rw[if_neg (by simp)]
abbrev oO(vs:Value)(S:List C4):b9:=a_ 256 4 vs (S.length+1) (Rb S)
abbrev tm(gm:Nat)(S:List C4):b9:=fv Rf gm (pY S) S.length
def Ly(vc vr vf vfol vl ve rows:Value)(g gm:Nat)(vs vt:Value)(d:DM):List b9:=
 [aR g (Lw vc vr vf vfol vl ve vs (.map (aj gm)) rows vt) 207,oO vs d.S,tm gm d.S,gL vt d.tags]
def adP(p:PS)(vc vr vf vfol vl ve rows:Value)(g gm:Nat)(d:DM)(s:C4):Spec (Value×Value):=
 ⟨λ_=>True,λ_=>az aB ((jf p d s).1:Int),λx=>Ly vc vr vf vfol vl ve rows g gm x.1 x.2 (jf p d s).2⟩
theorem aaw(v:Value)(l:List Int)(x:Int):gL v (l++[x])=a_ 3 1 v (l.length+1) (l.map (az .i64)++[az aB x]):=by
 unfold gL;rw[bK,eZ];rfl
theorem Ir(S:List C4)(s:C4):Rb (S++[s])=Rb S++ed s:=by
 unfold Rb;rw[<-kD,ir];simp
theorem TQ(s:C4):∀u∈ed s,u.oneCell'=true:=by
 intro u h;simp only[ed,dM,fz,or_false]at h;rcases h with rfl|rfl|rfl|rfl<;>rfl
theorem aax(p:PS)(s:C4)(i:Nat):mC p s (i+1)=if s.mem i=aD/\p.last.getD i aF=aD/\(mC p s i<0\/p.rules.getD i 0<mC p s i)then p.rules.getD i 0 else mC p s i:=rfl
theorem aay{S:List C4}{s:C4}{gm:Nat}(hn:s∉S):fv Rf gm (λy=>if y=s then aj (az aB ((S.length+1:Nat):Int))else pY S y) (if(pY S s).isSome then S.length else S.length+1)=tm gm (S++[s]):=by
 rw[Rg hn,show pY S s=ak from if_neg hn];unfold tm;rw[bK];rfl
attribute [local irreducible] Op.shift Go.bits in
theorem Fl(m:MS)(vc vr vf vfol vl ve rows:Value)(d:DM)(s:C4)(g gm:Nat)(vs vt:Value)(w0:World)(hp:GZ w0 (aQ #[vc,vr,vf,vfol,vl,ve]) m)(h:J_ m)(hd:d.S.length<=100000)(hdt:d.tags.length<=100001)(w:World)(B:bP)(ho:mI w0 B)
 (hm:Mem B (Ly vc vr vf vfol vl ve rows g gm vs vt d) w):
 Calls aE 114 #[aK (aj ⟨g,0,ak⟩),oR s] w (cZ (adP m.ps vc vr vf vfol vl ve rows g gm d s) B):=by
 obtain⟨_,_,_,_,_,_,he,h1,h2,h3,h4,h5,h6⟩:=hp;simp only[lT,q7,jA,and_true]at he;obtain⟨rfl,rfl,rfl,rfl,rfl,rfl⟩:=he;have hmf:=h.tY;have LD:=h.ok.ps.rules;have Pt:=h.ok.ps.last;have hmr:=h.rules;clear h h3 h4 h6;obtain⟨ac,cc,rfl,-⟩:=h1;obtain⟨ar,cr,rfl,-,ak5,hrr⟩:=h2;obtain⟨al,cl,rfl,-,ak6,JU⟩:=h5;unfold Ly at hm;unfold adP;obtain⟨S,tags⟩:=d;obtain⟨p,fi,em⟩:=m;dsimp only at*;refine du hm (args:=[aK (aj ⟨g,0,ak⟩),oR s]) (n:=105) Tryz.func114 I I I ?_;clear hm;refine cB (bD (bL I I I λg3=>?_));refine zL ?_
 by_cases c1:s∈S
 ·have hst:jf p ⟨S,tags⟩ s=(idx S s+1,⟨S,tags⟩):=if_pos c1
  have Lt:pY S s=aj (az aB ((idx S s+1:Nat):Int)):=if_pos c1;rw[hst]
  try refine GA ?_
  refine dH ([aR g (Lw (av ac p.bm.length cc) (av ar p.rules.length cr) vf vfol (av al p.last.length cl) ve vs (.map (aj gm)) rows vt) 207,tm gm S,aR g3 (ed s).toArray 256]) (.calm 0 (.calm 1 (.calm 2 (.calm 3 (.calm 4 (.calm 5 (.calm 6 (.calm 7 (.calm 8 (.calm 9 (.calm 10 (.done)))))))))))) (bV [0,2,4]) ?_
  repeat(first|refine GW ?_|(refine GN ?_;first|refine QW (aC (v:= .map (aj gm)) aL.ty I (aI (i:=0) I I)) ?_|refine QW (aP (i:=2) aL.ty I I I) ?_|refine QW (j_ Rf (x:=s) bQ.eq Np (i:=1) I I I trivial Lt) ?_))
  try refine GA ?_
  refine dv [0,1,2,3] ?_;exact cJ I I λw hm=>hm.b_ (S:=⟨λ(_:Value×Value)=>True,λ_=>az aB ((idx S s+1:Nat):Int),λx=>Ly (av ac p.bm.length cc) (av ar p.rules.length cr) vf vfol (av al p.last.length cl) ve rows g gm x.1 x.2 ⟨S,tags⟩⟩) (vs,vt) trivial [0,1,2,3] aln I
 ·have hst:jf p ⟨S,tags⟩ s=(S.length+1,⟨S++[s],tags++[oW p s]⟩):=if_neg c1
  have Lt:pY S s=none:=if_neg c1;rw[hst];refine nP (i:=1) I gJ λgK=>?_;obtain⟨ab,cs,rfl,hmS,-⟩:=gK
  try refine GA ?_
  refine dH ([aR g (Lw (av ac p.bm.length cc) (av ar p.rules.length cr) vf vfol (av al p.last.length cl) ve (av ab (S.length+1) cs) (.map (aj gm)) rows vt) 207,tm gm S,aR g3 (ed s).toArray 256]) (.calm 0 (.calm 1 (.calm 2 (.calm 3 (.calm 4 (.calm 5 (.calm 6 (.calm 7 (.calm 8 (.calm 9 (.calm 10 (.done)))))))))))) (bV [0,2,4]) ?_
  repeat(first|refine GW ?_|(refine GN ?_;first|refine QW (aC (v:= .map (aj gm)) aL.ty I (aI (i:=0) I I)) ?_|refine QW (aP (i:=2) aL.ty I I I) ?_|refine QW (ka Rf (x:=s) bQ.eq Np (i:=1) I I I trivial Lt) ?_))
  try refine GA ?_
  (repeat refine cB ?_)
  refine ml (ι:=Unit) (λ_=>True) (λ_=>[(0,aK (aj ⟨g,0,ak⟩)),(3,aK (aj ⟨g3,0,ak⟩))]) (λ_=>[aR g (Lw (av ac p.bm.length cc) (av ar p.rules.length cr) vf vfol (av al p.last.length cl) ve (av ab (S.length+1) cs) (.map (aj gm)) rows vt) 207,oO (av ab (S.length+1) cs) S,tm gm (S++[s]),gL vt tags,aR g3 (ed s).toArray 256]) ?_ ?_
  ·refine dH ([aR g (Lw (av ac p.bm.length cc) (av ar p.rules.length cr) vf vfol (av al p.last.length cl) ve (av ab (S.length+1) cs) (.map (aj gm)) rows vt) 207,aR g3 (ed s).toArray 256]) (.calm 0 (.calm 1 (.calm 2 (.calm 3 (.calm 4 (.calm 5 (.calm 6 (.calm 7 (.calm 8 (.calm 9 (.one 10 (.done)))))))))))) (bV [0,4]) ?_
   repeat(first|refine GW ?_|(refine GN ?_;first|refine QW (aC (v:= .map (aj gm)) aL.ty I (aI (i:=0) I I)) ?_|refine QW (aP (i:=1) aL.ty I I I) ?_|refine QW (aC (v:=av ab (S.length+1) cs) aL.ty I (aI (i:=0) I I)) ?_))
   refine aM I (mB Rf (i:=2) (x:=s) bQ.eq I I I I trivial J (aO (bV [0,4]) ?_))
   try refine GW ?_
   exact eh () trivial (by repeat' (first|exact cV|refine cP I ?_)) (by rw[<-aay c1];rfl)
  intro _ _
  (repeat refine cB ?_)
  refine ml (ι:=Value) (λ_=>True) (λ_=>[(0,aK (aj ⟨g,0,ak⟩)),(3,aK (aj ⟨g3,0,ak⟩))]) (λpO=>[aR g (Lw (av ac p.bm.length cc) (av ar p.rules.length cr) vf vfol (av al p.last.length cl) ve pO (.map (aj gm)) rows vt) 207,oO pO (S++[s]),tm gm (S++[s]),gL vt tags,aR g3 (ed s).toArray 256]) ?_ ?_
  ·refine dH ([aR g3 (ed s).toArray 256]) (.calm 0 (.calm 1 (.calm 2 (.calm 3 (.calm 5 (.two 4 (.one 6 (.one 7 (.calm 8 (.calm 9 (.one 10 (.done)))))) 6 (.one 4 (.one 7 (.calm 8 (.calm 9 (.one 10 (.done)))))))))))) (bV [4]) ?_
   repeat(first|refine GW ?_|(refine GN ?_;first|refine QW (aP (i:=0) aL.ty I I I) ?_))
   refine eN I I ?_ ?_
   ·refine dm (aC (v:=av ab (S.length+1) cs) aL.ty I (aI (i:=0) I I)) I I I (aO (bV [4]) ?_)
    refine aM I (fw (cs:=(ed s).toArray) [oR s] I I I (by intro v hv;simp at hv;subst hv;rfl) I I I λg36=>(aO (bV [4]) ?_));refine aM I (ee (i:=1) (e:=256) (size:=4) (bytes:=32) (m:=S.length+1) (xs:=Rb S) (k:=1) (ys:=ed s) I (kI (i:=5) I (λj u h=>by simpa using h) (bC 1) aln) I I I (λu hu=>TQ s u hu) J J I λpO=>(aO (bV [4]) ?_))
    try refine GW ?_
    refine aM I (aX (i:=1) I λju l_=>bJ (i:=0) I I I ju l_ I (aO (bV [4]) ?_))
    try refine GW ?_
    refine dv [0,1,2,3,4] ?_;exact eh pO trivial (by repeat' (first|exact cV|refine cP I ?_)) (by unfold oO;rw[Ir,bK];rfl)
   refine fw (cs:=(ed s).toArray) [oR s] I I I (by intro v hv;simp at hv;subst hv;rfl) I I I λg36=>(aO (bV [4]) ?_);refine aM I (dm (aC (v:=av ab (S.length+1) cs) aL.ty I (aI (i:=0) I I)) I I I (aO (bV [4]) ?_));refine aM I (ee (i:=1) (e:=256) (size:=4) (bytes:=32) (m:=S.length+1) (xs:=Rb S) (k:=1) (ys:=ed s) I (kI (i:=5) I (λj u h=>by simpa using h) (bC 1) aln) I I I (λu hu=>TQ s u hu) J J I λpO=>(aO (bV [4]) ?_))
   try refine GW ?_
   refine aM I (aX (i:=1) I λju l_=>bJ (i:=0) I I I ju l_ I (aO (bV [4]) ?_))
   try refine GW ?_
   refine dv [0,1,2,3,4] ?_;exact eh pO trivial (by repeat' (first|exact cV|refine cP I ?_)) (by unfold oO;rw[Ir,bK];rfl)
  clear hmS;intro pO _;refine iR (i:=1) I gJ λgK=>?_;obtain⟨ab',cs',rfl,hmS,-⟩:=gK
  repeat(first|refine GA ?_|refine gV (aC (v:=av ac p.bm.length cc) aL.ty I (aI (i:=0) I I)) ?_)
  refine d_ (ι:=Nat×Int) (λ(k,t)=>k<=p.bm.length/\t=mC p s k) (λ(k,t)=>[(0,aK (aj ⟨g,0,ak⟩)),(3,aK (aj ⟨g3,0,ak⟩)),(7,az aB t),(45,az aB p.bm.length),(46,az aB (k:Int))])
   (λ_=>[aR g (Lw (av ac p.bm.length cc) (av ar p.rules.length cr) vf vfol (av al p.last.length cl) ve (av ab' ((S++[s]).length+1) cs') (.map (aj gm)) rows vt) 207,oO (av ab' ((S++[s]).length+1) cs') (S++[s]),tm gm (S++[s]),gL vt tags,aR g3 (ed s).toArray 256]) (λ(k,_)=>p.bm.length-k) (0,-1) ⟨bH _,rfl⟩ ?_
  rintro⟨k,t⟩ ⟨hk,ht⟩;dsimp only at hk ht⊢
  by_cases q1:k<p.bm.length
  ·have hst:=aax p s k
   have hkr:k<p.rules.length:=by omega
   have hkl:k<p.last.length:=by omega
   rw[de (l:=p.rules),bM hkr,jD,de (l:=p.last),bM hkl,jD]at hst;obtain⟨br,Q4,rfl,aio⟩:=hrr J;obtain⟨bl,aaz,rfl,aip⟩:=JU J;have agy:=λ(L:List b9)=>Ra (L:=L) jp ho aio hkr 0 _ I;have akb:=λ(L:List b9)=>Ra (L:=L) TB ho aip hkl 0 _ I;have hr0:=(hmr _ (cH hkr)).1;have aav:=λw=>ti s k J w;clear aio aip hrr JU hmr;generalize p.rules[k]=r at*;generalize p.last[k]=lb at*;generalize s.mem k=b at*;rw[<-ht]at hst;clear ht;have aaA:∀(L:List b9),At B L ⟨br,Q4+k*1+0,ak⟩ (az aB r):=agy;have TR:∀(L:List b9),At B L ⟨bl,aaz+k*1+0,ak⟩ (.bool lb):=akb
   repeat(first|refine GA ?_|refine gV (aP (i:=4) aL.ty I I I) ?_)
   refine aU (fC aJ.en I I I) (λw hm=>aav w) I I I ?_;intro _ _;refine zL ?_;have skip:∀(_:¬(b=aD/\lb=aD/\(t<0\/r<t))),mC p s (k+1)=t:=λh=>by rw[hst,if_neg h]
   have take:b=aD/\lb=aD/\(t<0\/r<t)->mC p s (k+1)=r:=λh=>by rw[hst,if_pos h]
   clear hst
   by_cases q2:b=aD
   ·subst q2
    by_cases q3:lb=aD
    ·subst q3
     by_cases q4:t<0
     ·have e:=(take ⟨rfl,rfl,.inl q4⟩).symm
      repeat(first|refine GC ?_|refine gV (aC (v:=av (aj ⟨bl,aaz,ak⟩) p.last.length cl) aL.ty I (aI (i:=0) I I)) ?_|refine gV (aZ bQ.eq aL.ty I I hkl) ?_|refine gV (aC (v:= .bool aD) aL.ty I (TR _)) ?_|refine gV (ez (b:=aD) I I (decide_eq_true q4)) ?_|refine gV (aC (v:=av (aj ⟨br,Q4,ak⟩) p.rules.length cr) aL.ty I (aI (i:=0) I I)) ?_|refine gV (aZ bQ.eq aL.ty I I hkr) ?_|refine gV (aC (v:=az aB r) aL.ty I (aaA _)) ?_|refine GB ?_)
      exact bW (k+1,r) ⟨by omega,e⟩ (by show p.bm.length-(k+1)<p.bm.length-k;omega)
     by_cases q5:r<t
     ·have e:=(take ⟨rfl,rfl,.inr q5⟩).symm
      repeat(first|refine GC ?_|refine gV (aC (v:=av (aj ⟨bl,aaz,ak⟩) p.last.length cl) aL.ty I (aI (i:=0) I I)) ?_|refine gV (aZ bQ.eq aL.ty I I hkl) ?_|refine gV (aC (v:= .bool aD) aL.ty I (TR _)) ?_|refine gV (ez (b:=aF) I I (decide_eq_false q4)) ?_|refine gV (aC (v:=av (aj ⟨br,Q4,ak⟩) p.rules.length cr) aL.ty I (aI (i:=0) I I)) ?_|refine gV (aZ bQ.eq aL.ty I I hkr) ?_|refine gV (aC (v:=az aB r) aL.ty I (aaA _)) ?_|refine gV (ez (b:=aD) I I (decide_eq_true q5)) ?_|refine GB ?_)
      exact bW (k+1,r) ⟨by omega,e⟩ (by show p.bm.length-(k+1)<p.bm.length-k;omega)
     have e:=(skip (λh=>h.2.2.elim q4 q5)).symm
     repeat(first|refine GC ?_|refine gV (aC (v:=av (aj ⟨bl,aaz,ak⟩) p.last.length cl) aL.ty I (aI (i:=0) I I)) ?_|refine gV (aZ bQ.eq aL.ty I I hkl) ?_|refine gV (aC (v:= .bool aD) aL.ty I (TR _)) ?_|refine gV (ez (b:=aF) I I (decide_eq_false q4)) ?_|refine gV (aC (v:=av (aj ⟨br,Q4,ak⟩) p.rules.length cr) aL.ty I (aI (i:=0) I I)) ?_|refine gV (aZ bQ.eq aL.ty I I hkr) ?_|refine gV (aC (v:=az aB r) aL.ty I (aaA _)) ?_|refine gV (ez (b:=aF) I I (decide_eq_false q5)) ?_|refine GB ?_)
     exact bW (k+1,t) ⟨by omega,e⟩ (by show p.bm.length-(k+1)<p.bm.length-k;omega)
    have e:=(skip (λh=>q3 h.2.1)).symm;obtain rfl:=wg.2 q3
    repeat(first|refine GA ?_|refine gV (aC (v:=av (aj ⟨bl,aaz,ak⟩) p.last.length cl) aL.ty I (aI (i:=0) I I)) ?_|refine gV (aZ bQ.eq aL.ty I I hkl) ?_|refine gV (aC (v:= .bool aF) aL.ty I (TR _)) ?_)
    exact bW (k+1,t) ⟨by omega,e⟩ (by show p.bm.length-(k+1)<p.bm.length-k;omega)
   have e:=(skip (λh=>q2 h.1)).symm;obtain rfl:=wg.2 q2
   try refine GA ?_
   exact bW (k+1,t) ⟨by omega,e⟩ (by show p.bm.length-(k+1)<p.bm.length-k;omega)
  ·obtain rfl:k=p.bm.length:=by omega
   rw[show oW p s=t from ht.symm]at*
   repeat(first|refine GA ?_|refine gV (aC (v:=vt) aL.ty I (aI (i:=0) I I)) ?_)
   refine iA (i:=3) I I I I I I (λz h=>by cases h;rfl) J J I λz' oV=>?_;refine zL ?_
   try refine GA ?_
   refine aX (i:=3) I λju l_=>bJ (i:=0) I I I ju l_ I ?_;refine zL ?_
   repeat(first|refine GC ?_|refine gV (aC (v:=av ab' ((S++[s]).length+1) cs') aL.ty I (aI (i:=0) I I)) ?_|refine gV (eT (r:=((S.length+1:Nat):Int)) I I (by simp;omega) (by simp;omega) (by simp)) ?_|refine GB ?_)
   refine dv [0,1,2,3] ?_;exact cJ I I λw hm=>hm.b_ (S:=⟨λ(_:Value×Value)=>True,λ_=>az aB ((S.length+1:Nat):Int),λx=>Ly (av ac p.bm.length cc) (av ar p.rules.length cr) vf vfol (av al p.last.length cl) ve rows g gm x.1 x.2 ⟨S++[s],tags++[t]⟩⟩) (av ab' ((S++[s]).length+1) cs',oV) trivial [0,1,2,3] aln (by unfold Ly;rw[<-aaw];rfl)
  done
end bZ
namespace bZ
open Go.RowKit cL dQ zy cz
def e8(r:Row):List Value:=r.toList.map (.int .i16)
theorem dC(r:Row):(e8 r).length=256:=by simp[e8]
theorem pZ(r:Row){b:Nat}(hb:b<256):(e8 r)[b]?=aj (.int .i16 r[b]):=by
 simp[e8]
theorem row_one(l:List Row):∀u∈l.flatMap e8,u.oneCell'=true:=by
 intro u hu;obtain⟨x,_,h⟩:=vd.1 hu;obtain⟨n,_,rfl⟩:=fG.1 h;rfl
theorem r7(r:Row):(e8 r).all Value.oneCell'=true:=pq.2 λu hu=>row_one [r] u (by simp_all)
def jc(vr vt:Value):Value:=aQ #[vr,vt]
def xy:Row:=eC 256 0
structure G2(w:World)(vr vt:Value)(R:List Row)(tags:List Int):Prop where
 hR:Sl w vr R.length (R.flatMap e8)
 hT:Sl w vt tags.length (tags.flatMap cL.eJ)
 rng:∀r∈R,∀x∈r.toList,-32768<=x/\x<=32767
 okT:∀x∈tags,cL.dV x
theorem G2.gr{w w':World}{vr vt:Value}{R:List Row}{tags:List Int}(h:G2 w vr vt R tags)(hg:Gr w w'):G2 w' vr vt R tags:=⟨h.hR.gr hg,h.hT.gr hg,h.rng,h.okT⟩
theorem G2.aiq{w:World}{vr vt:Value}{R:List Row}{tags:List Int}(h:G2 w vr vt R tags):L_ w (jc vr vt) (R.map QN) tags:=by
 refine⟨vr,vt,rfl,?_,?_,λr hr=>by grind⟩
 ·obtain⟨base,cap,h1,h2,h3,h4⟩:=h.hR
  refine⟨base,cap,by simp_all,by simp_all,h3,λh0=>?_⟩;rw[eI]at h0;obtain⟨b,off,h5,h6⟩:=h4 h0;refine⟨b,off,h5,λi hi=>?_⟩;have qB:i<R.length:=by simp_all
  refine⟨e8 R[i],⟨by simp,by simp[e8],λx hx=>h.rng R[i] (cH qB) x (by simp_all)⟩,λj u hj=>?_⟩;have W9:j<256:=by grind[dC]
  have:=h6 (i*256+j) u (by simp_all[uQ,dC]);rw[kF];exact this
 obtain⟨base,cap,h1,h2,h3,h4⟩:=h.hT;refine⟨base,cap,h1,h2,h3,λh0=>?_⟩;obtain⟨b,off,h5,h6⟩:=h4 h0;refine⟨b,off,h5,λi hi=>⟨[iV tags[i]],⟨rfl,h.okT _ (cH hi)⟩,λj u hj=>?_⟩⟩;have hj0:j=0:=by grind
 subst hj0;rw[lP,Nat.add_zero];refine h6 i u ?_;rw[show tags.flatMap cL.eJ=tags.map (.int .i64)from cL.X_ tags,jy,bM hi];exact hj
def eL(R:List Row)(tags:List Int):tX:=⟨R.length,λi b=>(R.getD i xy).toList.getD b 0,λi=>tags.getD i 0⟩
def lI(R:List Row)(tags:List Int):Int:=Bf (R.map QN) tags
theorem Is(R:List Row){i:Nat}(hi:i<R.length):(R.map QN).getD i []=(R.getD i xy).toList:=by
 simp_all
theorem oH{R:List Row}{tags:List Int}(h:lI R tags=0):(eL R tags).Ok/\tags.length=R.length:=by
 obtain⟨h1,h2,h3,h4⟩:=Zj h;rw[eI]at h1 h2 h3 h4;refine⟨⟨h2,h1,λi hi b hb=>?_,λi hi=>?_⟩,h3⟩
 ·have:=(h4 i hi).2.2
  rw[Is R hi]at this;refine this _ ?_;show(R.getD i xy).toList.getD b 0∈_
  simp_all
 have:=h4 i hi;exact⟨this.1,this.2.1⟩
theorem Kk{R:List Row}{tags:List Int}(h:(eL R tags).Ok)(hl:tags.length=R.length):lI R tags=0:=by
 have h1:R.length<=200:=h.le;have h2:0<R.length:=h.pos;unfold lI Bf;rw[eI,if_neg J,if_neg J,if_neg];simp only[sU,List.mem_range,not_exists,not_and];intro i hi;have ht:=h.tags i hi;have hs:=h.step i hi;rw[Is R hi];simp only[nE,nD,decide_eq_true_eq,sU,not_or,not_exists,not_and];refine⟨⟨?_,?_⟩,λt ht'=>?_⟩
 ·show ¬tags.getD i 0< -1
  have: -1<=tags.getD i 0:=ht.1;omega
 ·have:tags.getD i 0<20:=ht.2
  omega
 obtain⟨b,hb,rfl⟩:=iC.1 ht';have SD:b<256:=by simpa using hb
 have:=hs b SD;have e:(eL R tags).d i b=(R.getD i xy).toList[b]:=by
  show(R.getD i xy).toList.getD b 0=_
  rw[de (l:=(R.getD i xy).toList),bM hb];rfl
 rw[e]at this;have e2:(eL R tags).n=R.length:=rfl;omega
theorem TS{A:tX}(hA:A.Ok):St A 0:=⟨by decide,by have:=hA.pos;show(0:Int)<A.n;omega⟩
def oW(R:List Row)(tags:List Int)(s:List UInt8):Int×Int:=if lI R tags=0 then(tg (eL R tags) (go (eL R tags) 0 s),0)else(0,lI R tags)
theorem Ai{R:List Row}{tags:List Int}{i:Nat}(h:i<tags.length):(eL R tags).tag i=tags[i]:=by
 show tags.getD i 0=_
 rw[de,bM h];rfl
theorem Nq{R:List Row}{tags:List Int}{i b:Nat}(h:i<R.length)(hb:b<256):(eL R tags).d i b=(R[i])[b]:=by
 show(R.getD i xy).toList.getD b 0=_
 rw[de (l:=R),bM h,jD,de,bM (by simpa using hb),jD,Vector.getElem_toList]
theorem TT(r:Row){b:Nat}(hb:b<256)(x:Int):(e8 r).toArray.setIfInBounds b (.int .i16 x)=(e8 (r.set b x)).toArray:=by
 unfold e8;rw[Vector.toList_set,List.map_set];simp
theorem r8{P:Program}{n:Nat}{W:bP}{fr:Fr}{L:List b9}{Q:Exit->Act->World->Prop}{ops:Array Oper}{rest:List Oper}{ty:TypeId}{pos:String}{after:Array Edge}{t:TypeId}{p x:Operand}{i g b:Nat}{r:Row}{T:TypeId}{agg:Bool}{z:Int}[hT:aL P t agg 1](hi:L[i]?=aj (aR g (e8 r).toArray T))(hp:ev fr p=aj (aK (aj ⟨g,0+b,ak⟩)))(hx:ev fr x=aj (.int .i16 z))(hb:b<256)
 (h:TL P n W ops Q rest fr (L.set i (aR g (e8 (r.set b z)).toArray T))):TL P n W ops Q (⟨ak,.store t p x,ty,pos,after,ak⟩::rest) fr L:=by
 rw[cX]at hp;refine bJ hi hp hx I I ?_ ?_
 ·rw[eM,dC];exact Bz▸hb
 ·rw[TT r hb];exact h
def Aj(x y:Int)(b:Nat):Row:=rf λi:Fin 256=>if i<b then x else y
theorem V'(x y:Int)(b:Nat)(hb:b<256):(Aj x y b).set b x=Aj x y (b+1):=by
 refine kN λi hi=>?_;unfold Aj;rw[wj,kM,kM];split
 ·rename_i e;subst e;simp
 have:i<b↔i<b+1:=by omega
 simp only[this]
theorem adQ(x y:Int):Aj x y 0=eC 256 y:=by
 refine kN λi hi=>?_;unfold Aj;simp
theorem Wa(x y:Int):Aj x y 256=eC 256 x:=by
 refine kN λi hi=>?_;unfold Aj;simp[hi]
theorem Fm:(dl 256 (az .i16 0)).toArray=(e8 (eC 256 0)).toArray:=by
 unfold e8;rw[Vector.toList_replicate,List.map_replicate]
def CY(r:Row):Value:=aQ (e8 r).toArray
theorem Cs(x:Int)(w:World):Calls aE 79 #[.int .i16 x] w (bX (ret (CY (eC 256 x))) w):=by
 refine enter (args:=[.int .i16 x]) (n:=13) Tryz.func79 I I I ?_;refine cB (bD (a8 I λg=>?_))
 try refine GA ?_
 refine a8 I λg3=>?_;refine zL ?_;rw[Fm]
 try refine GA ?_
 rw[<-adQ x 0];refine d_ (ι:=Nat) (λb=>b<=256) (λb=>[(0,.int .i16 x),(2,aK (aj ⟨g,0,ak⟩)),(3,aK (aj ⟨g3,0,ak⟩)),(5,az aB (b:Int))]) (λb=>[aR g (e8 (Aj x 0 0)).toArray 210,aR g3 (e8 (Aj x 0 b)).toArray 210]) (λb=>256-b) 0 (bH _) ?_;intro b hb
 by_cases c:b<256
 ·repeat(first|refine GA ?_|refine gV (hZ bQ.eq aL.ty I I c) ?_)
  refine r8 (i:=1) I I I c ?_;rw[V' x 0 b c];refine zL ?_
  try refine GA ?_
  exact bW (b+1) J (by show 256-(b+1)<256-b;omega)
 obtain rfl:b=256:=by omega
 rw[Wa]
 repeat(first|refine GA ?_|refine gV (aP (i:=1) aL.ty I I (by rw[eM,dC])) ?_)
 refine aW (i:=0) I I I (by rw[eM,dC]) (by have:=r7 (eC 256 x);simpa using this) (by rw[eM,dC]) ?_;refine zL ?_
 try refine GA ?_
 exact fW (i:=0) I I I (by rw[eM,dC]) λw hm=>hm.ret
def r9(k:Kind):List Value:=az aB k.1::e8 k.2
def Nr(k:Kind):Value:=aQ (r9 k).toArray
theorem mD(k:Kind):(r9 k).length=257:=by simp[r9,dC]
def TU(r:Row):Prop:=∀(b:Nat) (h:b<256),(-32768:Int)<=r[b]/\r[b]<=32767
theorem aaB{r r':Row}(h:e8 r=e8 r'):r=r':=by
 refine kN λb hb=>?_;have h1:=pZ r hb;rw[h,pZ r' hb]at h1;simp at h1;exact h1.symm
theorem agD{r:Row}(h:TU r)(d:Nat):KL aE (d+2) 210 (e8 r):=by
 have e2:aE.cellsOf 210=256:=by kernel_rfl
 have e3:aE.cellsOf 208=1:=by kernel_rfl
 refine YV (d:=d+1) Tryz.underlying210 (by rw[dC,e2]) λi hi=>?_;have hc:((e8 r).drop (i*aE.cellsOf 208)).take (aE.cellsOf 208)=[.int .i16 r[i]]:=by
  rw[e3,lP];have hl:i<(e8 r).length:=by simp_all[dC]
  rw[eH hl];have:=pZ r hi;rw[bM hl]at this;rw[sE this];rfl
 rw[hc];exact uX Tryz.underlying208 (h i hi).1 (h i hi).2
set_option maxRecDepth 100000 in
theorem aaC(k:Kind)(h:cL.dV k.1/\TU k.2):∃l,keyOf aE 264 (Nr k)=aj l:=by
 have e1:aE.cellsOf 264=257:=by rfl
 have e2:aE.cellsOf 210=256:=by rfl
 have e3:aE.cellsOf 3=1:=by rfl
 refine Ju (m:=3) (by rfl) (by kernel_rfl) (by rw[mD,e1]) (Db 3 (by rfl)) λd=>?_;refine Bb (d:=d+2) Tryz.underlying264 (by rw[mD,e1]) (by simp) λf hf=>?_;simp only[dM,fz,or_false]at hf;rcases hf with rfl|rfl
 ·rw[e3]
  exact uX (d:=d+1) Tryz.underlying3 h.1.1 h.1.2
 grind[r9,dC,agD]
theorem adR:(264:TypeId)<aE.types.size:=of_decide_eq_true (by kernel_rfl)
set_option maxRecDepth 100000 in
def wy:zr aE 264 Kind where
 kv:=Nr
 ok k:=cL.dV k.1/\TU k.2
 law:=deep_law_laid Da (m:=3) J adR (by kernel_rfl) (by kernel_rfl)
 key x h:=aaC x h
 inj x y h:=by
  simp only[Nr,lT,q7,r9,jA,Ei,true_and]at h;exact nw h.1 (aaB h.2)
abbrev Dr:=Vector Int 200
def yT(c:Dr):List Value:=c.toList.map (.int .i16)
def agE(c:Dr):Value:=aQ (yT c).toArray
theorem r_(c:Dr):(yT c).length=200:=by simp[yT]
theorem Fo(c:Dr){b:Nat}(hb:b<200):(yT c)[b]?=aj (.int .i16 c[b]):=by
 simp[yT]
def aaD(c:Dr):Prop:=∀(b:Nat) (h:b<200),(-32768:Int)<=c[b]/\c[b]<=32767
set_option maxRecDepth 100000 in
theorem adS(c:Dr)(h:aaD c):∃l,keyOf aE 216 (agE c)=aj l:=by
 have e2:aE.cellsOf 216=200:=by rfl
 have e3:aE.cellsOf 208=1:=by rfl
 refine Ju (m:=2) (by rfl) (by rfl) (by rw[r_,e2]) (Db 2 (by rfl)) λd=>?_;refine YV (d:=d+1) Tryz.underlying216 (by rw[r_,e2]) λi hi=>?_;have hc:((yT c).drop (i*aE.cellsOf 208)).take (aE.cellsOf 208)=[.int .i16 c[i]]:=by
  rw[e3,lP];have hl:i<(yT c).length:=by simp_all[r_]
  rw[eH hl];have:=Fo c hi;rw[bM hl]at this;rw[sE this];rfl
 rw[hc];exact uX Tryz.underlying208 (h i hi).1 (h i hi).2
theorem agF:(216:TypeId)<aE.types.size:=of_decide_eq_true (by kernel_rfl)
set_option maxRecDepth 100000 in
def Ns:zr aE 216 Dr where
 kv:=agE
 ok:=aaD
 law:=deep_law_laid Da (m:=2) J agF (by kernel_rfl) (by kernel_rfl)
 key x h:=adS x h
 inj x y h:=by
  simp only[agE,lT,q7]at h;refine kN λb hb=>?_;have h1:=Fo x hb;rw[h,Fo y hb]at h1;simp at h1;exact h1.symm
theorem aaE(w:World):(zeroValue 3).run aE w= .ok (az aB 0) w:=by kernel_rfl
set_option maxRecDepth 100000 in
theorem Rh(w:World):(dg 264 #[(1,CY (eC 256 0))]).run aE w= .ok (Nr dead) w:=by kernel_rfl
set_option maxRecDepth 100000 in
theorem Ri(x:Int)(w:World):(dg 264 #[(0,az aB x)]).run aE w= .ok (Nr (x,eC 256 0)) w:=by kernel_rfl
theorem Rj{x:Int}(h0: -32768<=x)(h1:x<=32767):IntKind.i16.wrap x=x:=by
 simp only[IntKind.wrap,mf,sB];simp;omega
abbrev lW(x:Int):Value:=az aB x
theorem aaF(x:Int)(r:Row){b:Nat}(hb:b<256)(y:Int):(r9 (x,r)).toArray.setIfInBounds (1+b) (.int .i16 y)=(r9 (x,r.set b y)).toArray:=by
 have e:1+b=b+1:=by omega
 unfold r9;rw[e,uC,List.set_cons_succ];have:=TT r hb y;rw[uC]at this;have h2:(e8 r).set b (.int .i16 y)=e8 (r.set b y):=by simpa using this
 rw[h2]
section
variable{P:Program}{n:Nat}{W:bP}{fr:Fr}{L:List b9}{Q:Exit->Act->World->Prop}{ops:Array Oper}{rest:List Oper}{ty:TypeId}{pos:String}{after:Array Edge}
theorem Wb{t:TypeId}{p x:Operand}{i g b:Nat}{y:Int}{r:Row}{T:TypeId}{agg:Bool}{z:Int}[hT:aL P t agg 1](hi:L[i]?=aj (aR g (r9 (y,r)).toArray T))(hp:ev fr p=aj (aK (aj ⟨g,1+b,ak⟩)))(hx:ev fr x=aj (.int .i16 z))(hb:b<256)
 (h:TL P n W ops Q rest fr (L.set i (aR g (r9 (y,r.set b z)).toArray T))):TL P n W ops Q (⟨ak,.store t p x,ty,pos,after,ak⟩::rest) fr L:=by
 refine bJ hi hp hx I I ?_ ?_
 ·rw[eM,mD];exact Bz▸(by omega:1+b<257)
 ·rw[aaF y r hb];exact h
end
def Fp(A:tX)(now:Nat->Nat)(i b:Nat):Row:=rf λj:Fin 256=>if j<b then(val now (A.d i j):Int)else 0
theorem agG(A:tX)(now:Nat->Nat)(i:Nat):Fp A now i 0=eC 256 0:=by
 refine kN λj hj=>?_;unfold Fp;simp
theorem aaG(A:tX)(now:Nat->Nat)(i:Nat):((now i:Int),Fp A now i 256)=kind A now i:=by
 refine nw I (kN λj hj=>?_);unfold Fp kind;simp[hj]
theorem Nt(A:tX)(now:Nat->Nat)(i b:Nat)(hb:b<256):(Fp A now i b).set b (val now (A.d i b):Int)=Fp A now i (b+1):=by
 refine kN λj hj=>?_;unfold Fp;rw[wj,kM,kM];split
 ·rename_i e;subst e;simp
 have:j<b↔j<b+1:=by omega
 simp only[this]
theorem Wc(A:tX)(now:Nat->Nat)(i b:Nat)(hb:b<256)(h0:val now (A.d i b)=0):Fp A now i b=Fp A now i (b+1):=by
 rw[<-Nt A now i b hb,h0];refine kN λj hj=>?_;rw[wj];split
 ·rename_i e;subst e;unfold Fp;simp
 rfl
structure Kl(A:tX)(f n:Nat)(now:Nat->Nat):Prop where
 eq:dr A=HL A f n now
 rd:n=0\/S5 A n now
 le:n<=A.n+1
 fuel:A.n+2<=f+n
 lim:∀i,i<A.n->now i<=200
theorem adT{A:tX}(hA:A.Ok):Kl A (A.n+2) 0 (zK A):=⟨rfl,.inl I,bH _,by omega,λi hi=>by unfold zK;have:=hA.tags i hi;omega⟩
theorem Nu{A:tX}(hA:A.Ok){f n:Nat}{now:Nat->Nat}(h:Kl A f n now):∃f',f=f'+1/\((ox A now).length=n->dr A=next A now)/\((ox A now).length≠n->Kl A f' (ox A now).length (next A now)):=by
 have h1:=h.le;have h2:=h.fuel;obtain⟨f',rfl⟩:∃f',f=f'+1:=⟨f-1,by omega⟩;have e:=h.eq;unfold HL at e;refine⟨f',rfl,λhc=>by rw[e,if_pos hc],λhc=>⟨by rw[e,if_neg hc],.inr ⟨now,rfl,rfl⟩,Bg now,?_,λi hi=>?_⟩⟩
 ·have hp:=S4 (A:=A) now
  rcases h.rd with rfl|hr
  omega;have:=(yx hr).1;omega
 have:=qH (A:=A) (now:=now) (q:=(i:Int)) J;rw[Ae]at this;have h3:=Bg (A:=A) now;have h4:=hA.le;omega
theorem adU{A:tX}{now:Nat->Nat}(h:∀i,i<A.n->now i<=200){q:Int}(hq:St A q):val now q<=200:=by
 unfold val;split;omega;exact h _ (by unfold St at hq;omega)
theorem adV{A:tX}(hA:A.Ok){now:Nat->Nat}(h:∀i,i<A.n->now i<=200){i:Nat}(hi:i<A.n):cL.dV (kind A now i).1/\TU (kind A now i).2:=by
 refine⟨?_,λb hb=>?_⟩
 ·have:=h i hi
  show cL.dV (now i:Int)
  exact⟨by omega,by omega⟩
 have:=adU h (hA.step i hi b hb);unfold kind;rw[kM];show-32768<=(val now (A.d i b):Int)/\(val now (A.d i b):Int)<=32767
 omega
def kA(A:tX)(now:Nat->Nat)(i:Nat):List Kind:=dU [dead] ((kinds A now).take i)
theorem We(A:tX)(now:Nat->Nat):kA A now A.n=ox A now:=by unfold kA ox;rw[gT (by simp[kinds])]
theorem It(A:tX)(now:Nat->Nat){i:Nat}(hi:i<A.n):∃h:i<(kinds A now).length,(kinds A now)[i]=kind A now i:=⟨by simpa[kinds]using hi,by simp[kinds]⟩
theorem adW(A:tX)(now:Nat->Nat){i:Nat}(hi:i<A.n)(h:kind A now i∈kA A now i):kA A now (i+1)=kA A now i/\next A now i=idx (kA A now i) (kind A now i):=by
 obtain⟨hl,e⟩:=It A now hi;have h2:=YX (D:=[dead]) hl;unfold kA at h;rw[e,if_pos h]at h2;refine⟨?_,h2⟩;unfold kA;rw[gv hl,lg,e,more,if_pos];exact h
theorem adX(A:tX)(now:Nat->Nat){i:Nat}(hi:i<A.n)(h:kind A now i∉kA A now i):kA A now (i+1)=kA A now i++[kind A now i]/\next A now i=(kA A now i).length:=by
 obtain⟨hl,e⟩:=It A now hi;have h2:=YX (D:=[dead]) hl;unfold kA at h;rw[e,if_neg h]at h2;refine⟨?_,h2⟩;unfold kA;rw[gv hl,lg,e,more,if_neg];exact h
theorem aaH(A:tX)(now:Nat->Nat)(i:Nat):(kA A now i).length<=A.n+1:=by
 have h:=Bg (A:=A) now;have e:kinds A now=(kinds A now).take i++(kinds A now).drop i:=(om _ _).symm;have hap:∀(a b D:List Kind),dU D (a++b)=dU (dU D a) b:=by
  intro a
  induction a with
  |nil=>intro b D;rfl
  |cons x a ih=>intro b D;exact ih b _
 obtain⟨E,h2⟩:=sR ((kinds A now).drop i) (kA A now i);have h3:ox A now=kA A now i++E:=by
  unfold ox;rw[e,hap];exact h2
 rw[h3,bK]at h;omega
set_option maxRecDepth 100000 in
theorem Km(vr vt:Value)(R:List Row)(tags:List Int)(w:World)(h:G2 w vr vt R tags)(hc:lI R tags=0):
 Calls aE 78 #[jc vr vt] w (bX ⟨λ_=>True,λ(g:Nat)=>av (aj ⟨g,0,ak⟩) R.length R.length,λg=>[fE 3 lW g R.length λi=>(dr (eL R tags) i:Int)]⟩ w):=by
 obtain⟨hA,hlt⟩:=oH hc;obtain⟨bt,ct,rfl,ht1,OR,GI⟩:=h.hT;obtain⟨br,cr,rfl,Vi,tV,Ep⟩:=h.hR;have en:(eL R tags).n=R.length:=rfl;have xp:0<R.length:=hA.pos;have hle:R.length<=200:=hA.le;obtain⟨b,off,rfl,hr⟩:=Ep xp;obtain⟨bb,ma,rfl,hrt⟩:=GI J;unfold maxLen at tV OR;have agH:∀i,i<R.length->(eL R tags).tag i=tags.getD i 0:=λi _=>rfl;clear Ep GI h;refine enter (args:=[jc (av (aj ⟨b,off,ak⟩) R.length cr) (av (aj ⟨bb,ma,ak⟩) tags.length ct)]) (n:=98) Tryz.func78 I I I ?_;refine cB (bD (bL I I I λg1=>?_))
 repeat(first|refine GA ?_|refine gV (aC aL.ty I (aI (i:=0) I I)) ?_)
 refine pE lW 0 I I J J I λg3=>?_;refine zL ?_
 repeat(first|refine GA ?_|refine gV (aC aL.ty I (aI (i:=0) I I)) ?_)
 refine mM (ι:=Nat) (λi=>i<=tags.length) (λi=>[(1,aK (aj ⟨g1,0,ak⟩)),(3,av (aj ⟨g3,0,ak⟩) R.length R.length),(22,av (aj ⟨bb,ma,ak⟩) tags.length ct),(23,az aB (tags.length:Int)),(24,az aB (i:Int))])
  (λi=>[aR g1 (jc (av (aj ⟨b,off,ak⟩) R.length cr) (av (aj ⟨bb,ma,ak⟩) tags.length ct)).cells 137,fE 3 lW g3 R.length λj=>if j<i then(zK (eL R tags) j:Int)else 0]) (λi=>tags.length-i) 0 (bH _) (by repeat' (first|exact cV|refine cP I ?_)) (by rw[pD (f':=λj=>if j<0 then(zK (eL R tags) j:Int)else 0) λi _=>by simp]) ?_
 intro i hi
 by_cases c1:i<tags.length
 ·have dy:=gd (W:=w) (L:=[aR g1 (jc (av (aj ⟨b,off,ak⟩) R.length cr) (av (aj ⟨bb,ma,ak⟩) tags.length ct)).cells 137,fE 3 lW g3 R.length λj=>if j<i then(zK (eL R tags) j:Int)else 0]) (c:=1) (f:=cL.eJ) (λ_=>rfl) hrt c1 0 _ I
  have htg:=hA.tags i J;have h0:(zK (eL R tags) i:Int)=tags[i]+1:=by
   unfold zK;rw[Ai c1]at htg⊢;omega
  rw[Ai c1]at htg;generalize tags[i]=x at*
  repeat(first|refine GA ?_|refine gV (aZ bQ.eq aL.ty I I c1) ?_|refine gV (aC aL.ty I dy) ?_|refine gV (bY bQ.eq aL.ty I I (show i<R.length by omega)) ?_)
  refine ji (i:=1) (off:=i) (v:=x+1) (λj=>if j<i+1 then(zK (eL R tags) j:Int)else 0) aL.ty I I I I I J (λj hj=>?_) ?_
  ·by_cases e:j=i
   subst e;rw[if_pos J,if_pos I,h0];rw[if_neg e];have:j<i+1↔j<i:=by omega
   simp only[this]
  refine zL ?_
  try refine GA ?_
  exact bW (i+1) J (by show tags.length-(i+1)<tags.length-i;omega)
 ·obtain rfl:i=tags.length:=by omega
  rw[pD (f':=λj=>(zK (eL R tags) j:Int)) λj hj=>if_pos (show j<tags.length by omega)];clear c1 hi
  try refine GA ?_
  refine d_ (ι:=Nat×Nat×(Nat->Nat)×Nat) (λ(f,c,now,_)=>Kl (eL R tags) f c now) (λ(_,c,_,g3)=>[(1,aK (aj ⟨g1,0,ak⟩)),(3,av (aj ⟨g3,0,ak⟩) R.length R.length),(6,az aB (c:Int))])
   (λ(_,_,now,g3)=>[aR g1 (jc (av (aj ⟨b,off,ak⟩) R.length cr) (av (aj ⟨bb,ma,ak⟩) tags.length ct)).cells 137,fE 3 lW g3 R.length λj=>(now j:Int)]) (λ(f,_,_,_)=>f) (R.length+2,0,zK (eL R tags),g3) (adT hA) ?_
  clear g3;rintro⟨f,c,now,g3⟩ eR;dsimp only at eR⊢;obtain⟨f',rfl,agI,hgo⟩:=Nu hA eR;have Jr:=eR.lim;have qW:=Cs 0;clear eR;have air:=Bg (A:=eL R tags) now;rw[en]at air
  try refine GA ?_
  refine Bh (K:=wy) I λgm=>?_;refine zL ?_
  try refine GA ?_
  refine aU (ja aJ.en I I) (λw hm=>qW _) I I I ?_;intro _ _
  repeat(first|refine GA ?_|refine gV (bB I Rh) ?_)
  refine a8 I λg8=>?_;refine zL ?_;refine aW (i:=3) (cs':=(r9 dead).toArray) I I I (by rw[eM,mD]) (by kernel_rfl) (by kernel_rfl) ?_;refine zL ?_
  repeat(first|refine GA ?_|refine gV (aP (i:=3) aL.ty I I (by rw[eM,mD])) ?_)
  refine Bi (K:=wy) (i:=2) (D:=[]) (x:=dead) bQ.eq I I I I ⟨⟨by decide,by decide⟩,λb hb=>by show-32768<=(eC 256 (0:Int))[b]/\(eC 256 (0:Int))[b]<=32767;rw[Vector.getElem_replicate];decide⟩ (by simp) aln ?_;refine zL ?_;refine B8 [0,1,2] ?_
  try refine GA ?_
  refine pE lW 0 I I J J I λg9=>?_;refine zL ?_
  repeat(first|refine GA ?_|refine gV (aC aL.ty I (aI (i:=0) I I)) ?_)
  refine mM (ι:=Nat) (λi=>i<=R.length) (λi=>[(1,aK (aj ⟨g1,0,ak⟩)),(3,av (aj ⟨g3,0,ak⟩) R.length R.length),(6,az aB (c:Int)),(7,.map (aj gm)),(9,av (aj ⟨g9,0,ak⟩) R.length R.length),(44,av (aj ⟨b,off,ak⟩) R.length cr),(45,az aB (R.length:Int)),(46,az aB (i:Int))])
   (λi=>[aR g1 (jc (av (aj ⟨b,off,ak⟩) R.length cr) (av (aj ⟨bb,ma,ak⟩) tags.length ct)).cells 137,fE 3 lW g3 R.length λj=>(now j:Int),fv wy gm (lp (kA (eL R tags) now i)) (kA (eL R tags) now i).length,fE 3 lW g9 R.length λj=>if j<i then(next (eL R tags) now j:Int)else 0]) (λi=>R.length-i) 0 (bH _) (by repeat' (first|exact cV|refine cP I ?_)) (by rw[pD (g:=g9) (f:=λ_=>(0:Int)) (f':=λj=>if j<0 then(next (eL R tags) now j:Int)else 0) λi _=>by simp];rfl) ?_
  intro i hi
  by_cases c2:i<R.length
  ·have dy:=gd (W:=w) (L:=[aR g1 (jc (av (aj ⟨b,off,ak⟩) R.length cr) (av (aj ⟨bb,ma,ak⟩) tags.length ct)).cells 137,fE 3 lW g3 R.length λj=>(now j:Int),fv wy gm (lp (kA (eL R tags) now i)) (kA (eL R tags) now i).length,fE 3 lW g9 R.length λj=>if j<i then(next (eL R tags) now j:Int)else 0]) dC hr c2
   have gK:∀(q:Nat) (hq:q<256),(eL R tags).d i q=(R[i])[q]:=λq hq=>Nq c2 hq;have hst:∀b,b<256->St (eL R tags) ((eL R tags).d i b):=λb hb=>hA.step i c2 b hb;generalize R[i]=r at*
   repeat(first|refine GA ?_|refine gV (aZ bQ.eq aL.ty I I c2) ?_|refine gV (aY aL.ty I (dC r) dy) ?_)
   refine a8 I λg11=>?_;refine zL ?_
   try refine GA ?_
   refine aW (i:=4) (cs':=(e8 r).toArray) I I I (by rw[eM,dC]) (by simpa using r7 r) (by kernel_rfl) ?_;refine zL ?_;have xI:=Jr i c2
   repeat(first|refine GA ?_|refine gV (bY bQ.eq aL.ty I I c2) ?_|refine gV (aC aL.ty I (gI (i:=1) I c2)) ?_|refine gV (bB I (Ri _)) ?_)
   refine a8 I λg12=>?_;refine zL ?_;refine aW (i:=5) (cs':=(r9 ((now i:Int),eC 256 0)).toArray) I I I (by rw[eM,mD]) (by rw[<-List.all_toArray];kernel_rfl) (by kernel_rfl) ?_;refine zL ?_
   repeat(first|refine GA ?_|refine gV (aP (i:=4) aL.ty I I (by rw[eM,dC])) ?_)
   rw[<-agG (eL R tags) now i];refine tW [0,1,2,3,5] ?_;refine d_ (ι:=Nat) (λq=>q<=256) (λq=>[(1,aK (aj ⟨g1,0,ak⟩)),(3,av (aj ⟨g3,0,ak⟩) R.length R.length),(6,az aB (c:Int)),(7,.map (aj gm)),(9,av (aj ⟨g9,0,ak⟩) R.length R.length),(44,av (aj ⟨b,off,ak⟩) R.length cr),(45,az aB (R.length:Int)),(46,az aB (i:Int)),(10,az aB (i:Int)),(12,aK (aj ⟨g12,0,ak⟩)),(56,CY r),(57,az aB (q:Int))])
    (λq=>[aR g1 (jc (av (aj ⟨b,off,ak⟩) R.length cr) (av (aj ⟨bb,ma,ak⟩) tags.length ct)).cells 137,fE 3 lW g3 R.length λj=>(now j:Int),fv wy gm (lp (kA (eL R tags) now i)) (kA (eL R tags) now i).length,fE 3 lW g9 R.length λj=>if j<i then(next (eL R tags) now j:Int)else 0,aR g12 (r9 ((now i:Int),Fp (eL R tags) now i q)).toArray 264]) (λq=>256-q) 0 (bH _) ?_
   intro q hq
   by_cases c3:q<256
   ·have hcell:(e8 r).toArray[q]?=aj (.int .i16 r[q]):=by rw[oE];exact pZ r c3
    have hdq:=gK q c3;have hsq:=hst q c3;have rB:=Nt (eL R tags) now i q c3;have afe:=Wc (eL R tags) now i q c3;rw[hdq]at hsq rB afe;clear hdq gK hst;generalize r[q]=x at*;unfold St at hsq
    by_cases c4:x<0
    ·have hv:val now x=0:=by unfold val;rw[if_pos c4]
     rw[afe hv]
     repeat(first|refine GA ?_|refine gV (jQ bQ.eq aL.ty I I c3 hcell) ?_)
     exact bW (q+1) J (by show 256-(q+1)<256-q;omega)
    obtain⟨m,rfl⟩:∃m:Nat,x=m:=⟨x.toNat,by omega⟩;have hm:m<R.length:=by omega
    have hlm:=Jr m hm;rw[Ae]at rB
    repeat(first|refine GA ?_|refine gV (jQ bQ.eq aL.ty I I c3 hcell) ?_|refine gV (bY bQ.eq aL.ty I I hm) ?_|refine gV (aC aL.ty I (gI (i:=1) I hm)) ?_|refine gV (jk bQ.eq bQ.eq I (Rj J J)) ?_|refine gV (hZ bQ.eq aL.ty I I c3) ?_)
    refine Wb (i:=4) I I I c3 ?_;rw[rB];refine zL ?_
    try refine GA ?_
    exact bW (q+1) J (by show 256-(q+1)<256-q;omega)
   obtain rfl:q=256:=by omega
   rw[aaG];have kV:=adV hA Jr (i:=i) c2
   by_cases c5:kind (eL R tags) now i∈kA (eL R tags) now i
   ·obtain⟨e1,e2⟩:=adW (eL R tags) now (i:=i) c2 c5
    generalize kind (eL R tags) now i=k at*
    repeat(first|refine GA ?_|refine gV (aP (i:=4) aL.ty I I (by rw[eM,mD])) ?_|refine gV (vj (K:=wy) (i:=2) (x:=k) bQ.eq aaE I I I kV c5) ?_|refine gV (bY bQ.eq aL.ty I I c2) ?_)
    refine ji (i:=3) (off:=i) (v:=(next (eL R tags) now i:Int)) (λj=>if j<i+1 then(next (eL R tags) now j:Int)else 0) aL.ty I I (by rw[e2];rfl) I I c2 (λj hj=>?_) ?_
    ·by_cases e:j=i
     subst e;rw[if_pos J,if_pos I];rw[if_neg e];have:j<i+1↔j<i:=by omega
     simp only[this]
    refine zL ?_
    try refine GA ?_
    refine dv [0,1,2,3] ?_;exact bW (i+1) J (by show R.length-(i+1)<R.length-i;omega) (hl:=by rw[e1];rfl)
   obtain⟨e1,e2⟩:=adX (eL R tags) now (i:=i) c2 c5;have afN:=aaH (eL R tags) now i;rw[en]at afN;generalize kind (eL R tags) now i=k at*
   repeat(first|refine GC ?_|refine gV (aP (i:=4) aL.ty I I (by rw[eM,mD])) ?_|refine gV (vm (K:=wy) (i:=2) (x:=k) bQ.eq aaE I I I kV c5) ?_|refine gV (w6 wy bQ.eq (i:=2) I I) ?_|refine GB ?_)
   refine Bi (K:=wy) (i:=2) (x:=k) bQ.eq I I I I kV c5 J ?_;refine zL ?_
   repeat(first|refine GA ?_|refine gV (bY bQ.eq aL.ty I I c2) ?_)
   refine ji (i:=3) (off:=i) (v:=(next (eL R tags) now i:Int)) (λj=>if j<i+1 then(next (eL R tags) now j:Int)else 0) aL.ty I I (by rw[e2];rfl) I I c2 (λj hj=>?_) ?_
   ·by_cases e:j=i
    subst e;rw[if_pos J,if_pos I];rw[if_neg e];have:j<i+1↔j<i:=by omega
    simp only[this]
   refine zL ?_
   try refine GA ?_
   refine dv [0,1,2,3] ?_;exact bW (i+1) J (by show R.length-(i+1)<R.length-i;omega) (hl:=by rw[e1];rfl)
  obtain rfl:i=R.length:=by omega
  rw[show kA (eL R tags) now R.length=ox (eL R tags) now from We (eL R tags) now];rw[pD (f':=λj=>(next (eL R tags) now j:Int)) λj hj=>if_pos hj]
  by_cases c6:(ox (eL R tags) now).length=c
  ·rw[agI c6]
   repeat(first|refine GC ?_|refine gV (w6 wy bQ.eq (i:=2) I I) ?_|refine gV (cY (b:=aD) I I (decide_eq_true J)) ?_|refine GB ?_)
   exact cJ I I λw hm=>hm.meets (S:=⟨λ_=>True,λ(g:Nat)=>av (aj ⟨g,0,ak⟩) R.length R.length,λg=>[fE 3 lW g R.length λi=>(next (eL R tags) now i:Int)]⟩) g9 trivial [3] aln I
  repeat(first|refine GC ?_|refine gV (w6 wy bQ.eq (i:=2) I I) ?_|refine gV (cY (b:=aF) I I (decide_eq_false J)) ?_|refine GB ?_)
  refine dv [0,3] ?_;exact bW (f',(ox (eL R tags) now).length,next (eL R tags) now,g9) (hgo c6) (Nat.lt_succ_self f')
theorem Fq(vr vt:Value)(R:List Row)(tags:List Int)(w:World)(h:G2 w vr vt R tags):Calls aE 77 #[jc vr vt] w (bX (ret (az aB (lI R tags))) w):=Eo _ _ _ w h.aiq
end bZ
end Go.Proofs.YthmakbpkkoeabaaGreat

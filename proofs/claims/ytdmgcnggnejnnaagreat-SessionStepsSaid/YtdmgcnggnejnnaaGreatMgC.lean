/- Part 3 of what SessionSteps needs: PlC, PlD, PlacesM, PlM, PlR, ItO, SmM, SmU, SmP, Els, ItD, SortJ, ItE, ItF, ItG, ItA, ItP, OutA, SmIe, SmIn, BoE, PlE, PlP, PlacesS, PlK, ClimbL, ClimbO, ClimbA, TdS, LrM, LrN, Opens, CfgL, SpecL, SpecS, SpecI, SpecJ, BeginL, IntS, PlT, GateL, GateM, SeP, Ev, EvS, GateC. -/
import Derived.Test.YtdmgcnggnejnnaaGreatMgB
import Derived.Shelf.SlGeneric
import Derived.Shelf.SlSortCmp.NoneTotal
import Derived.Ground.SlsfProg
import Derived.Lib.IndexMore
namespace Go.Proofs.YtdmgcnggnejnnaaGreat
set_option linter.unusedVariables false
set_option linter.unusedSimpArgs false
open _root_.And renaming intro->dh
open _root_.Array renaming getElem?_eq_some_iff->lA,length_toList->nj,getElem?_toList->qS,getElem?_eq_getElem->xF,getElem?_modify->Dc
open _root_.Bool renaming false->aE,true->aD,and_eq_true->fU,or_eq_true->mA
open _root_.False renaming elim->nk
open _root_.Go.BigFrame renaming execOp_builtin->lZ,builtin_append->sd
open _root_.Go.Builtin renaming append_->tL,lenOf->zy,firstCells->CD
open _root_.Go.Instr renaming build->dR,field->WR
open _root_.Go.IntKind renaming i64->az
open _root_.Go.Oper renaming wp->gG
open _root_.Go.Proofs.Tryz renaming prog->aC
open _root_.Go.Value renaming slice->ap,int->av,pointer->aK,agg->aU,bool->gi,ownBlock->qK
open _root_.Go.Value.agg renaming injEq->k7
open _root_.Go.Value.slice renaming injEq->jQ
open _root_.Go.World renaming block_lt_of_cell?->np
open _root_.Int renaming toNat_natCast->dP,eq_ofNat_of_zero_le->jg,toNat_of_nonneg->uy
open _root_.List renaming getElem?_eq_getElem->bQ,getD_eq_getElem?_getD->cK,length_append->bT,getElem?_eq_some_iff->dv,getElem_mem->cV,length_cons->dE,all_cons->dw,drop_eq_getElem_cons->ff,replicate->dJ,all_nil->dA,mem_singleton->ep,length_map->dX,size_toArray->eE,take_succ_eq_append_getElem->ia,append_nil->eB,append_assoc->eZ,map_append->ft,getElem?_map->fx,mem_cons->ez,take_of_length_le->gj,flatMap_append->fV,nil_append->fg,mem_append->fC,length_nil->gJ,mem_map->e7,drop_of_length_le->je,length_drop->iv,mem_cons_self->ir,map_cons->gu,getElem?_eq_none->jE,mem_cons_of_mem->mb,not_mem_nil->iD,flatMap_cons->lC,length_singleton->ky,length_take->jR,mem_of_getElem?->mF,drop_eq_nil_of_le->pO,cons_append->ku,take_length->nE,ext_getElem?->mG,take_append_drop->tP,getElem_map->sE,drop_zero->qL,drop_drop->qM,getElem?_take->uA,take_succ_cons->sm,take_zero->tU,drop_length->xW,drop_succ_cons->Ax,mem_flatMap->uB,mem_filterMap->Ou,idxOf_cons->WT,take_left->WU,map->WV
open _root_.List.Pairwise renaming of_map->ac7
open _root_.List.cons renaming injEq->ib,inj->WX
open _root_.Nat renaming le_refl->bJ,zero_le->bO,zero_add->du,le_trans->fI,lt_of_lt_of_le->jf,add_mul->jF,mul_le_mul_right->o8,succ_mul->kQ,add_zero->iO,mul_one->kR,add_assoc->l6,add_sub_cancel->Ix,sub_self->px,mod_lt->CJ,sub_zero->WY,le_of_eq->WZ
open _root_.Option renaming some->aj,none->ak,map_some->Ov
open _root_.Option.some renaming injEq->dB,inj->o9
open _root_.Prod.mk renaming injEq->gH
open _root_.True renaming intro->dl
open _root_.UInt8 renaming ofNat->gv
open _root_.Vector renaming replicate->eS
set_option maxHeartbeats 16000000
namespace cZ
open Go.RowKit dr eH dT iA fq
set_option maxRecDepth 100000 in
theorem W1{M:Nat}(IH:Iu M)(a b1:Re)(ha:a.size<=M)(K0:b1.size<=M)(g:Nat)(vf ve:Value)(bY:Int)(p:PS)(x:T8)(v:Value)(w:World)(B:b9)(hp:K4 p)(hx:x.vs.length=p.follow.length)(hn:p.bx.length+(a.size+b1.size+1)<=100000)(Ot:dr.eD bY)(hv:om (Au B) B.w v (lQ (.HQ a b1)))(hm:Mem B (nK g vf ve bY x p) w):
 Calls aC 112 #[aK (aj ⟨g,0,ak⟩),v] w (dF (dc g vf ve bY (db bY (.HQ a b1) p)) B):=by
 obtain⟨vk,rfl,_,Qc⟩:=hv;obtain⟨bk,ck,rfl,h1,h2,h3⟩:=Qc;obtain⟨b,off,rfl,hF,fl⟩:=h3 (by show 0<2;decide);obtain⟨kb,kc,hr,uY⟩:=qx (k:=0) fl (by show 0<2;decide);obtain⟨kb2,kc2,we,lc⟩:=qx (k:=1) fl (by show 1<2;decide);have Iw:=λ(L:List cU) (j:Nat) (v:Value) hj=>sN (L:=L) hF hr j v hj;have tC:=λ(L:List cU) (j:Nat) (v:Value) hj=>sN (L:=L) hF we j v hj;clear h3 fl hr we;obtain⟨E7,Qr,Ww,hp4,Z_⟩:=lV bY a p hp;obtain⟨kp1,kp2,kp3,kp4,kp5⟩:=lV bY b1 _ E7;have SX:=λw B hv hm=>IH a ha g vf ve bY p x (sB (lQ a).kind (lQ a).uf (ap kb (lQ a).kids.length kc)) w B hp hx J Ot hv hm;have Aw:=λx1 kB w B hv hm=>IH b1 K0 g vf ve bY (db bY a p).2 x1 (sB (lQ b1).kind (lQ b1).uf (ap kb2 (lQ b1).kids.length kc2)) w B E7 kB J Ot hv hm;rw[show db bY (.HQ a b1) p=(⟨(db bY a p).1.empty&&(db bY b1 (db bY a p).2).1.empty,if(db bY a p).1.empty then r_ (db bY a p).1.first (db bY b1 (db bY a p).2).1.first else(db bY a p).1.first,if(db bY b1 (db bY a p).2).1.empty then r_ (db bY a p).1.last (db bY b1 (db bY a p).2).1.last else(db bY b1 (db bY a p).2).1.last⟩,{(db bY b1 (db bY a p).2).2 with follow:=fP (db bY b1 (db bY a p).2).2.follow (db bY a p).1.last (db bY b1 (db bY a p).2).1.first})from rfl];generalize db bY b1 (db bY a p).2=R2 at*;generalize db bY a p=R1 at*;obtain⟨⟨e1,iw,kK⟩,p1⟩:=R1;obtain⟨⟨e2,iG,kl⟩,p2⟩:=R2;dsimp only at E7 Qr Ww hp4 Z_ kp1 kp2 kp3 kp4 kp5 Aw⊢;unfold nK at hm;refine dZ hm (args:=[aK (aj ⟨g,0,ak⟩),sB 4 C4.zero (ap (aj ⟨b,off,ak⟩) 2 ck)]) (n:=176) Tryz.func112 I I I ?_;clear hm;refine bC (aM (b_ I I I λg3=>bz I λg4=>?_));refine zL ?_
 repeat(first|refine GA ?_|refine gV (aB (v:=av az 4) aL.ty I (aH (i:=6) I I)) ?_)
 (repeat refine bC ?_)
 refine l_ (ι:=T8×Value×Value×Value×Value×Nat×Nat) (λy=>y.1.vs.length=p2.follow.length) (λy=>[(0,aK (aj ⟨g,0,ak⟩)),(4,aK (aj ⟨g4,0,ak⟩)),(9,aK (aj ⟨y.2.2.2.2.2.1,0,ak⟩)),(10,aK (aj ⟨y.2.2.2.2.2.2,0,ak⟩))])
  (λy=>nK g vf ve bY y.1 p2++[gZ y.2.1 iw,gZ y.2.2.1 kK,gZ y.2.2.2.1 iG,gZ y.2.2.2.2.1 kl,aR g4 #[.bool aE,ap ak 0 0,ap ak 0 0] 244,aR y.2.2.2.2.2.1 #[.bool e1,y.2.1,y.2.2.1] 244,aR y.2.2.2.2.2.2 #[.bool e2,y.2.2.2.1,y.2.2.2.2.1] 244]) ?_ ?_
 ·refine eo ([aR g3 (nR 4 C4.zero (ap (aj ⟨b,off,ak⟩) 2 ck)).toArray 119]) (.calm 0 (.calm 1 (.calm 2 (.calm 3 (.calm 4 (.calm 6 (.calm 7 (.calm 8 (.calm 9 (.calm 10 (.three 5 (.three 11 (.two 12 (.one 13 (.one 14 (.one 15 (.done)))) 13 (.one 12 (.one 14 (.one 15 (.done))))) 12 (.two 11 (.one 13 (.one 14 (.one 15 (.done)))) 13 (.one 11 (.one 14 (.one 15 (.done))))) 13 (.two 11 (.one 12 (.one 14 (.one 15 (.done)))) 12 (.one 11 (.one 14 (.one 15 (.done)))))) 12 (.two 5 (.two 11 (.one 13 (.one 14 (.one 15 (.done)))) 13 (.one 11 (.one 14 (.one 15 (.done))))) 13 (.one 5 (.one 11 (.one 14 (.one 15 (.done)))))) 13 (.two 5 (.two 11 (.one 12 (.one 14 (.one 15 (.done)))) 12 (.one 11 (.one 14 (.one 15 (.done))))) 12 (.one 5 (.one 11 (.one 14 (.one 15 (.done))))))))))))))))) (cH [6]) ?_
  repeat(first|refine GW ?_|(refine GN ?_;first|refine QW (aB (v:=ap (aj ⟨b,off,ak⟩) 2 ck) aL.ty I (aH (i:=0) I I)) ?_|refine QW (a_ (j:=0) bR.eq aL.ty I I ahk) ?_|refine QW (a_ (j:=1) bR.eq aL.ty I I ahk) ?_|refine QW (bH aL.ty I I (Iw _)) ?_|refine QW (bH aL.ty I I (tC _)) ?_))
  refine yu I I I ?_ ?_ ?_
  ·refine bK [0,1,2,3,4,5] [6,7] ahk I I (gK aJ.en I I I) (λw hm hb=>SX w _ (fz (hm.pick [0,1,2,3,4,5] ahk I) uY) hb) I I I ?_
   rintro⟨⟨tI,tJ,hZ,tK,nZ,F1⟩,mf,lH⟩ kB;have kB:nZ.length=p1.follow.length:=kB
   conv=>arg 8;simp only[zJ,dg,ret,id_eq,dc,nK]
   conv=>arg 7;simp only[dc]
   refine aP (cH [0]) ?_;refine yu I I I ?_ ?_ ?_
   ·refine bK [2,3,4,5,6,7] [0,1,8,9] ahk I I (gK aJ.en I I I) (λw hm hb=>Aw ⟨tI,tJ,hZ,tK,nZ,F1⟩ kB w _ (fz (hm.pick [2,3,4,5,6,7] ahk I) lc) hb) I I I ?_
    rintro⟨⟨qd,qe,fA,qf,lI,F2⟩,ke,kC⟩ gh;have gh:lI.length=p2.follow.length:=gh
    conv=>arg 8;simp only[zJ,dg,ret,id_eq,dc,nK]
    conv=>arg 7;simp only[dc]
    refine aP (cH [0]) ?_;refine e9 I I ?_ ?_
    ·refine bz I λg7=>(aP (cH [0]) ?_)
     refine aO I (bz I λg8=>(aP (cH [0]) ?_));refine aO I (aY (i:=2) I λ_ pK=>aY (i:=3) I λ_ pL=>aZ (i:=12) (cs':=#[.bool e1,mf,lH]) I I I I (by simp only[dw,dA,pK,pL];rfl) I (aP (cH [0]) ?_))
     try refine GW ?_
     refine aO I (aY (i:=10) I λ_ pM=>aY (i:=11) I λ_ pN=>aZ (i:=13) (cs':=#[.bool e2,ke,kC]) I I I I (by simp only[dw,dA,pM,pN];rfl) I (aP (cH [0]) ?_))
     try refine GW ?_
     refine dS [4,5,6,7,8,9,2,3,10,11,1,12,13] ?_;exact eJ (⟨qd,qe,fA,qf,lI,F2⟩,mf,lH,ke,kC,g7,g8) gh (by repeat' (first|exact dl|refine dh I ?_)) I
    refine bz I λg8=>(aP (cH [0]) ?_);refine aO I (bz I λg7=>(aP (cH [0]) ?_));refine aO I (aY (i:=2) I λ_ pK=>aY (i:=3) I λ_ pL=>aZ (i:=13) (cs':=#[.bool e1,mf,lH]) I I I I (by simp only[dw,dA,pK,pL];rfl) I (aP (cH [0]) ?_))
    try refine GW ?_
    refine aO I (aY (i:=10) I λ_ pM=>aY (i:=11) I λ_ pN=>aZ (i:=12) (cs':=#[.bool e2,ke,kC]) I I I I (by simp only[dw,dA,pM,pN];rfl) I (aP (cH [0]) ?_))
    try refine GW ?_
    refine dS [4,5,6,7,8,9,2,3,10,11,1,13,12] ?_;exact eJ (⟨qd,qe,fA,qf,lI,F2⟩,mf,lH,ke,kC,g7,g8) gh (by repeat' (first|exact dl|refine dh I ?_)) I
   ·refine bz I λg7=>(aP (cH [0]) ?_)
    refine e9 I I ?_ ?_
    ·refine bK [2,3,4,5,6,7] [0,1,8,9,10] ahk I I (gK aJ.en I I I) (λw hm hb=>Aw ⟨tI,tJ,hZ,tK,nZ,F1⟩ kB w _ (fz (hm.pick [2,3,4,5,6,7] ahk I) lc) hb) I I I ?_
     rintro⟨⟨qd,qe,fA,qf,lI,F2⟩,ke,kC⟩ gh;have gh:lI.length=p2.follow.length:=gh
     conv=>arg 8;simp only[zJ,dg,ret,id_eq,dc,nK]
     conv=>arg 7;simp only[dc]
     refine aP (cH [0]) ?_;refine aO I (bz I λg8=>(aP (cH [0]) ?_));refine aO I (aY (i:=2) I λ_ pK=>aY (i:=3) I λ_ pL=>aZ (i:=4) (cs':=#[.bool e1,mf,lH]) I I I I (by simp only[dw,dA,pK,pL];rfl) I (aP (cH [0]) ?_))
     try refine GW ?_
     refine aO I (aY (i:=11) I λ_ pM=>aY (i:=12) I λ_ pN=>aZ (i:=13) (cs':=#[.bool e2,ke,kC]) I I I I (by simp only[dw,dA,pM,pN];rfl) I (aP (cH [0]) ?_))
     try refine GW ?_
     refine dS [5,6,7,8,9,10,2,3,11,12,1,4,13] ?_;exact eJ (⟨qd,qe,fA,qf,lI,F2⟩,mf,lH,ke,kC,g7,g8) gh (by repeat' (first|exact dl|refine dh I ?_)) I
    refine bz I λg8=>(aP (cH [0]) ?_);refine aO I (bK [2,3,4,5,6,7] [0,1,8,9,10,11] ahk I I (gK aJ.en I I I) (λw hm hb=>Aw ⟨tI,tJ,hZ,tK,nZ,F1⟩ kB w _ (fz (hm.pick [2,3,4,5,6,7] ahk I) lc) hb) I I I ?_);rintro⟨⟨qd,qe,fA,qf,lI,F2⟩,ke,kC⟩ gh;have gh:lI.length=p2.follow.length:=gh
    conv=>arg 8;simp only[zJ,dg,ret,id_eq,dc,nK]
    conv=>arg 7;simp only[dc]
    refine aP (cH [0]) ?_;refine aO I (aY (i:=2) I λ_ pK=>aY (i:=3) I λ_ pL=>aZ (i:=4) (cs':=#[.bool e1,mf,lH]) I I I I (by simp only[dw,dA,pK,pL];rfl) I (aP (cH [0]) ?_))
    try refine GW ?_
    refine aO I (aY (i:=12) I λ_ pM=>aY (i:=13) I λ_ pN=>aZ (i:=5) (cs':=#[.bool e2,ke,kC]) I I I I (by simp only[dw,dA,pM,pN];rfl) I (aP (cH [0]) ?_))
    try refine GW ?_
    refine dS [6,7,8,9,10,11,2,3,12,13,1,4,5] ?_;exact eJ (⟨qd,qe,fA,qf,lI,F2⟩,mf,lH,ke,kC,g7,g8) gh (by repeat' (first|exact dl|refine dh I ?_)) I
   refine bz I λg8=>(aP (cH [0]) ?_);refine e9 I I ?_ ?_
   ·refine bK [2,3,4,5,6,7] [0,1,8,9,10] ahk I I (gK aJ.en I I I) (λw hm hb=>Aw ⟨tI,tJ,hZ,tK,nZ,F1⟩ kB w _ (fz (hm.pick [2,3,4,5,6,7] ahk I) lc) hb) I I I ?_
    rintro⟨⟨qd,qe,fA,qf,lI,F2⟩,ke,kC⟩ gh;have gh:lI.length=p2.follow.length:=gh
    conv=>arg 8;simp only[zJ,dg,ret,id_eq,dc,nK]
    conv=>arg 7;simp only[dc]
    refine aP (cH [0]) ?_;refine aO I (bz I λg7=>(aP (cH [0]) ?_));refine aO I (aY (i:=2) I λ_ pK=>aY (i:=3) I λ_ pL=>aZ (i:=13) (cs':=#[.bool e1,mf,lH]) I I I I (by simp only[dw,dA,pK,pL];rfl) I (aP (cH [0]) ?_))
    try refine GW ?_
    refine aO I (aY (i:=11) I λ_ pM=>aY (i:=12) I λ_ pN=>aZ (i:=4) (cs':=#[.bool e2,ke,kC]) I I I I (by simp only[dw,dA,pM,pN];rfl) I (aP (cH [0]) ?_))
    try refine GW ?_
    refine dS [5,6,7,8,9,10,2,3,11,12,1,13,4] ?_;exact eJ (⟨qd,qe,fA,qf,lI,F2⟩,mf,lH,ke,kC,g7,g8) gh (by repeat' (first|exact dl|refine dh I ?_)) I
   refine bz I λg7=>(aP (cH [0]) ?_);refine aO I (bK [2,3,4,5,6,7] [0,1,8,9,10,11] ahk I I (gK aJ.en I I I) (λw hm hb=>Aw ⟨tI,tJ,hZ,tK,nZ,F1⟩ kB w _ (fz (hm.pick [2,3,4,5,6,7] ahk I) lc) hb) I I I ?_);rintro⟨⟨qd,qe,fA,qf,lI,F2⟩,ke,kC⟩ gh;have gh:lI.length=p2.follow.length:=gh
   conv=>arg 8;simp only[zJ,dg,ret,id_eq,dc,nK]
   conv=>arg 7;simp only[dc]
   refine aP (cH [0]) ?_;refine aO I (aY (i:=2) I λ_ pK=>aY (i:=3) I λ_ pL=>aZ (i:=5) (cs':=#[.bool e1,mf,lH]) I I I I (by simp only[dw,dA,pK,pL];rfl) I (aP (cH [0]) ?_))
   try refine GW ?_
   refine aO I (aY (i:=12) I λ_ pM=>aY (i:=13) I λ_ pN=>aZ (i:=4) (cs':=#[.bool e2,ke,kC]) I I I I (by simp only[dw,dA,pM,pN];rfl) I (aP (cH [0]) ?_))
   try refine GW ?_
   refine dS [6,7,8,9,10,11,2,3,12,13,1,5,4] ?_;exact eJ (⟨qd,qe,fA,qf,lI,F2⟩,mf,lH,ke,kC,g7,g8) gh (by repeat' (first|exact dl|refine dh I ?_)) I
  ·refine bz I λg7=>(aP (cH [6]) ?_)
   refine e9 I I ?_ ?_
   ·refine bK [0,1,2,3,4,5] [6,7,8] ahk I I (gK aJ.en I I I) (λw hm hb=>SX w _ (fz (hm.pick [0,1,2,3,4,5] ahk I) uY) hb) I I I ?_
    rintro⟨⟨tI,tJ,hZ,tK,nZ,F1⟩,mf,lH⟩ kB;have kB:nZ.length=p1.follow.length:=kB
    conv=>arg 8;simp only[zJ,dg,ret,id_eq,dc,nK]
    conv=>arg 7;simp only[dc]
    refine aP (cH [0]) ?_;refine e9 I I ?_ ?_
    ·refine bK [3,4,5,6,7,8] [0,1,2,9,10] ahk I I (gK aJ.en I I I) (λw hm hb=>Aw ⟨tI,tJ,hZ,tK,nZ,F1⟩ kB w _ (fz (hm.pick [3,4,5,6,7,8] ahk I) lc) hb) I I I ?_
     rintro⟨⟨qd,qe,fA,qf,lI,F2⟩,ke,kC⟩ gh;have gh:lI.length=p2.follow.length:=gh
     conv=>arg 8;simp only[zJ,dg,ret,id_eq,dc,nK]
     conv=>arg 7;simp only[dc]
     refine aP (cH [0]) ?_;refine aO I (bz I λg8=>(aP (cH [0]) ?_));refine aO I (aY (i:=3) I λ_ pK=>aY (i:=4) I λ_ pL=>aZ (i:=2) (cs':=#[.bool e1,mf,lH]) I I I I (by simp only[dw,dA,pK,pL];rfl) I (aP (cH [0]) ?_))
     try refine GW ?_
     refine aO I (aY (i:=11) I λ_ pM=>aY (i:=12) I λ_ pN=>aZ (i:=13) (cs':=#[.bool e2,ke,kC]) I I I I (by simp only[dw,dA,pM,pN];rfl) I (aP (cH [0]) ?_))
     try refine GW ?_
     refine dS [5,6,7,8,9,10,3,4,11,12,1,2,13] ?_;exact eJ (⟨qd,qe,fA,qf,lI,F2⟩,mf,lH,ke,kC,g7,g8) gh (by repeat' (first|exact dl|refine dh I ?_)) I
    refine bz I λg8=>(aP (cH [0]) ?_);refine aO I (bK [3,4,5,6,7,8] [0,1,2,9,10,11] ahk I I (gK aJ.en I I I) (λw hm hb=>Aw ⟨tI,tJ,hZ,tK,nZ,F1⟩ kB w _ (fz (hm.pick [3,4,5,6,7,8] ahk I) lc) hb) I I I ?_);rintro⟨⟨qd,qe,fA,qf,lI,F2⟩,ke,kC⟩ gh;have gh:lI.length=p2.follow.length:=gh
    conv=>arg 8;simp only[zJ,dg,ret,id_eq,dc,nK]
    conv=>arg 7;simp only[dc]
    refine aP (cH [0]) ?_;refine aO I (aY (i:=3) I λ_ pK=>aY (i:=4) I λ_ pL=>aZ (i:=2) (cs':=#[.bool e1,mf,lH]) I I I I (by simp only[dw,dA,pK,pL];rfl) I (aP (cH [0]) ?_))
    try refine GW ?_
    refine aO I (aY (i:=12) I λ_ pM=>aY (i:=13) I λ_ pN=>aZ (i:=5) (cs':=#[.bool e2,ke,kC]) I I I I (by simp only[dw,dA,pM,pN];rfl) I (aP (cH [0]) ?_))
    try refine GW ?_
    refine dS [6,7,8,9,10,11,3,4,12,13,1,2,5] ?_;exact eJ (⟨qd,qe,fA,qf,lI,F2⟩,mf,lH,ke,kC,g7,g8) gh (by repeat' (first|exact dl|refine dh I ?_)) I
   refine bz I λg8=>(aP (cH [6]) ?_);refine aO I (bK [0,1,2,3,4,5] [6,7,8,9] ahk I I (gK aJ.en I I I) (λw hm hb=>SX w _ (fz (hm.pick [0,1,2,3,4,5] ahk I) uY) hb) I I I ?_);rintro⟨⟨tI,tJ,hZ,tK,nZ,F1⟩,mf,lH⟩ kB;have kB:nZ.length=p1.follow.length:=kB
   conv=>arg 8;simp only[zJ,dg,ret,id_eq,dc,nK]
   conv=>arg 7;simp only[dc]
   refine aP (cH [0]) ?_;refine aO I (bK [4,5,6,7,8,9] [0,1,2,3,10,11] ahk I I (gK aJ.en I I I) (λw hm hb=>Aw ⟨tI,tJ,hZ,tK,nZ,F1⟩ kB w _ (fz (hm.pick [4,5,6,7,8,9] ahk I) lc) hb) I I I ?_);rintro⟨⟨qd,qe,fA,qf,lI,F2⟩,ke,kC⟩ gh;have gh:lI.length=p2.follow.length:=gh
   conv=>arg 8;simp only[zJ,dg,ret,id_eq,dc,nK]
   conv=>arg 7;simp only[dc]
   refine aP (cH [0]) ?_;refine aO I (aY (i:=4) I λ_ pK=>aY (i:=5) I λ_ pL=>aZ (i:=2) (cs':=#[.bool e1,mf,lH]) I I I I (by simp only[dw,dA,pK,pL];rfl) I (aP (cH [0]) ?_))
   try refine GW ?_
   refine aO I (aY (i:=12) I λ_ pM=>aY (i:=13) I λ_ pN=>aZ (i:=3) (cs':=#[.bool e2,ke,kC]) I I I I (by simp only[dw,dA,pM,pN];rfl) I (aP (cH [0]) ?_))
   try refine GW ?_
   refine dS [6,7,8,9,10,11,4,5,12,13,1,2,3] ?_;exact eJ (⟨qd,qe,fA,qf,lI,F2⟩,mf,lH,ke,kC,g7,g8) gh (by repeat' (first|exact dl|refine dh I ?_)) I
  refine bz I λg8=>(aP (cH [6]) ?_);refine e9 I I ?_ ?_
  ·refine bK [0,1,2,3,4,5] [6,7,8] ahk I I (gK aJ.en I I I) (λw hm hb=>SX w _ (fz (hm.pick [0,1,2,3,4,5] ahk I) uY) hb) I I I ?_
   rintro⟨⟨tI,tJ,hZ,tK,nZ,F1⟩,mf,lH⟩ kB;have kB:nZ.length=p1.follow.length:=kB
   conv=>arg 8;simp only[zJ,dg,ret,id_eq,dc,nK]
   conv=>arg 7;simp only[dc]
   refine aP (cH [0]) ?_;refine e9 I I ?_ ?_
   ·refine bK [3,4,5,6,7,8] [0,1,2,9,10] ahk I I (gK aJ.en I I I) (λw hm hb=>Aw ⟨tI,tJ,hZ,tK,nZ,F1⟩ kB w _ (fz (hm.pick [3,4,5,6,7,8] ahk I) lc) hb) I I I ?_
    rintro⟨⟨qd,qe,fA,qf,lI,F2⟩,ke,kC⟩ gh;have gh:lI.length=p2.follow.length:=gh
    conv=>arg 8;simp only[zJ,dg,ret,id_eq,dc,nK]
    conv=>arg 7;simp only[dc]
    refine aP (cH [0]) ?_;refine aO I (bz I λg7=>(aP (cH [0]) ?_));refine aO I (aY (i:=3) I λ_ pK=>aY (i:=4) I λ_ pL=>aZ (i:=13) (cs':=#[.bool e1,mf,lH]) I I I I (by simp only[dw,dA,pK,pL];rfl) I (aP (cH [0]) ?_))
    try refine GW ?_
    refine aO I (aY (i:=11) I λ_ pM=>aY (i:=12) I λ_ pN=>aZ (i:=2) (cs':=#[.bool e2,ke,kC]) I I I I (by simp only[dw,dA,pM,pN];rfl) I (aP (cH [0]) ?_))
    try refine GW ?_
    refine dS [5,6,7,8,9,10,3,4,11,12,1,13,2] ?_;exact eJ (⟨qd,qe,fA,qf,lI,F2⟩,mf,lH,ke,kC,g7,g8) gh (by repeat' (first|exact dl|refine dh I ?_)) I
   refine bz I λg7=>(aP (cH [0]) ?_);refine aO I (bK [3,4,5,6,7,8] [0,1,2,9,10,11] ahk I I (gK aJ.en I I I) (λw hm hb=>Aw ⟨tI,tJ,hZ,tK,nZ,F1⟩ kB w _ (fz (hm.pick [3,4,5,6,7,8] ahk I) lc) hb) I I I ?_);rintro⟨⟨qd,qe,fA,qf,lI,F2⟩,ke,kC⟩ gh;have gh:lI.length=p2.follow.length:=gh
   conv=>arg 8;simp only[zJ,dg,ret,id_eq,dc,nK]
   conv=>arg 7;simp only[dc]
   refine aP (cH [0]) ?_;refine aO I (aY (i:=3) I λ_ pK=>aY (i:=4) I λ_ pL=>aZ (i:=5) (cs':=#[.bool e1,mf,lH]) I I I I (by simp only[dw,dA,pK,pL];rfl) I (aP (cH [0]) ?_))
   try refine GW ?_
   refine aO I (aY (i:=12) I λ_ pM=>aY (i:=13) I λ_ pN=>aZ (i:=2) (cs':=#[.bool e2,ke,kC]) I I I I (by simp only[dw,dA,pM,pN];rfl) I (aP (cH [0]) ?_))
   try refine GW ?_
   refine dS [6,7,8,9,10,11,3,4,12,13,1,5,2] ?_;exact eJ (⟨qd,qe,fA,qf,lI,F2⟩,mf,lH,ke,kC,g7,g8) gh (by repeat' (first|exact dl|refine dh I ?_)) I
  refine bz I λg7=>(aP (cH [6]) ?_);refine aO I (bK [0,1,2,3,4,5] [6,7,8,9] ahk I I (gK aJ.en I I I) (λw hm hb=>SX w _ (fz (hm.pick [0,1,2,3,4,5] ahk I) uY) hb) I I I ?_);rintro⟨⟨tI,tJ,hZ,tK,nZ,F1⟩,mf,lH⟩ kB;have kB:nZ.length=p1.follow.length:=kB
  conv=>arg 8;simp only[zJ,dg,ret,id_eq,dc,nK]
  conv=>arg 7;simp only[dc]
  refine aP (cH [0]) ?_;refine aO I (bK [4,5,6,7,8,9] [0,1,2,3,10,11] ahk I I (gK aJ.en I I I) (λw hm hb=>Aw ⟨tI,tJ,hZ,tK,nZ,F1⟩ kB w _ (fz (hm.pick [4,5,6,7,8,9] ahk I) lc) hb) I I I ?_);rintro⟨⟨qd,qe,fA,qf,lI,F2⟩,ke,kC⟩ gh;have gh:lI.length=p2.follow.length:=gh
  conv=>arg 8;simp only[zJ,dg,ret,id_eq,dc,nK]
  conv=>arg 7;simp only[dc]
  refine aP (cH [0]) ?_;refine aO I (aY (i:=4) I λ_ pK=>aY (i:=5) I λ_ pL=>aZ (i:=3) (cs':=#[.bool e1,mf,lH]) I I I I (by simp only[dw,dA,pK,pL];rfl) I (aP (cH [0]) ?_))
  try refine GW ?_
  refine aO I (aY (i:=12) I λ_ pM=>aY (i:=13) I λ_ pN=>aZ (i:=2) (cs':=#[.bool e2,ke,kC]) I I I I (by simp only[dw,dA,pM,pN];rfl) I (aP (cH [0]) ?_))
  try refine GW ?_
  refine dS [6,7,8,9,10,11,4,5,12,13,1,3,2] ?_;exact eJ (⟨qd,qe,fA,qf,lI,F2⟩,mf,lH,ke,kC,g7,g8) gh (by repeat' (first|exact dl|refine dh I ?_)) I
 clear SX Aw Iw tC;rintro⟨⟨vc,vr,vfol,vl,vs,F⟩,mf,lH,ke,kC,g7,g8⟩ gh;have gh:vs.length=p2.follow.length:=gh;dsimp only
 conv=>arg 7;simp only[zA,zB,zC,zD,zE,zF,zG,zH,zI,dg,ret,id_eq,nK]
 have Nv:=ka hp4;have Ny:=ka Z_;have hl3:=ka kp4;have hl4:=ka kp5
 repeat(first|refine GA ?_|refine gV (aB (v:=lH) aL.ty I (aH (i:=11) I I)) ?_|refine gV (aB (v:=ke) aL.ty I (aH (i:=12) I I)) ?_)
 refine bK [0,3,4,7,8] [1,2,5,6,9,10,11,12] ahk I I (tH aJ.en I I I I) (λw hm hb=>yU g vc vr vf vfol vl ve bY lH ke vs F p2.follow kK iG w _ gh (by rw[kp1.follow];omega) (by rw[kp1.follow];exact kp1.ris) (by rw[kp1.follow];exact nY Z_ kp2) (by rw[kp1.follow];exact kp4) hb) I I I ?_;rintro⟨pJ,F'⟩ Z0;have Z0:pJ.length=p2.follow.length:=Z0
 conv=>arg 8;simp only[zJ,dg,ret,id_eq,QE]
 refine nJ (i:=3) I λba ca hva _ _=>?_;refine nJ (i:=4) I λbb cb zr _ _=>?_;subst hva zr
 cases e1 with
 | true=>
  cases e2 with
  | true=>
   repeat(first|refine GA ?_|refine gV (aB aL.ty I (aH (i:=6) I I)) ?_|refine gV (aB aL.ty I (aH (i:=7) I I)) ?_|refine gV (bP I (nD _ _ _ _ _ _ _)) ?_)
   refine bz I λg11=>?_;refine zL ?_;refine il 13 (cs':=#[.bool aD,ap ba iw.length ca,ap bb kl.length cb]) ?_;refine zL ?_
   repeat(first|refine GA ?_|refine gV (aB aL.ty I (aH (i:=6) I I)) ?_|refine gV (aB aL.ty I (aH (i:=7) I I)) ?_)
   refine a8 (gK aJ.en I I I) (λw' hm=>iL _ ke iw iG w' (Sl.dY (hm.get (i:=3) I)) (Sl.dY (hm.get (i:=12) I)) J J) I I I ?_;intro vu _
   conv=>arg 8;simp only[zJ,dg,ret,id_eq,tj]
   try refine GA ?_
   refine aY (i:=14) I λqu1 qu2=>cD (i:=13) I I I qu1 qu2 I ?_;refine zL ?_
   repeat(first|refine GA ?_|refine gV (aB aL.ty I (aH (i:=6) I I)) ?_|refine gV (aB aL.ty I (aH (i:=7) I I)) ?_)
   refine a8 (gK aJ.en I I I) (λw' hm=>iL lH _ kK kl w' (Sl.dY (hm.get (i:=11) I)) (Sl.dY (hm.get (i:=4) I)) J J) I I I ?_;intro vu2 _
   conv=>arg 8;simp only[zJ,dg,ret,id_eq,tj]
   try refine GA ?_
   refine aY (i:=15) I λqv1 qv2=>cD (i:=13) I I I qv1 qv2 I ?_;refine zL ?_
   repeat(first|refine GA ?_|refine gV (aQ (i:=13) aL.ty I I I) ?_|refine gV (aB aL.ty I (aH (i:=6) I I)) ?_|refine gV (aB aL.ty I (aH (i:=7) I I)) ?_)
   refine aZ (i:=5) (cs':=#[.bool aD,vu,vu2]) I I I I (by simp only[dw,dA,qu2,qv2];rfl) I ?_;refine zL ?_
   try refine GA ?_
   refine h_ (i:=5) I I I I λw hm=>?_;exact hm.cX (S:=dc g vf ve bY (⟨aD,r_ iw iG,r_ kK kl⟩,{p2 with follow:=fP p2.follow kK iG})) (⟨vc,vr,vfol,vl,pJ,F'⟩,vu,vu2) (by show pJ.length=(fP p2.follow kK iG).length;rw[k_];exact Z0) [8,0,1,9,10,2,14,15] ahk I
  | false=>
   repeat(first|refine GA ?_|refine gV (aB aL.ty I (aH (i:=6) I I)) ?_|refine gV (aB aL.ty I (aH (i:=7) I I)) ?_|refine gV (bP I (nD _ _ _ _ _ _ _)) ?_)
   refine bz I λg11=>?_;refine zL ?_;refine il 13 (cs':=#[.bool aE,ap ba iw.length ca,ap bb kl.length cb]) ?_;refine zL ?_
   repeat(first|refine GA ?_|refine gV (aB aL.ty I (aH (i:=6) I I)) ?_|refine gV (aB aL.ty I (aH (i:=7) I I)) ?_)
   refine a8 (gK aJ.en I I I) (λw' hm=>iL _ ke iw iG w' (Sl.dY (hm.get (i:=3) I)) (Sl.dY (hm.get (i:=12) I)) J J) I I I ?_;intro vu _
   conv=>arg 8;simp only[zJ,dg,ret,id_eq,tj]
   try refine GA ?_
   refine aY (i:=14) I λqu1 qu2=>cD (i:=13) I I I qu1 qu2 I ?_;refine zL ?_
   repeat(first|refine GA ?_|refine gV (aQ (i:=13) aL.ty I I I) ?_|refine gV (aB aL.ty I (aH (i:=6) I I)) ?_|refine gV (aB aL.ty I (aH (i:=7) I I)) ?_)
   refine aZ (i:=5) (cs':=#[.bool aE,vu,ap bb kl.length cb]) I I I I (by simp only[dw,dA,qu2];rfl) I ?_;refine zL ?_
   try refine GA ?_
   refine h_ (i:=5) I I I I λw hm=>?_;exact hm.cX (S:=dc g vf ve bY (⟨aE,r_ iw iG,kl⟩,{p2 with follow:=fP p2.follow kK iG})) (⟨vc,vr,vfol,vl,pJ,F'⟩,vu,ap bb kl.length cb) (by show pJ.length=(fP p2.follow kK iG).length;rw[k_];exact Z0) [8,0,1,9,10,2,14,4] ahk I
 | false=>
  cases e2 with
  | true=>
   repeat(first|refine GA ?_|refine gV (aB aL.ty I (aH (i:=6) I I)) ?_|refine gV (aB aL.ty I (aH (i:=7) I I)) ?_|refine gV (bP I (nD _ _ _ _ _ _ _)) ?_)
   refine bz I λg11=>?_;refine zL ?_;refine il 13 (cs':=#[.bool aE,ap ba iw.length ca,ap bb kl.length cb]) ?_;refine zL ?_
   repeat(first|refine GA ?_|refine gV (aB aL.ty I (aH (i:=6) I I)) ?_|refine gV (aB aL.ty I (aH (i:=7) I I)) ?_)
   refine a8 (gK aJ.en I I I) (λw' hm=>iL lH _ kK kl w' (Sl.dY (hm.get (i:=11) I)) (Sl.dY (hm.get (i:=4) I)) J J) I I I ?_;intro vu2 _
   conv=>arg 8;simp only[zJ,dg,ret,id_eq,tj]
   try refine GA ?_
   refine aY (i:=14) I λqv1 qv2=>cD (i:=13) I I I qv1 qv2 I ?_;refine zL ?_
   repeat(first|refine GA ?_|refine gV (aQ (i:=13) aL.ty I I I) ?_|refine gV (aB aL.ty I (aH (i:=6) I I)) ?_|refine gV (aB aL.ty I (aH (i:=7) I I)) ?_)
   refine aZ (i:=5) (cs':=#[.bool aE,ap ba iw.length ca,vu2]) I I I I (by simp only[dw,dA,qv2];rfl) I ?_;refine zL ?_
   try refine GA ?_
   refine h_ (i:=5) I I I I λw hm=>?_;exact hm.cX (S:=dc g vf ve bY (⟨aE,iw,r_ kK kl⟩,{p2 with follow:=fP p2.follow kK iG})) (⟨vc,vr,vfol,vl,pJ,F'⟩,ap ba iw.length ca,vu2) (by show pJ.length=(fP p2.follow kK iG).length;rw[k_];exact Z0) [8,0,1,9,10,2,3,14] ahk I
  | false=>
   repeat(first|refine GA ?_|refine gV (aB aL.ty I (aH (i:=6) I I)) ?_|refine gV (aB aL.ty I (aH (i:=7) I I)) ?_|refine gV (bP I (nD _ _ _ _ _ _ _)) ?_)
   refine bz I λg11=>?_;refine zL ?_;refine il 13 (cs':=#[.bool aE,ap ba iw.length ca,ap bb kl.length cb]) ?_;refine zL ?_
   repeat(first|refine GA ?_|refine gV (aQ (i:=13) aL.ty I I I) ?_|refine gV (aB aL.ty I (aH (i:=6) I I)) ?_|refine gV (aB aL.ty I (aH (i:=7) I I)) ?_)
   refine il 5 (cs':=#[.bool aE,ap ba iw.length ca,ap bb kl.length cb]) ?_;refine zL ?_
   try refine GA ?_
   refine h_ (i:=5) I I I I λw hm=>?_;exact hm.cX (S:=dc g vf ve bY (⟨aE,iw,kl⟩,{p2 with follow:=fP p2.follow kK iG})) (⟨vc,vr,vfol,vl,pJ,F'⟩,ap ba iw.length ca,ap bb kl.length cb) (by show pJ.length=(fP p2.follow kK iG).length;rw[k_];exact Z0) [8,0,1,9,10,2,3,4] ahk I
end cZ
namespace cZ
open Go.RowKit dr eH dT iA fq
theorem Ck:∀M,Iu M
 |0=>λe h=>by have:=e.size_pos;omega
 | M +1=>λe h g vf ve bY p x v w B hp hx hn hr hv hm=>by
  cases e with
  |none=>exact SP g vf ve bY p x v w B hx hv hm
  |empty=>exact Oo g vf ve bY p x v w B hx hv hm
  |byte c=>exact SR c g vf ve bY p x v w B hp hx J hv hm
  | star a=>
   have h:a.size+1<=M+1:=h;exact SU (Ck M) a J g vf ve bY p x v w B hp hx hn hr hv hm
  | HR a b=>
   have h:a.size+b.size+1<=M+1:=h;exact WQ (Ck M) a b J J g vf ve bY p x v w B hp hx hn hr hv hm
  | HQ a b=>
   have h:a.size+b.size+1<=M+1:=h;exact W1 (Ck M) a b J J g vf ve bY p x v w B hp hx hn hr hv hm
end cZ
namespace fq
open dT iA
structure MS where
 ps:PS
 first:List Int
 empty:List Bool
def MS.zero:MS:=⟨⟨[],[],[],[]⟩,[],[]⟩
def hY(last:List Bool)(l:List Int):List Bool:=l.foldl (λb x=>b.set x.toNat aD) last
def GI(i:Nat)(m:MS)(e:Re):MS:=
 ⟨{(db i e m.ps).2 with last:=hY (db i e m.ps).2.last (db i e m.ps).1.last},r_ m.first (db i e m.ps).1.first,m.empty++[(db i e m.ps).1.empty]⟩
def oD:Nat->MS->List Re->Int×MS
 |_,m,[]=>(0,m)
 |i,m,e::r=>if 200<(GI i m e).ps.bx.length then(2,.zero)else oD (i+1) (GI i m e) r
abbrev K8(r:Rx):Int:=(my r 1 0).1
def kD:List Rx->Int
 |[]=>0
 |r::l=>if K8 r≠0 then K8 r else kD l
structure Ow(m:MS):Prop where
 ps:K4 m.ps
 first:GG m.ps.bx.length m.first
theorem DU(last:List Bool)(l:List Int):(hY last l).length=last.length:=by
 unfold hY
 induction l generalizing last with
 |nil=>rfl
 |cons x r ih=>rw[List.foldl_cons,ih,List.length_set]
theorem SY(last:List Bool)(l:List Int){k:Nat}(hk:k<l.length):hY last (l.take (k+1))=(hY last (l.take k)).set l[k].toNat true:=by
 unfold hY;rw[ia hk,List.foldl_append];rfl
theorem Iy:Ow .zero:=⟨⟨rfl,rfl,rfl,λl h=>by cases h⟩,wt _⟩
theorem QH(i:Nat){m:MS}(h:Ow m)(e:Re):Ow (GI i m e)/\(GI i m e).ps.bx.length<=m.ps.bx.length+e.size:=by
 obtain⟨h1,h2,h3,h4,h5⟩:=lV i e m.ps h.ps;exact⟨⟨⟨h1.rules,h1.follow,(DU _ _).trans h1.last,h1.ris⟩,sL (nY h.first h2).2 h4.2⟩,h3⟩
theorem GJ:∀{l:List Rx},kD l=0->∀r∈l,K8 r=0
 |[],_,r,hr=>by cases hr
 | q::l,h,r,hr=>by
  rw[kD]at h;split at h;contradiction
  rename_i c
  rcases ez.1 hr with rfl|hr
  simpa using c
  exact GJ h r hr
end fq
namespace cZ
open Go.RowKit dr eH dT iA fq
theorem sO(w:World):(dR 181 (#[]:Array (Nat×Value))).run aC w= .ok (aU #[ap ak 0 0,ap ak 0 0,ap ak 0 0,ap ak 0 0,ap ak 0 0,ap ak 0 0]) w:=by
 go_simp
theorem SZ(w:World):(dR 242 (#[]:Array (Nat×Value))).run aC w= .ok (aU #[ap ak 0 0,ap ak 0 0,ap ak 0 0,ap ak 0 0,ap ak 0 0,ap ak 0 0,av az 0]) w:=by
 go_simp
structure PIx where
 vc:Value
 vr:Value
 vf:Value
 vfol:Value
 vl:Value
 ve:Value
 vs:List Value
 F:Nat->Prop
def Ox(x:PIx)(m:MS):List cU:=
 [bD 116 4 x.vc m.ps.bx.length (m.ps.bx.flatMap fh),gZ x.vr m.ps.rules,gZ x.vf m.first,xV x.vfol x.vs,uX x.F x.vs m.ps.follow,bD 4 1 x.vl m.ps.last.length (m.ps.last.map gi),bD 4 1 x.ve m.empty.length (m.empty.map gi)]
def Oy(x:PIx):Array Value:=#[x.vc,x.vr,x.vf,x.vfol,x.vl,x.ve]
def qX(R:Int×MS):Spec PIx:=⟨λx=>x.vs.length=R.2.ps.follow.length,λx=> .tuple #[.agg (Oy x),av az R.1],λx=>Ox x R.2⟩
def W4:PIx:=⟨ap ak 0 0,ap ak 0 0,ap ak 0 0,ap ak 0 0,ap ak 0 0,ap ak 0 0,[],λ_=>False⟩
theorem Iz{n:Nat}{W:b9}{Q:Exit->Act->World->Prop}{fr:Fr}{L:List cU}{e':Exit}(h:E n W e' Q fr (L++Ox W4 .zero)):E n W e' Q fr L:=by
 refine ef 116 4 (ef 3 1 (ef 3 1 (ef 26 1 (qu (uX (λ_=>False) [] []) (λk hk=>hk.elim (λh=>by cases h) id) (λw=>jD) (ef 4 1 (ef 4 1 ?_))))));simp only[eZ,ku,fg];exact h
theorem Z'{vc vr vf vfol vl ve v:Value}{bY:Int}{j:Nat}(h:[vc,vr,vf,vfol,vl,ve][j]?=aj v):(QD vc vr vf vfol vl ve bY)[0+j]?=aj v:=by
 rw[du]
 match j,h with
 |0,h=>exact h
 |1,h=>exact h
 |2,h=>exact h
 |3,h=>exact h
 |4,h=>exact h
 |5,h=>exact h
def FU(b:Bool):List Value:=[.bool b]
theorem S3(b:Bool):(FU b).length=1:=rfl
theorem Ay(l:List Bool):l.flatMap FU=l.map gi:=by
 induction l with
 |nil=>rfl
 |cons x r ih=>rw[lC,ih];rfl
def GO(rs:List Rx)(R:Int×MS):Prop:=
  ((rs.length=0\/20<rs.length)/\R=(1,.zero))\/(¬(rs.length=0\/20<rs.length)/\kD rs≠0/\R=(kD rs,.zero))\/
    (¬(rs.length=0\/20<rs.length)/\kD rs=0/\∃es:List Re,rs=es.map lQ/\(∀e∈es,e.size<=100)/\R=oD 0 .zero es)
theorem Oz{l:List Rx}{k:Nat}(h:k<l.length):kD (l.drop k)=if K8 l[k]≠0 then K8 l[k]else kD (l.drop (k+1)):=by
 rw[ff h,kD]
theorem DV(v:Value)(rs:List Rx)(R:Int×MS)(w:World)(hv:kH xB (ri w) w v rs)(hR:GO rs R):
    Calls aC 75 #[v] w (cY (qX R) w):=by
  obtain⟨bk,ck,rfl,h1,h2,h3⟩:=hv;unfold maxLen at h2;refine enter (args:=[ap bk rs.length ck]) (n:=104) Tryz.func75 I I I ?_;refine bC (aM (bz I λg2=>?_));refine zL ?_;rcases hR with⟨c1,rfl⟩|hR
  · by_cases c2:rs.length=0
    · repeat(first|refine GC ?_|refine gV (aX (b:=aD) I I (decide_eq_true J)) ?_|refine gV (bP I sO) ?_|refine GB ?_)
      refine il 0 ?_;refine zL ?_
      try refine GA ?_
      refine Iz ?_;exact e8 (i:=0) I I I I I λw hm=>hm.meets (S:=qX (1,.zero)) W4 I [1,2,3,4,5,6,7] ahk I
    have c3:20<rs.length:=c1.resolve_left c2
    repeat(first|refine GC ?_|refine gV (aX (b:=aE) I I (decide_eq_false J)) ?_|refine gV (bB (b:=aD) I I (decide_eq_true J)) ?_|refine gV (bP I sO) ?_|refine GB ?_)
    refine il 0 ?_;refine zL ?_
    try refine GA ?_
    refine Iz ?_;exact e8 (i:=0) I I I I I λw hm=>hm.meets (S:=qX (1,.zero)) W4 I [1,2,3,4,5,6,7] ahk I
  have hlen:¬(rs.length=0\/20<rs.length):=by rcases hR with⟨h,_⟩|⟨h,_⟩<;>exact h
  repeat(first|refine GC ?_|refine gV (aX (b:=aE) I I (decide_eq_false J)) ?_|refine gV (bB (b:=aE) I I (decide_eq_false J)) ?_|refine GB ?_)
  refine eK (ι:=Nat) (λk=>k<=rs.length/\kD rs=kD (rs.drop k)) (λk=>[(0,ap bk rs.length ck),(2,aK (aj ⟨g2,0,ak⟩)),(22,ap bk rs.length ck),(23,av az rs.length),(24,av az (k:Int))])
    (λ_=>[aR g2 #[ap ak 0 0,ap ak 0 0,ap ak 0 0,ap ak 0 0,ap ak 0 0,ap ak 0 0] 181]) (λk=>rs.length-k) 0 ⟨bO _,rfl⟩ ?_
  rintro k ⟨i1,i2⟩
  by_cases c6:k<rs.length
  · obtain⟨b,off,rfl,hF,fl⟩:=h3 J
    obtain⟨kb,kc,hr,SV⟩:=qx fl c6;have d_:=λ(L:List cU) (j:Nat) (v:Value) (hj:(nR rs[k].kind rs[k].uf (.slice kb rs[k].kids.length kc))[j]?=aj v)=>jb (L:=L) hr hj;have jr:∀w',Gr w w'->Calls aC 111 #[sB rs[k].kind rs[k].uf (.slice kb rs[k].kids.length kc)] w' (cY (ret (av az (K8 rs[k]))) w'):=λw' hg=>uu _ _ w' (SV.gr hg);have hdr:=Oz c6;clear h3 fl hr;generalize rs[k]=r at*
    repeat(first|refine GA ?_|refine gV (a_ bR.eq aL.ty I I c6) ?_|refine gV (bH aL.ty I I (d_ _)) ?_)
    refine bz I λg5=>?_;refine zL ?_;refine il 1 (cs':=(nR r.kind r.uf (ap kb r.kids.length kc)).toArray) ?_;refine zL ?_
    repeat(first|refine GA ?_|refine gV (aQ (i:=1) aL.ty I I I) ?_)
    refine a8 (ju aJ.en I I) (λw hm=>jr _ hm.below) I I I ?_;intro _ _;refine zL ?_
    by_cases c7:K8 r=0
    · repeat(first|refine GC ?_|refine gV (bm (b:=aE) I I (decide_eq_false (by simpa using c7))) ?_|refine GB ?_)
      refine dS [0] ?_;exact cJ (k+1) ⟨by omega,by rw[i2,hdr,if_neg (by simpa using c7)]⟩ (by show rs.length-(k+1)<rs.length-k;omega)
    have hne:kD rs≠0:=by rw[i2,hdr,if_pos c7];exact c7
    rcases hR with⟨_,_,rfl⟩|⟨_,h0,_⟩
    · rw[i2,hdr,if_pos c7]
      repeat(first|refine GC ?_|refine gV (bm (b:=aD) I I (decide_eq_true c7)) ?_|refine gV (bP I sO) ?_|refine GB ?_)
      refine il 0 ?_;refine zL ?_
      try refine GA ?_
      refine Iz ?_;exact e8 (i:=0) I I I I I λw hm=>hm.meets (S:=qX (K8 r,.zero)) W4 I [2,3,4,5,6,7,8] ahk I
    exact absurd h0 hne
  · obtain rfl:k=rs.length:=by omega
    have h0:kD rs=0:=by rw[i2,pO (bJ _)];rfl
    obtain⟨es,rfl,hsz,rfl⟩:∃es:List Re,rs=es.map lQ/\(∀e∈es,e.size<=100)/\R=oD 0 .zero es:=by
      rcases hR with⟨_,h,_⟩|⟨_,_,h⟩
      exact absurd h0 h;exact h
    have h20:(WV lQ es).length<=20:=by omega
    clear hR hlen i1 i2
    repeat(first|refine GA ?_|refine gV (bP I SZ) ?_)
    refine b_ I I I λg7=>?_;refine zL ?_
    try refine GA ?_
    refine jy 116 4 (jy 3 1 (jy 26 1 (mN (uX (λ_=>False) [] []) (λk hk=>hk.elim (λh=>by cases h) id) (λw=>jD) (jy 4 1 (jy 3 1 (jy 4 1 ?_))))));refine eK (ι:=Nat×MS×T8×Value×Value×Int) (λ(k,m,x,_,_,_)=>k<=es.length/\oD 0 .zero es=oD k m (es.drop k)/\Ow m/\m.ps.bx.length<=200/\x.vs.length=m.ps.follow.length/\m.empty.length=k) (λ(k,_,_,_,_,_)=>[(2,aK (aj ⟨g2,0,ak⟩)),(7,aK (aj ⟨g7,0,ak⟩)),(37,ap bk (es.map lQ).length ck),(38,av az (es.map lQ).length),(39,av az (k:Int))])
      (λ(_,m,x,vf,ve,bY)=>[aR g2 #[ap ak 0 0,ap ak 0 0,ap ak 0 0,ap ak 0 0,ap ak 0 0,ap ak 0 0] 181]++nK g7 vf ve bY x m.ps++[gZ vf m.first,bD 4 1 ve m.empty.length (m.empty.map gi)]) (λ(k,_,_,_,_,_)=>es.length-k)
      (0,.zero,⟨ap ak 0 0,ap ak 0 0,ap ak 0 0,ap ak 0 0,[],λ_=>False⟩,ap ak 0 0,ap ak 0 0,0) ⟨bO _,rfl,Iy,bO _,rfl,rfl⟩ ?_
    rintro⟨k,m,⟨vc,vr,vfol,vl,vs,F⟩,vf,ve,bY⟩ ⟨i1,i2,i3,i4,i5,i6⟩;dsimp only at i1 i2 i3 i4 i5 i6⊢
    conv=>arg 7;simp only[zA,zB,zC,zD,zE,zF,zG,zH,zI,dg,ret,id_eq,nK]
    have hml:(WV lQ es).length=es.length:=dX ..
    by_cases c6:k<es.length
    · obtain⟨b,off,rfl,hF,fl⟩:=h3 J
      obtain⟨kb,kc,hr,SV⟩:=qx (k:=k) fl J;have d_:=λ(L:List cU) (j:Nat) (v:Value) (hj:(nR (es.map lQ)[k].kind (es.map lQ)[k].uf (.slice kb (es.map lQ)[k].kids.length kc))[j]?=aj v)=>jb (L:=L) hr hj;have hke:(es.map lQ)[k]' J=lQ es[k]:=sE ..;rw[hke]at d_ SV;have hse:=hsz es[k] (cV c6);rw[ff c6,oD]at i2;clear h3 fl hr hke;generalize es[k]=e at*;have hst:=QH k i3 e;have J0:=lV k e m.ps i3.ps;have hno:=λv w B hv hm=>Ck 100 e hse g7 vf ve k m.ps ⟨vc,vr,vfol,vl,vs,F⟩ v w B i3.ps i5 J ⟨by omega,by omega⟩ hv hm
      repeat(first|refine GA ?_|refine gV (a_ bR.eq aL.ty I I J) ?_|refine gV (bH aL.ty I I (d_ _)) ?_)
      refine bz I λg9=>?_;refine zL ?_
      try refine GA ?_
      refine il 9 (cs':=(nR (lQ e).kind (lQ e).uf (ap kb (lQ e).kids.length kc)).toArray) ?_;refine zL ?_
      try refine GA ?_
      refine cD (i:=1) I I I I I I ?_;refine zL ?_
      repeat(first|refine GA ?_|refine gV (aQ (i:=9) aL.ty I I I) ?_)
      refine bK [1,2,3,4,5,6] [0,7,8,9] ahk I I (gK aJ.en I I I) (λw hm hb=>hno _ w _ (fz (hm.pick [1,2,3,4,5,6] ahk I) (SV.mono λk hk=>⟨hk,id⟩)) hb) I I I ?_;rintro⟨⟨Fj,BP,wW,QG,pJ,F'⟩,va,vb⟩ Nj
      conv=>arg 8;simp only[zJ,dg,ret,id_eq,dc,nK]
      conv=>arg 7;simp only[dc]
      have Nj:pJ.length=(db k e m.ps).2.follow.length:=Nj;unfold GI at i2 hst;generalize db k e m.ps=R at*;obtain⟨⟨em,first,last⟩,p'⟩:=R;dsimp only at i2 hst J0 Nj⊢;obtain⟨n1,n2,n3,n4,n5⟩:=J0;have Nv:=ka i3.first;have Ny:=ka n4;have hl3:=ka n5;refine aY (i:=10) I λ_ qa=>aY (i:=11) I λ_ qb=>bz I λg10=>?_;refine zL ?_;refine aZ (i:=12) (cs':=#[.bool em,va,vb]) I I I I (by simp only[dw,dA,qa,qb];rfl) I ?_;refine zL ?_
      try refine GA ?_
      (repeat refine bC ?_)
      refine l_ (ι:=Value) (λT9=>T9.oneCell'=aD) (λ_=>[(2,aK (aj ⟨g2,0,ak⟩)),(7,aK (aj ⟨g7,0,ak⟩)),(10,aK (aj ⟨g10,0,ak⟩)),(37,ap (aj ⟨b,off,ak⟩) (es.map lQ).length ck),(38,av az (es.map lQ).length),(39,av az (k:Int))])
        (λT9=>[aR g2 #[ap ak 0 0,ap ak 0 0,ap ak 0 0,ap ak 0 0,ap ak 0 0,ap ak 0 0] 181,aR g7 (QD Fj BP T9 wW QG ve (k:Int)) 242,bD 116 4 Fj p'.bx.length (p'.bx.flatMap fh),gZ BP p'.rules,xV wW pJ,uX F' pJ p'.follow,bD 4 1 QG p'.last.length (p'.last.map gi),gZ T9 (r_ m.first first),bD 4 1 ve m.empty.length (m.empty.map gi),aR g10 #[.bool em,va,vb] 244,gZ vb last]) ?_ ?_
      · refine eo ([aR g10 #[.bool em,va,vb] 244]) (.calm 0 (.calm 1 (.calm 2 (.calm 3 (.calm 4 (.calm 6 (.calm 7 (.one 5 (.one 8 (.calm 9 (.calm 10 (.calm 11 (.one 12 (.done)))))))))))))) (cH [12]) ?_
        repeat(first|refine GW ?_|(refine GN ?_;first|refine QW (aB aL.ty I (aH (i:=0) I I)) ?_))
        refine aO I (aI (aB (v:=vf) aL.ty I (aH (i:=4) I I)) I I I (aP (cH [12]) ?_));refine aO I (a8 (gK aJ.en I I I) (λw' hm=>iL vf va m.first first w' (Sl.dY (hm.get (i:=1) I)) (Sl.dY (hm.get (i:=10) I)) J J) I I I ?_);intro T9 _
        conv=>arg 8;simp only[zJ,dg,ret,id_eq,tj]
        refine aP (cH [12]) ?_
        try refine GW ?_
        refine aO I (aY (i:=13) I λqf1 qf2=>cD (i:=4) I I I qf1 qf2 I (aP (cH [12]) ?_))
        try refine GW ?_
        refine dS [0,4,5,6,7,8,9,13,2,12,11] ?_;exact eJ T9 qf2 (by repeat' (first|exact dl|refine dh I ?_)) I
      intro T9 E5
      (repeat refine bC ?_)
      refine l_ (ι:=Value) (λQI=>QI.oneCell'=aD) (λ_=>[(2,aK (aj ⟨g2,0,ak⟩)),(7,aK (aj ⟨g7,0,ak⟩)),(10,aK (aj ⟨g10,0,ak⟩)),(37,ap (aj ⟨b,off,ak⟩) (es.map lQ).length ck),(38,av az (es.map lQ).length),(39,av az (k:Int))])
        (λQI=>[aR g2 #[ap ak 0 0,ap ak 0 0,ap ak 0 0,ap ak 0 0,ap ak 0 0,ap ak 0 0] 181,aR g7 (QD Fj BP T9 wW QG QI (k:Int)) 242,bD 116 4 Fj p'.bx.length (p'.bx.flatMap fh),gZ BP p'.rules,xV wW pJ,uX F' pJ p'.follow,bD 4 1 QG p'.last.length (p'.last.map gi),gZ T9 (r_ m.first first),bD 4 1 QI (m.empty++[em]).length ((m.empty++[em]).map gi),aR g10 #[.bool em,va,vb] 244,gZ vb last]) ?_ ?_
      · refine eo ([aR g10 #[.bool em,va,vb] 244]) (.calm 0 (.calm 1 (.calm 2 (.calm 3 (.calm 4 (.calm 6 (.calm 7 (.two 5 (.one 8 (.one 9 (.calm 10 (.calm 11 (.calm 12 (.one 13 (.done))))))) 8 (.one 5 (.one 9 (.calm 10 (.calm 11 (.calm 12 (.one 13 (.done))))))))))))))) (cH [9]) ?_
        repeat(first|refine GW ?_|(refine GN ?_;first|refine QW (aB aL.ty I (aH (i:=0) I I)) ?_))
        refine e9 I I ?_ ?_
        · refine aI (aB (v:=ve) aL.ty I (aH (i:=1) I I)) I I I (aP (cH [9]) ?_)
          refine aO I (im (cs:=#[.bool em]) [.bool em] I I I (by intro v hv;simp at hv;subst hv;rfl) I I I λg71=>(aP (cH [9]) ?_));refine aO I (fc (i:=8) (e:=4) (size:=1) (bytes:=1) (m:=m.empty.length) (xs:=m.empty.map gi) (k:=1) (ys:=[.bool em]) I (lE (i:=11) I (λj u h=>by simpa using h) (bJ 1) ahk) I I I (λu hu=>by rw[ep.1 hu];rfl) J J I λQI=>(aP (cH [9]) ?_))
          try refine GW ?_
          refine aO I (aY (i:=8) I λqe1 qe2=>cD (i:=1) I I I qe1 qe2 I (aP (cH [9]) ?_))
          try refine GW ?_
          refine dS [0,1,2,3,4,5,6,7,8,9,10] ?_;exact eJ QI qe2 (by repeat' (first|exact dl|refine dh I ?_)) (by rw[<-Av QI m.empty em];rfl)
        refine im (cs:=#[.bool em]) [.bool em] I I I (by intro v hv;simp at hv;subst hv;rfl) I I I λg71=>(aP (cH [9]) ?_);refine aO I (aI (aB (v:=ve) aL.ty I (aH (i:=1) I I)) I I I (aP (cH [9]) ?_));refine aO I (fc (i:=8) (e:=4) (size:=1) (bytes:=1) (m:=m.empty.length) (xs:=m.empty.map gi) (k:=1) (ys:=[.bool em]) I (lE (i:=11) I (λj u h=>by simpa using h) (bJ 1) ahk) I I I (λu hu=>by rw[ep.1 hu];rfl) J J I λQI=>(aP (cH [9]) ?_))
        try refine GW ?_
        refine aO I (aY (i:=8) I λqe1 qe2=>cD (i:=1) I I I qe1 qe2 I (aP (cH [9]) ?_))
        try refine GW ?_
        refine dS [0,1,2,3,4,5,6,7,8,9,10] ?_;exact eJ QI qe2 (by repeat' (first|exact dl|refine dh I ?_)) (by rw[<-Av QI m.empty em];rfl)
      intro QI he';rw[show p'.last.map gi=p'.last.flatMap FU from(Ay _).symm];refine iR (i:=10) (φ:=∃a c,vb=ap a last.length c/\(0<last.length->∃gl,a=aj ⟨gl,0,ak⟩)) I (λw h=>by
        obtain⟨y1,y2⟩:=(show w.ownsRow 0 3 1 vb last.length (last.map (av .i64))from h);rcases y2 with⟨y3,y4⟩|⟨gl,cap,kg,hv,_⟩
        exact⟨ak,0,by rw[y3,y4],λh=>by omega⟩;exact⟨_,_,hv,λ_=>⟨gl,rfl⟩⟩) λzr=>?_
      obtain⟨al,cl,rfl,hal⟩:=zr;refine iR (i:=6) (φ:=0<p'.last.length->∃gb cb,QG=ap (aj ⟨gb,0,ak⟩) p'.last.length cb) I (λw h=>by
        obtain⟨y1,y2⟩:=(show w.ownsRow 0 4 1 QG p'.last.length (p'.last.flatMap FU)from h);rcases y2 with⟨y3,y4⟩|⟨gl,cap,kg,hv,_⟩
        intro h;omega;exact λ_=>⟨gl,cap,hv⟩) λZc=>?_
      repeat(first|refine GA ?_|refine gV (aB (v:=ap al last.length cl) aL.ty I (aH (i:=9) I I)) ?_)
      refine ue [0,1,2,3,4,5,6,7,8,10] ?_;refine eK (ι:=Nat) (λj=>j<=last.length) (λj=>[(2,aK (aj ⟨g2,0,ak⟩)),(7,aK (aj ⟨g7,0,ak⟩)),(37,ap (aj ⟨b,off,ak⟩) (es.map lQ).length ck),(38,av az (es.map lQ).length),(39,av az (k:Int)),(77,ap al last.length cl),(78,av az last.length),(79,av az (j:Int))])
        (λj=>[aR g2 #[ap ak 0 0,ap ak 0 0,ap ak 0 0,ap ak 0 0,ap ak 0 0,ap ak 0 0] 181,aR g7 (QD Fj BP T9 wW QG QI (k:Int)) 242,bD 116 4 Fj p'.bx.length (p'.bx.flatMap fh),gZ BP p'.rules,xV wW pJ,uX F' pJ p'.follow,bD 4 1 QG p'.last.length ((hY p'.last (last.take j)).flatMap FU),gZ T9 (r_ m.first first),bD 4 1 QI (m.empty++[em]).length ((m.empty++[em]).map gi),gZ (ap al last.length cl) last]) (λj=>last.length-j) 0 (bO _) ?_
      intro j j1
      by_cases c7:j<last.length
      · obtain⟨gl,rfl⟩:=hal J
        have hx:=n5.2 last[j] (cV c7);have hgx:last[j]?=aj last[j]:=bQ c7;have hms:=SY p'.last last c7;have agV:=DU p'.last (last.take j);generalize last[j]=xx at*;obtain⟨xn,rfl⟩:=jg hx.1;rw[dP]at hms;have hxn:xn<p'.last.length:=by rw[n1.last];omega
        obtain⟨gb,cb,rfl⟩:=Zc J;have ac8:∀(L:List cU) (hi:L[9]?=aj (gZ (ap (aj ⟨gl,0,ak⟩) last.length cl) last)),At (w:b9) L ⟨gl,0+j*1,ak⟩ (av az (xn:Int)):=λL hi=>kx hi (by rw[fx,du,kR,hgx];rfl)
        repeat(first|refine GA ?_|refine gV (a_ bR.eq aL.ty I I c7) ?_|refine gV (aB (v:=av az (xn:Int)) aL.ty I (ac8 _ I)) ?_|refine gV (aB (v:=ap (aj ⟨gb,0,ak⟩) p'.last.length cb) aL.ty I (aH (i:=1) I I)) ?_|refine gV (a_ bR.eq aL.ty I I hxn) ?_)
        refine z_ S3 (i:=6) (k:=xn) (l:=hY p'.last (last.take j)) (a:=aD) aL.ty I I J J J I I I ?_;rw[<-hms];refine zL ?_
        try refine GA ?_
        exact cJ (j+1) J (by show last.length-(j+1)<last.length-j;omega)
      obtain rfl:j=last.length:=by omega
      rw[gj (bJ _),Ay];refine iR (i:=2) (φ:=∃a c,Fj=ap a p'.bx.length c) I (λw h=>by
        obtain⟨a,c,h,_⟩:=Sl.dY (show w.ownsRow 0 116 4 Fj p'.bx.length (p'.bx.flatMap fh)from h);exact⟨a,c,h⟩) λhvc=>?_
      obtain⟨ac,cc,rfl⟩:=hvc
      by_cases c8:200<p'.bx.length
      · rw[if_pos c8]at i2
        rw[i2]
        repeat(first|refine GC ?_|refine gV (aB (v:=ap ac p'.bx.length cc) aL.ty I (aH (i:=1) I I)) ?_|refine gV (bB (b:=aD) I I (decide_eq_true J)) ?_|refine gV (bP I sO) ?_|refine GB ?_)
        refine il 0 ?_;refine zL ?_
        try refine GA ?_
        refine Iz ?_;exact e8 (i:=0) I I I I I λw hm=>hm.meets (S:=qX (2,.zero)) W4 I [10,11,12,13,14,15,16] ahk I
      rw[if_neg c8]at i2
      repeat(first|refine GC ?_|refine gV (aB (v:=ap ac p'.bx.length cc) aL.ty I (aH (i:=1) I I)) ?_|refine gV (bB (b:=aE) I I (decide_eq_false J)) ?_|refine GB ?_)
      refine dS [0,1,2,3,4,5,6,7,8] ?_;exact cJ (k+1,⟨{p' with last:=hY p'.last last},r_ m.first first,m.empty++[em]⟩,⟨ap ac p'.bx.length cc,BP,wW,QG,pJ,F'⟩,T9,QI,(k:Int)) ⟨by omega,i2,hst.1,by show p'.bx.length<=200;omega,Nj,by rw[bT,ky,i6]⟩ (by show es.length-(k+1)<es.length-k;omega) (hl:=by dsimp only;rw[show p'.last.length=(hY p'.last last).length from(DU _ _).symm];rfl)
    obtain rfl:k=es.length:=by omega
    rw[pO (bJ _)]at i2;rw[i2]
    try refine GA ?_
    refine aY (i:=2) I λ_ a1=>aY (i:=3) I λ_ a2=>aY (i:=4) I λ_ a3=>aY (i:=6) I λ_ a4=>aY (i:=7) I λ_ a5=>aY (i:=8) I λ_ a6=>?_
    repeat(first|refine GA ?_|refine gV (bH (cs:=[vc,vr,vf,vfol,vl,ve]) aL.ty I I (λj v hj=>aH (i:=1) I (Z' hj))) ?_)
    refine aZ (i:=0) (cs':=#[vc,vr,vf,vfol,vl,ve]) I I I I (by simp only[dw,dA,a1,a2,a3,a4,a5,a6];rfl) I ?_;refine zL ?_
    try refine GA ?_
    exact e8 (i:=0) I I I I I λw hm=>hm.meets (S:=qX (0,m)) ⟨vc,vr,vf,vfol,vl,ve,vs,F⟩ i5 [2,3,7,4,5,6,8] ahk I
end cZ
namespace cZ
open Go.RowKit dr eH dT iA fq oU
theorem QJ:∀{rs:List Rx},kD rs=0->∃es:List Re,rs=es.map lQ/\∀e∈es,Fit e 1 0
 |[],_=>⟨[],rfl,λ_ h=>by cases h⟩
 |r::l,h=>by
  have hr:=GJ h r (ir ..);have hl:kD l=0:=by rw[kD,if_neg (by simpa using hr)]at h;exact h
  obtain⟨es,rfl,h2⟩:=QJ hl;obtain⟨e,rfl,hf,_⟩:=HT (te r) r 1 0 (my r 1 0).2 (bJ _) (by rw[<-hr]);refine⟨e::es,rfl,λx hx=>?_⟩;rcases ez.1 hx with rfl|hx
  exact hf;exact h2 x hx
theorem W5{e:Re}(h:Fit e 1 0):e.size<=100:=by have:=h.sz;omega
theorem GP:∀(es:List Re) (i:Nat) (m:MS),(oD i m es).1≠0->(oD i m es).2= .zero
 |[],_,_,h=>absurd I h
 |e::r,i,m,h=>by
  rw[oD]at h⊢;split at h
  ·rename_i c;rw[if_pos c]
  rename_i c;rw[if_neg c];exact GP r _ _ h
theorem S4(rs:List Rx):(∃k:Int,k≠0/\GO rs (k,.zero))\/∃(es:List Re) (m:MS),rs=es.map lQ/\(∀e∈es,Fit e 1 0)/\0<es.length/\es.length<=20/\oD 0 .zero es=(0,m)/\GO rs (0,m):=by
 by_cases c:rs.length=0\/20<rs.length
 exact .inl ⟨1,by decide,.inl ⟨c,rfl⟩⟩
 by_cases h:kD rs=0
 ·obtain⟨es,h1,h2⟩:=QJ h
  have hR:GO rs (oD 0 .zero es):= .inr (.inr ⟨c,h,es,h1,λe he=>W5 (h2 e he),rfl⟩);have hz:=GP es 0 .zero;have hl:rs.length=es.length:=by rw[h1,dX]
  obtain⟨k,m,e⟩:∃k m,oD 0 .zero es=(k,m):=⟨_,_,rfl⟩;rw[e]at hR hz
  by_cases h0:k=0
  ·subst h0
   exact .inr ⟨es,m,h1,h2,by omega,by omega,e,hR⟩
  obtain rfl:m= .zero:=hz h0;exact .inl ⟨k,h0,hR⟩
 exact .inl ⟨kD rs,h,.inr (.inl ⟨c,h,rfl⟩)⟩
theorem gO{e:TypeId}{size n:Nat}{v:Value}{xs:List Value}(w:World)(h:(bD e size v n xs).holds w):∃a c,v=ap a n c/\n<=9223372036854775807/\(0<n->∃g,a=aj ⟨g,0,ak⟩):=by
 rcases(show w.ownsRow 0 e size v n xs from h).2 with⟨rfl,rfl⟩|⟨g,cap,kg,rfl,_,_,hn,hm,_⟩
 exact⟨_,_,rfl,by omega,λh=>by omega⟩;exact⟨_,_,rfl,by unfold maxLen at hm;omega,λ_=>⟨g,rfl⟩⟩
theorem aaa{F:Nat->Prop}{v:Value}{vs:List Value}{nf:List (List Int)}{w:World}(hr:(xV v vs).holds w)(he:(uX F vs nf).holds w)(hl:vs.length=nf.length):kH (bW fY) (ri w) w v nf:=by
 have Ns:w.ownsRow 0 26 1 v vs.length (vs.flatMap yT):=hr;obtain⟨base,cap,h1,h2,h3,h4⟩:=Sl.dY Ns;rw[hl]at h1 h2;refine⟨base,cap,h1,h2,h3,λh0=>?_⟩;obtain⟨b,off,h5,h6⟩:=h4 J;rw[SO]at h6;refine⟨b,off,h5,?_,λi hi=>⟨[vs[i]' J],⟨vs[i]' J,rfl,?_⟩,λj u hj=>?_⟩⟩
 ·have:=h6 0 _ (bQ J)
  exact np w _ this
 ·have hs:=WN he hi J
  obtain⟨⟨q1,q2⟩,q3⟩:=he;obtain⟨v',Sa,l7,_,hF⟩:=q2 i hi (by rw[dX];omega);rw[sE]at Sa;simp only[yT,ib,and_true]at Sa;rw[<-rK]at hs;refine kH.of_flat hs l7 (λb hb=>q3 b (hF b (by rw[<-Sa];exact hb))) λa n cp hv=>q3 a.block (hF _ (by rw[<-Sa,hv];rfl))
 have hj0:j=0:=by have:=(dv.1 hj).1;simp at this;exact this
 subst hj0;have:=h6 i u (by rw[bQ J];exact hj);show w.cell? ⟨b,off+i*1+0,ak⟩=aj u
 rw[kR,iO];exact this
end cZ
namespace cZ
open Go.RowKit dr eH aV ey eg bV dq
def IA:wF bV.Item:=yv jk 3 (λ_=>rfl) (λ_=>True)
theorem IB{κ τ:Type}[DecidableEq κ][DecidableEq τ](f:κ->τ)(x:κ):∀(D:List κ),(∀y∈D,f y=f x->y=x)->idx (D.map f) (f x)=idx D x
 |[],_=>rfl
 | y::D,h=>by
  have ih:=IB f x D λz hz=>h z (mb _ hz);unfold idx at ih⊢;rw[gu,WT,WT,ih]
  by_cases e:y=x
  subst e;simp;have:¬f y=f x:=λe2=>e (h y (ir ..) e2);rw[show(f y==f x)=aE by simpa using this,show(y==x)=aE by simpa using e]
def wu(s:List bV.Item):Prop:=∀it∈s,0<=it.1/\it.1<256/\0<=it.2.1/\it.2.1<256/\0<=it.2.2/\it.2.2<256
theorem S5{S:List (List bV.Item)}{s:List bV.Item}(hS:∀t∈S,wu t)(hs:wu s):iK s∈S.map iK↔s∈S:=by
 constructor
 ·intro h
  obtain⟨t,ht,e⟩:=e7.1 h;rw[<-DL (hS t ht) hs e];exact ht
 exact List.mem_map_of_mem
def stL(g6 gm g7:Nat)(vS vN:Value)(ww:List Value)(F:Nat->Prop)(S:List (List bV.Item)):List cU:=
 [aR g6 #[.map (aj gm)] 175,fD iE gm (kI (S.map iK)) S.length,aR g7 #[vS,vN] 203,bD 273 1 vS S.length ww,eO (bW IA) F (ww.map λv=>[v]) S]
theorem yV{w:World}{e:TypeId}{size n:Nat}{v:Value}{xs:List Value}(h:(bD e size v n xs).holds w):∀k,v.ownBlock=aj k->k<w.heap.size:=λk hk=>(bD e size v n xs).lt w h k (.inl hk)
theorem S6{w:World}{v:Value}{l:List bV.Item}(h:(bD 278 3 v l.length (l.flatMap jk)).holds w):(bW IA).is (λk=>v.ownBlock=aj k) w [v] l:=
 ⟨v,rfl,kH.of_flat (Sl.dY h) (λ_ _=>trivial) (λ_ h=>h) (λa n cp hv=>by rw[hv];rfl)⟩
theorem Bf(g6 gm g7:Nat)(vS vN:Value)(ww:List Value)(F:Nat->Prop)(S:List (List bV.Item))(vl:Value)(s:List bV.Item)(hS:∀t∈S,wu t)(hs:wu s)(hSl:S.length<=1000)(rj:s.length<=20000)(w:World)(B:b9)
 (hm:Mem B (stL g6 gm g7 vS vN ww F S++[bD 278 3 vl s.length (s.flatMap jk)]) w):
 Calls aC 127 #[vl,aK (aj ⟨g6,0,ak⟩),aK (aj ⟨g7,0,ak⟩)] w (dF ⟨λ(_:Value×List Value×(Nat->Prop))=>True,λ_=>av az ((jv S s).1:Int),λx=>stL g6 gm g7 x.1 vN x.2.1 x.2.2 (jv S s).2⟩ B):=by
 have Bg:=S5 hS hs;have hix:=IB iK s S λt ht e=>DL (hS t ht) hs e;have l7:iE.ok (iK s):=by
  show(iK s).length<=9223372036854775807
  rw[Gy];omega
 unfold stL at hm;refine dZ hm (args:=[vl,aK (aj ⟨g6,0,ak⟩),aK (aj ⟨g7,0,ak⟩)]) (n:=30) Tryz.func127 I I I ?_;refine iR (i:=3) I gO λij=>?_;obtain⟨aS,cS,rfl,-⟩:=ij
 try refine GA ?_
 refine eo ([aR g6 #[.map (aj gm)] 175,fD iE gm (kI (S.map iK)) S.length,bD 278 3 vl s.length (s.flatMap jk)]) (.calm 0 (.calm 1 (.calm 2 (.calm 3 (.calm 4 (.calm 5 (.calm 6 (.calm 7 (.calm 8 (.done)))))))))) (cH [0,1,5]) ?_
 repeat(first|refine GW ?_|(refine GN ?_;first|refine QW (aB (v:= .map (aj gm)) aL.ty I (aH (i:=0) I I)) ?_))
 refine oF I (ju aJ.en I I) (λw hm=>DR vl s w (Sl.dY (hm.get (i:=2) I)) hs rj) I I I ?_
 by_cases c:s∈S
 ·have hst:jv S s=(idx S s,S):=if_pos c
  rw[hst]
  repeat(first|refine GW ?_|(refine GN ?_;first|refine QW (uE (K:=iE) (x:=iK s) bR.eq nX (i:=1) I I I l7 (Bg.2 c)) ?_))
  rw[hix]
  try refine GA ?_
  exact da I I λw hm=>hm.cX (S:=⟨λ(_:Value×List Value×(Nat->Prop))=>True,λ_=>av az (idx S s:Int),λx=>stL g6 gm g7 x.1 vN x.2.1 x.2.2 S⟩) (ap aS S.length cS,ww,F) trivial [0,1,2,3,4] ahk I
 ·have hst:jv S s=(S.length,S++[s]):=if_neg c
  rw[hst];have hn:iK s∉S.map iK:=λh=>c (Bg.1 h);have Ff:=Gh hn;have aeE:kI (S.map iK) (iK s)=none:=if_neg hn;rw[dX]at Ff;clear hix Bg
  repeat(first|refine GW ?_|(refine GN ?_;first|refine QW (uF (K:=iE) (x:=iK s) bR.eq nX (i:=1) I I I l7 hn) ?_))
  repeat(first|refine GA ?_|refine gV (aB (v:=ap aS S.length cS) aL.ty I (aH (i:=2) I I)) ?_)
  refine eo ([aR g6 #[.map (aj gm)] 175,bD 278 3 vl s.length (s.flatMap jk)]) (.calm 0 (.calm 1 (.calm 2 (.calm 3 (.one 4 (.done)))))) (cH [0,5]) ?_
  repeat(first|refine GW ?_|(refine GN ?_;first|refine QW (aB (v:= .map (aj gm)) aL.ty I (aH (i:=0) I I)) ?_))
  refine oF I (ju aJ.en I I) (λw hm=>DR vl s w (Sl.dY (hm.get (i:=1) I)) hs rj) I I I ?_
  try refine GW ?_
  refine aO I ?_;refine ml (i:=1) (x:=iK s) (v:=av az (S.length:Int)) iE bR.eq I I I I l7 J ?_;refine zL ?_;rw[Ff,aeE,if_neg ahk];refine aP (cH [0,5]) ?_
  try refine GW ?_
  repeat(first|refine GA ?_|refine gV (aB (v:=ap aS S.length cS) aL.ty I (aH (i:=2) I I)) ?_)
  refine aY (i:=5) I λNv Ny=>?_;refine kh (i:=3) I I Nv Ny I I (λz h=>by cases h;rfl) J J I λz vS'=>?_;refine zL ?_;refine pj (eO (bW IA) (λk=>F k\/vl.ownBlock=aj k) ((ww.map λv=>[v])++[[vl]]) (S++[s])) 5 4 [0,1,2,3] ahk I I I (λk hk=>hk.elim (λh=>by cases h) λh=>h.elim (λh=> .inr (.inr h)) λh=> .inl (.inl h)) (λw hr he=>mM he (S6 hr) (yV hr)) ?_;refine zL ?_
  try refine GA ?_
  refine aY (i:=3) I λlm lW=>cD (i:=2) I I I lm lW I ?_;refine zL ?_
  try refine GA ?_
  exact da I I λw hm=>hm.cX (S:=⟨λ(_:Value×List Value×(Nat->Prop))=>True,λ_=>av az (S.length:Int),λx=>stL g6 gm g7 x.1 vN x.2.1 x.2.2 (S++[s])⟩) (vS',ww++[vl],λk=>F k\/vl.ownBlock=aj k) trivial [0,1,2,3,4] ahk (by dsimp only[stL];rw[ft,ft,bT];rfl)
end cZ
namespace dq
section
variable(A:uC)(bl:Nat->Nat)
def DW(Q:List Nat)(tq:Int):List Nat:=if bl tq.toNat∈Q.map bl then Q else Q++[tq.toNat]
def pP(Q:List Nat)(tq:Int):List Nat×Int:=if val bl tq=0 then(Q,-1)else(DW bl Q tq,(idx ((DW bl Q tq).map bl) (bl tq.toNat):Int))
def lq(q:Nat)(Q:List Nat):Nat->List Nat×List Int
 |0=>(Q,[])
 |k+1=>((pP bl (lq q Q k).1 (A.d q k)).1,(lq q Q k).2++[(pP bl (lq q Q k).1 (A.d q k)).2])
def vec(l:List Int):Row:=Vector.ofFn λb:Fin 256=>l.getD b 0
def wX:Nat->Nat->List Nat->List Row->List Nat×List Row
 |0,_,Q,out=>(Q,out)
 |f+1,n,Q,out=>if n<Q.length then wX f (n+1) (lq A bl (Q.getD n 0) Q 256).1 (out++[vec (lq A bl (Q.getD n 0) Q 256).2])else(Q,out)
def qh:List Nat×List Row:=wX A bl (A.n+1) 0 [0] []
end
def OA(A:uC):uC:=⟨(qh A (eu A)).1.length,λk b=>((qh A (eu A)).2.getD k (eS 256 0)).toList.getD b 0,λk=>((qh A (eu A)).1.map A.tag).getD k 0⟩
section
variable{A:uC}{bl:Nat->Nat}
structure S7(A:uC)(bl:Nat->Nat)(Q:List Nat):Prop where
 head:∃R,Q=0::R/\∀q∈R,bl q≠0
 lt:∀q∈Q,q<A.n
 nodup:(Q.map bl).Nodup
theorem S7.len{Q:List Nat}(h:S7 A bl Q):Q.length<=A.n/\0<Q.length:=by
 have h1:Q.Nodup:=ac7 bl (λa b hne e=>hne (by rw[e])) h.nodup;refine⟨nS h1 h.lt,?_⟩;obtain⟨R,rfl,_⟩:=h.head;simp
theorem aeF(hA:A.Ok):S7 A bl [0]:=⟨⟨[],rfl,by simp⟩,λq hq=>by simp at hq;subst hq;exact hA.pos,by simp⟩
theorem aab{Q:List Nat}(h:S7 A bl Q){tq:Int}(h1:St A tq)(h0:val bl tq≠0):S7 A bl (DW bl Q tq):=by
 unfold DW;unfold val at h0;split at h0;exact absurd I h0;split;exact h
 rename_i agW hn
 unfold St at h1;obtain⟨R,rfl,hR⟩:=h.head;refine⟨⟨R++[tq.toNat],rfl,λq hq=>?_⟩,λq hq=>?_,?_⟩
 ·rcases fC.1 hq with hq|hq
  exact hR q hq;simp at hq;subst hq;exact h0
 ·rcases fC.1 hq with hq|hq
  exact h.lt q hq;simp at hq;subst hq;omega
 rw[ft];refine List.nodup_append.2 ⟨h.nodup,by simp,λa ha b hb e=>?_⟩;simp at hb;subst hb e;exact hn ha
theorem aac(Q:List Nat)(tq:Int):∃E,DW bl Q tq=Q++E:=by
 unfold DW;split;exact⟨[],by simp⟩;exact⟨_,rfl⟩
theorem aad(Q:List Nat)(tq:Int):bl tq.toNat∈(DW bl Q tq).map bl:=by
 unfold DW;split
 assumption
 simp
theorem K9{Q:List Nat}(h:S7 A bl Q){tq:Int}(h1:St A tq):S7 A bl (pP bl Q tq).1:=by
 unfold pP;split;exact h
 rename_i h0;exact aab h h1 h0
theorem K_(Q:List Nat)(tq:Int):∃E,(pP bl Q tq).1=Q++E:=by
 unfold pP;split;exact⟨[],by simp⟩;exact aac Q tq
theorem IC(q:Nat)(Q:List Nat):∀k,(lq A bl q Q k).2.length=k
 |0=>rfl
 |k+1=>by simp[lq,IC q Q k]
theorem af4(hA:A.Ok){q:Nat}(hq:q<A.n){b:Nat}(hb:b<256):St A (A.d q b):=hA.step q hq b hb
theorem Cm(hA:A.Ok){Q:List Nat}(h:S7 A bl Q){q:Nat}(hq:q<A.n):∀k,k<=256->S7 A bl (lq A bl q Q k).1
 |0,_=>h
 |k+1,hk=>K9 (Cm hA h hq k J) (af4 hA hq J)
theorem ID(q:Nat)(Q:List Nat):∀k,∃E,(lq A bl q Q k).1=Q++E
 |0=>⟨[],by simp[lq]⟩
 |k+1=>by
  obtain⟨E,h⟩:=ID q Q k;obtain⟨E',h'⟩:=K_ (bl:=bl) (lq A bl q Q k).1 (A.d q k);exact⟨E++E',by simp only[lq];rw[h',h,eZ]⟩
def Bh(A:uC)(bl:Nat->Nat)(Q:List Nat)(q b:Nat)(x:Int):Prop:=(val bl (A.d q b)=0->x= -1)/\(val bl (A.d q b)≠0->val bl (A.d q b)∈Q.map bl/\x=(idx (Q.map bl) (val bl (A.d q b)):Int))
theorem Bh.more{Q:List Nat}{q b:Nat}{x:Int}(h:Bh A bl Q q b x)(E:List Nat):Bh A bl (Q++E) q b x:=by
 refine⟨h.1,λh0=>?_⟩;obtain⟨h1,h2⟩:=h.2 h0;rw[ft,qy h1];exact⟨List.mem_append_left _ h1,h2⟩
theorem aae(Q:List Nat)(q b:Nat):Bh A bl (pP bl Q (A.d q b)).1 q b (pP bl Q (A.d q b)).2:=by
 unfold pP;split
 ·rename_i h;exact⟨λ_=>rfl,λh'=>absurd h h'⟩
 rename_i h
 refine⟨λh'=>absurd h' h,λ_=>?_⟩;have e:val bl (A.d q b)=bl (A.d q b).toNat:=by
  unfold val at h⊢;split at h;exact absurd I h
  rename_i hn;rw[if_neg hn]
 rw[e];exact⟨aad Q _,rfl⟩
theorem W6(q:Nat)(Q:List Nat):∀k b,b<k->Bh A bl (lq A bl q Q k).1 q b ((lq A bl q Q k).2.getD b 0)
 |0,_,h=>by omega
 | k +1,b,h=>by
  have hl:=IC (A:=A) (bl:=bl) q Q k;simp only[lq]
  by_cases c:b<k
  ·have ih:=W6 q Q k b c
   obtain⟨E,e⟩:=K_ (bl:=bl) (lq A bl q Q k).1 (A.d q k);rw[e,jI J];exact ih.more E
  obtain rfl:b=k:=by omega
  rw[ma J,hl,px];exact aae _ q b
theorem aaf(l:List Int)(b:Nat)(hb:b<256):(vec l).toList.getD b 0=l.getD b 0:=by
 have h:b<(vec l).toList.length:=by simp;exact hb
 rw[cK,bQ h,Option.getD_some,Vector.getElem_toList];unfold vec;rw[Vector.getElem_ofFn]
structure S8(A:uC)(bl:Nat->Nat)(n:Nat)(Q:List Nat)(out:List Row):Prop where
 len:out.length=n
 le:n<=Q.length
 rows:∀k,k<n->∀b,b<256->Bh A bl Q (Q.getD k 0) b ((out.getD k (eS 256 0)).toList.getD b 0)
theorem GQ(_:A.Ok){n:Nat}{Q:List Nat}{out:List Row}(h:S8 A bl n Q out)(hn:n<Q.length):S8 A bl (n+1) (lq A bl (Q.getD n 0) Q 256).1 (out++[vec (lq A bl (Q.getD n 0) Q 256).2]):=by
 obtain⟨E,e⟩:=ID (A:=A) (bl:=bl) (Q.getD n 0) Q 256;have hr:=W6 (A:=A) (bl:=bl) (Q.getD n 0) Q 256;have hlen:=h.len;refine⟨by simp[hlen],by rw[e];simp;omega,λk hk b hb=>?_⟩;have mZ:k<Q.length:=by omega
 rw[e]at hr⊢;rw[jI mZ]
 by_cases c:k<n
 ·rw[jI J]
  exact(h.rows k c b hb).more E
 obtain rfl:k=n:=by omega
 rw[ma J,hlen,px];show Bh A bl (Q++E) (Q.getD k 0) b ((vec _).toList.getD b 0)
 rw[aaf _ b hb];exact hr b hb
theorem yW{Q:List Nat}{n:Nat}(h:n<Q.length):Q.getD n 0∈Q:=by
 rw[cK,bQ h];exact cV h
theorem W7(hA:A.Ok):∀(f n:Nat) (Q:List Nat) (out:List Row),S7 A bl Q->S8 A bl n Q out->A.n+1<=f+n->S7 A bl (wX A bl f n Q out).1/\S8 A bl (wX A bl f n Q out).1.length (wX A bl f n Q out).1 (wX A bl f n Q out).2
 |0,n,Q,out,hQ,hO,hf=>by have:=hQ.len;have:=hO.le;omega
 | f +1,n,Q,out,hQ,hO,hf=>by
  unfold wX;split
  ·rename_i hn
   exact W7 hA f _ _ _ (Cm hA hQ (hQ.lt _ (yW hn)) 256 (bJ _)) (GQ hA hO hn) J
  rename_i hn
  have:=hO.le;obtain rfl:n=Q.length:=by omega
  exact⟨hQ,hO⟩
theorem OB(hA:A.Ok):S7 A bl (qh A bl).1/\S8 A bl (qh A bl).1.length (qh A bl).1 (qh A bl).2:=
 W7 hA _ _ _ _ (aeF hA) ⟨rfl,bO _,λk hk=>by omega⟩ J
theorem W8(hA:A.Ok){k:Nat}(hk:k<(OA A).n){b:Nat}(hb:b<256):Bh A (eu A) (qh A (eu A)).1 ((qh A (eu A)).1.getD k 0) b ((OA A).d k b):=
 (OB (bl:=eu A) hA).2.rows k hk b hb
theorem IB{Q:List Nat}(hn:(Q.map bl).Nodup){k:Nat}(hk:k<Q.length):idx (Q.map bl) (bl (Q.getD k 0))=k:=by
 have h:k<(Q.map bl).length:=by simpa using hk
 have:=C8 hn h;rw[sE]at this;rw[cK,bQ hk];exact this
theorem aag{k:Nat}(hk:k<(OA A).n):(OA A).tag k=A.tag ((qh A (eu A)).1.getD k 0):=by
 have mZ:k<(qh A (eu A)).1.length:=hk;show((qh A (eu A)).1.map A.tag).getD k 0=_
 rw[cK,fx,cK,bQ mZ];rfl
theorem aah(hA:A.Ok):(OA A).Ok:=by
 obtain⟨hQ,hO⟩:=OB (bl:=eu A) hA;obtain⟨h1,h2⟩:=hQ.len;have hle:=hA.le;refine⟨h2,fI h1 hle,λk hk b hb=>?_,λk hk=>by rw[aag hk];exact hA.tags _ (hQ.lt _ (yW hk))⟩;have hr:=W8 hA hk hb
 by_cases c:val (eu A) (A.d ((qh A (eu A)).1.getD k 0) b)=0
 rw[hr.1 c];exact⟨by omega,by omega⟩;obtain⟨r1,r2⟩:=hr.2 c;have:=nu r1;rw[dX]at this;rw[r2];exact⟨by omega,by show _<((qh A (eu A)).1.length:Int);omega⟩
end
end dq
namespace dq
section
variable{A B:uC}
def OC(A B:uC)(q r:Int):Prop:=∀s,tg A (go A q s)=tg B (go B r s)
theorem OC.step{q r:Int}(h:OC A B q r)(b:Nat)(hb:b<256):OC A B (dt A q b) (dt B r b):=λs=>by
 have:=h (gv b::s);have e:(gv b).toNat=b:=by simp;omega
 simp only[go,e]at this;exact this
theorem yX(f:Nat->Nat)(q:Nat):val f (q:Int)=f q:=by unfold val;rw[if_neg J,dP]
end
end dq
namespace dq
abbrev Pr:=Int×Int
abbrev Step:=Pr×Int×Nat
def OD:Step:=((0,0),-1,0)
section
end
def back(todo:List Step):Nat->Nat->List UInt8
 |0,_=>[]
 |f+1,i=>if(todo.getD i OD).2.1<0 then []else gv (todo.getD i OD).2.2::back todo f (todo.getD i OD).2.1.toNat
section
end
end dq
namespace cZ
open Go.RowKit dr eH
section
variable{α:Type}{s:wF α}{F:Nat->Prop}{vs:List Value}{S:List (List α)}{W:b9}{L:List cU}{w:World}
theorem GR(h:(eO (bW s) F (vs.map λv=>[v]) S).holds w):vs.length=S.length:=by have:=h.1.1;rwa [dX]at this
theorem OE(h:(eO (bW s) F (vs.map λv=>[v]) S).holds w){q:Nat}(hq:q<S.length){v:Value}(hv:vs[q]?=aj v):kH s F w v S[q]:=by
 have hnv:q<vs.length:=(dv.1 hv).1;obtain⟨v',e,hs⟩:=h.1.2 q hq (by rw[dX];exact hnv);rw[sE]at e;have h2:=(dv.1 hv).2;rw[h2]at e;rw[(WX e).1];exact hs
theorem W9(h:(eO (bW s) F (vs.map λv=>[v]) S).holds w){q:Nat}(hq:q<S.length){v:Value}(hv:vs[q]?=aj v):∃base cap,v= .slice base S[q].length cap/\S[q].length<=cap/\cap<=9223372036854775807/\(0<S[q].length->∃b off,base=aj ⟨b,off,ak⟩):=by
 obtain⟨base,cap,e,h1,h2,h3⟩:=OE h hq hv;exact⟨base,cap,e,h1,by unfold maxLen at h2;omega,λhn=>let ⟨b,off,h4,_⟩:=h3 hn;⟨b,off,h4⟩⟩
theorem OF{f:α->List Value}{c:Nat}{hc:∀a,(f a).length=c}{p:α->Prop}(JO:0<c){i:Nat}(hi:L[i]?=aj (eO (bW (yv f c hc p)) F (vs.map λv=>[v]) S)){q:Nat}(hq:q<S.length){v:Value}(hv:vs[q]?=aj v):Y8 W L v S[q].length (S[q].flatMap f):=λ_ hm=>
 kH.flat JO (OE (hm.get hi) hq hv)
end
end cZ
namespace cZ
open Go.RowKit dr eH aV ey eg bV dq
def DX(c:bV.Item->Nat)(x:bV.Item):Value:=av az (c x:Int)
def Az(c:bV.Item->Nat)(it:bV.Item)(x:bV.Item):Nat:=if x=it then c x+1 else c x
structure rL(c:bV.Item->Nat)(out:List bV.Item)(b:Nat):Prop where
 zero:∀x,c x=0↔x∉out
 le:∀x,c x<=b
theorem rL.put{c:bV.Item->Nat}{out:List bV.Item}{b:Nat}(h:rL c out b)(it:bV.Item):rL (Az c it) (more out it) (b+2):=by
 refine⟨λx=>?_,λx=>?_⟩
 ·unfold Az
  by_cases e:x=it
  ·subst e
   rw[if_pos I]
   constructor
   intro h;omega;intro h;exact absurd (ux.2 (.inr I)) h
  rw[if_neg e,h.zero x];rw[ux]
  constructor
  intro h1 h2;exact h2.elim h1 e;intro h1 h2;exact h1 (.inl h2)
 unfold Az;have:=h.le x;split<;>omega
def Fk(g5 gm g6 b:Nat)(v:Value)(c:bV.Item->Nat)(out:List bV.Item):List cU:=
 [aR g5 #[.map (aj gm)] 316,pq Io gm (av az 0) (DX c) b,aR g6 #[v] 273,bD 278 3 v out.length (out.flatMap jk)]
theorem aai(x:bV.Item):∀u∈jk x,u.oneCell'=true:=by
 intro u hu;simp only[jk,ez,iD,or_false]at hu;rcases hu with rfl|rfl|rfl<;>rfl
theorem K'(g5 gm g6 b:Nat)(v:Value)(c:bV.Item->Nat)(out:List bV.Item)(it:bV.Item)(hit:Io.ok it)(hp:rL c out b)(hb:b+2<=1152921504606846976)(ho:out.length+1<=1000000)(w:World)(B:b9)(hm:Mem B (Fk g5 gm g6 b v c out) w):
 Calls aC 157 #[aU (jk it).toArray,aK (aj ⟨g5,0,ak⟩),aK (aj ⟨g6,0,ak⟩)] w (dF ⟨λ_=>True,λ_=> .tuple #[],λv'=>Fk g5 gm g6 (b+2) v' (Az c it) (more out it)⟩ B):=by
 unfold Fk at hm;have hle:=hp.le it;have hz:=hp.zero it;obtain⟨n,hn⟩:∃n,c it=n:=⟨_,rfl⟩;obtain⟨F,hF⟩:∃F,DX c=F:=⟨_,rfl⟩;obtain⟨F',hF'⟩:∃F',DX (Az c it)=F':=⟨_,rfl⟩;have hcv:F it=av az (n:Int):=by rw[<-hF,<-hn];rfl
 have hF1:F' it=av az ((n+1:Nat):Int):=by rw[<-hF',<-hn];show av .i64 ((Az c it it:Nat):Int)=_;unfold Az;rw[if_pos I]
 have uV:∀y,Io.ok y->F' y=if y=it then av az ((n+1:Nat):Int)else F y:=λy _=>by
  rw[<-hF',<-hF,<-hn];show av .i64 ((Az c it y:Nat):Int)=if y=it then _ else av .i64 ((c y:Nat):Int)
  unfold Az
  by_cases e:y=it
  subst e;rw[if_pos I,if_pos I];rw[if_neg e,if_neg e]
 rw[hF]at hm;rw[hn]at hle hz;clear hp;refine dZ hm (args:=[aU (jk it).toArray,aK (aj ⟨g5,0,ak⟩),aK (aj ⟨g6,0,ak⟩)]) (n:=18) Tryz.func157 I I I ?_;refine bC (aM (b_ I I I λg3=>?_));refine zL ?_
 try refine GA ?_
 (repeat refine bC ?_)
 refine l_ (ι:=Unit) (λ_=>True) (λ_=>[(1,aK (aj ⟨g5,0,ak⟩)),(2,aK (aj ⟨g6,0,ak⟩)),(3,aK (aj ⟨g3,0,ak⟩))]) (λ_=>[aR g5 #[.map (aj gm)] 316,pq Io gm (av az 0) F' (b+1+1),aR g6 #[v] 273,bD 278 3 v out.length (out.flatMap jk),aR g3 (jk it).toArray 278]) ?_ ?_
 ·refine eo ([aR g5 #[.map (aj gm)] 316,aR g3 (jk it).toArray 278]) (.calm 0 (.calm 1 (.two 2 (.calm 3 (.one 4 (.calm 5 (.one 6 (.done))))) 4 (.calm 5 (.one 2 (.calm 3 (.one 6 (.done)))))))) (cH [0,4]) ?_
  repeat(first|refine GW ?_|(refine GN ?_;first|refine QW (aB (v:= .map (aj gm)) aL.ty I (aH (i:=0) I I)) ?_|refine QW (aQ (i:=1) aL.ty I I I) ?_))
  refine e9 I I ?_ ?_
  ·refine aI (C3 Io bR.eq nX (i:=1) I I (x:=it) I hit hcv) I I I (aP (cH [0,4]) ?_)
   repeat(first|(refine GN ?_;first|refine QW QP ?_|refine QW (bL (r:=((n+1:Nat):Int)) I I J J J) ?_|refine GX ?_)|refine GW ?_)
   refine aO I (KX Io bR.eq nX (i:=1) I I (x:=it) I hit J I λst=>aP (cH [0,4]) ?_)
   try refine GW ?_
   refine aO I (Gw Io F' bR.eq (i:=1) I I I I hit J uV (aP (cH [0,4]) ?_))
   try refine GW ?_
   exact eJ () trivial (by repeat' (first|exact dl|refine dh I ?_)) I
  refine KX Io bR.eq nX (i:=1) I I (x:=it) I hit J I λst=>aP (cH [0,4]) ?_
  try refine GW ?_
  refine aO I (aI (WJ Io bR.eq nX (i:=1) I I (x:=it) I hit hcv) I I I (aP (cH [0,4]) ?_))
  repeat(first|(refine GN ?_;first|refine QW QP ?_|refine QW (bL (r:=((n+1:Nat):Int)) I I J J J) ?_|refine GX ?_)|refine GW ?_)
  refine aO I (Gw Io F' bR.eq (i:=1) I I I I hit J uV (aP (cH [0,4]) ?_))
  try refine GW ?_
  exact eJ () trivial (by repeat' (first|exact dl|refine dh I ?_)) I
 rintro⟨⟩ _
 by_cases c1:it∈out
 ·have ZK:more out it=out:=if_pos c1
  rw[ZK];have hn0:n≠0:=λe=>hz.1 e c1;clear uV hcv
  repeat(first|refine GC ?_|refine gV (aB (v:= .map (aj gm)) aL.ty I (aH (i:=0) I I)) ?_|refine gV (aQ (i:=4) aL.ty I I I) ?_|refine gV (C3 Io bR.eq nX (i:=1) I I (x:=it) I hit hF1) ?_|refine gV (aX (b:=aE) I I (decide_eq_false J)) ?_|refine GB ?_)
  exact lF I λw hm=>hm.cX (S:=⟨λ(_:Value)=>True,λ_=> .tuple #[],λv'=>Fk g5 gm g6 (b+2) v' (Az c it) out⟩) v trivial [0,1,2,3] ahk (by unfold Fk;rw[<-hF'];rfl)
 ·have ZK:more out it=out++[it]:=if_neg c1
  rw[ZK];have hn0:n=0:=hz.2 c1;clear uV hcv
  repeat(first|refine GC ?_|refine gV (aB (v:= .map (aj gm)) aL.ty I (aH (i:=0) I I)) ?_|refine gV (aQ (i:=4) aL.ty I I I) ?_|refine gV (C3 Io bR.eq nX (i:=1) I I (x:=it) I hit hF1) ?_|refine gV (aX (b:=aD) I I (decide_eq_true J)) ?_|refine gV (aB (v:=v) aL.ty I (aH (i:=2) I I)) ?_|refine GB ?_)
  refine im (cs:=(jk it).toArray) [aU (jk it).toArray] I I I (by intro v hv;simp only[ez,iD,or_false]at hv;subst hv;rfl) I I I λg16=>?_;refine zL ?_;refine fc (i:=3) (e:=278) (size:=3) (bytes:=24) (m:=out.length) (xs:=out.flatMap jk) (k:=1) (ys:=jk it) I (lE (i:=5) I (λj u h=>by simpa using h) (bJ 1) ahk) I I I (aai it) J J I λv'=>?_;refine zL ?_;refine aY (i:=3) I λlm lW=>?_;refine cD (i:=2) I I I lm lW I ?_;refine zL ?_
  try refine GA ?_
  exact lF I λw hm=>hm.cX (S:=⟨λ(_:Value)=>True,λ_=> .tuple #[],λv'=>Fk g5 gm g6 (b+2) v' (Az c it) (out++[it])⟩) v' trivial [0,1,2,3] ahk (by unfold Fk;rw[<-hF',fV,bT];rfl)
end cZ
namespace cZ
open Go.Shelf
def OG:Go.Shelf.Ren:=⟨λ|6=>160|15=>176|14=>177|28=>197|29=>198|20=>199|21=>200|22=>201|23=>202|24=>203|25=>204|26=>205|27=>206|46=>215|47=>211|48=>212|49=>216|50=>217|57=>219|n=>n,λ|22=>273|24=>278|25=>321|3=>3|39=>281|0=>0|53=>360|55=>114|4=>4|46=>354|45=>353|50=>178|5=>5|9=>9|66=>369|70=>149|76=>376|77=>377|n=>n,λ|n=>n⟩
theorem W_:Go.Proofs.SlLaysF0.n6 aC OG:={
 mixed:=by kernel_rfl
 f6:=⟨Tryz.f160.name,by decide,Tryz.func160.trans (congrArg aj (by kernel_rfl))⟩
 f14:=⟨Tryz.f177.name,by decide,Tryz.func177.trans (congrArg aj (by kernel_rfl))⟩
 f15:=Tryz.func176.trans (congrArg aj (by kernel_rfl))
 f20:=⟨Tryz.f199.name,by decide,Tryz.func199.trans (congrArg aj (by kernel_rfl))⟩
 f21:=⟨Tryz.f200.name,by decide,Tryz.func200.trans (congrArg aj (by kernel_rfl))⟩
 f22:=⟨Tryz.f201.name,by decide,Tryz.func201.trans (congrArg aj (by kernel_rfl))⟩
 f23:=⟨Tryz.f202.name,by decide,Tryz.func202.trans (congrArg aj (by kernel_rfl))⟩
 f24:=⟨Tryz.f203.name,by decide,Tryz.func203.trans (congrArg aj (by kernel_rfl))⟩
 f25:=⟨Tryz.f204.name,by decide,Tryz.func204.trans (congrArg aj (by kernel_rfl))⟩
 f26:=⟨Tryz.f205.name,by decide,Tryz.func205.trans (congrArg aj (by kernel_rfl))⟩
 f27:=⟨Tryz.f206.name,by decide,Tryz.func206.trans (congrArg aj (by kernel_rfl))⟩
 f28:=Tryz.func197.trans (congrArg aj (by kernel_rfl))
 f29:=Tryz.func198.trans (congrArg aj (by kernel_rfl))
 f46:=⟨Tryz.f215.name,by decide,Tryz.func215.trans (congrArg aj (by kernel_rfl))⟩
 f47:=Tryz.func211.trans (congrArg aj (by kernel_rfl))
 f48:=Tryz.func212.trans (congrArg aj (by kernel_rfl))
 f49:=⟨Tryz.f216.name,by decide,Tryz.func216.trans (congrArg aj (by kernel_rfl))⟩
 f50:=⟨Tryz.f217.name,by decide,Tryz.func217.trans (congrArg aj (by kernel_rfl))⟩
 f57:=⟨Tryz.f219.name,by decide,Tryz.func219.trans (congrArg aj (by kernel_rfl))⟩
 t0:=Tryz.underlying0
 a0:=Tryz.isAgg0
 z0:=Tryz.sizeOf0
 v0:=Tryz.zeroValue0
 t3:=Tryz.underlying3
 a3:=Tryz.isAgg3
 z3:=Tryz.sizeOf3
 v3:=Tryz.zeroValue3
 t4:=Tryz.underlying4
 a4:=Tryz.isAgg4
 z4:=Tryz.sizeOf4
 v4:=Tryz.zeroValue4
 t5:=Tryz.underlying5
 a5:=Tryz.isAgg5
 z5:=Tryz.sizeOf5
 v5:=Tryz.zeroValue5
 t9:=Tryz.underlying9
 a9:=Tryz.isAgg9
 z9:=Tryz.sizeOf9
 v9:=Tryz.zeroValue9
 t22:=Tryz.underlying273
 a22:=Tryz.isAgg273
 z22:=Tryz.sizeOf273
 v22:=Tryz.zeroValue273
 t25:=Tryz.underlying321
 a25:=Tryz.isAgg321
 z25:=Tryz.sizeOf321
 v25:=Tryz.zeroValue321
 t39:=Tryz.underlying281
 a39:=Tryz.isAgg281
 z39:=Tryz.sizeOf281
 v39:=Tryz.zeroValue281
 t45:=Tryz.underlying353
 a45:=Tryz.isAgg353
 z45:=Tryz.sizeOf353
 v45:=Tryz.zeroValue353
 t46:=Tryz.underlying354
 a46:=Tryz.isAgg354
 z46:=Tryz.sizeOf354
 v46:=Tryz.zeroValue354
 t50:=Tryz.underlying178
 a50:=Tryz.isAgg178
 z50:=Tryz.sizeOf178
 v50:=Tryz.zeroValue178
 t53:=Tryz.underlying360
 a53:=Tryz.isAgg360
 z53:=Tryz.sizeOf360
 v53:=Tryz.zeroValue360
 t55:=Tryz.underlying114
 a55:=Tryz.isAgg114
 z55:=Tryz.sizeOf114
 v55:=Tryz.zeroValue114
 t66:=Tryz.underlying369
 a66:=Tryz.isAgg369
 z66:=Tryz.sizeOf369
 v66:=Tryz.zeroValue369
 t70:=Tryz.underlying149
 a70:=Tryz.isAgg149
 z70:=Tryz.sizeOf149
 v70:=Tryz.zeroValue149
 t76:=Tryz.underlying376
 a76:=Tryz.isAgg376
 z76:=Tryz.sizeOf376
 v76:=Tryz.zeroValue376
 t77:=Tryz.underlying377
 a77:=Tryz.isAgg377
 z77:=Tryz.sizeOf377
 v77:=Tryz.zeroValue377}
end cZ
namespace cZ
open Go.RowKit dr eH bV Go.Sort
theorem OH(w:World)(n g:Nat)(d:Array Value)(os:Array Obj){k:Nat}(hk:k<w.heap.size)(hg:k≠g):(grow (putRow id (Go.Sort.ahead w n) g 0 d) os).heap[k]?=w.heap[k]?:=by
 rw[heap_grow_old _ _ (by rw[size_putRow];exact hk)];show(w.heap.modify g _)[k]?=w.heap[k]?
 rw[Dc,if_neg (λh=>hg h.symm)]
theorem Xa{B:b9}{w:World}{e:TypeId}{g cap m size:Nat}{xs:List Value}(hm:Mem B [bD e size (ap (aj ⟨g,0,ak⟩) m cap) m xs] w)(d:Array Value)(hd:d.size=m*size)(n:Nat)(os:Array Obj):
 Mem B [bD e size (ap (aj ⟨g,0,ak⟩) m cap) m d.toList] (grow (putRow id (Go.Sort.ahead w n) g 0 d) os):=by
 have ho:w.ownsRow 0 e size (ap (aj ⟨g,0,ak⟩) m cap) m xs:=hm.get (i:=0) I;obtain⟨hl,hr⟩:=ho;rcases hr with⟨h,_⟩|⟨g2,Oj,kg,hv,_,hg,hc,hx,hs,ht⟩
 ·cases h
 cases hv
 have K2:B.may g:=(hm.owns.all 0 _ I).2 g (.inl I);have hgw:g<w.heap.size:=(lA.1 hg).1;have WM:(grow (putRow id (Go.Sort.ahead w n) g 0 d) os).heap[g]?=aj (.cells (putCells id 0 d kg) e (0,0)):=by
  rw[heap_grow_old _ _ (by rw[size_putRow];exact hgw)];show(w.heap.modify g (onCells (putCells id 0 d)))[g]?=_
  rw[Dc,if_pos I,hg];rfl
 have hle:m*size<=cap*size:=o8 _ hc;refine⟨⟨hm.low.os,hm.low.tape,hm.low.output,?_,λk hk hx=>?_⟩,e_.one ⟨?_,.inr ⟨g,cap,_,rfl,bO _,WM,hc,hx,?_,?_⟩⟩ λk hk=>?_⟩
 ·rw[size_grow,size_putRow];exact fI hm.low.size (Nat.le_add_right _ _)
 ·have hkg:k≠g:=λe=>by
   subst e;rcases K2 with h|h
   omega;exact hx h
  rw[OH w n g d os (jf hk hm.low.size) hkg];exact hm.low.block k hk hx
 ·rw[nj,hd]
 ·unfold putCells;rw[Array.size_mapIdx];exact hs
 ·apply mG
  intro j;rw[uA]
  by_cases hj:j<m*size
  ·have Zz:j<kg.size:=by omega
   rw[if_pos hj,qS,qS];unfold putCells;rw[Array.getElem?_mapIdx,xF Zz,Ov,if_pos ⟨bO _,by omega⟩,WY,getElem!_pos d j J,xF (by omega:j<d.size)];rfl
  rw[if_neg hj,qS,Array.getElem?_eq_none J]
 ·rcases hk with h|h
  simp only[bD,qK,dB]at h;subst h;exact K2;exact h.elim
theorem ac9:SWO (ltOf KP):=⟨Qv,λ_ _ _ h1 h2=>acX h1 h2,λx y z h1 h2=>by
 have h1:N9 x y=false:=h1;have h2:N9 y z=false:=h2;show N9 x z=aE
 rw[N_]at*;omega⟩
theorem QM(l:List bV.Item):(flatK jk 3 l.toArray).toList=l.flatMap jk:=by
 have hL:(l.flatMap jk).length=l.length*3:=lD lU l;apply mG;intro t
 by_cases ht:t<l.length*3
 ·have hd:t/3<l.length:=by omega
  have h1:=get_flatK jk 3 l.toArray t (by simpa using ht);rw[getElem!_pos (flatK jk 3 l.toArray) t (by simpa using ht),getElem!_pos l.toArray (t/3) (by simpa using hd)]at h1;have h2:=uo (c:=3) (l.map jk) (λx hx=>by obtain⟨y,_,rfl⟩:=e7.1 hx;exact lU y) (t/3) (t %3) (by simpa using hd) (CJ _ ahk);rw[show t/3*3+t %3=t by omega,sE]at h2;rw[qS,xF (by simpa using ht),h1];show _=(l.map jk).flatten[t]?
  rw[h2];have h3:t %3<(jk l[t/3]).length:=by rw[lU];exact CJ _ ahk
  rw[bQ h3];simp only[List.getElem_toArray];rw[getElem!_pos (jk l[t/3]) (t %3) h3]
 rw[jE (by rw[nj,size_flatK];simp;omega),jE J]
theorem OI{w:World}{e:TypeId}{g cap m size:Nat}{xs:List Value}(ho:w.ownsRow 0 e size (ap (aj ⟨g,0,ak⟩) m cap) m xs)(d:Array Value)(hd:d.toList=xs):Holds id w g 0 d/\g<w.heap.size:=by
 obtain⟨hl,hr⟩:=ho;rcases hr with⟨h,_⟩|⟨g2,Oj,kg,hv,_,hg,hc,hx,hs,ht⟩
 cases h
 cases hv
 refine⟨λj hj=>?_,(lA.1 hg).1⟩;have hle:m*size<=cap*size:=o8 _ hc;have hj2:j<xs.length:=by rw[<-hd];simpa using hj
 have hcj:kg[j]?=aj d[j]:=by
  have:=congrArg (λl=>l[j]?) ht;rw[uA,if_pos J,qS,<-hd,qS,xF hj]at this;exact this
 refine⟨?_,?_⟩;rw[cell_of_row w g (0+j) _ _ _ hg,du,hcj,getElem!_pos d j hj];rfl;unfold World.frozen?;rw[hg];simp
def aaj:Prop:=∀(x y:bV.Item) (w:World),Calls aC 161 #[aU (jk x).toArray,aU (jk y).toArray] w λe w'=>e= .returned (av az (KP x y))/\∃q os',w'=grow (w.drewN q) os'
theorem aak(af5:aaj)(v:Value)(l:List bV.Item)(w:World)(B:b9)(hm:Mem B [bD 278 3 v l.length (l.flatMap jk)] w)(hl:l.length<4611686018427387904):
 Calls aC 160 #[v,.func (.func 161) #[] #[]] w (dF ⟨λ(_:Unit)=>True,λ_=> .tuple #[],λ_=>[bD 278 3 v l.length ((uO l).flatMap jk)]⟩ B):=by
 have ho:w.ownsRow 0 278 3 v l.length (l.flatMap jk):=hm.get (i:=0) I;have B9:=ho;rcases ho.2 with⟨rfl,h0⟩|⟨g,cap,kg,rfl,_,hg,hc,hx,hs,ht⟩
 ·obtain rfl:l=[]:=List.length_eq_zero_iff.1 h0
  refine(AnyF.slices_SortFunc_none W_ ak 0 _ w).mono λe w' ⟨he,hw⟩=>⟨(),trivial,he,?_⟩;rw[hw];exact(by simpa[uO]using hm)
 ·obtain⟨h1,h2⟩:=OI B9 (flatK jk 3 l.toArray) (QM l)
  have af6:CmpLays aC 161 #[] jk 3 KP g 0 l.toArray.size w:=λm os dk _ x y=>by
   have h:=af5 x y (sortWorldK jk 3 w g 0 m dk os)
   simpa using h
  have h:=AnyQ.slices_SortFunc_total W_ 3 Tryz.isAgg278 Tryz.sizeOf278 jk lU (λx v hv=>by simp only[jk,ez,iD,or_false]at hv;rcases hv with rfl|rfl|rfl<;>rfl) KP ac9 161 #[] g 0 cap l.toArray w aJ.en af6 h1 h2 (by simpa using hl) SD;have hz:l.toArray.size=l.length:=by simp
  rw[hz]at h;refine h.mono λe w' ⟨he,n,os,hw⟩=>⟨(),trivial,he,?_⟩;have hlen:(uO l).length=l.length:=KR l;have hq:=Xa hm (flatK jk 3 (uO l).toArray) (by rw[size_flatK];simp[hlen]) n os;rw[QM]at hq;rw[hw];exact hq
end cZ
namespace cZ
open Go.RowKit dr eH aV ey eg bV dq
def Xb(B:b9)(v:Value)(n:Nat)(xs:List Value):Prop:=
 ∃base cap,v=ap base n cap/\n<=cap/\cap<=maxLen/\(0<n->∃b off,base=aj ⟨b,off,ak⟩/\Au B b/\Rd B.w b off xs)
theorem QN{l:List aV.Prod}{w0:World}{W:b9}{vb:Nat->Value}{k dn:Nat}{x:Option Nat}{bb:Option Addr}{cc m:Nat}(ho:p_ w0 W)(hv:SJ (λq=>q<w0.heap.size) w0 vb l)(hk:k<=l.length)(hx:x.isSome=decide (k=l.length))(hb:Z4 vb k x=ap bb m cc)(hd:dn<(fZ l (k:Int)).length):
 ∃b off,bb=aj ⟨b,off,ak⟩/\∀(L:List cU) (i:Nat),L[i]?=aj (As x)->∀j u,(eX (fZ l (k:Int))[dn])[j]?=aj u->At W L ⟨b,off+dn*2+j,ak⟩ u:=by
 cases x with
 |some g=>
  have hk:k=l.length:=by simpa using hx
  subst hk;have e:fZ l (l.length:Int)=[(2,0)]:=by unfold fZ;rw[if_pos I]
  have hb:ap (aj ⟨g,0,ak⟩) 1 1=ap bb m cc:=hb
  cases hb
  refine⟨g,0,rfl,λL i hi j u hj=>?_⟩;have hd0:dn=0:=by rw[e]at hd;simpa using hd
  subst hd0;simp only[e,List.getElem_cons_zero]at hj;rw[show 0+0*2+j=j by omega];exact aH hi (by simpa[eX]using hj)
 | none=>
  have mZ:k<l.length:=by
   have:¬k=l.length:=by simpa using hx
   omega
  have e:fZ l (k:Int)=(dC l (k:Int)).2:=by unfold fZ;rw[if_neg J]
  have hs:=(hv k mZ).flat (f:=eX) ahk;have hb:vb k=ap bb m cc:=hb;rw[hb]at hs;obtain⟨base,cap,h1,_,_,h3⟩:=hs
  cases h1
  have U3:dn<(dC l (k:Int)).2.length:=by rw[<-e];exact hd
  obtain⟨b,off,rfl,hr⟩:=h3 J;refine⟨b,off,rfl,λL i _ j u hj=>?_⟩;simp only[e]at hj;exact uj (W:=W) (L:=L) DQ (off:=off) (λq y hq=>iW ho (hr q y hq)) U3 j u hj
theorem S9(g:eL){it:bV.Item}(h:it.2.2.toNat<64):uP (kr g) it<18446744073709551616:=by
 have h1:kr g it.1 it.2.1<18446744073709551616:=Qy ahk;unfold uP;split;exact Nat.or_lt_two_pow (n:=64) (Nat.xor_lt_two_pow (n:=64) h1 ahk) (Nat.pow_lt_pow_right ahk h);exact h1
theorem xX{i bits:Nat}{out:List bV.Item}:∀k,(fR i bits out k).length<=out.length+k
 |0=>bJ _
 |k+1=>by
  rw[fR];have:=xX (i:=i) (bits:=bits) (out:=out) k;have h2:(more (fR i bits out k) ((i:Int),0,(k:Int))).length<=(fR i bits out k).length+1:=by unfold more;split<;>simp
  split<;>omega
theorem DY{l:List aV.Prod}{T:Nat}{N:Int}{bits:Nat}{out:List bV.Item}:∀i,(fS l T N bits out i).length<=out.length+i*(T+1)
 |0=>by rw[Nat.zero_mul];exact bJ _
 |i+1=>by
  rw[fS,kQ];have:=DY (l:=l) (T:=T) (N:=N) (bits:=bits) (out:=out) i;have h2:=xX (i:=i) (bits:=bits) (out:=fS l T N bits out i) (T+1);split<;>omega
theorem Cn{L:List cU}{is:List Nat}{o:cU}(h:o∈is.filterMap λi=>L[i]?):o∈L:=by
 obtain⟨i,_,hi⟩:=Ou.1 h;exact mF hi
def opL(g:eL)(bp:Option Addr)(cp go gm:Nat)(f:RK->Option Value)(c:Nat):List cU:=[aR go (Be g.aT g.bM (ap bp g.aF.length cp) gm).toArray 314,fD jo gm f c]
theorem DZ{κ:Type}[DecidableEq κ]:∀(l D:List κ),(eh D l).length<=D.length+l.length
 |[],D=>by simp[eh]
 |k::r,D=>by
  rw[eh];have:=DZ r (if k∈D then D else D++[k]);have h2:(if k∈D then D else D++[k]).length<=D.length+1:=by split<;>simp
  rw[dE];omega
theorem Xc{l:List aV.Prod}{T:Nat}{x:bV.Item}(h:eU l T x)(hl:l.length<=40)(hw:∀q∈l,q.2.length<=8)(hT:T<=30):Io.ok x:=by
 obtain⟨a1,a2,a3,a4,a5,a6⟩:=h;have:=mQ (l:=l) (p:=x.1) hw;exact⟨⟨by omega,by omega⟩,⟨by omega,by omega⟩,by omega,by omega⟩
def uZ(g:eL)(T:Nat)(l0:List bV.Item)(bp:Option Addr)(cp go gm c:Nat):Spec ((RK->Option Value)×Nat×Value):=
 ⟨λx=>j_ (kr g) x.1/\x.2.1<=c+12000,λx=>x.2.2,λx=>opL g bp cp go gm x.1 x.2.1++[bD 278 3 x.2.2 (j0 g.aF T (kr g) l0).length ((j0 g.aF T (kr g) l0).flatMap jk)]⟩
theorem aeG{i j:Nat}(hi:i<=1000)(hj:j<=1000):Io.ok ((i:Int),0,(j:Int)):=by
 show(-9223372036854775808<=(i:Int)/\(i:Int)<=9223372036854775807)/\(-9223372036854775808<=(0:Int)/\(0:Int)<=9223372036854775807)/\(-9223372036854775808<=(j:Int)/\(j:Int)<=9223372036854775807)
 omega
theorem GS(a c:Int)(w:World):(dR 278 #[(0,av az a),(2,av az c)]).run aC w= .ok (aU #[av az a,av az 0,av az c]) w:=by kernel_rfl
attribute [local irreducible] Op.shift Go.bits in
theorem u_(g:eL)(hg:cL g=0)(bp:Option Addr)(cp:Nat)(vb:Nat->Value)(w0:World)(hG:kz (λq=>q<w0.heap.size) w0 (ee g.aT g.bM (ap bp g.aF.length cp)) g)(zr:SJ (λq=>q<w0.heap.size) w0 vb g.aF)(oC:0<g.aF.length->∃b off,bp=aj ⟨b,off,ak⟩/\∀i,i<g.aF.length->Rd w0 b (off+i*2) [av az (dC g.aF (i:Int)).1,vb i])
 (go gm c:Nat) (f:RK->Option Value) (T:Nat) (IE:g.aT=(T:Int)) (hT:T<=30) (l0:List bV.Item) (vl:Value) (h0:∀x∈l0,eU g.aF T x) (hl0:l0.length<=20000) (hc:j_ (kr g) f) (hcc:c<=900000000000000) (w:World) (B:b9) (ho:p_ w0 B) (Zc:Xb B vl l0.length (l0.flatMap jk))
 (hm:Mem B (opL g bp cp go gm f c) w):
 Calls aC 129 #[aK (aj ⟨go,0,ak⟩),vl] w (dF (uZ g T l0 bp cp go gm c) B):=by
 obtain⟨-,-,-,-,Bi,hgb⟩:=de hg;have JT:∀q∈g.aF,q.2.length<=8:=λq hq=>(hgb q hq).1;have La:=λg5 S_ g6 b v cn out it hit hp hb hn w' B' rB=>K' g5 S_ g6 b v cn out it hit hp hb hn w' B' rB;unfold opL at hm;obtain⟨bl,cl,rfl,oQ,xt,E8⟩:=Zc;unfold maxLen at xt;refine dZ hm (args:=[aK (aj ⟨go,0,ak⟩),ap bl l0.length cl]) (n:=117) Tryz.func129 I I I ?_
 try refine GA ?_
 refine ZC Io (z:=av az 0) I λS_=>?_;refine zL ?_
 try refine GA ?_
 refine bz I λg5=>?_;refine zL ?_;refine cD (i:=3) I I I I I I ?_;refine zL ?_
 try refine GA ?_
 refine bz I λg6=>?_;refine zL ?_
 repeat(first|refine GA ?_|refine gV (wk I I) ?_)
 conv=>arg 7;simp only[zA,zB,zC,zD,zE,zF,zG,zH,zI,dg,ret,id_eq]
 refine mN (bD 278 3 (ap ak 0 0) 0 []) (λk hk=>hk.elim (λh=>by cases h) id) (λw=>⟨by decide,.inl ⟨rfl,rfl⟩⟩) ?_;refine ue [0,1,3,2,4,5] ?_
 conv=>arg 7;simp only[zA,zB,zC,zD,zE,zF,zG,zH,zI,dg,ret,id_eq]
 refine eK (ι:=Nat×Value×(bV.Item->Nat)) (λ(j,_,cn)=>j<=l0.length/\rL cn (eh [] (l0.take j)) (2*j)) (λ(j,_,_)=>[(0,aK (aj ⟨go,0,ak⟩)),(6,aK (aj ⟨g6,0,ak⟩)),(7,.func (.func 157) #[] #[aK (aj ⟨g5,0,ak⟩),aK (aj ⟨g6,0,ak⟩)]),(18,ap bl l0.length cl),(19,av az (l0.length:Int)),(20,av az (j:Int))])
  (λ(j,v,cn)=>[aR go (Be g.aT g.bM (ap bp g.aF.length cp) gm).toArray 314,fD jo gm f c]++Fk g5 S_ g6 (2*j) v cn (eh [] (l0.take j))) (λ(j,_,_)=>l0.length-j) (0,ap ak 0 0,λ_=>0) ⟨bO _,⟨λx=>by simp[eh],λx=>bO _⟩⟩ ?_
 rintro⟨j,v,cn⟩ ⟨j1,j2⟩;dsimp only at j1 j2⊢
 by_cases c1:j<l0.length
 ·obtain⟨b,off,rfl,K0,MJ⟩:=E8 J
  have d_:=λL=>uj (W:=B) (L:=L) lU (off:=off) (λq u hq=>sN K0 MJ q u hq) c1;have hx0:=h0 l0[j] (cV c1);have hxo:=Xc hx0 Bi JT hT;have J0:(eh [] (l0.take j)).length<=j:=fI (DZ _ _) (by rw[gJ,jR];omega);have uV:more (eh [] (l0.take j)) l0[j]=eh [] (l0.take (j+1)):=by rw[ia c1,kY]
  have Fl:=j2.put l0[j];rw[uV]at Fl;have La:=λw' B' rB=>La g5 S_ g6 (2*j) v cn (eh [] (l0.take j)) l0[j] hxo j2 J J w' B' rB;rw[uV]at La;generalize eh [] (l0.take j)=out at*;generalize hoq:eh [] (l0.take (j+1))=agX at*;generalize l0[j]=x at*
  repeat(first|refine GA ?_|refine gV (a_ bR.eq aL.ty I I c1) ?_|refine gV (bH aL.ty I (lU x) (d_ _)) ?_)
  refine bz I λg9=>?_;refine zL ?_;refine il 6 (cs':=(jk x).toArray) ?_;refine zL ?_
  repeat(first|refine GA ?_|refine gV (aQ (i:=6) aL.ty I I I) ?_)
  refine bK [2,3,4,5] [0,1,6] ahk I I (BI aJ.en I I) (λw hm hb=>La w _ hb) I I I ?_;intro v' _;refine zL ?_
  try refine GA ?_
  refine dS [0,1,3,4,5,6] ?_;exact cJ (j+1,v',Az cn x) ⟨by show j+1<=l0.length;omega,by show rL _ (eh [] (l0.take (j+1))) _;rw[hoq];exact Fl⟩ (by show l0.length-(j+1)<l0.length-j;omega) (hl:=by dsimp only;rw[hoq];rfl)
 ·obtain rfl:j=l0.length:=by omega
  rw[nE]at j2;have wI:(eh [] l0).length<=20000:=fI (DZ _ _) (by rw[gJ];omega);clear E8
  try refine GA ?_
  conv=>arg 7;simp only[zA,zB,zC,zD,zE,zF,zG,zH,zI,dg,ret,id_eq,nE,Fk,ku,fg]
  refine eK (ι:=Nat×List bV.Item×(RK->Option Value)×Nat×Value×(bV.Item->Nat)×Nat) (λ(n,out,f',c',_,cn',b)=>WkI g.aF T (kr g) l0 n out/\th g.aF T (kr g) (12000-n) n out=th g.aF T (kr g) 12000 0 (eh [] l0)/\j_ (kr g) f'/\c'<=c+n/\rL cn' out b/\b<=40000+2480*n)
   (λ(n,_,_,_,_,_,_)=>[(0,aK (aj ⟨go,0,ak⟩)),(6,aK (aj ⟨g6,0,ak⟩)),(7,.func (.func 157) #[] #[aK (aj ⟨g5,0,ak⟩),aK (aj ⟨g6,0,ak⟩)]),(10,av az (n:Int))])
   (λ(_,out,f',c',v',cn',b)=>[aR go (Be g.aT g.bM (ap bp g.aF.length cp) gm).toArray 314,fD jo gm f' c',aR g5 #[.map (aj S_)] 316,pq Io S_ (av az 0) (DX cn') b,aR g6 #[v'] 273,bD 278 3 v' out.length (out.flatMap jk)]) (λ(n,_)=>12000-n) (0,eh [] l0,f,c,v,cn,2*l0.length) ⟨DJ l0,rfl,hc,bJ _,j2,by omega⟩ ?_
  rintro⟨n,out,f',c',v',cn',b⟩ ⟨i1,i2,i3,i4,i5,i6⟩;dsimp only at i1 i2 i3 i4 i5 i6⊢;have OJ:=Ar JT Bi hT i1.nd λx hx=>yM h0 (i1.cl x hx);refine iR (i:=5) I gO λij=>?_;obtain⟨bv,cv,rfl,-,Dt⟩:=ij
  by_cases c2:n<out.length
  ·obtain⟨gz,rfl⟩:=Dt J
   have lz:=i1.cl out[n] (cV c2);have hxr:=yM h0 lz;have d_:=λ(L:List cU) (i:Nat) (hL:L[i]?=aj (bD 278 3 (ap (aj ⟨gz,0,ak⟩) out.length cv) out.length (out.flatMap jk)))=>ru (W:=B) lU hL c2;have hwx:th g.aF T (kr g) (12000-(n+1)) (n+1) (uQ g.aF T (kr g) out[n] out)=th g.aF T (kr g) 12000 0 (eh [] l0):=by
    rw[<-i2,show 12000-n=(12000-(n+1))+1 by omega,th,if_pos c2,cK,bQ c2];rfl
   have Xd:=Qw i1 c2;clear i2 lz;generalize hxx:out[n]=x at*;obtain⟨p,d,lo⟩:=x;have ac_:=hxr;obtain⟨r1,r2,r3,r4,r5,r6⟩:=ac_;dsimp only at r1 r2 r3 r4 r5 r6;obtain⟨k,rfl⟩:=jg r1;obtain⟨dn,rfl⟩:=jg r3;obtain⟨ln,rfl⟩:=jg r5;have hk:k<=g.aF.length:=by omega
   have Gx:=λw' (rB:Mem B [] w')=>sK g.aT g.bM bp cp g.aF vb w0 w' B k hk ho rB (λi hi=>let ⟨b,c,h,_⟩:=zr i hi;⟨b,_,c,h⟩) oC
   repeat(first|refine GC ?_|refine gV (aB (v:=ap (aj ⟨gz,0,ak⟩) out.length cv) aL.ty I (aH (i:=4) I I)) ?_|refine gV (fy (i:=5) bR.eq I I) ?_|refine GB ?_)
   refine eo ([aR go (Be g.aT g.bM (ap bp g.aF.length cp) gm).toArray 314,aR g6 #[ap (aj ⟨gz,0,ak⟩) out.length cv] 273,bD 278 3 (ap (aj ⟨gz,0,ak⟩) out.length cv) out.length (out.flatMap jk)]) (.calm 0 (.calm 1 (.calm 2 (.calm 3 (.calm 4 (.calm 5 (.calm 6 (.calm 7 (.calm 8 (.one 9 (.calm 10 (.done)))))))))))) (cH [0,4,5]) ?_
   repeat(first|refine GW ?_|(refine GN ?_;first|refine QW (bH aL.ty I (cs:=[av az g.aT,av az g.bM,ap bp g.aF.length cp]) I (λj v h=>aH (i:=0) I (Ip h))) ?_|refine QW (aB (v:=ap (aj ⟨gz,0,ak⟩) out.length cv) aL.ty I (aH (i:=1) I I)) ?_|refine QW (a_ bR.eq aL.ty I I c2) ?_|refine QW (aB (v:=av az (k:Int)) aL.ty I (d_ _ 2 I 0 _ I)) ?_))
   refine aO I ?_;refine a8 (gK aJ.en I I I) (λw hm=>Gx _ (hm.pick [] ahk I)) I I I ?_;rintro xb hxb
   conv=>arg 8;simp only[zJ,dg,ret,id_eq,yQ]
   conv=>arg 7;simp only[yQ]
   obtain⟨bb,cc,hbv,hlc,-⟩:=yS (W:=B) (i:=6) (L:=[aR go (Be g.aT g.bM (ap bp g.aF.length cp) gm).toArray 314,fD jo gm f' c',aR g5 #[.map (aj S_)] 316,pq Io S_ (av az 0) (DX cn') b,aR g6 #[ap (aj ⟨gz,0,ak⟩) out.length cv] 273,bD 278 3 (ap (aj ⟨gz,0,ak⟩) out.length cv) out.length (out.flatMap jk),As xb]) ho zr hk hxb rfl;have rj:=λ(L:List cU) (i:Nat) (hi:L[i]?=aj (As xb))=>(yS (W:=B) (L:=L) ho zr hk hxb hi);rw[hbv]at rj⊢;have hb8:=mQ (l:=g.aF) (p:=(k:Int)) JT;refine aP (cH [0,4,5]) ?_
   try refine GW ?_
   clear Gx
   by_cases c3:dn=(fZ g.aF (k:Int)).length
   ·repeat(first|refine GC ?_|refine gV (aB (v:=ap (aj ⟨gz,0,ak⟩) out.length cv) aL.ty I (aH (i:=4) I I)) ?_|refine gV (a_ bR.eq aL.ty I I c2) ?_|refine gV (aB (v:=av az (dn:Int)) aL.ty I (d_ _ 5 I 1 _ I)) ?_|refine gV (aX (b:=aD) I I (decide_eq_true J)) ?_|refine GB ?_)
    have Lb:uQ g.aF T (kr g) ((k:Int),(dn:Int),(ln:Int)) out=out:=by
     unfold uQ qC;dsimp only;rw[dP,jE J]
    rw[Lb]at Xd hwx;refine dS [0,1,2,3,4,5] ?_;exact cJ (n+1,out,f',c',ap (aj ⟨gz,0,ak⟩) out.length cv,cn',b) ⟨Xd,hwx,i3,by show c'<=c+(n+1);omega,i5,by show b<=40000+2480*(n+1);omega⟩ (by show 12000-(n+1)<12000-n;omega)
   have hlt:dn<(fZ g.aF (k:Int)).length:=by omega
   obtain⟨b2,o2,rfl,hba⟩:=QN ho zr hk hxb hbv hlt;have uV:qC g.aF ((k:Int),(dn:Int),(ln:Int))=aj (fZ g.aF (k:Int))[dn]:=by
    unfold qC;dsimp only;rw[dP,bQ hlt]
   generalize hyy:(fZ g.aF (k:Int))[dn]=y at*;obtain⟨yk,yn⟩:=y
   by_cases c4:yk=2
   ·subst c4
    have Lb:uQ g.aF T (kr g) ((k:Int),(dn:Int),(ln:Int)) out=fS g.aF T yn (uP (kr g) ((k:Int),(dn:Int),(ln:Int))) out g.aF.length:=by
     unfold uQ;rw[uV];dsimp only;rw[if_pos I]
    rw[Lb]at Xd hwx
    repeat(first|refine GC ?_|refine gV (aB (v:=ap (aj ⟨gz,0,ak⟩) out.length cv) aL.ty I (aH (i:=4) I I)) ?_|refine gV (a_ bR.eq aL.ty I I c2) ?_|refine gV (a_ bR.eq aL.ty I I hlt) ?_|refine gV (aB (v:=av az (dn:Int)) aL.ty I (d_ _ 5 I 1 _ I)) ?_|refine gV (aX (b:=aE) I I (decide_eq_false J)) ?_|refine gV (aB (v:=av az 2) aL.ty I (hba _ 6 I 0 _ I)) ?_|refine gV (bm (b:=aE) I I (decide_eq_false (λh=>h I))) ?_|refine gV (bH (cs:=jk ((k:Int),(dn:Int),(ln:Int))) aL.ty I I (d_ _ 5 I)) ?_|refine GB ?_)
    refine bK [0,1] [2,3,4,5,6] ahk I I (gK aJ.en I I I) (λw hm hb=>KZ g hg bp cp vb w0 hG zr oC go gm c' f' ((k:Int),(dn:Int),(ln:Int)) T hT hxr (by dsimp only;rw[dP];exact hlt) i3 J w _ (ho.on hm λo h=>Cn h) hb) I I I ?_;rintro⟨f2,T_⟩ ⟨Ua,ac'⟩;dsimp only at Ua ac';refine zL ?_;have agY:=S9 g (it:=((k:Int),(dn:Int),(ln:Int))) (by show((ln:Int)).toNat<64;omega);generalize uP (kr g) ((k:Int),(dn:Int),(ln:Int))=bits at*
    repeat(first|refine GA ?_|refine gV (aB (v:=ap bp g.aF.length cp) aL.ty I (aH (i:=5) I I)) ?_)
    refine ue [5,6,0,1,2,3,4] ?_
    conv=>arg 7;simp only[zA,zB,zC,zD,zE,zF,zG,zH,zI,dg,ret,id_eq]
    refine eK (ι:=Nat×Value×(bV.Item->Nat)×Nat) (λ(i,_,cn2,b3)=>i<=g.aF.length/\rL cn2 (fS g.aF T yn bits out i) b3/\b3<=b+62*i)
     (λ(i,_,_,_)=>[(0,aK (aj ⟨go,0,ak⟩)),(6,aK (aj ⟨g6,0,ak⟩)),(7,.func (.func 157) #[] #[aK (aj ⟨g5,0,ak⟩),aK (aj ⟨g6,0,ak⟩)]),(10,av az (n:Int)),(11,ap (aj ⟨b2,o2,ak⟩) (fZ g.aF (k:Int)).length cc),(12,ik bits),(74,ap bp g.aF.length cp),(75,av az (g.aF.length:Int)),(76,av az (i:Int))])
     (λ(i,v2,cn2,b3)=>[aR go (Be g.aT g.bM (ap bp g.aF.length cp) gm).toArray 314,fD jo gm f2 T_,aR g5 #[.map (aj S_)] 316,pq Io S_ (av az 0) (DX cn2) b3,aR g6 #[v2] 273,bD 278 3 v2 (fS g.aF T yn bits out i).length ((fS g.aF T yn bits out i).flatMap jk),As xb]) (λ(i,_)=>g.aF.length-i) (0,ap (aj ⟨gz,0,ak⟩) out.length cv,cn',b) ⟨bO _,i5,by omega⟩ ?_
    rintro⟨i,v2,cn2,b3⟩ ⟨p1,p2,p3⟩;dsimp only at p1 p2 p3⊢
    by_cases c5:i<g.aF.length
    ·obtain⟨E,hE⟩:=uT (l:=g.aF) (T:=T) yn bits out i
     have J0:=DY (l:=g.aF) (T:=T) (N:=yn) (bits:=bits) (out:=out) i;have Fm:fS g.aF T yn bits out (i+1)=if(dC g.aF (i:Int)).1=yn then fR i bits (fS g.aF T yn bits out i) (T+1)else fS g.aF T yn bits out i:=rfl
     have agZ:i*(T+1)<=40*31:=Nat.mul_le_mul J J;generalize hou:fS g.aF T yn bits out i=ou at*;have hno:n<ou.length:=by rw[hE,bT];omega
     have hox:ou[n]=((k:Int),(dn:Int),(ln:Int)):=by
      subst hE;rw[List.getElem_append_left c2];exact hxx
     refine iR (i:=5) I gO λij=>?_;obtain⟨bv2,cv2,rfl,-,af7⟩:=ij;obtain⟨gz2,rfl⟩:=af7 J;have tC:=λ(L:List cU) (i:Nat) (hL:L[i]?=aj (bD 278 3 (ap (aj ⟨gz2,0,ak⟩) ou.length cv2) ou.length (ou.flatMap jk)))=>ru (W:=B) lU hL hno;rw[hox]at tC;obtain⟨pb,po,rfl,hpr⟩:=oC J;have hpi:=hpr i c5;have hvo:(vb i).oneCell'=true:=Z1 (zr i c5);generalize hhd:(dC g.aF (i:Int)).1=hd at*;generalize vb i=vbi at hpi hvo
     repeat(first|refine GA ?_|refine gV (a_ bR.eq aL.ty I I c5) ?_|refine gV (bH aL.ty I (cs:=[av az hd,vbi]) I (λj v h=>iW ho (hpi j v h))) ?_)
     refine bz I λg14=>?_;refine zL ?_
     try refine GA ?_
     refine aZ (i:=7) (cs':=#[av az hd,vbi]) I I I I (by simp only[dw,dA,hvo];rfl) I ?_;refine zL ?_
     try refine GA ?_
     refine eo ([aR g14 #[av az hd,vbi] 140,aR g6 #[ap (aj ⟨gz2,0,ak⟩) ou.length cv2] 273,bD 278 3 (ap (aj ⟨gz2,0,ak⟩) ou.length cv2) ou.length (ou.flatMap jk),As xb]) (.calm 0 (.calm 1 (.calm 2 (.calm 3 (.calm 4 (.calm 5 (.calm 6 (.calm 7 (.calm 8 (.calm 9 (.calm 10 (.calm 11 (.done))))))))))))) (cH [7,4,5,6]) ?_
     by_cases c6:hd=yn
     ·rw[if_pos c6]at Fm
      repeat(first|(refine GN ?_;first|refine QW QP ?_|refine QW (aB (v:=av az hd) aL.ty I (aH (i:=0) I I)) ?_|refine QW (aB (v:=ap (aj ⟨gz2,0,ak⟩) ou.length cv2) aL.ty I (aH (i:=1) I I)) ?_|refine QW (a_ bR.eq aL.ty I I hno) ?_|refine QW (aB (v:=av az (dn:Int)) aL.ty I (tC _ 2 I 1 _ I)) ?_|refine QW (a_ bR.eq aL.ty I I hlt) ?_|refine QW (aB (v:=av az yn) aL.ty I (hba _ 3 I 1 _ I)) ?_|refine QW (bm (b:=aE) I I (decide_eq_false (λh=>h c6))) ?_|refine GX ?_)|refine GW ?_)
      repeat(first|refine GC ?_|refine gV (aB (v:=av az g.aT) aL.ty I (aH (i:=0) I I)) ?_|refine gV (bL (r:=((T+1:Nat):Int)) I I J J J) ?_|refine GB ?_)
      refine ue [0,1,2,3,4,5,6] ?_
      conv=>arg 7;simp only[zA,zB,zC,zD,zE,zF,zG,zH,zI,dg,ret,id_eq]
      refine eK (ι:=Nat×Value×(bV.Item->Nat)×Nat) (λ(j,_,cn3,b4)=>j<=T+1/\rL cn3 (fR i bits ou j) b4/\b4<=b3+2*j)
       (λ(j,_,_,_)=>[(0,aK (aj ⟨go,0,ak⟩)),(6,aK (aj ⟨g6,0,ak⟩)),(7,.func (.func 157) #[] #[aK (aj ⟨g5,0,ak⟩),aK (aj ⟨g6,0,ak⟩)]),(10,av az (n:Int)),(11,ap (aj ⟨b2,o2,ak⟩) (fZ g.aF (k:Int)).length cc),(12,ik bits),(13,av az (i:Int)),(74,ap (aj ⟨pb,po,ak⟩) g.aF.length cp),(75,av az (g.aF.length:Int)),(76,av az (i:Int)),(98,av az ((T+1:Nat):Int)),(99,av az (j:Int))])
       (λ(j,v3,cn3,b4)=>[aR go (Be g.aT g.bM (ap (aj ⟨pb,po,ak⟩) g.aF.length cp) gm).toArray 314,fD jo gm f2 T_,aR g5 #[.map (aj S_)] 316,pq Io S_ (av az 0) (DX cn3) b4,aR g6 #[v3] 273,bD 278 3 v3 (fR i bits ou j).length ((fR i bits ou j).flatMap jk),As xb]) (λ(j,_)=>T+1-j) (0,ap (aj ⟨gz2,0,ak⟩) ou.length cv2,cn2,b3) ⟨bO _,p2,by omega⟩ ?_
      rintro⟨j,v3,cn3,b4⟩ ⟨s1,s2,s3⟩;dsimp only at s1 s2 s3⊢
      by_cases c7:j<T+1
      ·have ag0:=xX (i:=i) (bits:=bits) (out:=ou) j
       have Ta:fR i bits ou (j+1)=if bits.testBit j=aD then more (fR i bits ou j) ((i:Int),0,(j:Int))else fR i bits ou j:=rfl
       have Fl:=s2.put ((i:Int),0,(j:Int));have hdv:bits/2^j<=bits:=Nat.div_le_self _ _;have ha1:=ac2 (y:=bits/2^j) J;have C_:∀w,(Op.shift .shr .u64 (bits:Int) .i64 (j:Int)).run aC w= .ok (.int .u64 ((bits/2^j:Nat):Int)) w:=λw=>WK bits j 64 .u64 .i64 I J w;have Gx:=yR bits j;generalize hol:fR i bits ou j=ol at*;generalize bits/2^j=D1 at*
       by_cases c8:bits.testBit j=aD
       ·rw[if_pos c8]at Ta
        have K0:D1 %2=1:=by rw[c8]at Gx;simpa using Gx
        repeat(first|refine GC ?_|refine gV (pe I I C_) ?_|refine gV (nt I I ha1) ?_|refine gV (aX (b:=aD) I I (decide_eq_true J)) ?_|refine gV (bP I (GS _ _)) ?_|refine GB ?_)
        refine bK [2,3,4,5] [0,1,6] ahk I I (BI aJ.en I I) (λw hm hb=>La g5 S_ g6 b4 v3 cn3 ol ((i:Int),0,(j:Int)) (aeG J J) s2 J J w _ hb) I I I ?_;intro v4 _
        conv=>arg 8;simp only[zJ,dg,ret,id_eq,Fk]
        try refine GA ?_
        refine dS [0,1,3,4,5,6,2] ?_;exact cJ (j+1,v4,Az cn3 ((i:Int),0,(j:Int)),b4+2) ⟨by show j+1<=T+1;omega,by show rL _ (fR i bits ou (j+1)) _;rw[Ta];exact Fl,by show b4+2<=b3+2*(j+1);omega⟩ (by show T+1-(j+1)<T+1-j;omega) (hl:=by dsimp only;rw[Ta];rfl)
       rw[if_neg c8]at Ta;have K0:¬D1 %2=1:=by rw[Bool.eq_false_iff.2 c8]at Gx;simpa using Gx
       repeat(first|refine GC ?_|refine gV (pe I I C_) ?_|refine gV (nt I I ha1) ?_|refine gV (aX (b:=aE) I I (decide_eq_false J)) ?_|refine GB ?_)
       exact cJ (j+1,v3,cn3,b4) ⟨by show j+1<=T+1;omega,by show rL _ (fR i bits ou (j+1)) _;rw[Ta];exact s2,by show b4<=b3+2*(j+1);omega⟩ (by show T+1-(j+1)<T+1-j;omega) (hl:=by dsimp only;rw[Ta])
      obtain rfl:j=T+1:=by omega
      try refine GA ?_
      exact cJ (i+1,v3,cn3,b4) ⟨by show i+1<=g.aF.length;omega,by show rL cn3 (fS g.aF T yn bits out (i+1)) b4;rw[Fm];exact s2,by show b4<=b+62*(i+1);omega⟩ (by show g.aF.length-(i+1)<g.aF.length-i;omega) (hl:=by dsimp only;rw[Fm])
     rw[if_neg c6]at Fm
     repeat(first|(refine GN ?_;first|refine QW QP ?_|refine QW (aB (v:=av az hd) aL.ty I (aH (i:=0) I I)) ?_|refine QW (aB (v:=ap (aj ⟨gz2,0,ak⟩) ou.length cv2) aL.ty I (aH (i:=1) I I)) ?_|refine QW (a_ bR.eq aL.ty I I hno) ?_|refine QW (aB (v:=av az (dn:Int)) aL.ty I (tC _ 2 I 1 _ I)) ?_|refine QW (a_ bR.eq aL.ty I I hlt) ?_|refine QW (aB (v:=av az yn) aL.ty I (hba _ 3 I 1 _ I)) ?_|refine QW (bm (b:=aD) I I (decide_eq_true c6)) ?_|refine GX ?_)|refine GW ?_)
     try refine GA ?_
     refine dS [0,1,2,3,4,5,6] ?_;exact cJ (i+1,ap (aj ⟨gz2,0,ak⟩) ou.length cv2,cn2,b3) ⟨by show i+1<=g.aF.length;omega,by show rL cn2 (fS g.aF T yn bits out (i+1)) b3;rw[Fm];exact p2,by show b3<=b+62*(i+1);omega⟩ (by show g.aF.length-(i+1)<g.aF.length-i;omega) (hl:=by dsimp only;rw[Fm];rfl)
    obtain rfl:i=g.aF.length:=by omega
    try refine GA ?_
    refine dS [0,1,2,3,4,5] ?_;exact cJ (n+1,fS g.aF T yn bits out g.aF.length,f2,T_,v2,cn2,b3) ⟨Xd,hwx,Ua,by show T_<=c+(n+1);omega,p2,by show b3<=40000+2480*(n+1);omega⟩ (by show 12000-(n+1)<12000-n;omega)
   repeat(first|refine GC ?_|refine gV (aB (v:=ap (aj ⟨gz,0,ak⟩) out.length cv) aL.ty I (aH (i:=4) I I)) ?_|refine gV (a_ bR.eq aL.ty I I c2) ?_|refine gV (a_ bR.eq aL.ty I I hlt) ?_|refine gV (aB (v:=av az (dn:Int)) aL.ty I (d_ _ 5 I 1 _ I)) ?_|refine gV (aX (b:=aE) I I (decide_eq_false J)) ?_|refine gV (aB (v:=av az yk) aL.ty I (hba _ 6 I 0 _ I)) ?_|refine gV (bm (b:=aD) I I (decide_eq_true c4)) ?_|refine GB ?_)
   have Lb:uQ g.aF T (kr g) ((k:Int),(dn:Int),(ln:Int)) out=out:=by
    unfold uQ;rw[uV];dsimp only;rw[if_neg c4]
   rw[Lb]at Xd hwx;refine dS [0,1,2,3,4,5] ?_;exact cJ (n+1,out,f',c',ap (aj ⟨gz,0,ak⟩) out.length cv,cn',b) ⟨Xd,hwx,i3,by show c'<=c+(n+1);omega,i5,by show b<=40000+2480*(n+1);omega⟩ (by show 12000-(n+1)<12000-n;omega)
  have hn:n=out.length:=by have:=i1.le;omega
  have hR:th g.aF T (kr g) 12000 0 (eh [] l0)=out:=by
   rw[<-i2,show 12000-n=(11999-n)+1 by omega,th,if_neg c2]
  have hcI:j0 g.aF T (kr g) l0=uO out:=by unfold j0;rw[hR]
  repeat(first|refine GA ?_|refine gV (aB (v:=ap bv out.length cv) aL.ty I (aH (i:=4) I I)) ?_)
  refine bK [5] [0,1,2,3,4] ahk I I (gK aJ.en I I I) (λw hm hb=>aak Z6 (ap bv out.length cv) out w _ hb J) I I I ?_;intro _ _;refine zL ?_
  repeat(first|refine GA ?_|refine gV (aB (v:=ap bv out.length cv) aL.ty I (aH (i:=4) I I)) ?_)
  exact da I I λw hm=>hm.cX (S:=uZ g T l0 bp cp go gm c) (f',c',ap bv out.length cv) ⟨i3,by show c'<=c+12000;omega⟩ [0,1,5] ahk (by unfold uZ opL;dsimp only;rw[hcI,KR];rfl)
end cZ
namespace cZ
open Go.RowKit dr eH aV ey eg bV dq
theorem Xb.row{W:b9}{L Lx:List cU}{w:World}(hm:Mem W L w){i n size:Nat}{e:TypeId}{v:Value}{xs:List Value}(hi:L[i]?=aj (bD e size v n xs))(is:List Nat)(hL:Lx=is.filterMap λi=>L[i]?)(hni:i∉is):Xb (b9.on w Lx) v n xs:=by
 have hh:(bD e size v n xs).holds w:=hm.get hi;obtain⟨base,cap,rfl,h1,h2,h3⟩:=Sl.dY hh;refine⟨base,cap,rfl,h1,h2,λhn=>?_⟩;obtain⟨b,off,rfl,hr⟩:=h3 hn;have hf:(bD e size (ap (aj ⟨b,off,ak⟩) n cap) n xs).fF b:=by
  rcases(show w.ownsRow 0 e size _ n xs from hh).2 with⟨hv,_⟩|⟨g,cp,kg,hv,_⟩
  cases hv
  cases hv;exact .inl I
 refine⟨b,off,rfl,⟨(bD e size _ n xs).lt w hh b hf,?_⟩,hr⟩;rintro⟨o,ho,hfo⟩;subst hL;obtain⟨j,hj,Y_⟩:=Ou.1 ho;exact hm.owns.apart i j _ _ (λh=>hni (h▸hj)) hi Y_ b hf hfo
theorem Xb.at{B:b9}{L:List cU}{α:Type}{f:α->List Value}{c:Nat}(hc:∀a,(f a).length=c){base:Option Addr}{cap n:Nat}{l:List α}(h:Xb B (ap base n cap) n (l.flatMap f))(hn:0<n):∃b off,base=aj ⟨b,off,ak⟩/\∀(k:Nat) (hk:k<l.length) (j:Nat) (u:Value),(f l[k])[j]?=aj u->At B L ⟨b,off+k*c+j,ak⟩ u:=by
 obtain⟨abV,HP,h0,h1,h2,h3⟩:=h
 cases h0
 obtain⟨b,off,rfl,ho,hr⟩:=h3 hn;exact⟨b,off,rfl,λk hk j u hj=>uj (W:=B) (L:=L) hc (off:=off) (λq y hq=>sN ho hr q y hq) hk j u hj⟩
theorem Tb{l:List aV.Prod}{s:List bV.Item}{x:dV}{k:Nat}(h:k<s.length):mR l (s.take (k+1)) x=if qC l s[k]=aj x then mR l (s.take k) x++[Z3 s[k]]else mR l (s.take k) x:=by
 unfold mR;rw[ia h,List.filter_append,ft]
 by_cases c:qC l s[k]=aj x
 rw[if_pos c,List.filter_cons_of_pos (by simpa using c)];rfl;rw[if_neg c,List.filter_cons_of_neg (by simpa using c)];simp
theorem Lc{l:List aV.Prod}{s:List bV.Item}{x:dV}:(mR l s x).length<=s.length:=by
 unfold mR;rw[dX];exact List.length_filter_le _ _
theorem IF(g:eL)(hg:cL g=0)(bp:Option Addr)(cp:Nat)(vb:Nat->Value)(w0:World)(hG:kz (λq=>q<w0.heap.size) w0 (ee g.aT g.bM (ap bp g.aF.length cp)) g)(zr:SJ (λq=>q<w0.heap.size) w0 vb g.aF)(oC:0<g.aF.length->∃b off,bp=aj ⟨b,off,ak⟩/\∀i,i<g.aF.length->Rd w0 b (off+i*2) [av az (dC g.aF (i:Int)).1,vb i])
 (go gm c:Nat) (f:RK->Option Value) (T:Nat) (IE:g.aT=(T:Int)) (hT:T<=30) (s:List bV.Item) (x:dV) (vl:Value) (h0:∀it∈s,eU g.aF T it) (hl0:s.length<=20000) (hc:j_ (kr g) f) (hcc:c<=900000000000000) (w:World) (B:b9) (ho:p_ w0 B) (Zc:Xb B vl s.length (s.flatMap jk))
 (hm:Mem B (opL g bp cp go gm f c) w):
 Calls aC 131 #[aK (aj ⟨go,0,ak⟩),vl,aU (eX x).toArray] w (dF (uZ g T (mR g.aF s x) bp cp go gm c) B):=by
 have lz:=λv h2 h3 w' B' J6 xo rB=>u_ g hg bp cp vb w0 hG zr oC go gm c f T IE hT (mR g.aF s x) v h2 h3 hc hcc w' B' J6 xo rB;have hol:=Lc (l:=g.aF) (s:=s) (x:=x);have JR:=k9 (l:=g.aF) (T:=T) (x:=x) h0;obtain⟨bl,cl,rfl,oQ,xt,E8⟩:=id Zc;clear E8;unfold maxLen at xt;unfold opL at hm;refine dZ hm (args:=[aK (aj ⟨go,0,ak⟩),ap bl s.length cl,aU (eX x).toArray]) (n:=50) Tryz.func131 I I I ?_;refine bC (aM (b_ I I I λg5=>?_));refine zL ?_
 try refine GA ?_
 refine jy 278 3 ?_
 conv=>arg 7;simp only[zA,zB,zC,zD,zE,zF,zG,zH,zI,dg,ret,id_eq]
 refine eK (ι:=Nat×Value) (λ(k,_)=>k<=s.length) (λ(k,v)=>[(0,aK (aj ⟨go,0,ak⟩)),(5,aK (aj ⟨g5,0,ak⟩)),(7,v),(11,ap bl s.length cl),(12,av az s.length),(13,av az (k:Int))])
  (λ(k,v)=>[aR go (Be g.aT g.bM (ap bp g.aF.length cp) gm).toArray 314,fD jo gm f c,aR g5 (eX x).toArray 148,bD 278 3 v (mR g.aF (s.take k) x).length ((mR g.aF (s.take k) x).flatMap jk)]) (λ(k,_)=>s.length-k) (0,ap ak 0 0) (bO _) ?_
 rintro⟨k,v⟩ i1;dsimp only at i1⊢
 by_cases c1:k<s.length
 ·obtain⟨b,off,rfl,d_⟩:=Zc.at (L:=[]) lU J
  have DS:∀(L:List cU) (j:Nat) (u:Value),(jk s[k])[j]?=aj u->At B L ⟨b,off+k*3+j,ak⟩ u:=λL=>by
   obtain⟨b',Ag,he,h⟩:=Zc.at (L:=L) lU J
   cases he
   exact h k c1
  clear d_;have hxr:=h0 s[k] (cV c1);have uV:=Tb (l:=g.aF) (x:=x) c1;have wV:(mR g.aF (s.take k) x).length<=20000:=fI Lc (by rw[jR];omega);generalize mR g.aF (s.take k) x=ov at*;generalize Fm:mR g.aF (s.take (k+1)) x=ov' at*;clear lz JR hol;generalize s[k]=it at*;obtain⟨p,d,lo⟩:=it;have ac_:=hxr;obtain⟨r1,r2,r3,r4,r5,r6⟩:=ac_;dsimp only at r1 r2 r3 r4 r5 r6;obtain⟨kn,rfl⟩:=jg r1;obtain⟨dn,rfl⟩:=jg r3;obtain⟨ln,rfl⟩:=jg r5;have hk:kn<=g.aF.length:=by omega
  have Gx:=λw' (rB:Mem B [] w')=>sK g.aT g.bM bp cp g.aF vb w0 w' B kn hk ho rB (λi hi=>let ⟨b,c,h,_⟩:=zr i hi;⟨b,_,c,h⟩) oC;have JT:∀q∈g.aF,q.2.length<=8:=λq hq=>((de hg).2.2.2.2.2 q hq).1;have hb8:=mQ (l:=g.aF) (p:=(kn:Int)) JT
  repeat(first|refine GA ?_|refine gV (a_ bR.eq aL.ty I I c1) ?_|refine gV (bH (cs:=jk ((kn:Int),(dn:Int),(ln:Int))) aL.ty I I (DS _)) ?_)
  refine bz I λg9=>?_;refine zL ?_;refine il 4 (cs':=(jk ((kn:Int),(dn:Int),(ln:Int))).toArray) ?_;refine zL ?_
  try refine GA ?_
  refine eo ([aR go (Be g.aT g.bM (ap bp g.aF.length cp) gm).toArray 314,aR g9 (jk ((kn:Int),(dn:Int),(ln:Int))).toArray 278]) (.calm 0 (.calm 1 (.calm 2 (.calm 3 (.calm 4 (.calm 5 (.one 6 (.calm 7 (.done))))))))) (cH [0,4]) ?_
  repeat(first|refine GW ?_|(refine GN ?_;first|refine QW (bH aL.ty I (cs:=[av az g.aT,av az g.bM,ap bp g.aF.length cp]) I (λj v h=>aH (i:=0) I (Ip h))) ?_|refine QW (aB (v:=av az (kn:Int)) aL.ty I (aH (i:=1) I I)) ?_))
  refine aO I ?_;refine a8 (gK aJ.en I I I) (λw hm=>Gx _ (hm.pick [] ahk I)) I I I ?_;rintro xb hxb
  conv=>arg 8;simp only[zJ,dg,ret,id_eq,yQ]
  conv=>arg 7;simp only[yQ]
  obtain⟨bb,cc,hbv,hlc,-⟩:=yS (W:=B) (i:=5) (L:=[aR go (Be g.aT g.bM (ap bp g.aF.length cp) gm).toArray 314,fD jo gm f c,aR g5 (eX x).toArray 148,bD 278 3 v ov.length (ov.flatMap jk),aR g9 (jk ((kn:Int),(dn:Int),(ln:Int))).toArray 278,As xb]) ho zr hk hxb rfl;rw[hbv];refine aP (cH [0,4]) ?_
  try refine GW ?_
  clear Gx
  by_cases c2:dn<(fZ g.aF (kn:Int)).length
  ·obtain⟨b2,o2,rfl,hba⟩:=QN ho zr hk hxb hbv c2
   have hns:qC g.aF ((kn:Int),(dn:Int),(ln:Int))=aj (fZ g.aF (kn:Int))[dn]:=by
    unfold qC;dsimp only;rw[dP,bQ c2]
   have P4:=λw=>Wg (fZ g.aF (kn:Int))[dn] x w;generalize (fZ g.aF (kn:Int))[dn]=y at*;rw[hns]at uV
   try refine GA ?_
   refine eo ([aR g5 (eX x).toArray 148,aR g9 (jk ((kn:Int),(dn:Int),(ln:Int))).toArray 278,As xb]) (.calm 0 (.calm 1 (.calm 2 (.calm 3 (.calm 4 (.calm 5 (.calm 6 (.calm 7 (.calm 8 (.calm 9 (.calm 10 (.calm 11 (.calm 12 (.calm 13 (.done))))))))))))))) (cH [2,4,5]) ?_
   by_cases c3:y=x
   ·subst c3
    rw[if_pos I]at uV;rw[decide_eq_true I]at P4
    repeat(first|(refine GN ?_;first|refine QW QP ?_|refine QW (aB (v:=av az (dn:Int)) aL.ty I (aH (i:=1) I I)) ?_|refine QW (a_ bR.eq aL.ty I I c2) ?_|refine QW (bH (cs:=eX y) aL.ty I I (hba _ 2 I)) ?_|refine QW (aQ (i:=0) aL.ty I I I) ?_|refine QW (CT I I (by kernel_rfl) P4) ?_|refine GX ?_)|refine GW ?_)
    repeat(first|refine GA ?_|refine gV (aB (v:=av az (dn:Int)) aL.ty I (aH (i:=4) I I)) ?_)
    refine cD (i:=4) I I I I I I ?_;refine zL ?_
    repeat(first|refine GA ?_|refine gV (aQ (i:=4) aL.ty I I I) ?_)
    refine jH (i:=3) I I I I I I I (λz h=>by cases h;rfl) J J I λz v'=>?_;refine zL ?_
    try refine GA ?_
    refine dS [0,1,2,3] ?_;exact cJ (k+1,v') (by show k+1<=s.length;omega) (by show s.length-(k+1)<s.length-k;omega) (hl:=by dsimp only;rw[Fm,uV,bT,fV];rfl)
   rw[if_neg (λh=>c3 (o9 h))]at uV;rw[decide_eq_false c3]at P4
   repeat(first|(refine GN ?_;first|refine QW QP ?_|refine QW (aB (v:=av az (dn:Int)) aL.ty I (aH (i:=1) I I)) ?_|refine QW (a_ bR.eq aL.ty I I c2) ?_|refine QW (bH (cs:=eX y) aL.ty I I (hba _ 2 I)) ?_|refine QW (aQ (i:=0) aL.ty I I I) ?_|refine QW (CT I I (by kernel_rfl) P4) ?_|refine GX ?_)|refine GW ?_)
   try refine GA ?_
   refine dS [0,1,2,3] ?_;exact cJ (k+1,v) (by show k+1<=s.length;omega) (by show s.length-(k+1)<s.length-k;omega) (hl:=by dsimp only;rw[Fm,uV];rfl)
  have hns:qC g.aF ((kn:Int),(dn:Int),(ln:Int))=none:=by
   unfold qC;dsimp only;rw[dP,jE J]
  rw[hns,if_neg (λh=>by cases h)]at uV
  try refine GA ?_
  refine eo ([aR g5 (eX x).toArray 148,aR g9 (jk ((kn:Int),(dn:Int),(ln:Int))).toArray 278,As xb]) (.calm 0 (.calm 1 (.calm 2 (.calm 3 (.calm 4 (.calm 5 (.calm 6 (.calm 7 (.calm 8 (.calm 9 (.calm 10 (.calm 11 (.calm 12 (.calm 13 (.done))))))))))))))) (cH [2,4,5]) ?_
  repeat(first|refine GW ?_|(refine GN ?_;first|refine QW (aB (v:=av az (dn:Int)) aL.ty I (aH (i:=1) I I)) ?_))
  try refine GA ?_
  refine dS [0,1,2,3] ?_;exact cJ (k+1,v) (by show k+1<=s.length;omega) (by show s.length-(k+1)<s.length-k;omega) (hl:=by dsimp only;rw[Fm,uV];rfl)
 ·obtain rfl:k=s.length:=by omega
  rw[nE]
  try refine GA ?_
  refine bK [0,1] [2,3] ahk I I (gK aJ.en I I I) (λw hm hb=>lz v JR J w _ (ho.on hm λo h=>Cn h) (Xb.row hm (i:=3) I [0,1] I ahk) hb) I I I ?_;rintro⟨f2,c2,v2⟩ ⟨Ua,ac'⟩
  conv=>arg 8;simp only[zJ,dg,ret,id_eq,uZ,opL]
  conv=>arg 7;simp only[uZ]
  try refine GA ?_
  exact da I I λw hm=>hm.cX (S:=uZ g T (mR g.aF s x) bp cp go gm c) (f2,c2,v2) ⟨Ua,ac'⟩ [2,3,4] ahk I
end cZ
namespace cZ
open Go.RowKit dr eH aV ey eg bV dq
def jJ(g:eL):List (List Int)×List (List bV.Item)×Int:=if cL g≠0 then([],[],cL g)else match allI g.aF g.aT.toNat g.bM.toNat (kr g)with
 |some (Nx,S)=>(Nx,S,0)
 |none=>([],[],8)
def aal(g:eL):Spec (Value×Value×List Value×(Nat->Prop)×List Value×(Nat->Prop)):=⟨λ_=>True,λx=> .tuple #[aU #[x.1,x.2.1],av az (jJ g).2.2],λx=>[bD 273 1 x.1 (jJ g).2.1.length x.2.2.1,eO (bW IA) x.2.2.2.1 (x.2.2.1.map λv=>[v]) (jJ g).2.1,bD 26 1 x.2.1 (jJ g).1.length x.2.2.2.2.1,eO (bW fY) x.2.2.2.2.2 (x.2.2.2.2.1.map λv=>[v]) (jJ g).1]⟩
theorem Ld(w:World):(dR 203 (#[]:Array (Nat×Value))).run aC w= .ok (aU #[ap ak 0 0,ap ak 0 0]) w:=by kernel_rfl
theorem vd{l:List aV.Prod}{T:Nat}{s:List bV.Item}(hw:∀q∈l,q.2.length<=8)(hl:l.length<=40)(hT:T<=30)(h:∀it∈s,eU l T it):wu s:=λit hit=>by
 obtain⟨a1,a2,a3,a4,a5,a6⟩:=h it hit;have:=mQ (l:=l) (p:=it.1) hw;omega
theorem Xb.els{W:b9}{L Lx:List cU}{w:World}(hm:Mem W L w){i n:Nat}{F:Nat->Prop}{ww:List Value}{S:List (List bV.Item)}(hi:L[i]?=aj (eO (bW IA) F (ww.map λv=>[v]) S))(is:List Nat)(hL:Lx=is.filterMap λi=>L[i]?)(hni:i∉is){s:List bV.Item}(hs:S[n]?=aj s){v:Value}(hv:ww[n]?=aj v):Xb (b9.on w Lx) v s.length (s.flatMap jk):=by
 obtain⟨hn,rfl⟩:=dv.1 hs;obtain⟨⟨h1,h2⟩,h3⟩:=hm.get hi;have hnv:n<ww.length:=(dv.1 hv).1;obtain⟨v',e,hs⟩:=h2 n hn (by rw[dX];exact hnv);rw[sE]at e;obtain rfl:v=v':=by
  have:=(dv.1 hv).2;rw[this]at e;exact(WX e).1
 obtain⟨base,cap,rfl,a1,a2,a3⟩:=hs;refine⟨base,cap,rfl,a1,a2,λh0=>?_⟩;obtain⟨b,off,rfl,hF,_⟩:=a3 h0;have wI:=kH.flat (f:=jk) (c:=3) (hc:=λ_=>rfl) (p:=λ_=>True) (F:=F) ahk (⟨aj ⟨b,off,ak⟩,cap,rfl,a1,a2,a3⟩:kH IA F w _ S[n]);obtain⟨abV,HP,e',_,_,q⟩:=wI;obtain⟨b',Ag,e2,hr⟩:=q h0
 cases e'
 cases e2
 refine⟨b,off,rfl,⟨h3 b hF,?_⟩,hr⟩;rintro⟨o,ho,hfo⟩;subst hL;obtain⟨j,hj,Y_⟩:=Ou.1 ho;exact hm.owns.apart i j _ _ (λh=>hni (h▸hj)) hi Y_ b (.inr hF) hfo
theorem Xe{a b c k:Nat}(h1:a<=b+12000)(h2:b<=c+12000*k):a<=c+12000*(k+1):=by rw[Nat.mul_succ,<-l6];exact fI h1 (Nat.add_le_add_right h2 _)
theorem D0:∀(l:List Value),(l.map λv=>[v]).flatten=l
 |[]=>rfl
 |v::l=>by rw[gu,List.flatten_cons,D0 l];rfl
theorem Bj{w:World}{v:Value}{l:List Int}(hp:∀x∈l,dr.eD x)(h:(bD 3 1 v l.length (l.map (av .i64))).holds w):(bW fY).is (λk=>v.ownBlock=aj k) w [v] l:=
 ⟨v,rfl,kH.of_flat (by have:=Sl.dY h;rwa [show l.map (av .i64)=l.flatMap (λn=>[av .i64 n])by rw[List.map_eq_flatMap]]at this) hp (λ_ h=>h) (λa n cp hv=>by rw[hv];rfl)⟩
theorem Tc(v:Value)(g:eL)(w:World)(hG:kz (λk=>k<w.heap.size) w v g):
 Calls aC 86 #[v] w (cY (aal g) w):=by
 have hG0:=hG;have jr:=λw' (hg:Gr w w')=>jY v g w' (hG.gr hg);obtain⟨vp,rfl,hp,ht,hn⟩:=hG;obtain⟨vb,bp,cp,rfl,-,-,zr,oC⟩:=WH hp;have BH:=Iq g.aT g.bM (ap bp g.aF.length cp);have FV:=Ld;have hO:jJ g=if cL g≠0 then([],[],cL g)else match allI g.aF g.aT.toNat g.bM.toNat (kr g)with
  |some (Nx,S)=>(Nx,S,0)
  |none=>([],[],8):=rfl
 unfold aal;refine enter (args:=[ee g.aT g.bM (ap bp g.aF.length cp)]) (n:=81) Tryz.func86 I I I ?_;refine bC (aM (b_ I I I λg1=>?_));refine zL ?_
 try refine GA ?_
 refine bz I λg2=>?_;refine zL ?_
 repeat(first|refine GA ?_|refine gV (aQ (i:=0) aL.ty I I I) ?_)
 refine a8 (ju aJ.en I I) (λw hm=>jr w hm.below) I I I ?_;intro _ _;refine zL ?_
 by_cases c0:cL g=0
 ·rw[if_neg (by rw[c0];simp)]at hO
  rw[c0];obtain⟨hT1,hT2,hN1,hN2,Bi,hgb⟩:=de c0;have JT:∀q∈g.aF,q.2.length<=8:=λq hq=>(hgb q hq).1;obtain⟨T,IE⟩:∃T:Nat,g.aT=(T:Int):=⟨g.aT.toNat,by omega⟩;obtain⟨N,hNn⟩:∃N:Nat,g.bM=(N:Int):=⟨g.bM.toNat,by omega⟩;rw[show g.aT.toNat=T by omega,show g.bM.toNat=N by omega]at hO;have hT:T<=30:=by omega
  have aeH:0<g.aF.length->∃b off,bp=aj ⟨b,off,ak⟩/\∀i,i<g.aF.length->Rd w b (off+i*2) [av az (dC g.aF (i:Int)).1,vb i]:=λh=>let ⟨b,off,h1,_,h3⟩:=oC h;⟨b,off,h1,λi hi=>(h3 i hi).1⟩
  have lz:=λgo gm l0 vl h1 h2 w' B' J6 xo rB=>u_ g c0 bp cp vb w hG0 zr aeH go gm 0 (λ_=>ak) T IE hT l0 vl h1 h2 (λx v h=>by cases h) J w' B' J6 xo rB;have hst:=λgo gm c f s x vl h1 h2 h3 h4 w' B' J6 xo rB=>IF g c0 bp cp vb w hG0 zr aeH go gm c f T IE hT s x vl h1 h2 h3 h4 w' B' J6 xo rB;have JU:=Fh T N J J (ap bp g.aF.length cp)
  repeat(first|refine GA ?_|refine gV (aQ (i:=0) aL.ty I I I) ?_)
  refine a8 (ju aJ.en I I) (λw hm=>BH w) I I I ?_;rintro⟨go,gm⟩ _
  conv=>arg 8;simp only[zJ,dg,ret,id_eq,Z7]
  conv=>arg 7;simp only[Z7]
  try refine GA ?_
  refine Ai (K:=iE) I λgq=>?_;refine zL ?_
  try refine GA ?_
  refine bz I λg6=>?_;refine zL ?_;refine cD (i:=5) I I I I I I ?_;refine zL ?_
  try refine GA ?_
  refine bz I λg7=>?_;refine zL ?_
  repeat(first|refine GA ?_|refine gV (wk I I) ?_|refine gV (aB (v:=ap bp g.aF.length cp) aL.ty I (aH (i:=0) I I)) ?_|refine gV (aB (v:=av az g.aT) aL.ty I (aH (i:=0) I I)) ?_|refine gV (bP I (GS _ _)) ?_)
  refine fX (cs:=(jk ((g.aF.length:Int),0,g.aT)).toArray) I I I I I λg33=>?_;refine zL ?_;refine yr (i:=7) (m:=1) 3 I I ahk ?_;refine zL ?_;have Ub:∀x∈[(((g.aF.length:Int),0,g.aT):bV.Item)],eU g.aF T x:=by rw[IE];exact iJ Bi hT
  try refine GA ?_
  refine bK [3,2] [0,1,4,5,6] ahk I I (gK aJ.en I I I) (λw' hm hb=>lz go gm [((g.aF.length:Int),0,g.aT)] _ Ub (by simp) w' _ ((p_.self w).on hm λo h=>Cn h) (Xb.row hm (i:=7) I [3,2] I ahk) hb) I I I ?_;rintro⟨f2,c2,v2⟩ ⟨Ua,xt⟩
  conv=>arg 8;simp only[zJ,dg,ret,id_eq,uZ,opL]
  conv=>arg 7;simp only[uZ]
  have IG:j0 g.aF T (kr g) [((g.aF.length:Int),0,g.aT)]=nC g.aF T (kr g):=by rw[IE];rfl
  rw[IG];have ada:∀it∈nC g.aF T (kr g),eU g.aF T it:=jm JT Bi hT (iJ Bi hT);have aeI:=uU (lk:=kr g) JT Bi hT (l0:=[((g.aF.length:Int),0,(T:Int))]) (iJ Bi hT);have aeJ:(nC g.aF T (kr g)).length<=11439:=sJ JT Bi hT (iJ Bi hT);dsimp only at Ua xt;refine wg 273 1 ?_;refine Ke (eO (bW IA) (λ_=>False) [] []) (λk hk=>hk.elim (λh=>by cases h) id) (λw=>jD) ?_;refine zL ?_;have hsm:=vd JT Bi hT ada;have C_:jv [] (nC g.aF T (kr g))=(0,[nC g.aF T (kr g)]):=if_neg (by simp)
  try refine GA ?_
  refine bK [3,2,4,8,9,7] [0,1,5,6] ahk I I (BI aJ.en I I) (λw' hm hb=>Bf g6 gq g7 (ap ak 0 0) (ap ak 0 0) [] (λ_=>False) [] v2 (nC g.aF T (kr g)) (λt h=>by cases h) hsm (by simp) J w' _ hb) I I I ?_;rintro⟨vS,ww,F⟩ _
  conv=>arg 8;simp only[zJ,dg,ret,id_eq,stL]
  rw[C_];dsimp only;refine wg 26 1 ?_;refine Ke (eO (bW fY) (λ_=>False) [] []) (λk hk=>hk.elim (λh=>by cases h) id) (λw=>jD) ?_;refine zL ?_
  try refine GA ?_
  refine eK (ι:=Nat×List (List bV.Item)×List (List Int)×(RK->Option Value)×Nat×Value×Value×List Value×(Nat->Prop)×List Value×(Nat->Prop))
   (λ(n,S,Nx,f,c,_,_,_,_,_,_)=>n<=S.length/\Nx.length=n/\Il g.aF T (kr g) S/\S.length<=200/\wU g.aF T N (kr g) (202-n) n Nx S=allI g.aF T N (kr g)/\j_ (kr g) f/\c<=12000+1200000*n/\∀t∈S,t.length<=11439)
   (λ(n,_,_,_,_,_,_,_,_,_,_)=>[(1,aK (aj ⟨g1,0,ak⟩)),(2,aK (aj ⟨g2,0,ak⟩)),(5,aK (aj ⟨go,0,ak⟩)),(7,aK (aj ⟨g7,0,ak⟩)),(8,.func (.func 127) #[] #[aK (aj ⟨g6,0,ak⟩),aK (aj ⟨g7,0,ak⟩)]),(9,av az (n:Int))])
   (λ(_,S,Nx,f,c,vS,vN,ww,F,Bk,G)=>[aR g1 (ee g.aT g.bM (ap bp g.aF.length cp)).cells 33,aR g2 #[ap ak 0 0,ap ak 0 0] 203,aR go (Be g.aT g.bM (ap bp g.aF.length cp) gm).toArray 314,fD jo gm f c,aR g6 #[.map (aj gq)] 175,fD iE gq (kI (S.map iK)) S.length,aR g7 #[vS,vN] 203,bD 273 1 vS S.length ww,eO (bW IA) F (ww.map λv=>[v]) S,bD 26 1 vN Nx.length Bk,eO (bW fY) G (Bk.map λv=>[v]) Nx]) (λ(n,_,_,_,_,_,_,_,_,_,_)=>202-n)
   (0,[nC g.aF T (kr g)],[],f2,c2,vS,ap ak 0 0,ww,F,[],λ_=>False) ⟨bO _,rfl,⟨by simp,λs hs=>by rw[ep.1 hs];exact ada,λs hs=>by rw[ep.1 hs];exact aeI⟩,by simp,rfl,Ua,by omega,λt ht=>by rw[ep.1 ht];exact aeJ⟩ ?_
  clear lz ada aeI aeJ hsm C_ Ua xt Ub IG BH jr;rintro⟨n,S,Nx,f,c,vS,vN,ww,F,Bk,G⟩ ⟨i1,i2,i3,i4,i5,i6,i7,i8⟩;dsimp only at i1 i2 i3 i4 i5 i6 i7 i8⊢;refine iR (i:=7) I gO λij=>?_;obtain⟨aS,cS,rfl,-,haS⟩:=ij
  by_cases c1:n<S.length
  ·rw[show 202-n=(201-n)+1 by omega,wU,if_pos c1]at i5
   have Zd:S.getD n []=S[n]:=by rw[cK,bQ c1];rfl
   rw[Zd]at i5;have Ub:=i3.right S[n] (cV c1);have hsn:S[n]?=aj S[n]:=bQ c1;generalize T5:S[n]=s0 at*;have hyl:(mS T N).length=T+N:=yO T N;rw[<-IE,<-hNn]at JU;generalize mS T N=ys at*
   repeat(first|refine GA ?_|refine gV (aB (v:=ap aS S.length cS) aL.ty I (aH (i:=6) I I)) ?_|refine gV (aQ (i:=0) aL.ty I I I) ?_)
   refine a8 (ju aJ.en I I) (λw hm=>JU w) I I I ?_;intro vy _
   conv=>arg 8;simp only[zJ,dg,ret,id_eq,dg]
   conv=>arg 7;simp only[dg]
   refine qw (i:=11) I gO λij=>?_;obtain⟨ay,cy,rfl,-,hay⟩:=ij
   try refine GA ?_
   refine jy 3 1 ?_
   conv=>arg 7;simp only[zA,zB,zC,zD,zE,zF,zG,zH,zI,dg,ret,id_eq]
   refine eK (ι:=Nat×List Int×List (List bV.Item)×(RK->Option Value)×Nat×Value×List Value×(Nat->Prop)×Value)
    (λ(k,nx,S',f',c',_,_,_,_)=>k<=ys.length/\(∃E,S'=S++E)/\Il g.aF T (kr g) S'/\S'.length<=200/\yN g.aF T (kr g) s0 (ys.drop k) nx S'=yN g.aF T (kr g) s0 ys [] S/\j_ (kr g) f'/\c'<=c+12000*k/\nx.length=k/\(∀y∈nx,dr.eD y)/\∀t∈S',t.length<=11439)
    (λ(k,_,_,_,_,_,_,_,vx)=>[(1,aK (aj ⟨g1,0,ak⟩)),(2,aK (aj ⟨g2,0,ak⟩)),(5,aK (aj ⟨go,0,ak⟩)),(7,aK (aj ⟨g7,0,ak⟩)),(8,.func (.func 127) #[] #[aK (aj ⟨g6,0,ak⟩),aK (aj ⟨g7,0,ak⟩)]),(9,av az (n:Int)),(10,vx),(44,ap ay ys.length cy),(45,av az (ys.length:Int)),(46,av az (k:Int))])
    (λ(_,nx,S',f',c',vS',BQ,F',vx)=>[aR g1 (ee g.aT g.bM (ap bp g.aF.length cp)).cells 33,aR g2 #[ap ak 0 0,ap ak 0 0] 203,aR go (Be g.aT g.bM (ap bp g.aF.length cp) gm).toArray 314,fD jo gm f' c',aR g6 #[.map (aj gq)] 175,fD iE gq (kI (S'.map iK)) S'.length,aR g7 #[vS',vN] 203,bD 273 1 vS' S'.length BQ,eO (bW IA) F' (BQ.map λv=>[v]) S',bD 26 1 vN Nx.length Bk,eO (bW fY) G (Bk.map λv=>[v]) Nx,bD 148 2 (ap ay ys.length cy) ys.length (ys.flatMap eX),bD 3 1 vx nx.length (nx.map (av .i64))]) (λ(k,_,_,_,_,_,_,_,_)=>ys.length-k)
    (0,[],S,f,c,ap aS S.length cS,ww,F,ap ak 0 0) ⟨bO _,⟨[],(eB _).symm⟩,i3,i4,rfl,i6,by omega,rfl,(λy hy=>by cases hy),i8⟩ ?_
   clear JU;rintro⟨k,nx,S',f',c',vS',BQ,F',vx⟩ ⟨j1,⟨E,hE⟩,j3,j4,j5,j6,j7,j8,j9,j10⟩;dsimp only at j1 hE j3 j4 j5 j6 j7 j8 j9 j10⊢
   by_cases c2:k<ys.length
   ·have hn':n<S'.length:=by rw[hE,bT];omega
    have aeK:S'[n]?=aj s0:=by rw[hE,List.getElem?_append_left c1];exact hsn
    refine iR (i:=7) I gO λij=>?_;obtain⟨aS',cS',rfl,-,af8⟩:=ij;obtain⟨gS',rfl⟩:=af8 J;refine iR (i:=8) I (λw h=>h.1.1) λZc=>?_;rw[dX]at Zc;have hvn:BQ[0+n]?=aj (BQ[n]' J):=by rw[du];exact bQ _
    have aeL:BQ[n]?=aj (BQ[n]' J):=bQ _;generalize BQ[n]' J=vn at hvn aeL;obtain⟨gy,rfl⟩:=hay J;have d_:=λ(L:List cU) (i:Nat) (hL:L[i]?=aj (bD 148 2 (ap (aj ⟨gy,0,ak⟩) ys.length cy) ys.length (ys.flatMap eX)))=>ru (W:=(w:b9)) DQ hL c2;rw[ff c2,yN]at j5;generalize ys[k]=x at*;have rj:s0.length<=11439:=j10 s0 (mF aeK)
    repeat(first|refine GA ?_|refine gV (a_ bR.eq aL.ty I I c2) ?_|refine gV (bH (cs:=eX x) aL.ty I I (d_ _ 11 I)) ?_)
    refine bz I λg12=>?_;refine zL ?_;refine il 13 (cs':=(eX x).toArray) ?_;refine zL ?_
    try refine GA ?_
    refine eo ([aR g7 #[ap (aj ⟨gS',0,ak⟩) S'.length cS',vN] 203,bD 273 1 (ap (aj ⟨gS',0,ak⟩) S'.length cS') S'.length BQ,aR g12 (eX x).toArray 148]) (.calm 0 (.calm 1 (.calm 2 (.calm 3 (.calm 4 (.calm 5 (.calm 6 (.one 7 (.calm 8 (.done)))))))))) (cH [6,7,13]) ?_
    repeat(first|refine GW ?_|(refine GN ?_;first|refine QW (aB (v:=ap (aj ⟨gS',0,ak⟩) S'.length cS') aL.ty I (aH (i:=0) I I)) ?_|refine QW (cT bR.eq aL.ty I I hn') ?_|refine QW (aB (v:=vn) aL.ty I (kx (i:=1) I hvn)) ?_|refine QW (aQ (i:=2) aL.ty I I I) ?_))
    refine aO I ?_;refine bK [2,3] [0,1,4,5,6,7,8,9,10,11,12,13] ahk I I (tH aJ.en I I I I) (λw' hm hb=>hst go gm c' f' s0 x vn Ub J j6 J w' _ ((p_.self w).on hm λo h=>Cn h) (Xb.els hm (i:=8) I [2,3] I ahk aeK aeL) hb) I I I ?_;rintro⟨f2,T_,v2⟩ ⟨Ua,xt⟩;dsimp only at Ua xt
    conv=>arg 8;simp only[zJ,dg,ret,id_eq,uZ,opL]
    conv=>arg 7;simp only[uZ]
    rw[show j0 g.aF T (kr g) (mR g.aF s0 x)=jn g.aF T (kr g) s0 x from I];refine aP (cH [4,5,11]) ?_
    try refine GW ?_
    try refine GA ?_
    refine qw (i:=14) I gO λij=>?_;obtain⟨a2,cv2,rfl,-,ha2⟩:=ij;obtain⟨hlE,hlC,hlS⟩:=Gv (lk:=kr g) JT Bi hT j3 Ub x;have hcc:T_<=c+12000*(k+1):=Xe xt j7;have af9:∀it∈jn g.aF T (kr g) s0 x,eU g.aF T it:=jm JT Bi hT (k9 Ub);have af_:(jn g.aF T (kr g) s0 x).length<=11439:=sJ JT Bi hT (k9 Ub)
    by_cases c3:jn g.aF T (kr g) s0 x=[]
    ·have hcell:qD g.aF T (kr g) s0 x S'=(-1,S'):=if_pos c3
     rw[hcell,if_neg (by show ¬200<S'.length;omega)]at j5;dsimp only at j5;have hl0:(jn g.aF T (kr g) s0 x).length=0:=by rw[c3];rfl
     repeat(first|refine GA ?_|refine gV (aB (v:=ap (aj ⟨gS',0,ak⟩) S'.length cS') aL.ty I (aH (i:=4) I I)) ?_)
     refine kh (i:=10) I I I I I I (λz h=>by cases h;rfl) J J I λz vx'=>?_;refine zL ?_
     try refine GA ?_
     refine dS [0,1,12,13,2,3,4,5,6,7,8,9,10] ?_;exact cJ (k+1,nx++[-1],S',f2,T_,ap (aj ⟨gS',0,ak⟩) S'.length cS',BQ,F',vx') ⟨by show k+1<=ys.length;omega,⟨E,hE⟩,j3,j4,j5,Ua,hcc,by show(nx++[-1]).length=k+1;rw[bT,j8];rfl,λy hy=>(fC.1 hy).elim (j9 y) λh=>by rw[ep.1 h];exact⟨by omega,by omega⟩,j10⟩ (by show ys.length-(k+1)<ys.length-k;omega) (hl:=by dsimp only;rw[bT,ft];rfl)
    have hcell:qD g.aF T (kr g) s0 x S'=(((jv S' (jn g.aF T (kr g) s0 x)).1:Int),(jv S' (jn g.aF T (kr g) s0 x)).2):=if_neg c3;have hsm:=vd JT Bi hT af9;have hSm:∀t∈S',wu t:=λt ht=>vd JT Bi hT (j3.right t ht);have AA:0<(jn g.aF T (kr g) s0 x).length:=List.length_pos_iff.2 c3;have hq:(jv S' (jn g.aF T (kr g) s0 x)).1<=S'.length:=by
     unfold jv;split
     ·rename_i hm;exact Nat.le_of_lt (nu hm)
     exact bJ _
    rw[hcell]at j5 hlE hlC hlS;dsimp only at j5 hlE hlC hlS
    try refine GA ?_
    refine bK [2,3,4,5,6,14] [0,1,7,8,9,10,11,12,13] ahk I I (BI aJ.en I I) (λw' hm hb=>Bf g6 gq g7 (ap (aj ⟨gS',0,ak⟩) S'.length cS') vN BQ F' S' _ (jn g.aF T (kr g) s0 x) hSm hsm J J w' _ hb) I I I ?_;rintro⟨vS2,af',F2⟩ _
    conv=>arg 8;simp only[zJ,dg,ret,id_eq,stL]
    have D5:∀t∈(jv S' (jn g.aF T (kr g) s0 x)).2,t.length<=11439:=by
     unfold jv;split;exact j10;intro t ht;rcases fC.1 ht with h|h
     exact j10 t h;rw[ep.1 h];exact af_
    generalize jv S' (jn g.aF T (kr g) s0 x)=R at*;obtain⟨q,S2⟩:=R;dsimp only at j5 hlE hlC hlS hq D5⊢;refine qw (i:=12) I gO λij=>?_;obtain⟨aS2,cS2,rfl,-,ag1⟩:=ij;obtain⟨E2,hE2⟩:=hlE
    by_cases c4:200<S2.length
    ·rw[if_pos c4]at j5
     rw[<-j5]at i5
     repeat(first|refine GC ?_|refine gV (aB (v:=ap aS2 S2.length cS2) aL.ty I (aH (i:=11) I I)) ?_|refine gV (bB (b:=aD) I I (decide_eq_true J)) ?_|refine gV (bP I FV) ?_|refine GB ?_)
     have hOn:jJ g=([],[],8):=by rw[hO,<-i5]
     rw[hOn];refine il 1 ?_;refine zL ?_
     try refine GA ?_
     refine ef 273 1 (qu (eO (bW IA) (λ_=>False) [] []) (λk hk=>hk.elim (λh=>by cases h) id) (λw=>jD) (ef 26 1 (qu (eO (bW fY) (λ_=>False) [] []) (λk hk=>hk.elim (λh=>by cases h) id) (λw=>jD) ?_)));exact e8 (i:=1) I I I I I λw hm=>hm.meets (S:=⟨λ(_:Value×Value×List Value×(Nat->Prop)×List Value×(Nat->Prop))=>True,λx=> .tuple #[aU #[x.1,x.2.1],av az 8],λx=>[bD 273 1 x.1 0 x.2.2.1,eO (bW IA) x.2.2.2.1 (x.2.2.1.map λv=>[v]) [],bD 26 1 x.2.1 0 x.2.2.2.2.1,eO (bW fY) x.2.2.2.2.2 (x.2.2.2.2.1.map λv=>[v]) []]⟩) (ap ak 0 0,ap ak 0 0,[],λ_=>False,[],λ_=>False) trivial [14,15,16,17] ahk I
    rw[if_neg c4]at j5
    repeat(first|refine GC ?_|refine gV (aB (v:=ap aS2 S2.length cS2) aL.ty I (aH (i:=11) I I)) ?_|refine gV (bB (b:=aE) I I (decide_eq_false J)) ?_|refine GB ?_)
    refine kh (i:=5) I I I I I I (λz h=>by cases h;rfl) J J I λz vx'=>?_;refine zL ?_
    try refine GA ?_
    refine dS [0,1,7,8,9,10,11,12,13,2,3,4,5] ?_;exact cJ (k+1,nx++[(q:Int)],S2,f2,T_,ap aS2 S2.length cS2,af',F2,vx') ⟨by show k+1<=ys.length;omega,⟨E++E2,by rw[hE2,hE,eZ]⟩,hlS,by show S2.length<=200;omega,j5,Ua,hcc,by show(nx++[(q:Int)]).length=k+1;rw[bT,j8];rfl,λy hy=>(fC.1 hy).elim (j9 y) λh=>by rw[ep.1 h];exact⟨by omega,by omega⟩,λt ht=>D5 t ht⟩ (by show ys.length-(k+1)<ys.length-k;omega) (hl:=by dsimp only;rw[bT,ft];rfl)
   obtain rfl:k=ys.length:=by omega
   rw[pO (bJ _),yN]at j5;rw[<-j5]at i5;dsimp only at i5
   repeat(first|refine GA ?_|refine gV (aB (v:=vN) aL.ty I (aH (i:=6) I I)) ?_)
   refine aY (i:=12) I λNv Ny=>?_;refine kh (i:=9) I I Nv Ny I I (λz h=>by cases h;rfl) J J I λz vN'=>?_;refine zL ?_;refine pj (eO (bW fY) (λk=>G k\/vx.ownBlock=aj k) ((Bk.map λv=>[v])++[[vx]]) (Nx++[nx])) 12 10 [0,1,2,3,4,5,6,7,8,9] ahk I I I (λk hk=>hk.elim (λh=>by cases h) λh=>h.elim (λh=> .inr (.inr h)) λh=> .inl (.inl h)) (λw hr he=>mM he (Bj j9 hr) (yV hr)) ?_;refine zL ?_
   try refine GA ?_
   refine aY (i:=9) I λlm lW=>cD (i:=6) I I I lm lW I ?_;refine zL ?_
   try refine GA ?_
   exact cJ (n+1,S',Nx++[nx],f',c',vS',vN',BQ,F',Bk++[vx],λk=>G k\/vx.ownBlock=aj k) ⟨by show n+1<=S'.length;rw[hE,bT];omega,by show(Nx++[nx]).length=n+1;rw[bT,i2];rfl,j3,j4,by show wU g.aF T N (kr g) (202-(n+1)) (n+1) (Nx++[nx]) S'=_;rw[show 202-(n+1)=201-n by omega];exact i5,j6,by dsimp only;omega,j10⟩ (by show 202-(n+1)<202-n;omega) (hl:=by dsimp only;rw[bT,ft];rfl)
  have hA:allI g.aF T N (kr g)=aj (Nx,S):=by rw[<-i5,show 202-n=(201-n)+1 by omega,wU,if_neg c1]
  rw[hA]at hO;have hO:jJ g=(Nx,S,0):=hO;rw[hO];refine iR (i:=9) I gO λij=>?_;obtain⟨aN,cN,rfl,-⟩:=ij
  repeat(first|refine GA ?_|refine gV (aB (v:=ap aS S.length cS) aL.ty I (aH (i:=6) I I)) ?_|refine gV (aQ (i:=6) aL.ty I I I) ?_)
  refine il 1 (cs':=#[ap aS S.length cS,ap aN Nx.length cN]) ?_;refine zL ?_
  try refine GA ?_
  exact e8 (i:=1) I I I I I λw hm=>hm.meets (S:=⟨λ(_:Value×Value×List Value×(Nat->Prop)×List Value×(Nat->Prop))=>True,λx=> .tuple #[aU #[x.1,x.2.1],av az 0],λx=>[bD 273 1 x.1 S.length x.2.2.1,eO (bW IA) x.2.2.2.1 (x.2.2.1.map λv=>[v]) S,bD 26 1 x.2.1 Nx.length x.2.2.2.2.1,eO (bW fY) x.2.2.2.2.2 (x.2.2.2.2.1.map λv=>[v]) Nx]⟩) (ap aS S.length cS,ap aN Nx.length cN,ww,F,Bk,G) trivial [7,8,9,10] ahk I
 ·rw[if_pos c0]at hO
  rw[hO]
  repeat(first|refine GC ?_|refine gV (bm (b:=aD) I I (decide_eq_true c0)) ?_|refine gV (bP I FV) ?_|refine GB ?_)
  refine il 1 ?_;refine zL ?_
  try refine GA ?_
  refine ef 273 1 (qu (eO (bW IA) (λ_=>False) [] []) (λk hk=>hk.elim (λh=>by cases h) id) (λw=>jD) (ef 26 1 (qu (eO (bW fY) (λ_=>False) [] []) (λk hk=>hk.elim (λh=>by cases h) id) (λw=>jD) ?_)));exact e8 (i:=1) I I I I I λw hm=>hm.meets (S:=⟨λ(_:Value×Value×List Value×(Nat->Prop)×List Value×(Nat->Prop))=>True,λx=> .tuple #[aU #[x.1,x.2.1],av az (cL g)],λx=>[bD 273 1 x.1 0 x.2.2.1,eO (bW IA) x.2.2.2.1 (x.2.2.1.map λv=>[v]) [],bD 26 1 x.2.1 0 x.2.2.2.2.1,eO (bW fY) x.2.2.2.2.2 (x.2.2.2.2.1.map λv=>[v]) []]⟩) (ap ak 0 0,ap ak 0 0,[],λ_=>False,[],λ_=>False) trivial [2,3,4,5] ahk I
end cZ
namespace bV
open aV ey dq
section
variable{l:List aV.Prod}{T N:Nat}{lk:Int->Int->Nat}{Nx:List (List Int)}{S:List (List Item)}
theorem Le{P:List Item->Prop}(hP:∀s x,(∀it∈s,eU l T it)->P s->P (jn l T lk s x)){s:List Item}(hs:∀it∈s,eU l T it)(h0:P s):∀(xs:List dV) (nx:List Int) (S:List (List Item)) (WG:List Int) (S':List (List Item)),(∀s∈S,P s)->yN l T lk s xs nx S=aj (WG,S')->∀s∈S',P s
 | [],nx,S,WG,S',hS,h=>by
  simp only[yN,dB,gH]at h;obtain⟨_,rfl⟩:=h;exact hS
 | x::xs,nx,S,WG,S',hS,h=>by
  rw[yN]at h
  by_cases c:200<(qD l T lk s x S).2.length
  rw[if_pos c]at h;cases h;rw[if_neg c]at h;refine Le hP hs h0 xs _ _ WG S' ?_ h;intro s' xo;unfold qD at xo;split at xo;exact hS s' xo;unfold jv at xo;dsimp only at xo;split at xo;exact hS s' xo;rcases fC.1 xo with h'|h'
  exact hS s' h';rw[ep.1 h'];exact hP s x hs h0
theorem D6{P:List Item->Prop}(hw:∀q∈l,q.2.length<=8)(hl:l.length<=40)(hT:T<=30)(hP:∀s x,(∀it∈s,eU l T it)->P s->P (jn l T lk s x)):∀(f n:Nat) (Nx:List (List Int)) (S:List (List Item)) (Nx':List (List Int)) (S':List (List Item)),(∀s∈S,P s/\∀it∈s,eU l T it)->wU l T N lk f n Nx S=aj (Nx',S')->∀s∈S',P s
 |0,_,_,_,_,_,_,h=>by cases h
 | f + 1,n,Nx,S,Nx',S',hS,h=>by
  rw[wU]at h
  by_cases c:n<S.length
  ·rw[if_pos c]at h
   have xU:S.getD n []=S[n]:=by rw[cK,bQ c];rfl
   have hn:=hS _ (cV c);rw[<-xU]at hn
   cases e:yN l T lk (S.getD n []) (mS T N) [] S with
   |none=>rw[e]at h;cases h
   | some r=>
    obtain⟨nx,S1⟩:=r;rw[e]at h;dsimp only at h;have hQ:∀s x,(∀it∈s,eU l T it)->(P s/\∀it∈s,eU l T it)->P (jn l T lk s x)/\∀it∈jn l T lk s x,eU l T it:=λs x h1 h2=>⟨hP s x h1 h2.1,jm hw hl hT (k9 h1)⟩;exact D6 hw hl hT hP f (n+1) _ S1 Nx' S' (Le hQ hn.2 hn (mS T N) [] S nx S1 hS e) h
  rw[if_neg c]at h;simp only[dB,gH]at h;obtain⟨_,rfl⟩:=h;exact λs hs=>(hS s hs).1
theorem aam(hw:∀q∈l,q.2.length<=8)(hl:l.length<=40)(hT:T<=30)(h:allI l T N lk=aj (Nx,S)):∀q,q<S.length->∀it∈S.getD q [],it.1=(l.length:Int)->it.2.2=(T:Int):=by
 have T5:∀it∈nC l T lk,eU l T it:=jm hw hl hT (iJ hl hT);have Lb:∀{it2 it:Item},Ik l T lk it2 it->it.1<(l.length:Int):=λ{it2 it} h=>by
  obtain⟨_,i,k,_,h2,_,_,_,rfl⟩:=h;show(i:Int)<_
  omega
 have:=D6 (P:=λs=>∀it∈s,it.1=(l.length:Int)->it.2.2=(T:Int)) (N:=N) hw hl hT (λs x hs hP it hit h1=>by
  have hm:=(iP (lk:=lk) hw hl hT (k9 (x:=x) hs) (x:=it)).1 hit
  cases hm with
  |base hb=>
   obtain⟨it',h2,h3,rfl⟩:=KS.1 hb;exact hP it' h2 h1
  |step _ h2=>have:=Lb h2;omega) 202 0 [] [nC l T lk] Nx S (λs hs=>by
   rw[ep.1 hs];refine⟨λit hit h1=>?_,T5⟩;have hm:=(iP (lk:=lk) hw hl hT (iJ hl hT) (x:=it)).1 hit
   cases hm with
   |base hb=>rw[ep.1 hb]
   |step _ h2=>have:=Lb h2;omega) h
 intro q hq it hit h1;have xU:S.getD q []=S[q]:=by rw[cK,bQ hq];rfl
 rw[xU]at hit;exact this _ (cV hq) it hit h1
theorem aan(hw:∀q∈l,q.2.length<=8)(hl:l.length<=40)(hT:T<=30)(h:allI l T N lk=aj (Nx,S)):∀s∈S,s.length<=11439:=
 D6 (P:=λs=>s.length<=11439) (N:=N) hw hl hT (λs x hs _=>sJ hw hl hT (k9 hs)) 202 0 [] [nC l T lk] Nx S (λs hs=>by
  rw[ep.1 hs];exact⟨sJ hw hl hT (iJ hl hT),jm hw hl hT (iJ hl hT)⟩) h
end
end bV
namespace cZ
open Go.RowKit dr eH aV ey eg bV dq
theorem QO{g:eL}(h:(jJ g).2.2=0):cL g=0/\allI g.aF g.aT.toNat g.bM.toNat (kr g)=aj ((jJ g).1,(jJ g).2.1):=by
 unfold jJ at h⊢
 by_cases c:cL g=0
 ·rw[if_neg (by rw[c];simp)]at h⊢
  refine⟨c,?_⟩
  cases e:allI g.aF g.aT.toNat g.bM.toNat (kr g)with
  |none=>rw[e]at h;cases h
  |some r=>rfl
 rw[if_pos c]at h;exact absurd h c
theorem aao{g:eL}(h:(jJ g).2.2≠0):(jJ g).2.1=[]/\(jJ g).1=[]:=by
 unfold jJ at h⊢
 by_cases c:cL g=0
 ·rw[if_neg (by rw[c];simp)]at h⊢
  cases e:allI g.aF g.aT.toNat g.bM.toNat (kr g)with
  |none=>exact⟨rfl,rfl⟩
  |some r=>rw[e]at h;exact absurd I h
 rw[if_pos c];exact⟨rfl,rfl⟩
end cZ
namespace cZ
open Go.RowKit dr eH
theorem km(a:Int):(dr.eV a).length=1:=rfl
end cZ
namespace cZ
open Go.RowKit dr eH
theorem BR(v:Value)(l:List Int)(w:World)(hs:Sl w v l.length (l.flatMap dr.eV))(hl:l.length*8<=140737488355328):
 Calls aC 97 #[v] w (cY (dg 3 1 l.length (l.flatMap dr.eV) id) w):=by
 obtain⟨base,cap,rfl,lR,kA,fl⟩:=hs;unfold maxLen at kA;refine enter (args:=[ap base l.length cap]) (n:=8) Tryz.func97 I I I ?_;have rj:∀w',Gr w w'->Sl w' (ap base l.length cap) l.length (l.flatMap dr.eV):=λw' hg=>Sl.gr ⟨base,cap,rfl,lR,kA,fl⟩ hg;clear fl
 cases base with
 | none=>
  repeat(first|refine GC ?_|refine gV (ki bR.eq I I I) ?_|refine GB ?_)
  have h0:l=[]:=by
   cases l with
   |nil=>rfl
   |cons x l=>obtain⟨_,_,h,_,_,h2⟩:=rj w (Gr.refl w);simp only[jQ]at h;obtain⟨rfl,_⟩:=h;obtain⟨b,off,h,_⟩:=h2 (by simp);cases h
  subst h0;refine ef 3 1 ?_;exact da I I λw hm=>hm.meets (S:=dg 3 1 0 [] id) _ trivial [0] ahk I
 |some p=>
  repeat(first|refine GC ?_|refine gV (ki bR.eq I I I) ?_|refine GB ?_)
  refine wj I λg=>?_
  try refine GA ?_
  refine fc (i:=0) I (λw' hm=>rj w' hm.below) I I (lD km l) (Qp l) J J I λv'=>?_;rw[fg]
  try refine GA ?_
  refine da I I λw hm=>?_;exact hm.meets (S:=dg 3 1 l.length (l.flatMap dr.eV) id) v' trivial [0] ahk (by simp[dg])
end cZ
namespace cZ
open Go.RowKit dr eH
def boC(b:Bool):List Value:=[.bool b]
theorem QQ(a:Bool):(boC a).length=1:=rfl
end cZ
namespace cZ
open Go.RowKit dr eH dT fq
theorem aap{F:Nat->Prop}{w:World}{cs:List Value}{l:List Int}(h:(bW fY).is F w cs l):∃v,cs=[v]/\Sl w v l.length (l.flatMap dr.eV):=by
 obtain⟨v,h1,h2⟩:=h;exact⟨v,h1,h2.flat ahk⟩
theorem sP{w w':World}{v:Value}{l:List (List Int)}(h:kH (bW fY) (ri w) w v l)(hg:Gr w w'):kH (bW fY) (ri w') w' v l:=
 (h.stay λk hk=>hg.block k hk).mono λ_ hk=>jf hk hg.size
def Fo(w:World)(v:Value)(m:MS):Prop:=
 ∃ vc vr vf vfol vl ve,v=aU #[vc,vr,vf,vfol,vl,ve]/\Sl w vc m.ps.bx.length (m.ps.bx.flatMap fh)/\Sl w vr m.ps.rules.length (m.ps.rules.flatMap dr.eV)/\Sl w vf m.first.length (m.first.flatMap dr.eV)/\
  kH (bW fY) (ri w) w vfol m.ps.follow/\Sl w vl m.ps.last.length (m.ps.last.flatMap boC)/\Sl w ve m.empty.length (m.empty.flatMap boC)
theorem Fo.gr{w w':World}{v:Value}{m:MS}(h:Fo w v m)(hg:Gr w w'):Fo w' v m:=by
 obtain⟨vc,vr,vf,vfol,vl,ve,h0,h1,h2,h3,h4,h5,h6⟩:=h;exact⟨vc,vr,vf,vfol,vl,ve,h0,h1.gr hg,h2.gr hg,h3.gr hg,sP h4 hg,h5.gr hg,h6.gr hg⟩
end cZ
namespace cZ
open Go.RowKit dr eH dT iA fq
theorem Lf(l:List Bool):l.flatMap boC=l.map gi:=Ay l
theorem aaq{w:World}{x:PIx}{m:MS}(hl:x.vs.length=m.ps.follow.length)(h0:(bD 116 4 x.vc m.ps.bx.length (m.ps.bx.flatMap fh)).holds w)(h1:(gZ x.vr m.ps.rules).holds w)(h2:(gZ x.vf m.first).holds w)(h3:(xV x.vfol x.vs).holds w)(h4:(uX x.F x.vs m.ps.follow).holds w)
 (h5:(bD 4 1 x.vl m.ps.last.length (m.ps.last.map gi)).holds w) (h6:(bD 4 1 x.ve m.empty.length (m.empty.map gi)).holds w):Fo w (.agg (Oy x)) m:=by
 refine⟨_,_,_,_,_,_,rfl,Sl.dY h0,?_,?_,aaa h3 h4 hl,?_,?_⟩
 ·rw[rK];exact Sl.dY h1
 ·rw[rK];exact Sl.dY h2
 ·rw[Lf];exact Sl.dY h5
 ·rw[Lf];exact Sl.dY h6
theorem Mem.aga{w:World}{B:b9}{L:List cU}{x:PIx}{m:MS}(i:Nat)(hm:Mem B L w)(hl:x.vs.length=m.ps.follow.length)(h:Ox x m=[i,i+1,i+2,i+3,i+4,i+5,i+6].filterMap λj=>L[j]?)(hlen:i+6<L.length):Fo w (.agg (Oy x)) m:=by
 have g:∀j,j<7->∃o,L[i+j]?=aj o/\(Ox x m)[j]?=aj o:=by
  intro j hj;have e:∀k,k<7->∃o,L[i+k]?=aj o:=λk hk=>⟨_,bQ J⟩;rw[h];obtain⟨o0,e0⟩:∃o,L[i]?=aj o:=e 0 J;obtain⟨o1,e1⟩:=e 1 J;obtain⟨o2,e2⟩:=e 2 J;obtain⟨o3,e3⟩:=e 3 J;obtain⟨o4,e4⟩:=e 4 J;obtain⟨o5,e5⟩:=e 5 J;obtain⟨o6,e6⟩:=e 6 J;simp only[List.filterMap_cons,e0,e1,e2,e3,e4,e5,e6,List.filterMap_nil]
  match j,hj with
  |0,_=>exact⟨_,e0,rfl⟩
  |1,_=>exact⟨_,e1,rfl⟩
  |2,_=>exact⟨_,e2,rfl⟩
  |3,_=>exact⟨_,e3,rfl⟩
  |4,_=>exact⟨_,e4,rfl⟩
  |5,_=>exact⟨_,e5,rfl⟩
  |6,_=>exact⟨_,e6,rfl⟩
 have k:∀j o,j<7->(Ox x m)[j]?=aj o->o.holds w:=λj o hj ho=>by
  obtain⟨o',h1,h2⟩:=g j hj;rw[h2]at ho
  cases ho
  exact hm.get h1
 exact aaq hl (k 0 _ J I) (k 1 _ J I) (k 2 _ J I) (k 3 _ J I) (k 4 _ J I) (k 5 _ J I) (k 6 _ J I)
end cZ
namespace fq
open dT iA
structure II(m:MS):Prop where
 ok:Ow m
 rules:∀r∈m.ps.rules,0<=r/\r<m.empty.length
 BO:m.ps.bx.length<=200
 some:0<m.empty.length
 qY:m.empty.length<=20
theorem nF(bY:Int):∀(e:Re) (p:PS),(∀r∈p.rules,0<=r/\r<=bY)->0<=bY->∀r∈(db bY e p).2.rules,0<=r/\r<=bY
 | .empty,p,h,_=>h
 | .none,p,h,_=>h
 | .byte c,p,h,h0=>λr hr=>by
  have hr:r∈p.rules++[bY]:=hr;rcases fC.1 hr with hr|hr
  exact h r hr;rw[ep.1 hr];omega
 | .star a,p,h,h0=>nF bY a p h h0
 | .HR a b,p,h,h0=>nF bY b _ (nF bY a p h h0) h0
 | .HQ a b,p,h,h0=>nF bY b _ (nF bY a p h h0) h0
theorem IJ:∀(es:List Re) (i:Nat) (m m':MS),Ow m->m.empty.length=i->(∀r∈m.ps.rules,0<=r/\r<i)->m.ps.bx.length<=200->oD i m es=(0,m')->Ow m'/\m'.empty.length=i+es.length/\(∀r∈m'.ps.rules,0<=r/\r<(i+es.length:Nat))/\m'.ps.bx.length<=200
 | [],i,m,m',h1,h2,h3,h4,h=>by
  cases h
  exact⟨h1,h2,λr hr=>by have:=h3 r hr;simpa using this,h4⟩
 | e ::r,i,m,m',h1,h2,h3,h4,h=>by
  rw[oD]at h;split at h
  cases h
  rename_i c
  have:=IJ r (i+1) (GI i m e) m' (QH i h1 e).1 (by show(m.empty++[_]).length=_;simp[h2]) (λx hx=>by
   have:=nF i e m.ps (λr hr=>by have:=h3 r hr;omega) J x hx;omega) J h
  rw[dE];rw[show i+(r.length+1)=i+1+r.length by omega];exact this
theorem IK{es:List Re}{m:MS}(h0:0<es.length)(h20:es.length<=20)(h:oD 0 .zero es=(0,m)):II m:=by
 obtain⟨h1,h2,h3,h4⟩:=IJ es 0 .zero m Iy rfl (λr hr=>by cases hr) (bO _) h;rw[du]at h2 h3;exact⟨h1,λr hr=>by have:=h3 r hr;omega,h4,by omega,by omega⟩
end fq
namespace cZ
open Go.RowKit dr eH dT iA fq
theorem Bl(v:Value)(l:List Int)(n:Nat)(w:World)(hv:Sl w v l.length (l.flatMap dr.eV))(h:GG n l):
 Calls aC 150 #[v,av az (n:Int)] w (cY (ret (.bool aD)) w):=by
 obtain⟨base,cap,rfl,lR,kA,fl⟩:=hv;unfold maxLen at kA;refine enter (args:=[ap base l.length cap,av az (n:Int)]) (n:=35) Tryz.func150 I I I ?_
 try refine GA ?_
 refine eK (ι:=Nat) (λk=>k<=l.length) (λk=>[(0,ap base l.length cap),(1,av az (n:Int)),(7,ap base l.length cap),(8,av az l.length),(9,av az (k:Int))]) (λ_=>[]) (λk=>l.length-k) 0 (bO _) ?_;intro k h1
 by_cases c2:k<l.length
 ·obtain⟨b,off,rfl,hr⟩:=fl J
  have d_:=iB (L:=([]:List cU)) km hr c2 0 _ I;have hx:=h.2 _ (cV c2)
  by_cases c3:0<k
  ·have hp:=List.pairwise_iff_getElem.1 h.1 (k-1) k J c2 J
   have tC:=iB (L:=([]:List cU)) km hr (k:=k-1) J 0 _ I;generalize l[k]=x at*;generalize l[k-1]' J=y at*
   repeat(first|refine GC ?_|refine gV (a_ bR.eq aL.ty I I c2) ?_|refine gV (aB (v:=av az x) aL.ty I d_) ?_|refine gV (aW (b:=aE) I I (decide_eq_false J)) ?_|refine gV (a_ (j:=k-1) bR.eq aL.ty I I J) ?_|refine gV (aB (v:=av az y) aL.ty I tC) ?_|refine gV (dQ (b:=aE) I I (decide_eq_false J)) ?_|refine gV (bB (b:=aD) I I (decide_eq_true J)) ?_|refine gV (df (r:=((k-1:Nat):Int)) I I J J J) ?_|refine gV (zX (b:=aE) I I (decide_eq_false J)) ?_|refine GB ?_)
   exact cJ (k+1) J (by show l.length-(k+1)<l.length-k;omega)
  generalize l[k]=x at*
  repeat(first|refine GC ?_|refine gV (a_ bR.eq aL.ty I I c2) ?_|refine gV (aB (v:=av az x) aL.ty I d_) ?_|refine gV (aW (b:=aE) I I (decide_eq_false J)) ?_|refine gV (dQ (b:=aE) I I (decide_eq_false J)) ?_|refine gV (bB (b:=aE) I I (decide_eq_false J)) ?_|refine GB ?_)
  exact cJ (k+1) J (by show l.length-(k+1)<l.length-k;omega)
 ·try refine GA ?_
  exact fa
theorem AB{w:World}{b off:Nat}{l:List (List Int)}{F:Nat->Prop}(hr:∀i (h:i<l.length),∃cs,(bW fY).is F w cs l[i]/\Rd w b (off+i*(bW fY).c) cs){k:Nat}(hk:k<l.length):∃u,Sl w u l[k].length (l[k].flatMap dr.eV)/\Rd w b (off+k*1) [u]:=by
 obtain⟨cs,h1,h2⟩:=hr k hk;obtain⟨u,rfl,h3⟩:=aap h1;exact⟨u,h3,h2⟩
theorem D7(v:Value)(m:MS)(w:World)(hp:Fo w v m)(h:II m):
 Calls aC 114 #[v] w (cY (ret (av az 0)) w):=by
 obtain⟨vc,vr,vf,vfol,vl,ve,rfl,h1,h2,h3,h4,h5,h6⟩:=hp;have hmR:=h.rules;have hmf:=h.BO;have hms:=h.some;have tw:=h.qY;have l1:=h.ok.ps.rules;have l2:=h.ok.ps.follow;have l3:=h.ok.ps.last;have q1:=λw' (hg:Gr w w')=>Bl vf m.first m.ps.bx.length w' (h3.gr hg) h.ok.first;have Xf:=h.ok.ps.ris;clear h h3;obtain⟨⟨cl,rul,nf,la⟩,fi,em⟩:=m;dsimp only at*;rw[l1]at h2;obtain⟨ac,cc,rfl,_⟩:=h1;obtain⟨ar,cr,rfl,hcr,hmr,hrr⟩:=h2;obtain⟨afo,cfo,rfl,hcf,ag2,hrf⟩:=h4;obtain⟨al,cl2,rfl,_⟩:=h5;obtain⟨ae,ce,rfl,_⟩:=h6;rw[l2]at hcf;unfold maxLen at*;have q1':=q1;clear q1;generalize hn:cl.length=n at*;refine enter (args:=[aU #[ap ac n cc,ap ar n cr,vf,ap afo nf.length cfo,ap al la.length cl2,ap ae em.length ce]]) (n:=80) Tryz.func114 I I I ?_;refine bC (aM (b_ I I I λg1=>?_));refine zL ?_
 repeat(first|refine GC ?_|refine gV (aB (v:=ap ac n cc) aL.ty I (aH (i:=0) I I)) ?_|refine gV (aB (v:=ap ar n cr) aL.ty I (aH (i:=0) I I)) ?_|refine gV (aB (v:=ap afo nf.length cfo) aL.ty I (aH (i:=0) I I)) ?_|refine gV (aB (v:=ap al la.length cl2) aL.ty I (aH (i:=0) I I)) ?_|refine gV (aB (v:=ap ae em.length ce) aL.ty I (aH (i:=0) I I)) ?_|refine gV (aB (v:=vf) aL.ty I (aH (i:=0) I I)) ?_|refine gV (bm (b:=aE) I I (decide_eq_false J)) ?_|refine gV (bB (b:=aE) I I (decide_eq_false J)) ?_|refine gV (aX (b:=aE) I I (decide_eq_false J)) ?_|refine GB ?_)
 refine mJ (gK aJ.en I I I) (λw hm=>q1' _ hm.below) I I I I I ?_;intro _ _;refine zL ?_;clear q1'
 try refine GA ?_
 refine eK (ι:=Nat) (λk=>k<=n) (λk=>[(1,aK (aj ⟨g1,0,ak⟩)),(3,av az (n:Int)),(46,av az (n:Int)),(47,av az (k:Int))]) (λ_=>[aR g1 #[ap ac n cc,ap ar n cr,vf,ap afo nf.length cfo,ap al la.length cl2,ap ae em.length ce] 181]) (λk=>n-k) 0 (bO _) ?_;intro k hk
 by_cases c1:k<n
 ·obtain⟨br,OK,rfl,fl⟩:=hrr J
  obtain⟨bf,aar,rfl,_,Td⟩:=hrf J;obtain⟨u,hu,hd⟩:=AB Td (show k<nf.length by omega);have adb:=λ(L:List cU)=>iB (L:=L) km fl (show k<rul.length by omega) 0 _ I;have ade:=λ(L:List cU)=>jb (L:=L) hd (j:=0) (v:=u) I;have hx:=hmR _ (cV (show k<rul.length by omega));have q:=λw' (hg:Gr w w')=>Bl u nf[k] n w' (hu.gr hg) (Xf _ (cV _));clear hrr hrf fl Td hd hu;generalize rul[k]=x at*
  try refine GA ?_
  refine eo ([aR g1 #[ap ac n cc,ap (aj ⟨br,OK,ak⟩) n cr,vf,ap (aj ⟨bf,aar,ak⟩) nf.length cfo,ap al la.length cl2,ap ae em.length ce] 181]) (.calm 0 (.calm 1 (.calm 2 (.calm 3 (.calm 4 (.calm 5 (.calm 6 (.calm 7 (.calm 8 (.calm 9 (.calm 10 (.calm 11 (.calm 12 (.calm 13 (.calm 14 (.calm 15 (.calm 16 (.calm 17 (.calm 18 (.calm 19 (.calm 20 (.calm 21 (.calm 22 (.calm 23 (.one 24 (.calm 25 (.calm 26 (.done)))))))))))))))))))))))))))) (cH [0]) ?_
  repeat(first|(refine GN ?_;first|refine QW QP ?_|refine QW (aB (v:=ap (aj ⟨br,OK,ak⟩) n cr) aL.ty I (aH (i:=0) I I)) ?_|refine QW (a_ bR.eq aL.ty I I c1) ?_|refine QW (aB (v:=av az x) aL.ty I (adb _)) ?_|refine QW (aW (b:=aE) I I (decide_eq_false J)) ?_|refine QW (aB (v:=ap ae em.length ce) aL.ty I (aH (i:=0) I I)) ?_|refine QW (aB (v:=ap (aj ⟨bf,aar,ak⟩) nf.length cfo) aL.ty I (aH (i:=0) I I)) ?_|refine QW (a_ (j:=k) bR.eq aL.ty I I J) ?_|refine QW (aB (v:=u) aL.ty I (ade _)) ?_|refine QW (dQ (b:=aE) I I (decide_eq_false J)) ?_|refine GX ?_)|refine GW ?_)
  refine aO I (B8 I I I (a8 (gK aJ.en I I I) (λw hm=>q w hm.below) I I I λ_ _=>(aP (cH [0]) ?_)))
  try refine GW ?_
  try refine GA ?_
  refine dS [0] ?_;exact cJ (k+1) J (by show n-(k+1)<n-k;omega)
 ·repeat(first|refine GC ?_|refine gV (bB (b:=aE) I I (decide_eq_false J)) ?_|refine GB ?_)
  exact fa
end cZ
namespace fJ
open aV ey gB eg xN BK
inductive TD where
 |sym (x:dV)
 |close (p:Int)
def bZ:List TD->List dV->Nat->List TD×List dV×Nat×Bool
 |[],out,a=>([],out,a,aD)
 | .sym x::r,out,a=>(.sym x::r,out,a,aD)
 | .close p::r,out,a=>if a+1<=2000 then bZ r (out++[(3,p)]) (a+1)else(r,out++[(3,p)],a+1,aE)
def opened(l:List aV.Prod)(p:Int)(r:List TD):List TD:=(dC l p).2.map .sym++ .close p::r
def f_(l:List aV.Prod)(nx:Int->Int):Nat->List TD->List dV->Nat->List TD×List dV×Nat×Int
 |0,st,out,a=>(st,out,a,14)
 | f +1,st,out,a=>
  if(bZ st out a).2.2.2=aE then((bZ st out a).1,(bZ st out a).2.1,(bZ st out a).2.2.1,14)else
  match(bZ st out a).1 with
  | .sym x::r=>
   if x.1=1 then((bZ st out a).1,(bZ st out a).2.1,(bZ st out a).2.2.1,0)
   else if nx x.2<0 then((bZ st out a).1,(bZ st out a).2.1,(bZ st out a).2.2.1,13)
   else if(bZ st out a).2.2.1+1<=2000/\(opened l (nx x.2) r).length<=60 then f_ l nx f (opened l (nx x.2) r) ((bZ st out a).2.1++[(1,nx x.2)]) ((bZ st out a).2.2.1+1)
   else(opened l (nx x.2) r,(bZ st out a).2.1++[(1,nx x.2)],(bZ st out a).2.2.1+1,14)
  |_=>((bZ st out a).1,(bZ st out a).2.1,(bZ st out a).2.2.1,0)
def ko(l:List aV.Prod)(nx:Int->Int)(st:List TD)(seen:Nat)(t:Int):Int×List TD×List dV:=
 match f_ l nx 2001 st [] 0 with
 | (st1,ig,a1,e)=>
  if e≠0 then(e,[],[])else
  match st1 with
  | .sym x::r=>if x.2≠t then(13,[],[])else if a1+1<=2000/\(bZ r (ig++[(2,(seen:Int))]) (a1+1)).2.2.2=aD then(0,(bZ r (ig++[(2,(seen:Int))]) (a1+1)).1,(bZ r (ig++[(2,(seen:Int))]) (a1+1)).2.1)else(14,[],[])
  |_=>(13,[],[])
def jK(l:List aV.Prod)(nx:Int->Int)(st:List TD):Int×List dV:=
 match f_ l nx 2001 st [] 0 with
 |(st1,ig,_,e)=>if e≠0 then(e,[])else match st1 with|[]=>(0,ig)|_=>(13,[])
section
variable{l:List aV.Prod}{C:Int->Nat->Int->Prop}
theorem xY:∀{st:List TD} {out:List dV} {a:Nat},(bZ st out a).2.2.2=aD->(bZ st out a).1=[]\/∃x r,(bZ st out a).1= .sym x::r
 |[],out,a,_=> .inl I
 | .sym x::r,out,a,_=> .inr ⟨x,r,rfl⟩
 | .close p::r,out,a,h=>by
  unfold bZ at h⊢;split
  ·rename_i c;rw[if_pos c]at h;exact xY h
  rename_i c;rw[if_neg c]at h;cases h
theorem sQ:∀{st:List TD} {out:List dV} {a:Nat},(bZ st out a).1.length<=st.length/\a<=(bZ st out a).2.2.1/\((bZ st out a).2.2.2=aD->a<=2000->(bZ st out a).2.2.1<=2000)/\(bZ st out a).2.1.length+a=out.length+(bZ st out a).2.2.1
 |[],out,a=>⟨bJ _,bJ _,λ_ h=>h,rfl⟩
 | .sym x::r,out,a=>⟨bJ _,bJ _,λ_ h=>h,rfl⟩
 | .close p::r,out,a=>by
  unfold bZ;split
  ·obtain⟨h1,h2,h3,h4⟩:=@sQ r (out++[(3,p)]) (a+1)
   refine⟨by simp;omega,by omega,λh _=>h3 h J,?_⟩;simp only[bT,dE,gJ]at h4;omega
  refine⟨by simp,by simp,(λh=>nomatch h),by simp;omega⟩
def qZ(g:eL):TD->Prop
 | .sym x=>right g.aT g.bM x=aD
 | .close p=>0<=p/\p<(g.aF.length:Int)
theorem rM{g:eL}:∀{st:List TD} {out:List dV} {a:Nat},(∀d∈st,qZ g d)->∀d∈(bZ st out a).1,qZ g d
 |[],out,a,h=>h
 | .sym x::r,out,a,h=>h
 | .close p::r,out,a,h=>by
  unfold bZ;split;exact rM λd hd=>h d (mb _ hd);exact λd hd=>h d (mb _ hd)
theorem AC{g:eL}(hg:cL g=0){p:Int}(h0:0<=p)(h1:p<(g.aF.length:Int)){r:List TD}(h:∀d∈r,qZ g d):∀d∈opened g.aF p r,qZ g d:=by
 intro d hd;unfold opened at hd;rw[fC]at hd;rcases hd with hd|hd
 ·obtain⟨x,hx,rfl⟩:=e7.1 hd
  exact((de hg).2.2.2.2.2 _ (xK h0 h1)).2.2.2 x hx
 rcases ez.1 hd with rfl|hd
 exact⟨h0,h1⟩;exact h d hd
def aas(l:List aV.Prod)(nx:Int->Int):Prop:=∀n,0<=nx n->nx n<(l.length:Int)/\((0<=n)->(dC l (nx n)).1=n)
theorem vh{nx:Int->Int}:∀{f:Nat} {st:List TD} {out:List dV} {a:Nat},(f_ l nx f st out a).2.2.2=0\/(f_ l nx f st out a).2.2.2=13\/(f_ l nx f st out a).2.2.2=14
 |0,st,out,a=> .inr (.inr I)
 | f +1,st,out,a=>by
  unfold f_;split;exact .inr (.inr I);split
  ·split
   exact .inl I;split;exact .inr (.inl I);split;exact vh;exact .inr (.inr I)
  exact .inl I
theorem xZ{nx:Int->Int}{f:Nat}{st:List TD}{out:List dV}{a:Nat}{R:List TD×List dV×Nat×Int}(h:f_ l nx (f+1) st out a=R):
    ((bZ st out a).2.2.2=aE/\R.2.2.2=14)\/((bZ st out a).2.2.2=aD/\
      (((bZ st out a).1=[]/\R=([],(bZ st out a).2.1,(bZ st out a).2.2.1,0))\/
       ∃ x r,(bZ st out a).1= .sym x::r/\((x.1=1/\R=(.sym x::r,(bZ st out a).2.1,(bZ st out a).2.2.1,0))\/(x.1≠1/\nx x.2<0/\R.2.2.2=13)\/
         (x.1≠1/\0<=nx x.2/\((((bZ st out a).2.2.1+1<=2000/\(opened l (nx x.2) r).length<=60)/\f_ l nx f (opened l (nx x.2) r) ((bZ st out a).2.1++[(1,nx x.2)]) ((bZ st out a).2.2.1+1)=R)\/R.2.2.2=14))))):=by
  unfold f_ at h
  cases hc:(bZ st out a).2.2.2 with
  |false=>rw[hc,if_pos I]at h;subst h;exact .inl ⟨rfl,rfl⟩
  | true=>
    rw[hc,if_neg (by simp)]at h;refine .inr ⟨rfl,?_⟩;rcases xY hc with he|⟨x,r,he⟩
    · rw[he]at h⊢
      exact .inl ⟨rfl,h.symm⟩
    rw[he]at h⊢;dsimp only at h;refine .inr ⟨x,r,rfl,?_⟩
    by_cases c1:x.1=1
    rw[if_pos c1]at h;exact .inl ⟨c1,h.symm⟩;rw[if_neg c1]at h
    by_cases c2:nx x.2<0
    rw[if_pos c2]at h;subst h;exact .inr (.inl ⟨c1,c2,rfl⟩);rw[if_neg c2]at h;refine .inr (.inr ⟨c1,by omega,?_⟩);split at h
    · rename_i c3;exact .inl ⟨c3,h⟩
    subst h;exact .inr I
theorem vj{nx:Int->Int}:∀{f:Nat} {st:List TD} {out:List dV} {a:Nat} {R:List TD×List dV×Nat×Int},f_ l nx f st out a=R->R.2.2.2=0->R.1=[]\/∃x r,R.1= .sym x::r/\x.1=1
 |0,st,out,a,R,h,h0=>by subst h;cases h0
 |f+1,st,out,a,R,h,h0=>by
  rcases xZ h with⟨_,e⟩|⟨_,⟨_,rfl⟩|⟨x,r,_,⟨c,rfl⟩|⟨_,_,e⟩|⟨_,_,⟨_,e⟩|e⟩⟩⟩
  omega;exact .inl I;exact .inr ⟨x,r,rfl,c⟩;omega;exact vj e h0;omega
theorem IL{g:eL}(hg:cL g=0){nx:Int->Int}(hn:aas g.aF nx):∀{f:Nat} {st:List TD} {out:List dV} {a:Nat} {R:List TD×List dV×Nat×Int},f_ g.aF nx f st out a=R->R.2.2.2=0->(∀d∈st,qZ g d)->∀d∈R.1,qZ g d
 |0,st,out,a,R,h,h0,_=>by subst h;cases h0
 | f +1,st,out,a,R,h,h0,hs=>by
  have hc:=rM (out:=out) (a:=a) hs;rcases xZ h with⟨_,e⟩|⟨_,⟨_,rfl⟩|⟨x,r,e1,⟨c,rfl⟩|⟨_,_,e⟩|⟨_,c,⟨_,e⟩|e⟩⟩⟩
  omega;exact λd hd=>nomatch hd;rw[e1]at hc;exact hc;omega
  ·rw[e1]at hc
   exact IL hg hn e h0 (AC hg c (hn _ c).1 λd hd=>hc d (mb _ hd))
  omega
theorem yY{nx:Int->Int}:∀{f:Nat} {st:List TD} {out:List dV} {a:Nat} {R:List TD×List dV×Nat×Int},f_ l nx f st out a=R->R.2.2.2=0->st.length<=60->a<=2000->R.1.length<=60/\R.2.2.1<=2000/\R.2.1.length+a=out.length+R.2.2.1/\a<=R.2.2.1
 |0,st,out,a,R,h,h0,_,_=>by subst h;cases h0
 | f +1,st,out,a,R,h,h0,h1,h2=>by
  obtain⟨z1,z2,z3,z4⟩:=@sQ st out a;rcases xZ h with⟨_,e⟩|⟨ec,⟨_,rfl⟩|⟨x,r,e1,⟨c,rfl⟩|⟨_,_,e⟩|⟨_,c,⟨cc,e⟩|e⟩⟩⟩
  omega
  ·have:=z3 ec h2
   exact⟨by simp,this,by omega,z2⟩
  ·rw[e1]at z1
   have:=z3 ec h2;exact⟨fI z1 h1,this,by omega,z2⟩
  omega
  ·obtain⟨y1,y2,y3,y4⟩:=yY e h0 cc.2 cc.1
   rw[bT,ky]at y3;exact⟨y1,y2,by omega,by omega⟩
  omega
theorem x6{nx:Int->Int}{st:List TD}{seen:Nat}{t:Int}{R:Int×List TD×List dV}(h:ko l nx st seen t=R):
 (R.1=13\/R.1=14)/\R.2=([],[])\/∃x r ig a1,f_ l nx 2001 st [] 0=(.sym x::r,ig,a1,0)/\x.1=1/\x.2=t/\a1+1<=2000/\(bZ r (ig++[(2,(seen:Int))]) (a1+1)).2.2.2=aD/\
  R=(0,(bZ r (ig++[(2,(seen:Int))]) (a1+1)).1,(bZ r (ig++[(2,(seen:Int))]) (a1+1)).2.1):=by
 unfold ko at h
 cases hd:f_ l nx 2001 st [] 0 with
 |mk st1 R1=>
 obtain⟨ig,a1,e⟩:=R1;rw[hd]at h;dsimp only at h;have he:=@vh l nx 2001 st [] 0;rw[hd]at he;dsimp only at he
 by_cases c0:e=0
 ·subst c0
  rw[if_neg (by simp)]at h;rcases vj hd rfl with e1|⟨x,r,e1,e2⟩
  dsimp only at e1;subst e1;subst h;exact .inl ⟨.inl I,rfl⟩;dsimp only at e1;subst e1;dsimp only at h
  by_cases c1:x.2≠t
  rw[if_pos c1]at h;subst h;exact .inl ⟨.inl I,rfl⟩;rw[if_neg c1]at h;split at h
  ·rename_i c2
   subst h;exact .inr ⟨x,r,ig,a1,rfl,e2,by simpa using c1,c2.1,c2.2,rfl⟩
  subst h;exact .inl ⟨.inr I,rfl⟩
 ·rw[if_pos c0]at h
  subst h;exact .inl ⟨by rcases he with h|h|h;exact absurd h c0;exact .inl h;exact .inr h,rfl⟩
theorem aat{g:eL}(hg:cL g=0){nx:Int->Int}(hn:aas g.aF nx){st:List TD}{seen:Nat}{t:Int}{R:Int×List TD×List dV}(h:ko g.aF nx st seen t=R)(h0:R.1=0)(hs:∀d∈st,qZ g d)(hl:st.length<=60):(∀d∈R.2.1,qZ g d)/\R.2.1.length<=60/\R.2.2.length<=2000:=by
 rcases x6 h with⟨e|e,_⟩|⟨x,r,ig,a1,hd,_,_,h4,h5,rfl⟩
 omega;omega;have y1:=IL hg hn hd I hs;obtain⟨y2,y3,y4,y5⟩:=yY hd rfl hl J;obtain⟨z1,z2,z3,z4⟩:=@sQ r (ig++[(2,(seen:Int))]) (a1+1);dsimp only at y1 y2 y3 y4 y5⊢;simp only[bT,dE,gJ]at z4 y2 y4;have:=z3 h5 J;exact⟨rM λd hd=>y1 d (mb _ hd),by omega,by omega⟩
theorem GU{nx:Int->Int}{st:List TD}{R:Int×List dV}(h:jK l nx st=R):((R.1=13\/R.1=14)/\R.2=[])\/∃a1,f_ l nx 2001 st [] 0=([],R.2,a1,0)/\R.1=0:=by
 unfold jK at h
 cases hd:f_ l nx 2001 st [] 0 with
 |mk st1 R1=>
 obtain⟨ig,a1,e⟩:=R1;rw[hd]at h;dsimp only at h;have he:=@vh l nx 2001 st [] 0;rw[hd]at he;dsimp only at he
 by_cases c0:e=0
 ·subst c0
  rw[if_neg (by simp)]at h;rcases vj hd rfl with e1|⟨x,r,e1,e2⟩
  dsimp only at e1;subst e1;subst h;exact .inr ⟨a1,rfl,rfl⟩;dsimp only at e1;subst e1;subst h;exact .inl ⟨.inl I,rfl⟩
 rw[if_pos c0]at h;subst h;exact .inl ⟨by rcases he with h|h|h;exact absurd h c0;exact .inl h;exact .inr h,rfl⟩
end
end fJ
namespace cZ
open Go.RowKit dr eH aV ey fJ
def tdB:TD->Bool| .sym _=>aE| .close _=>aD
def tdN:TD->Int| .sym _=>0| .close p=>p
def tdX:TD->dV| .sym x=>x| .close _=>(0,0)
def wY(d:TD):List Value:=[.bool (tdB d),av az (tdN d),av az (tdX d).1,av az (tdX d).2]
theorem IM(d:TD):(wY d).length=4:=rfl
theorem IN(l:List TD):∀u∈l.flatMap wY,u.oneCell'=true:=by
 intro u hu;obtain⟨d,_,h⟩:=uB.1 hu;simp only[wY,ez,iD,or_false]at h;rcases h with rfl|rfl|rfl|rfl<;>rfl
def JV(d:TD):Value:=aU (wY d).toArray
theorem GV(x:dV)(w:World):(dR 231 #[(2,aU (eX x).toArray)]).run aC w= .ok (JV (.sym x)) w:=by
 unfold JV wY eX tdB tdN tdX;go_simp
theorem Te(p:Int)(w:World):(dR 231 #[(0,.bool aD),(1,av az p)]).run aC w= .ok (JV (.close p)) w:=by
 unfold JV wY tdB tdN tdX;go_simp
def tk(vt:Value)(seen over:Int)(done:Bool):Value:=aU #[vt,av az seen,av az over,.bool done]
def Lg(t n:Int)(vp vt vo:Value)(ed:Nat):Array Value:=#[av az t,av az n,vp,vt,vo,av az (ed:Int)]
abbrev x7(gw:Nat)(t n:Int)(vp vt vo:Value)(ed:Nat):cU:=aR gw (Lg t n vp vt vo ed) 329
abbrev wK(vt:Value)(st:List TD):cU:=bD 231 4 vt st.length (st.reverse.flatMap wY)
abbrev lu(vo:Value)(l:List dV):cU:=bD 55 2 vo l.length (l.flatMap eX)
theorem AD(k n:Int)(w:World):(dR 55 #[(0,av az k),(1,av az n)]).run aC w= .ok (aU (eX (k,n)).toArray) w:=by
 unfold eX;go_simp
theorem QR{P:Program}{n:Nat}{W:b9}{fr:Fr}{L:List cU}{dst:Option Tmp}{t ty:TypeId}{pos:String}{after:Array Edge}{guard:Option (Nat×Bool)}{x:Operand}{f:Nat}{v u:Value}(hx:ev fr x=aj v)(h:∀w,(WR t v f).run P w= .ok u w):RR P n W ⟨dst,.field t x f,ty,pos,after,guard⟩ fr L u:= .mk λa w hr _=>by
 simp[execOp,hr.ev hx,h]
theorem Tf(d:TD)(w:World):(WR 231 (JV d) 1).run aC w= .ok (av az (tdN d)) w:=by
 unfold JV wY;kernel_rfl
end cZ
namespace cZ
open Go.RowKit dr eH aV ey fJ
attribute [local irreducible] Instr.build in
theorem AE(gw:Nat)(t n:Int)(vp vt vo:Value)(out:List dV)(ed:Nat)(kd m:Int)(w:World)(B:b9)(h1:out.length<=100000)(h2:ed<=100000)(hm:Mem B [x7 gw t n vp vt vo ed,lu vo out] w):
 Calls aC 168 #[aK (aj ⟨gw,0,ak⟩),av az kd,av az m] w (dF ⟨λ(_:Value)=>True,λ_=> .bool (decide (((ed+1:Nat):Int)<=2000)),λD8=>[x7 gw t n vp vt D8 (ed+1),lu D8 (out++[(kd,m)])]⟩ B):=by
 refine dZ hm (args:=[aK (aj ⟨gw,0,ak⟩),av az kd,av az m]) (n:=31) Tryz.func168 I I I ?_;refine abK (i:=1) I λlm lW=>?_
 repeat(first|refine GC ?_|refine gV (aB aL.ty I (aH (i:=0) I I)) ?_|refine gV (bL (r:=((ed+1:Nat):Int)) I I J J J) ?_|refine GB ?_)
 refine cD (i:=0) I I I I I I ?_;rw[show(Lg t n vp vt vo ed).setIfInBounds (0+5) (av az ((ed+1:Nat):Int))=Lg t n vp vt vo (ed+1)from I];refine zL ?_
 repeat(first|refine GA ?_|refine gV (aB aL.ty I (aH (i:=0) I I)) ?_|refine gV (bP I (AD _ _)) ?_)
 refine jH (i:=1) I I I I I I I (λz h=>by cases h;rfl) J J I λz' v'=>?_;refine zL ?_;refine aY (i:=1) I λlm lW=>?_
 try refine GA ?_
 refine cD (i:=0) I I I lm lW I ?_;rw[show(Lg t n vp vt vo (ed+1)).setIfInBounds (0+4) v'=Lg t n vp vt v' (ed+1)from I];refine zL ?_
 repeat(first|refine GC ?_|refine gV (aB (v:=av az ((ed+1:Nat):Int)) aL.ty I (aH (i:=0) I I)) ?_|refine gV (zX I I I) ?_|refine GB ?_)
 exact da I I λw hm=>hm.cX (S:=⟨λ(_:Value)=>True,λ_=> .bool (decide (((ed+1:Nat):Int)<=2000)),λD8=>[x7 gw t n vp vt D8 (ed+1),lu D8 (out++[(kd,m)])]⟩) v' trivial [0,1] ahk (by simp[x7,lu])
theorem Bm{B:b9}{L:List cU}{i g cap:Nat}{d:TD}{r:List TD}(hi:L[i]?=aj (wK (ap (aj ⟨g,0,ak⟩) (r.length+1) cap) (d::r)))(j:Nat)(u:Value)(hu:(wY d)[j]?=aj u):At B L ⟨g,0+r.length*4+j,ak⟩ u:=
 ru IM hi (k:=r.length) (by simp) j u (by simpa using hu)
theorem QT{d:TD}{r:List TD}{g cap:Nat}{w:World}(h:(wK (ap (aj ⟨g,0,ak⟩) (r.length+1) cap) (d::r)).holds w):(wK (ap (aj ⟨g,0,ak⟩) r.length cap) r).holds w:=by
 obtain⟨h1,h2⟩:=h;refine⟨by rw[lD IM];simp,?_⟩;rcases h2 with⟨h2,_⟩|⟨g',HP,kg,e,h3,h4,h5,h6,h7,h8⟩
 cases h2
 cases e
 refine .inr ⟨g,cap,kg,rfl,h3,h4,by simp at h5;omega,h6,h7,?_⟩;have:(kg.toList.take ((d::r).length*4)).take (r.length*4)=((d::r).reverse.flatMap wY).take (r.length*4):=by rw[h8]
 rw[List.take_take,Nat.min_eq_left (by simp;omega),List.reverse_cons,fV,List.take_left' (by rw[lD IM];simp)]at this;exact this
attribute [local irreducible] Instr.build in
theorem AF(gw:Nat)(t n:Int)(vp vt vo:Value)(d:TD)(r:List TD)(ed:Nat)(w:World)(B:b9)(h1:r.length<=100000)(hm:Mem B [x7 gw t n vp vt vo ed,wK vt (d::r)] w):
 Calls aC 167 #[aK (aj ⟨gw,0,ak⟩)] w (dF ⟨λ(_:Value)=>True,λ_=>JV d,λoL=>[x7 gw t n vp oL vo ed,wK oL r]⟩ B):=by
 refine dZ hm (args:=[aK (aj ⟨gw,0,ak⟩)]) (n:=31) Tryz.func167 I I I ?_;refine xC (i:=1) I (by simp) λg cap hv q1 q2=>?_;subst hv;simp only[dE]at*;refine bC (aM (bz I λg2=>?_));refine zL ?_
 try refine GA ?_
 refine eo ([x7 gw t n vp (ap (aj ⟨g,0,ak⟩) (r.length+1) cap) vo ed,wK (ap (aj ⟨g,0,ak⟩) (r.length+1) cap) (d::r)]) (.calm 0 (.calm 1 (.calm 2 (.calm 3 (.calm 4 (.calm 5 (.calm 6 (.calm 7 (.calm 8 (.calm 9 (.calm 10 (.calm 11 (.one 12 (.one 13 (.done))))))))))))))) (cH [0,1]) ?_
 repeat(first|(refine GN ?_;first|refine QW QP ?_|refine QW (aB (v:=ap (aj ⟨g,0,ak⟩) (r.length+1) cap) aL.ty I (aH (i:=0) I I)) ?_|refine QW (df (r:=(r.length:Int)) I I J J J) ?_|refine QW (a_ (j:=r.length) bR.eq aL.ty I I J) ?_|refine QW (bH aL.ty I I (Bm (i:=1) I)) ?_|refine GX ?_)|refine GW ?_)
 refine aO I (bz I λg3=>?_);refine aP (cH [0,1]) ?_;refine aO I (aZ (i:=3) (cs':=(wY d).toArray) I I I I I I (aP (cH [0,1]) ?_))
 try refine GW ?_
 try refine GA ?_
 refine eo ([]) (.calm 0 (.calm 1 (.calm 2 (.calm 3 (.calm 5 (.calm 6 (.calm 7 (.two 4 (.one 8 (.calm 9 (.calm 10 (.calm 11 (.calm 12 (.calm 13 (.one 14 (.done)))))))) 8 (.calm 9 (.calm 10 (.one 4 (.calm 11 (.calm 12 (.calm 13 (.one 14 (.done)))))))))))))))) (cH []) ?_
 try refine GW ?_
 refine e9 I I ?_ ?_
 ·refine aI (aB (v:=ap (aj ⟨g,0,ak⟩) (r.length+1) cap) aL.ty I (aH (i:=0) I I)) I I I (aP (cH []) ?_)
  refine aO I (aI (aB (v:=ap (aj ⟨g,0,ak⟩) (r.length+1) cap) aL.ty I (aH (i:=0) I I)) I I I (aP (cH []) ?_))
  repeat(first|(refine GN ?_;first|refine QW QP ?_|refine QW (df (r:=(r.length:Int)) I I J J J) ?_|refine QW (Kd (j:=r.length) bR.eq aL.ty I I J) ?_|refine GX ?_)|refine GW ?_)
  refine aO I (cD (i:=0) I I I I I I (aP (cH []) ?_));rw[show(Lg t n vp (ap (aj ⟨g,0,ak⟩) (r.length+1) cap) vo ed).setIfInBounds (0+3) (ap (aj ⟨g,0,ak⟩) r.length cap)=Lg t n vp (ap (aj ⟨g,0,ak⟩) r.length cap) vo ed from I]
  try refine GW ?_
  repeat(first|refine GA ?_|refine gV (aQ (i:=3) aL.ty I I I) ?_)
  refine il 2 (cs':=(wY d).toArray) ?_;refine zL ?_
  try refine GA ?_
  refine oI (i:=1) (wK (ap (aj ⟨g,0,ak⟩) r.length cap) r) I (λw h=>QT h) (λk hk=>hk) ?_;exact h_ (i:=2) I I I I λw hm=>hm.cX (S:=⟨λ(_:Value)=>True,λ_=>JV d,λoL=>[x7 gw t n vp oL vo ed,wK oL r]⟩) (ap (aj ⟨g,0,ak⟩) r.length cap) trivial [0,1] ahk I
 ·refine aI (aB (v:=ap (aj ⟨g,0,ak⟩) (r.length+1) cap) aL.ty I (aH (i:=0) I I)) I I I (aP (cH []) ?_)
  repeat(first|(refine GN ?_;first|refine QW QP ?_|refine QW (df (r:=(r.length:Int)) I I J J J) ?_|refine GX ?_)|refine GW ?_)
  refine aO I (aI (aB (v:=ap (aj ⟨g,0,ak⟩) (r.length+1) cap) aL.ty I (aH (i:=0) I I)) I I I (aP (cH []) ?_))
  repeat(first|(refine GN ?_;first|refine QW QP ?_|refine QW (Kd (j:=r.length) bR.eq aL.ty I I J) ?_|refine GX ?_)|refine GW ?_)
  refine aO I (cD (i:=0) I I I I I I (aP (cH []) ?_));rw[show(Lg t n vp (ap (aj ⟨g,0,ak⟩) (r.length+1) cap) vo ed).setIfInBounds (0+3) (ap (aj ⟨g,0,ak⟩) r.length cap)=Lg t n vp (ap (aj ⟨g,0,ak⟩) r.length cap) vo ed from I]
  try refine GW ?_
  repeat(first|refine GA ?_|refine gV (aQ (i:=3) aL.ty I I I) ?_)
  refine il 2 (cs':=(wY d).toArray) ?_;refine zL ?_
  try refine GA ?_
  refine oI (i:=1) (wK (ap (aj ⟨g,0,ak⟩) r.length cap) r) I (λw h=>QT h) (λk hk=>hk) ?_;exact h_ (i:=2) I I I I λw hm=>hm.cX (S:=⟨λ(_:Value)=>True,λ_=>JV d,λoL=>[x7 gw t n vp oL vo ed,wK oL r]⟩) (ap (aj ⟨g,0,ak⟩) r.length cap) trivial [0,1] ahk I
theorem OL(out:List dV)(a:Nat):bZ [] out a=([],out,a,aD):=rfl
theorem OM(x:dV)(r:List TD)(out:List dV)(a:Nat):bZ (.sym x::r) out a=(.sym x::r,out,a,aD):=rfl
theorem ON(p:Int)(r:List TD)(out:List dV){a:Nat}(h:a+1<=2000):bZ (.close p::r) out a=bZ r (out++[(3,p)]) (a+1):=by rw[bZ,if_pos h]
theorem Tg(p:Int)(r:List TD)(out:List dV){a:Nat}(h:¬a+1<=2000):bZ (.close p::r) out a=(r,out++[(3,p)],a+1,aE):=by rw[bZ,if_neg h]
def clS(gw:Nat)(t n:Int)(vp:Value)(c:List TD×List dV×Nat×Bool):Spec (Value×Value):=⟨λ_=>True,λ_=> .bool c.2.2.2,λx=>[x7 gw t n vp x.1 x.2 c.2.2.1,wK x.1 c.1,lu x.2 c.2.1]⟩
theorem rN(gw:Nat)(t n:Int)(vp Xg Xh:Value)(Uc:List TD)(vm:List dV)(GY:Nat)(w:World)(B:b9)(h1:Uc.length<=100000)(h2:GY<=2000)(h3:vm.length=GY)(hm:Mem B [x7 gw t n vp Xg Xh GY,wK Xg Uc,lu Xh vm] w):
 Calls aC 169 #[aK (aj ⟨gw,0,ak⟩)] w (dF (clS gw t n vp (bZ Uc vm GY)) B):=by
 refine dZ hm (args:=[aK (aj ⟨gw,0,ak⟩)]) (n:=30) Tryz.func169 I I I ?_;clear hm
 try refine GA ?_
 generalize hC:bZ Uc vm GY=C;refine eK (ι:=List TD×List dV×Nat×Value×Value) (λ(st,out,ed,_,_)=>bZ st out ed=C/\st.length<=100000/\ed<=2000/\out.length=ed) (λ_=>[(0,aK (aj ⟨gw,0,ak⟩))]) (λ(st,out,ed,vt,vo)=>[x7 gw t n vp vt vo ed,wK vt st,lu vo out]) (λ(st,_,_,_,_)=>st.length) (Uc,vm,GY,Xg,Xh) ⟨hC,h1,h2,h3⟩ ?_;clear h1 h2 h3 hC;rintro⟨st,out,ed,vt,vo⟩ ⟨hC,h1,h2,h3⟩;dsimp only at hC h1 h2 h3⊢
 cases st with
 | nil=>
  rw[OL]at hC;subst hC
  (repeat refine bC ?_)
  refine eo ([x7 gw t n vp vt vo ed,wK vt []]) (.calm 0 (.calm 1 (.calm 2 (.calm 3 (.calm 4 (.calm 5 (.calm 6 (.calm 7 (.calm 8 (.calm 9 (.calm 10 (.calm 11 (.calm 12 (.calm 13 (.calm 14 (.calm 15 (.calm 16 (.calm 17 (.calm 18 (.calm 19 (.calm 20 (.done)))))))))))))))))))))) (cH [0,1]) ?_
  repeat(first|(refine GN ?_;first|refine QW QP ?_|refine QW (aB (v:=vt) aL.ty I (aH (i:=0) I I)) ?_|refine QW (fy (i:=1) bR.eq I I) ?_|refine QW (bB (b:=aE) I I I) ?_|refine GX ?_)|refine GW ?_)
  try refine GA ?_
  exact da I I λw hm=>hm.cX (S:=clS gw t n vp ([],out,ed,aD)) (vt,vo) trivial [0,1,2] ahk I
 | cons d r=>
  simp only[dE]at h1;refine xC (i:=1) I (by simp) λg cap hv q1 q2=>?_;subst hv;simp only[dE]at*
  cases d with
  | sym x=>
   rw[OM]at hC;subst hC
   (repeat refine bC ?_)
   refine eo ([x7 gw t n vp (ap (aj ⟨g,0,ak⟩) (r.length+1) cap) vo ed,wK (ap (aj ⟨g,0,ak⟩) (r.length+1) cap) (.sym x::r)]) (.calm 0 (.calm 1 (.calm 2 (.calm 3 (.calm 4 (.calm 5 (.calm 6 (.calm 7 (.calm 8 (.calm 9 (.calm 10 (.calm 11 (.calm 12 (.calm 13 (.calm 14 (.calm 15 (.calm 16 (.calm 17 (.calm 18 (.calm 19 (.calm 20 (.done)))))))))))))))))))))) (cH [0,1]) ?_
   repeat(first|(refine GN ?_;first|refine QW QP ?_|refine QW (aB (v:=ap (aj ⟨g,0,ak⟩) (r.length+1) cap) aL.ty I (aH (i:=0) I I)) ?_|refine QW (aB (v:= .bool aE) aL.ty I (Bm (i:=1) I 0 _ I)) ?_|refine QW (df (r:=(r.length:Int)) I I J J J) ?_|refine QW (a_ (j:=r.length) bR.eq aL.ty I I J) ?_|refine GX ?_)|refine GW ?_)
   try refine GA ?_
   exact da I I λw hm=>hm.cX (S:=clS gw t n vp (.sym x::r,out,ed,aD)) (_,vo) trivial [0,1,2] ahk I
  | close p=>
   (repeat refine bC ?_)
   refine eo ([x7 gw t n vp (ap (aj ⟨g,0,ak⟩) (r.length+1) cap) vo ed,wK (ap (aj ⟨g,0,ak⟩) (r.length+1) cap) (.close p::r)]) (.calm 0 (.calm 1 (.calm 2 (.calm 3 (.calm 4 (.calm 5 (.calm 6 (.calm 7 (.calm 8 (.calm 9 (.calm 10 (.calm 11 (.calm 12 (.calm 13 (.calm 14 (.calm 15 (.calm 16 (.calm 17 (.calm 18 (.calm 19 (.calm 20 (.done)))))))))))))))))))))) (cH [0,1]) ?_
   repeat(first|(refine GN ?_;first|refine QW QP ?_|refine QW (aB (v:=ap (aj ⟨g,0,ak⟩) (r.length+1) cap) aL.ty I (aH (i:=0) I I)) ?_|refine QW (aB (v:= .bool aD) aL.ty I (Bm (i:=1) I 0 _ I)) ?_|refine QW (df (r:=(r.length:Int)) I I J J J) ?_|refine QW (a_ (j:=r.length) bR.eq aL.ty I I J) ?_|refine GX ?_)|refine GW ?_)
   try refine GA ?_
   refine bK [0,1] [2] ahk I I (ju aJ.en I I) (λw hm hb=>AF gw t n vp _ vo (.close p) r ed w _ J hb) I I I ?_;intro oL _;refine zL ?_;dsimp only
   repeat(first|refine GA ?_|refine gV (QR I (Tf (.close p))) ?_)
   refine bK [1,0] [2] ahk I I (tH aJ.en I I I I) (λw hm hb=>AE gw t n vp oL vo out ed 3 p w _ J J hb) I I I ?_;intro D8 _;refine zL ?_;dsimp only
   by_cases c:ed+1<=2000
   ·rw[ON p r out c]at hC
    rw[decide_eq_true (show((ed+1:Nat):Int)<=2000 by omega)]
    try refine GA ?_
    refine dS [1,0,2] ?_;exact cJ (r,out++[(3,p)],ed+1,oL,D8) ⟨hC,(by show r.length<=100000;omega),c,by simp[h3]⟩ (by show r.length<r.length+1;omega)
   rw[Tg p r out c]at hC;subst hC;rw[decide_eq_false (show ¬((ed+1:Nat):Int)<=2000 by omega)]
   try refine GA ?_
   exact da I I λw hm=>hm.cX (S:=clS gw t n vp (r,out++[(3,p)],ed+1,aE)) (oL,D8) trivial [1,0,2] ahk I
theorem IP(r:List TD)(d:TD):(r.reverse.flatMap wY)++wY d=(d::r).reverse.flatMap wY:=by simp
def stO(p:Nat)(r:List TD)(body:List dV)(j:Nat):List TD:=(body.drop (body.length-j)).map .sym++ .close (p:Int)::r
theorem aeM(p:Nat)(r:List TD)(body:List dV):stO p r body 0= .close (p:Int)::r:=by unfold stO;rw[WY,xW];rfl
theorem aau(p:Nat)(r:List TD)(body:List dV):stO p r body body.length=body.map .sym++ .close (p:Int)::r:=by unfold stO;rw[px,qL]
theorem Xi(p:Nat)(r:List TD){body:List dV}{k:Nat}(hk:k<body.length):stO p r body (body.length-k)= .sym body[k]::stO p r body (body.length-k-1):=by
 unfold stO;rw[show body.length-(body.length-k)=k by omega,show body.length-(body.length-k-1)=k+1 by omega,ff hk];rfl
def opS(gw:Nat)(t n:Int)(vp:Value)(st:List TD)(out:List dV)(ed:Nat):Spec (Value×Value):=⟨λ_=>True,λ_=> .bool (decide (ed<=2000/\st.length<=60)),λx=>[x7 gw t n vp x.1 x.2 ed,wK x.1 st,lu x.2 out]⟩
attribute [local irreducible] Instr.build in
theorem OO(w0:World)(gw:Nat)(t n:Int)(vp:Value)(aF:List aV.Prod)(hG:kH oB (λk=>k<w0.heap.size) w0 vp aF)(hlen:aF.length<=100000)(p:Nat)(hp:p<aF.length)(h8:aF[p].2.length<=8)(vt vo:Value)(d:TD)(r:List TD)(out:List dV)(ed:Nat)(w:World)(B:b9)(h1:r.length<=100)(h2:ed<=2000)(h3:out.length=ed)(ho:p_ w0 B)(hm:Mem B [x7 gw t n vp vt vo ed,wK vt (d::r),lu vo out] w):
 Calls aC 184 #[aK (aj ⟨gw,0,ak⟩),av az (p:Int)] w (dF (opS gw t n vp (opened aF p r) (out++[(1,(p:Int))]) (ed+1)) B):=by
 obtain⟨bp,cp,rfl,H',E6,oC⟩:=hG;unfold maxLen at E6;obtain⟨b,off,rfl,_,hr⟩:=oC J;obtain⟨bb,cb,y1,y2,y3⟩:=lT hr hp;have QU:opened aF (p:Int) r=aF[p].2.map .sym++ .close (p:Int)::r:=by unfold opened dC;rw[dP,cK,bQ hp];rfl
 rw[QU];clear QU oC hr;have Iw:∀(L:List cU),At B L ⟨b,off+p*2+1,ak⟩ (.slice bb aF[p].2.length cb):=λL=>iW ho (y1 1 _ I);have wI:=y3.flat ahk;generalize aF[p].2=body at*;clear y1 y2 y3;obtain⟨b2,cb2,he,hb4,hb5,hb6⟩:=wI;simp only[jQ,true_and]at he;obtain⟨rfl,rfl⟩:=he;refine dZ hm (args:=[aK (aj ⟨gw,0,ak⟩),av az (p:Int)]) (n:=61) Tryz.func184 I I I ?_;clear hm
 try refine GA ?_
 refine bK [0,1] [2] ahk I I (ju aJ.en I I) (λw hm hb=>AF gw t n _ vt vo d r ed w _ J hb) I I I ?_;intro Xj _;refine zL ?_;dsimp only;refine aY (i:=2) I λlm lW=>?_
 repeat(first|refine GA ?_|refine gV (aB aL.ty I (aH (i:=1) I I)) ?_|refine gV (bP I (Te _)) ?_)
 refine jH (i:=2) I I I I I I I (λz h=>by cases h;rfl) J J I λz' QX=>?_;refine zL ?_;refine aY (i:=2) I λlm lW=>?_
 try refine GA ?_
 refine cD (i:=1) I I I lm lW I ?_;rw[show(Lg t n (ap (aj ⟨b,off,ak⟩) aF.length cp) Xj vo ed).setIfInBounds (0+3) QX=Lg t n (ap (aj ⟨b,off,ak⟩) aF.length cp) QX vo ed from I];refine zL ?_
 repeat(first|refine GC ?_|refine gV (aB (v:=ap (aj ⟨b,off,ak⟩) aF.length cp) aL.ty I (aH (i:=1) I I)) ?_|refine gV (a_ bR.eq aL.ty I I hp) ?_|refine gV (aB aL.ty I (Iw _)) ?_|refine gV (df (r:=(body.length:Int)-1) I I J J I) ?_|refine GB ?_)
 rw[IP r (.close (p:Int))];refine og (ι:=Nat×Value) (λ(j,_)=>j<=body.length) (λ(j,_)=>[(0,aK (aj ⟨gw,0,ak⟩)),(1,av az (p:Int)),(5,ap bb body.length cb),(6,av az (((body.length-j:Nat):Int)-1))])
  (λ(j,vt)=>[lu vo out,x7 gw t n (ap (aj ⟨b,off,ak⟩) aF.length cp) vt vo ed,bD 231 4 vt (r.length+1+j) ((stO p r body j).reverse.flatMap wY)]) (λ(j,_)=>body.length-j) (0,QX) (bO _) (by repeat' (first|exact dl|refine dh I ?_)) (by dsimp only;rw[aeM]) ?_
 rintro⟨j,QY⟩ hj;dsimp only at hj⊢
 by_cases c:j<body.length
 ·obtain⟨b4,ag3,rfl,hr4⟩:=hb6 J
  have hk:body.length-1-j<body.length:=by omega
  have Sv:=λL=>uj (W:=B) (L:=L) (f:=eX) (c:=2) (λ_=>rfl) (λq x hq=>iW ho (hr4 q x hq)) hk;have hst:=Xi p r hk;rw[show body.length-(body.length-1-j)=j+1 by omega,Ix]at hst;rw[show(((body.length-j:Nat):Int)-1)=((body.length-1-j:Nat):Int)by omega];generalize body[body.length-1-j]=x at*;obtain⟨xq,xm⟩:=x;refine abK (i:=2) I λlm lW=>?_
  repeat(first|refine GC ?_|refine gV (dQ (b:=aD) I I (decide_eq_true J)) ?_|refine GB ?_)
  refine eo ([]) (.calm 0 (.calm 1 (.calm 2 (.calm 3 (.calm 5 (.calm 6 (.calm 7 (.calm 8 (.calm 9 (.two 4 (.one 10 (.one 11 (.calm 12 (.calm 13 (.one 14 (.done)))))) 10 (.one 4 (.one 11 (.calm 12 (.calm 13 (.one 14 (.done)))))))))))))))) (cH []) ?_
  repeat(first|refine GW ?_|(refine GN ?_;first|refine QW (a_ (j:=body.length-1-j) bR.eq aL.ty I I hk) ?_|refine QW (bH aL.ty I I (Sv _)) ?_|refine QW (bP I (GV (xq,xm))) ?_))
  refine e9 I I ?_ ?_
  ·refine aI (aB (v:=QY) aL.ty I (aH (i:=1) I I)) I I I (aP (cH []) ?_)
   refine aO I (im (cs:=(wY (.sym (xq,xm))).toArray) [JV (.sym (xq,xm))] I I I (by intro v hv;simp at hv;subst hv;rfl) I I I λg46=>(aP (cH []) ?_));refine aO I (fc (i:=2) (k:=1) (ys:=wY (.sym (xq,xm))) I (lE (i:=3) I (λj u h=>by simpa using h) (bJ 1) ahk) I I I (λu hu=>IN [.sym (xq,xm)] u (by simpa using hu)) J J I λv'=>(aP (cH []) ?_))
   try refine GW ?_
   refine aO I (aY (i:=2) I λlm lW=>cD (i:=1) I I I lm lW I (aP (cH []) ?_));rw[show(Lg t n (ap (aj ⟨b,off,ak⟩) aF.length cp) QY vo ed).setIfInBounds (0+3) v'=Lg t n (ap (aj ⟨b,off,ak⟩) aF.length cp) v' vo ed from I]
   try refine GW ?_
   repeat(first|refine GC ?_|refine gV (df (r:=((body.length-(j+1):Nat):Int)-1) I I J J J) ?_|refine GB ?_)
   refine dS [0,1,2] ?_;exact cJ (j+1,v') (by show j+1<=body.length;omega) (by show body.length-(j+1)<body.length-j;omega) (hl:=by dsimp only;rw[hst,<-IP];rfl)
  refine im (cs:=(wY (.sym (xq,xm))).toArray) [JV (.sym (xq,xm))] I I I (by intro v hv;simp at hv;subst hv;rfl) I I I λg46=>(aP (cH []) ?_);refine aO I (aI (aB (v:=QY) aL.ty I (aH (i:=1) I I)) I I I (aP (cH []) ?_));refine aO I (fc (i:=2) (k:=1) (ys:=wY (.sym (xq,xm))) I (lE (i:=3) I (λj u h=>by simpa using h) (bJ 1) ahk) I I I (λu hu=>IN [.sym (xq,xm)] u (by simpa using hu)) J J I λv'=>(aP (cH []) ?_))
  try refine GW ?_
  refine aO I (aY (i:=2) I λlm lW=>cD (i:=1) I I I lm lW I (aP (cH []) ?_));rw[show(Lg t n (ap (aj ⟨b,off,ak⟩) aF.length cp) QY vo ed).setIfInBounds (0+3) v'=Lg t n (ap (aj ⟨b,off,ak⟩) aF.length cp) v' vo ed from I]
  try refine GW ?_
  repeat(first|refine GC ?_|refine gV (df (r:=((body.length-(j+1):Nat):Int)-1) I I J J J) ?_|refine GB ?_)
  refine dS [0,1,2] ?_;exact cJ (j+1,v') (by show j+1<=body.length;omega) (by show body.length-(j+1)<body.length-j;omega) (hl:=by dsimp only;rw[hst,<-IP];rfl)
 ·obtain rfl:j=body.length:=by omega
  rw[aau];have D5:(body.map TD.sym++ .close (p:Int)::r).length=r.length+1+body.length:=by simp;omega
  repeat(first|refine GC ?_|refine gV (dQ (b:=aE) I I (decide_eq_false J)) ?_|refine GB ?_)
  refine bK [1,0] [2] ahk I I (tH aJ.en I I I I) (λw hm hb=>AE gw t n _ QY vo out ed 1 (p:Int) w _ J J hb) I I I ?_;intro D8 _;refine zL ?_;dsimp only;have fin:∀(x:Bool),x=decide (ed+1<=2000/\(body.map TD.sym++ .close (p:Int)::r).length<=60)->(gi x)=(opS gw t n (ap (aj ⟨b,off,ak⟩) aF.length cp) (body.map .sym++ .close (p:Int)::r) (out++[(1,(p:Int))]) (ed+1)).val (QY,D8):=λx h=>by rw[h];rfl
  rw[D5]at fin
  by_cases c2:ed+1<=2000
  ·rw[decide_eq_true (show((ed+1:Nat):Int)<=2000 by omega)]
   by_cases c3:r.length+1+body.length<=60
   ·repeat(first|refine GC ?_|refine gV (aB (v:=QY) aL.ty I (aH (i:=1) I I)) ?_|refine gV (fy (i:=0) bR.eq I I) ?_|refine gV (zX (b:=aD) I I (decide_eq_true J)) ?_|refine GB ?_)
    refine da I I λw hm=>?_;rw[fin aD (by simp[c2,c3])];exact hm.cX (S:=opS gw t n (ap (aj ⟨b,off,ak⟩) aF.length cp) (body.map .sym++ .close (p:Int)::r) (out++[(1,(p:Int))]) (ed+1)) (QY,D8) trivial [1,0,2] ahk (by rw[<-D5];rfl)
   repeat(first|refine GC ?_|refine gV (aB (v:=QY) aL.ty I (aH (i:=1) I I)) ?_|refine gV (fy (i:=0) bR.eq I I) ?_|refine gV (zX (b:=aE) I I (decide_eq_false J)) ?_|refine GB ?_)
   refine da I I λw hm=>?_;rw[fin aE (by simp[c3])];exact hm.cX (S:=opS gw t n (ap (aj ⟨b,off,ak⟩) aF.length cp) (body.map .sym++ .close (p:Int)::r) (out++[(1,(p:Int))]) (ed+1)) (QY,D8) trivial [1,0,2] ahk (by rw[<-D5];rfl)
  rw[decide_eq_false (show ¬((ed+1:Nat):Int)<=2000 by omega)]
  try refine GA ?_
  refine da I I λw hm=>?_;rw[fin aE (by simp[c2])];exact hm.cX (S:=opS gw t n (ap (aj ⟨b,off,ak⟩) aF.length cp) (body.map .sym++ .close (p:Int)::r) (out++[(1,(p:Int))]) (ed+1)) (QY,D8) trivial [1,0,2] ahk (by rw[<-D5];rfl)
end cZ
namespace cZ
open Go.RowKit dr eH fJ
theorem Q0(a:fJ.TD):(wY a).length=4:=rfl
theorem x8(v:Value)(l:List fJ.TD)(w:World)(hs:Sl w v l.length (l.flatMap wY))(pB:FuncId)(first cp:Array Value)(p:fJ.TD->Bool)(Dl:Enters aC pB)
 (hp:∀a∈l,∀w',Gr w w'->Calls aC pB (first++#[(aU (wY a).toArray)]++cp) w' (cY (ret (.bool (p a))) w')):
 Calls aC 208 #[v,.func (.func pB) first cp] w (cY (ret (av az (rv p l))) w):=by
 obtain⟨base,cap,rfl,lR,kA,fl⟩:=hs;unfold maxLen at kA;refine enter (args:=[ap base l.length cap,.func (.func pB) first cp]) (n:=19) Tryz.func208 I I I ?_
 try refine GA ?_
 refine eK (ι:=Nat) (λk=>k<=l.length/\∀j (hj:j<l.length),j<k->p l[j]=aE) (λk=>[(0,ap base l.length cap),(1,.func (.func pB) first cp),(7,av az l.length),(8,av az (k:Int))]) (λ_=>[]) (λk=>l.length-k) 0 ⟨by omega,λj hj h=>by omega⟩ ?_;rintro k ⟨h1,h2⟩
 by_cases c2:k<l.length
 ·obtain⟨b,off,rfl,hr⟩:=fl J
  have d_:=iB (L:=([]:List cU)) Q0 hr c2;have lz:=hp l[k] (cV c2)
  by_cases c3:p l[k]=aD
  ·rw[ry c2 c3 h2]
   rw[c3]at lz;clear hp h2 fl
   repeat(first|refine GA ?_|refine gV (a_ bR.eq aL.ty I I c2) ?_|refine gV (bH aL.ty I I d_) ?_)
   refine a8 (BI Dl I I) (λw hm=>lz w hm.below) I I I ?_;intro _ _
   try refine GA ?_
   exact fa
  have Kk:p l[k]=false:=by simpa using c3
  rw[Kk]at lz;clear hp fl c3
  repeat(first|refine GA ?_|refine gV (a_ bR.eq aL.ty I I c2) ?_|refine gV (bH aL.ty I I d_) ?_)
  refine a8 (BI Dl I I) (λw hm=>lz w hm.below) I I I ?_;intro _ _
  try refine GA ?_
  exact cJ (k+1) ⟨by omega,λj hj h=>if e:j<k then h2 j hj e else(by obtain rfl:j=k:=J;exact Kk)⟩ (by show l.length-(k+1)<l.length-k;omega)
 ·rw[rz λj hj=>h2 j hj J]
  clear hp h2 fl
  try refine GA ?_
  exact fa
theorem tD(v:Value)(l:List fJ.TD)(w:World)(hs:Sl w v l.length (l.flatMap wY))(pB:FuncId)(first cp:Array Value)(p:fJ.TD->Bool)(Dl:Enters aC pB)
 (hp:∀a∈l,∀w',Gr w w'->Calls aC pB (first++#[(aU (wY a).toArray)]++cp) w' (cY (ret (.bool (p a))) w')):
 Calls aC 180 #[v,.func (.func pB) first cp] w (cY (ret (.bool (l.any p))) w):=by
 refine enter (args:=[v,.func (.func pB) first cp]) (n:=9) Tryz.func180 I I I ?_;have hh:=λw' (hg:Gr w w')=>x8 v l w' (hs.gr hg) pB first cp p Dl λa ha B7 yC=>hp a ha B7 (hg.trans yC);have hr:=ph p l;rw[<-uk p l];generalize rv p l=r at*
 try refine GA ?_
 refine a8 (gK aJ.en I I I) (λw hm=>hh _ hm.below) I I I ?_;intro _ _
 repeat(first|refine GC ?_|refine gV (dQ I I I) ?_|refine GB ?_)
 exact fa
theorem D9(v:Value)(l:List fJ.TD)(w:World)(hs:Sl w v l.length (l.flatMap wY))(hl:l.length*40<=140737488355328):
 Calls aC 183 #[v] w (cY (dg 231 4 l.length (l.flatMap wY) id) w):=by
 obtain⟨base,cap,rfl,lR,kA,fl⟩:=hs;unfold maxLen at kA;refine enter (args:=[ap base l.length cap]) (n:=8) Tryz.func183 I I I ?_;have rj:∀w',Gr w w'->Sl w' (ap base l.length cap) l.length (l.flatMap wY):=λw' hg=>Sl.gr ⟨base,cap,rfl,lR,kA,fl⟩ hg;clear fl
 cases base with
 | none=>
  repeat(first|refine GC ?_|refine gV (ki bR.eq I I I) ?_|refine GB ?_)
  have h0:l=[]:=by
   cases l with
   |nil=>rfl
   |cons x l=>obtain⟨_,_,h,_,_,h2⟩:=rj w (Gr.refl w);simp only[jQ]at h;obtain⟨rfl,_⟩:=h;obtain⟨b,off,h,_⟩:=h2 (by simp);cases h
  subst h0;refine ef 231 4 ?_;exact da I I λw hm=>hm.meets (S:=dg 231 4 0 [] id) _ trivial [0] ahk I
 |some p=>
  repeat(first|refine GC ?_|refine gV (ki bR.eq I I I) ?_|refine GB ?_)
  refine wj I λg=>?_
  try refine GA ?_
  refine fc (i:=0) I (λw' hm=>rj w' hm.below) I I (lD Q0 l) (IN l) J J I λv'=>?_;rw[fg]
  try refine GA ?_
  refine da I I λw hm=>?_;exact hm.meets (S:=dg 231 4 l.length (l.flatMap wY) id) v' trivial [0] ahk (by simp[dg])
end cZ
namespace bV
open aV ey gB eg dq
open BK (DC)
section
variable{l:List aV.Prod}{T N:Nat}{lk:Int->Int->Nat}{Nx:List (List Int)}{S:List (List Item)}{w:List Int}
variable{E R M:List Bool}{F W:List Nat}
theorem Lh(hI:SI l T N lk S.length Nx S){q:Nat}(hq:q<S.length):∀it∈S.getD q [],eU l T it:=by
 have xU:S.getD q []=S[q]:=by rw[cK,bQ hq];rfl
 rw[xU];exact hI.ss.right _ (cV hq)
end
end bV
namespace bV
open aV ey gB eg dq xN
open BK (DC)
section
variable{l:List aV.Prod}{T N:Nat}{lk:Int->Int->Nat}{Nx:List (List Int)}{S:List (List Item)}
inductive Stk(l:List aV.Prod)(T N:Nat)(lk:Int->Int->Nat)(S:List (List Item)):List Nat->List (dV×Tree)->Nat->Prop
 |start:Stk l T N lk S [0] [] 0
 |push {q s:Nat} {σ:List Nat} {ts:List (dV×Tree)} {a:Nat} {x:dV} {t:Tree} (h:Stk l T N lk S (q::σ) ts a) (hs:s<S.length) (hx:S.getD s []=jn l T lk (S.getD q []) x) (hne:jn l T lk (S.getD q []) x≠[]) (ht:Gi l t x a):Stk l T N lk S (s::q::σ) ((x,t)::ts) (a+leaves t)
theorem Stk.len{σ:List Nat}{ts:List (dV×Tree)}{a:Nat}(h:Stk l T N lk S σ ts a):σ.length=ts.length+1:=by
 induction h with
 |start=>rfl
 |push _ _ _ _ _ ih=>rw[dE,ih,dE]
section
end
end
end bV
namespace xN
open aV ey gB eg
def Li(o:dV->Nat->Nat->Nat)(x:dV)(oJ:Nat)(A:Nat->Bool):Nat->Nat->Bool
 |0,_=>aE
 |k+1,b=>Li o x oJ A k b||(A (oJ+k)&&decide (oJ+k<=b)&&decide (0<o x (oJ+k) b))
def Xk(p:Nat->Bool)(oJ:Nat):Nat->Bool
 |0=>aE
 |k+1=>Xk p oJ k||p (oJ+k)
def aav(o:dV->Nat->Nat->Nat)(O:Nat->Nat->Bool)(n oJ:Nat):List dV->(Nat->Bool)->Bool
 |[],A=>A n
 |x::r,A=>if A n=aD then aD else if x.1=2/\Xk (λa=>A a&&O x.2.toNat a) oJ (n+1-oJ)=aD then aD else aav o O n oJ r (Li o x oJ A (n+1-oJ))
def IQ(o:dV->Nat->Nat->Nat)(O:Nat->Nat->Bool)(M:List Bool)(n oJ:Nat)(l:List dV):Bool:=if pD M l aD=aD then aav o O n oJ l (λb=>decide (b=oJ))else aE
section
variable{o:dV->Nat->Nat->Nat}{x:dV}{oJ:Nat}{A:Nat->Bool}
theorem GZ{b:Nat}:∀{k:Nat},Li o x oJ A k b=aD↔∃i,i<k/\A (oJ+i)=aD/\oJ+i<=b/\0<o x (oJ+i) b
 |0=>by simp[Li]
 | k +1=>by
  rw[Li,mA,GZ,fU,fU,decide_eq_true_iff,decide_eq_true_iff]
  constructor
  ·rintro(⟨i,h1,h2⟩|⟨⟨h1,h2⟩,h3⟩)
   exact⟨i,by omega,h2⟩;exact⟨k,by omega,h1,h2,h3⟩
  rintro⟨i,h1,h2,h3,h4⟩
  by_cases e:i=k
  subst e;exact .inr ⟨⟨h2,h3⟩,h4⟩;exact .inl ⟨i,by omega,h2,h3,h4⟩
theorem Lj{p:Nat->Bool}:∀{k:Nat},Xk p oJ k=aD↔∃i,i<k/\p (oJ+i)=aD
 |0=>by simp[Xk]
 | k +1=>by
  rw[Xk,mA,Lj]
  constructor
  ·rintro(⟨i,h1,h2⟩|h1)
   exact⟨i,by omega,h2⟩;exact⟨k,by omega,h1⟩
  rintro⟨i,h1,h2⟩
  by_cases e:i=k
  subst e;exact .inr h2;exact .inl ⟨i,by omega,h2⟩
end
section
variable{w:List Int}{l:List aV.Prod}{n:Nat}{c:qA}{O:Nat->Nat->Bool}
theorem D_:∀(b:List dV),(∀x∈b,∃ws,Fe l x ws)->∃ws,rD l b ws
 |[],_=>⟨[],.nil⟩
 |x::r,h=>by
  obtain⟨u,h1⟩:=h x (by simp);obtain⟨s,h2⟩:=D_ r λy hy=>h y (by simp[hy]);exact⟨u++s,.cons h1 h2⟩
theorem Xl{a b:Nat}(h:a<=b):cut w a b++w.drop b=w.drop a:=by
 unfold cut;have e3:w.drop b=(w.drop a).drop (b-a):=by rw[qM,show a+(b-a)=b by omega]
 rw[e3,tP]
theorem Ea(hc:Lfp w l n c)(hs:pC n l)(hO:∀(k:Nat) a,O k a=aD->a<=w.length->∃v,Fe l (2,(k:Int)) (w.drop a++v)){oJ:Nat}(hf:oJ<=w.length):∀(body:List dV) (A:Nat->Bool) (pre:List dV),(∀x∈body,(x.1=1\/(x.1=2/\0<=x.2/\x.2<(n:Int)))/\∃ws,Fe l x ws)->(∀b,oJ<=b->b<=w.length->A b=aD->rD l pre (cut w oJ b))->aav (Dq c w) O w.length oJ body A=aD->∃v,rD l (pre++body) (w.drop oJ++v)
 | [],A,pre,_,hA,h=>by
  have:=hA w.length hf (bJ _) h;rw[Qn I]at this;exact⟨[],by rw[eB,eB];exact this⟩
 | x ::r,A,pre,hx,hA,h=>by
  rw[aav]at h;split at h
  ·rename_i h1
   have h2:=hA w.length hf (bJ _) h1;rw[Qn I]at h2;obtain⟨ws,h3⟩:=D_ (x::r) λy hy=>(hx y hy).2;exact⟨ws,h2.Ss h3⟩
  split at h
  ·rename_i h1
   obtain⟨h1,h2⟩:=h1;obtain⟨i,h3,h4⟩:=Lj.1 h2;rw[fU]at h4;have hk:=((hx x (by simp)).1.resolve_left J).2;obtain⟨v,h5⟩:=hO _ _ h4.2 J;obtain⟨x1,x2⟩:=x;dsimp only at h1 hk h5;subst h1;rw[uy hk.1]at h5;obtain⟨ws,h6⟩:=D_ r λy hy=>(hx y (by simp[hy])).2;refine⟨v++ws,?_⟩;have h7:=(hA (oJ+i) J J h4.1).Ss (rD.cons h5 h6);rw[eZ (w.drop (oJ+i)),<-eZ (cut w oJ (oJ+i)),Xl J]at h7;exact h7
  obtain⟨v,h1⟩:=Ea hc hs hO hf r _ (pre++[x]) (λy hy=>hx y (by simp[hy])) (λb K0 MJ hb=>by
   obtain⟨i,h3,h4,h5,h6⟩:=GZ.1 hb;rw[<-yJ (by omega:oJ<=oJ+i) h5];exact(hA _ J J h4).Ss (Wt (N1 hc hs (hx x (by simp)).1 h5 MJ h6))) h
  exact⟨v,by rw[eZ]at h1;exact h1⟩
theorem IR{M:List Bool}(hM:∀i:Nat,M.getD i aE=aD->∃ws,Fe l (2,(i:Int)) ws)(hc:Lfp w l n c)(hs:pC n l)(hO:∀(k:Nat) a,O k a=aD->a<=w.length->∃v,Fe l (2,(k:Int)) (w.drop a++v)){oJ:Nat}(hf:oJ<=w.length){body:List dV}(hx:∀x∈body,x.1=1\/(x.1=2/\0<=x.2/\x.2<(n:Int)))(h:IQ (Dq c w) O M w.length oJ body=aD):∃v,rD l body (w.drop oJ++v):=by
 unfold IQ at h;split at h
 ·rename_i hm
  refine Ea hc hs hO hf body _ [] (λx hb=>⟨hx x hb,?_⟩) (λb _ _ hb=>?_) h
  ·unfold pD at hm
   have:=List.all_eq_true.1 hm x hb;rcases hx x hb with c1|⟨c1,c2,_⟩
   exact⟨_,.Dn c1⟩;rw[if_neg J,if_pos c1]at this;obtain⟨ws,hw⟩:=hM _ this;obtain⟨x1,x2⟩:=x;dsimp only at c1 c2 hw;subst c1;rw[uy c2]at hw;exact⟨ws,hw⟩
  have:b=oJ:=by simpa using hb
  subst this;rw[KD];exact .nil
 cases h
end
end xN
namespace aV
abbrev Tx:=List UInt8
def dec(n:Nat):Tx:=if n<10 then [gv (48+n)]else [gv (48+n/10),gv (48+n %10)]
def wL(c:UInt8):Tx->Tx×Tx×Bool
 |[]=>([],[],aE)
 |b::r=>if b=c then([],r,aD)else(b::(wL c r).1,(wL c r).2.1,(wL c r).2.2)
def Xm(x:dV):Tx:=32::(if x.1=1 then 116 else 110)::dec x.2.toNat
theorem aaw(n:Nat):0<(dec n).length/\(dec n).length<=2:=by unfold dec;split<;>simp
theorem yJ{c:UInt8}:∀{a:Tx} (b:Tx),(∀x∈a,x≠c)->wL c (a++c::b)=(a,b,aD)
 |[],b,_=>by rw[fg,wL,if_pos I]
 |x::a,b,h=>by
  rw[ku,wL,if_neg (h x (ir ..)),yJ b λy hy=>h y (mb _ hy)]
theorem Xn{c:UInt8}:∀{s:Tx},(wL c s).2.2=aD->s=(wL c s).1++c::(wL c s).2.1
 |[],h=>by cases h
 | b::r,h=>by
  rw[wL]at h⊢;split at h
  ·rename_i e;rw[if_pos e,e];rfl
  rename_i e
  rw[if_neg e];show b::r=b::((wL c r).1++c::(wL c r).2.1)
  rw[<-Xn (s:=r) h]
theorem Qo{c:UInt8}{s:Tx}(h:(wL c s).2.2=aD):(wL c s).1.length+(wL c s).2.1.length+1=s.length:=by
 have:=congrArg List.length (Xn h);rw[bT,dE]at this;omega
theorem aax(x:dV):0<(Xm x).length/\(Xm x).length<=4:=by have:=aaw x.2.toNat;unfold Xm;simp;omega
theorem yO:∀l:List dV,l.length<=(l.flatMap Xm).length/\(l.flatMap Xm).length<=4*l.length
 |[]=>⟨bJ _,bJ _⟩
 |x::l=>by
  have h1:=aax x;have h2:=yO l;rw[lC,bT,dE];omega
end aV
namespace iT
open dT iA
open aV (wL yJ)
abbrev Bs:=List UInt8
abbrev Wd:=Bs×Rx
abbrev Rl:=Bs×List Bs
structure Sp where
 words:List Wd
 rules:List Rl
def wZ(b:UInt8):Bool:=decide (97<=b.toNat)&&decide (b.toNat<=122)
def sR(s:Bs):Bool:=decide (s≠[])&&decide (s.length<=12)&&s.all wZ
def lJ:List Wd->List Bs->Int×List Bs
 |[],of=>(0,of)
 |w::r,of=>if w.1≠[]/\sR w.1=aE then(1,of)else if cZ.VC w.2≠0 then(cZ.VC w.2,of)else if w.1∈of then(11,of)else lJ r (if w.1=[]then of else of++[w.1])
def q6:List Rl->List Bs->Int
 |[],_=>0
 |r::l,of=>if sR r.1=aE then 1 else if r.1∈of then 11 else q6 l of
def AG(of hd:List Bs)(l:List Bs):Bool:=l.all λx=>decide (x∈of)||decide (x∈hd)
def rO(of hd:List Bs)(l:List Rl):Bool:=l.all λr=>AG of hd r.2
def pQ(s:Sp):Int:=
 if 60<s.words.length\/60<s.words.length+s.rules.length then 2
 else if(lJ s.words []).1≠0 then(lJ s.words []).1
 else if q6 s.rules (lJ s.words []).2≠0 then q6 s.rules (lJ s.words []).2
 else if rO (lJ s.words []).2 (s.rules.map (·.1)) s.rules=aD then 0 else 11
end iT
namespace cZ
open Go.RowKit dr eH dT iA iT
def yZ:wF Wd:=Vx Vw xB
def G0:wF Rl:=Vx Vw (bW Vw)
def bsC(s:Bs):List Value:=[str s]
theorem Q1(s:Bs):(bsC s).length=1:=rfl
def Ud(F:Nat->Prop)(w:World)(v:Value)(s:Sp):Prop:=∃vw vr,v=aU #[vw,vr]/\kH yZ F w vw s.words/\kH G0 F w vr s.rules
theorem Xo{α:Type}{s:wF α}{w w':World}{v:Value}{l:List α}(h:kH s (ri w) w v l)(hg:Gr w w'):kH s (ri w') w' v l:=
 (h.stay λk hk=>hg.block k hk).mono λ_ hk=>jf hk hg.size
theorem Ud.gr{w w':World}{v:Value}{s:Sp}(h:Ud (ri w) w v s)(hg:Gr w w'):Ud (ri w') w' v s:=by
 obtain⟨vw,vr,h1,h2,h3⟩:=h;exact⟨vw,vr,h1,Xo h2 hg,Xo h3 hg⟩
def Th(n:Bs)(k:Int)(c:C4)(v:Value):List Value:=str n::nR k c v
theorem OP{n:Bs}{k:Int}{c:C4}{vk:Value}{j:Nat}{v:Value}(h:(nR k c vk)[j]?=aj v):(Th n k c vk).toArray[0+1+j]?=aj v:=by
 rw[List.getElem?_toArray,du,Nat.add_comm];exact h
theorem Q2{F:Nat->Prop}{w:World}{b off:Nat}{l:List Wd}(h:∀i (h:i<l.length),∃cs,yZ.is F w cs l[i]/\Rd w b (off+i*yZ.c) cs){k:Nat}(hk:k<l.length):
 ∃base cap,Rd w b (off+k*7) (Th l[k].1 l[k].2.kind l[k].2.uf (.slice base l[k].2.kids.length cap))/\om F w (sB l[k].2.kind l[k].2.uf (.slice base l[k].2.kids.length cap)) l[k].2/\l[k].1.length<=9223372036854775807:=by
 obtain⟨cs,⟨c1,c2,rfl,⟨rfl,h1⟩,h2⟩,h3⟩:=h k hk;have h2:kX F w c2 l[k].2:=h2;have h4:=h2.r;obtain⟨vk,e,-,hs⟩:=h4;obtain⟨base,cap,rfl,-⟩:=hs;have e2:c2=nR l[k].2.kind l[k].2.uf (.slice base l[k].2.kids.length cap):=by
  unfold sB at e;simp only[k7]at e
  simpa using congrArg Array.toList e
 subst e2;exact⟨base,cap,h3,h2.r,h1⟩
theorem Co{F:Nat->Prop}{w:World}{b off:Nat}{l:List Rl}(h:∀i (h:i<l.length),∃cs,G0.is F w cs l[i]/\Rd w b (off+i*G0.c) cs){k:Nat}(hk:k<l.length):
 ∃base cap,Rd w b (off+k*2) [str l[k].1,.slice base l[k].2.length cap]/\kH Vw F w (.slice base l[k].2.length cap) l[k].2/\l[k].1.length<=9223372036854775807:=by
 obtain⟨cs,⟨c1,c2,rfl,⟨rfl,h1⟩,v,rfl,hs⟩,h3⟩:=h k hk;have T5:=hs;obtain⟨base,cap,rfl,-⟩:=hs;exact⟨base,cap,h3,T5,h1⟩
theorem Ti{b:UInt8}{r:Bs}:(b::r).all wZ=(wZ b&&r.all wZ):=rfl
theorem G1{b:UInt8}:wZ b=aD↔¬((b.toNat:Int)<97)/\¬((b.toNat:Int)>122):=by
 unfold wZ;simp only[fU,decide_eq_true_eq];omega
theorem Bn(s:Bs)(w:World):Calls aC 74 #[str s] w (cY (ret (.bool (sR s))) w):=by
 refine enter (args:=[str s]) (n:=27) Tryz.func74 I I I ?_
 try refine GA ?_
 by_cases c0:s=[]
 ·subst c0
  repeat(first|refine GC ?_|refine gV (pf (b:=aD) I I I) ?_|refine GB ?_)
  exact ea I I I
 by_cases c1:12<s.length
 ·repeat(first|refine GC ?_|refine gV (pf (b:=aE) I I (decide_eq_false c0)) ?_|refine GB ?_)
  exact ea I I (by unfold sR;rw[decide_eq_false (show ¬s.length<=12 by omega)];simp)
 have hB:sR s=s.all wZ:=by unfold sR;rw[decide_eq_true c0,decide_eq_true (show s.length<=12 by omega)];rfl
 repeat(first|refine GC ?_|refine gV (pf (b:=aE) I I (decide_eq_false c0)) ?_|refine GB ?_)
 refine eK (ι:=Nat) (λk=>k<=s.length/\(s.drop k).all wZ=s.all wZ) (λk=>[(0,str s),(12,av az s.length),(13,av az (k:Int))]) (λ_=>[]) (λk=>s.length-k) 0 ⟨bO _,rfl⟩ ?_;rintro k ⟨i1,i2⟩
 by_cases c2:k<s.length
 ·rw[ff c2,Ti]at i2
  have hk:=bQ c2;rw[hB];generalize s[k]=b at*
  cases hb:wZ b with
  | true=>
   obtain⟨b1,b2⟩:=G1.1 hb;rw[hb,Bool.true_and]at i2
   repeat(first|refine GA ?_|refine gV (v_ (b:=b) bR.eq I I J hk) ?_)
   exact cJ (k+1) ⟨by omega,i2⟩ (by show s.length-(k+1)<s.length-k;omega)
  | false=>
   rw[hb,Bool.false_and]at i2;rw[<-i2]
   by_cases b1:(b.toNat:Int)<97
   ·repeat(first|refine GA ?_|refine gV (v_ (b:=b) bR.eq I I J hk) ?_)
    exact ea I I I
   have b2:(b.toNat:Int)>122:=by
    by_cases b2:(b.toNat:Int)>122
    exact b2;rw[G1.2 ⟨b1,b2⟩]at hb;cases hb
   repeat(first|refine GA ?_|refine gV (v_ (b:=b) bR.eq I I J hk) ?_)
   exact ea I I I
 have e:k=s.length:=by omega
 subst e;rw[xW]at i2;rw[hB,<-i2]
 try refine GA ?_
 exact ea I I I
def KeysOf(m:Bs->Option Value)(of:List Bs):Prop:=∀y,(m y).isSome=decide (y∈of)
theorem rP{m:Bs->Option Value}{of:List Bs}{y:Bs}{v:Value}(h:KeysOf m of)(e:m y=aj v):y∈of:=by
 have:=h y;rw[e]at this;exact of_decide_eq_true this.symm
theorem rQ{m:Bs->Option Value}{of:List Bs}{y:Bs}(h:KeysOf m of)(e:m y=ak):y∉of:=by
 have:=h y;rw[e]at this;exact of_decide_eq_false this.symm
theorem Lk{m:Bs->Option Value}{of:List Bs}{x:Bs}{v:Value}(h:KeysOf m of):KeysOf (λy=>if y=x then aj v else m y) (of++[x]):=λy=>by
 by_cases e:y=x
 subst e;simp;dsimp only;rw[if_neg e,h y];simp[e]
theorem io(w:World):(zeroValue 3).run aC w= .ok (av az 0) w:=by kernel_rfl
def sS(gm:Nat)(r:Int×List Bs):Spec ((Bs->Option Value)×Nat):=⟨λx=>KeysOf x.1 r.2/\x.2<=60,λ_=>av az r.1,λx=>[fD iE gm x.1 x.2]⟩
theorem Ll(vw vr:Value)(l:List Wd)(gm:Nat)(w0:World)(hw:kH yZ (ri w0) w0 vw l)(hl:l.length<=60)(w:World)(B:b9)(ho:p_ w0 B)(hm:Mem B [fD iE gm (λ_=>ak) 0] w):
 Calls aC 73 #[aU #[vw,vr],.map (aj gm)] w (dF (sS gm (lJ l [])) B):=by
 obtain⟨bw,cw,rfl,-,-,fl⟩:=hw;have hnm:=λs w=>Bn s w;refine dZ hm (args:=[aU #[ap bw l.length cw,vr],.map (aj gm)]) (n:=49) Tryz.func73 I I I ?_;refine bC (aM (b_ I I I λg2=>?_));refine zL ?_
 repeat(first|refine GA ?_|refine gV (aB (v:=ap bw l.length cw) aL.ty I (aH (i:=1) I I)) ?_)
 refine ue [0] ?_;generalize jM:lJ l []=fin;refine eK (ι:=Nat×List Bs×(Bs->Option Value)×Nat) (λ(k,of,m,n)=>k<=l.length/\n<=k/\KeysOf m of/\lJ (l.drop k) of=fin) (λ(k,_,_,_)=>[(1,.map (aj gm)),(11,ap bw l.length cw),(12,av az l.length),(13,av az (k:Int))]) (λ(_,_,m,n)=>[fD iE gm m n]) (λ(k,_)=>l.length-k) (0,[],λ_=>ak,0) ⟨bO _,bJ _,λy=>rfl,jM⟩ ?_;clear hm jM;rintro⟨k,of,m,n⟩ ⟨i1,i2,i3,i4⟩;dsimp only at i1 i2 i3 i4⊢
 by_cases c1:k<l.length
 ·obtain⟨b,off,rfl,_,hr⟩:=fl J
  obtain⟨bk,ck,q1,q2,q3⟩:=Q2 hr c1;rw[ff c1,lJ]at i4;have d_:∀(L:List cU) (j:Nat) (u:Value),(Th l[k].1 l[k].2.kind l[k].2.uf (.slice bk l[k].2.kids.length ck))[j]?=aj u->At B L ⟨b,off+k*7+j,ak⟩ u:=λL j u hj=>iW ho (q1 j u hj);have jr:=λw' (hg:Gr w0 w')=>uu _ _ w' (q2.gr hg);clear hr fl q1 q2;generalize l[k]=wd at*;obtain⟨nm,r⟩:=wd;dsimp only at*;generalize VC r=er at*;generalize r.kind=rk at*;generalize r.uf=rc at*;generalize r.kids.length=rn at*
  repeat(first|refine GA ?_|refine gV (a_ bR.eq aL.ty I I c1) ?_|refine gV (bH (cs:=Th nm rk rc (ap bk rn ck)) aL.ty I I (d_ _)) ?_)
  clear d_;refine bz I λg6=>?_;refine zL ?_
  try refine GA ?_
  refine il 1 (cs':=(Th nm rk rc (ap bk rn ck)).toArray) ?_;refine zL ?_
  repeat(first|refine GA ?_|refine gV (aB (v:=str nm) aL.ty I (aH (i:=1) I I)) ?_)
  by_cases e0:nm=[]
  ·subst e0
   rw[if_neg (λh=>h.1 I)]at i4
   repeat(first|refine GC ?_|refine gV (kV (b:=aE) I I I) ?_|refine gV (bH (cs:=nR rk rc (ap bk rn ck)) aL.ty I I (λj v hj=>aH (i:=1) I (OP hj))) ?_|refine GB ?_)
   refine a8 (ju aJ.en I I) (λw hm=>jr _ (ho.mem hm)) I I I ?_;intro _ _;refine zL ?_
   by_cases e1:er=0
   ·subst e1
    rw[if_neg (by simp)]at i4
    repeat(first|refine GA ?_|refine gV (aB (v:=str []) aL.ty I (aH (i:=1) I I)) ?_)
    cases Bg:m []with
    | some v=>
     have HZ:=rP i3 Bg;rw[if_pos HZ]at i4
     repeat(first|refine GA ?_|refine gV (aB (v:=str []) aL.ty I (aH (i:=1) I I)) ?_|refine gV (jW iE (x:=([]:Bs)) bR.eq io (i:=0) I I I q3 Bg) ?_)
     subst i4;exact da I I λw hm=>hm.cX (S:=sS gm _) (m,n) ⟨i3,by show n<=60;omega⟩ [0] ahk I
    | none=>
     have HZ:=rQ i3 Bg;rw[if_neg HZ,if_pos I]at i4
     repeat(first|refine GC ?_|refine gV (aB (v:=str []) aL.ty I (aH (i:=1) I I)) ?_|refine gV (jX iE (x:=([]:Bs)) bR.eq io (i:=0) I I I q3 Bg) ?_|refine gV (kV (b:=aE) I I I) ?_|refine GB ?_)
     refine dS [0] ?_;exact cJ (k+1,of,m,n) ⟨by omega,by show n<=k+1;omega,i3,i4⟩ (by show l.length-(k+1)<l.length-k;omega)
   rw[if_pos e1]at i4
   repeat(first|refine GC ?_|refine gV (bm (b:=aD) I I (decide_eq_true e1)) ?_|refine GB ?_)
   subst i4;exact da I I λw hm=>hm.cX (S:=sS gm _) (m,n) ⟨i3,by show n<=60;omega⟩ [0] ahk I
  repeat(first|refine GC ?_|refine gV (kV (b:=aD) I I (decide_eq_true e0)) ?_|refine gV (aB (v:=str nm) aL.ty I (aH (i:=1) I I)) ?_|refine GB ?_)
  refine mJ (ju aJ.en I I) (λw hm=>hnm nm w) I I I I I ?_;intro _ _;refine zL ?_
  cases hb:sR nm with
  | false=>
   rw[if_pos ⟨e0,hb⟩]at i4
   try refine GA ?_
   subst i4;exact da I I λw hm=>hm.cX (S:=sS gm _) (m,n) ⟨i3,by show n<=60;omega⟩ [0] ahk I
  | true=>
   rw[if_neg (λh=>by rw[hb]at h;cases h.2)]at i4
   repeat(first|refine GA ?_|refine gV (bH (cs:=nR rk rc (ap bk rn ck)) aL.ty I I (λj v hj=>aH (i:=1) I (OP hj))) ?_)
   refine a8 (ju aJ.en I I) (λw hm=>jr _ (ho.mem hm)) I I I ?_;intro _ _;refine zL ?_
   by_cases e1:er=0
   ·subst e1
    rw[if_neg (by simp)]at i4
    repeat(first|refine GA ?_|refine gV (aB (v:=str nm) aL.ty I (aH (i:=1) I I)) ?_)
    cases Bg:m nm with
    | some v=>
     have HZ:=rP i3 Bg;rw[if_pos HZ]at i4
     repeat(first|refine GA ?_|refine gV (aB (v:=str nm) aL.ty I (aH (i:=1) I I)) ?_|refine gV (jW iE (x:=nm) bR.eq io (i:=0) I I I q3 Bg) ?_)
     subst i4;exact da I I λw hm=>hm.cX (S:=sS gm _) (m,n) ⟨i3,by show n<=60;omega⟩ [0] ahk I
    | none=>
     have HZ:=rQ i3 Bg;rw[if_neg HZ,if_neg e0]at i4
     repeat(first|refine GC ?_|refine gV (aB (v:=str nm) aL.ty I (aH (i:=1) I I)) ?_|refine gV (jX iE (x:=nm) bR.eq io (i:=0) I I I q3 Bg) ?_|refine gV (kV (b:=aD) I I (decide_eq_true e0)) ?_|refine GB ?_)
     refine ml (i:=0) (x:=nm) (v:=av az (k:Int)) iE bR.eq I I I I q3 J ?_;refine zL ?_
     try refine GA ?_
     refine dS [0] ?_;exact jS (k+1,of++[nm],_,_) ⟨by omega,by rw[Bg];show n+1<=k+1;omega,Lk i3,i4⟩ (by show l.length-(k+1)<l.length-k;omega) (by repeat' (first|exact dl|refine dh I ?_)) I
   rw[if_pos e1]at i4
   repeat(first|refine GC ?_|refine gV (bm (b:=aD) I I (decide_eq_true e1)) ?_|refine GB ?_)
   subst i4;exact da I I λw hm=>hm.cX (S:=sS gm _) (m,n) ⟨i3,by show n<=60;omega⟩ [0] ahk I
 ·obtain rfl:k=l.length:=by omega
  rw[xW]at i4
  try refine GA ?_
  subst i4;exact da I I λw hm=>hm.cX (S:=sS gm _) (m,n) ⟨i3,by show n<=60;omega⟩ [0] ahk I
end cZ
namespace cZ
open Go.RowKit dr eH dT iA iT Go.ChangeShapes Go.WideShapes Go.ChangeAt
set_option maxRecDepth 100000
theorem Eb{α:Type}{s:wF α}{is:List Value->α->Prop}{w:World}{v:Value}{l:List α}(h:RZ w is s.c v l)(hi:∀cs a,is cs a->s.is (ri w) w cs a)(h0:0<s.c):kH s (ri w) w v l:=by
 obtain⟨base,cap,h1,h2,h3,h4⟩:=h;refine⟨base,cap,h1,h2,h3,λhl=>?_⟩;obtain⟨b,off,h5,h6⟩:=h4 hl;refine⟨b,off,h5,?_,λi qN=>let ⟨cs,h7,h8⟩:=h6 i qN;⟨cs,hi _ _ h7,h8⟩⟩;obtain⟨cs,h7,h8⟩:=h6 0 hl;have hlen:=s.len (hi _ _ h7);have hc:=h8 0 (cs[0]' J) (bQ J);exact np w _ hc
theorem Lm{H:Type}{M:Zy aC H}{enc0:TypeId×Value->H}{W:World}:kW M enc0 W 122 (λcs x=>yZ.is (ri W) W cs x):=λfuel cs x h hm=>by
 obtain⟨hl,Qd⟩:=z8 Tryz.underlying122 h hm;have hl7:cs.length=7:=hl;obtain⟨n,⟨e0,n1⟩,-⟩:=Qd 0 _ rfl (xu Tryz.underlying9);obtain⟨r,h1⟩:=Qd 1 _ rfl (λfuel=>Db (M:=M) (enc0:=enc0) (W:=W) fuel fuel (bJ _))
 replace e0:(cs.drop 0).take 1=[str n]:=e0
 replace h1:kX (ri W) W ((cs.drop 1).take 6) r:=h1
 refine⟨(n,r),[str n],(cs.drop 1).take 6,?_,⟨rfl,n1⟩,h1⟩;rw[<-e0];have e:(cs.drop 1).take 6=cs.drop 1:=gj (by rw[iv];omega);rw[e,qL,tP]
theorem Ln{H:Type}{M:Zy aC H}{enc0:TypeId×Value->H}{W:World}:kW M enc0 W 124 (λcs x=>G0.is (ri W) W cs x/\M.lim 9 x.2.length):=λfuel cs x h hm=>by
 obtain⟨hl,Qd⟩:=z8 Tryz.underlying124 h hm;have Ny:cs.length=2:=hl;obtain⟨n,⟨e0,n1⟩,-⟩:=Qd 0 _ rfl (xu Tryz.underlying9);obtain⟨l,⟨v,e1,hs⟩,C1⟩:=Qd 1 _ rfl (sA (c:=1) Tryz.underlying90 (by kernel_rfl) ahk (xu Tryz.underlying9) λcs a h=>by rw[h.1.1];rfl)
 replace e0:(cs.drop 0).take 1=[str n]:=e0
 replace e1:(cs.drop 1).take 1=[v]:=e1
 refine⟨(n,l),⟨[str n],[v],?_,⟨rfl,n1⟩,v,rfl,Eb (s:=Vw) hs (λcs a h=>⟨h.1.1,h.1.2⟩) ahk⟩,C1⟩
 match cs,Ny with
 |[x,y],_=>
  simp only[Ax,qL,sm,tU,ib,and_true]at e0 e1;subst e0 e1;rfl
theorem Lo{H:Type}{M:Zy aC H}{enc0:TypeId×Value->H}{W:World}:kW M enc0 W 25 (λcs s=>Ud (ri W) W (aU cs.toArray) s/\∀r∈s.rules,M.lim 9 r.2.length):=λfuel cs x h hm=>by
 obtain⟨hl,Qd⟩:=z8 Tryz.underlying25 h hm;have Ny:cs.length=2:=hl;obtain⟨ws,⟨vw,e0,h0⟩,-⟩:=Qd 0 _ rfl (sA (c:=7) Tryz.underlying22 (by kernel_rfl) ahk Lm λcs a h=>yZ.len h);obtain⟨rs,⟨vr,e1,h1⟩,-⟩:=Qd 1 _ rfl (sA (c:=2) Tryz.underlying23 (by kernel_rfl) ahk Ln λcs a h=>G0.len h.1)
 replace e0:(cs.drop 0).take 1=[vw]:=e0
 replace e1:(cs.drop 1).take 1=[vr]:=e1
 refine⟨⟨ws,rs⟩,⟨vw,vr,?_,Eb (s:=yZ) h0 (λcs a h=>h) ahk,Eb (s:=G0) h1 (λcs a h=>h.1) ahk⟩,λr hr=>?_⟩
 ·match cs,Ny with
  |[x,y],_=>
   simp only[Ax,qL,sm,tU,ib,and_true]at e0 e1;subst e0 e1;rfl
 obtain⟨i,hi,rfl⟩:=List.mem_iff_getElem.1 hr;have hi:i<rs.length:=hi;obtain⟨base,cap,_,_,_,h4⟩:=h1;obtain⟨b,off,_,h6⟩:=h4 J;obtain⟨cs,h7,_⟩:=h6 i hi;exact h7.2
end cZ
namespace cZ
open Go.RowKit dr eH dT iA iT Go.ChangeShapes Go.WideShapes Go.ChangeAt
set_option maxRecDepth 100000
theorem OQ{H:Type}{enc0:TypeId×Value->H}{W:World}{base:Nat}{v:Value}{d:DataW H}{ps:List MemPlace}(hv:Value.okWide aC W .any base 25 v)(h:DataW.Trod enc0 aC W 0 (λ_=>aD) aD 25 v d ps){ts:List TypeId}{ds:List (DataW H)}(hsz:(DataW.weightsEach aC ts ds).all (· <=reachBytes)=aD)(j:Nat)(hj:ts[j]?=aj 25)(hd:ds[j]?=aj d):
 ∃s:Sp,Ud (ri W) W v s/\∀r∈s.rules,r.2.length*16<=140737488351232:=by
 obtain⟨cs,s,rfl,h1,h2⟩:=Vs (M:=P8 aC H) Tryz.underlying25 hv h Lo (Kc hsz j hj hd);rw[Array.toArray_toList]at h1;exact⟨s,h1,h2⟩
end cZ
namespace xN
open aV ey gB eg cZ
def OR(O:Nat->Nat->Bool)(h a:Nat):Nat->Nat->Bool:=λi j=>if i=h/\j=a then aD else O i j
def fal(N m:Nat)(O:Nat->Nat->Bool):Nat:=fu (λi=>fu (λj=>if O i j=aD then 0 else 1) m) N
def Xp(l:List aV.Prod)(w:List Int)(O:Nat->Nat->Bool):Prop:=∀(k:Nat) a,O k a=aD->a<=w.length->∃v,Fe l (2,(k:Int)) (w.drop a++v)
theorem IS{f f':Nat->Nat}:∀{k i:Nat},i<k->(∀j,j<k->f j<=f' j)->f i<f' i->fu f k<fu f' k
 | k +1,i,hi,h,hl=>by
  rw[fu,fu]
  by_cases e:i=k
  ·subst e
   have:=Aq (f:=f) (f':=f') i λj hj=>h j J;omega
  have:=IS (f:=f) (f':=f') (k:=k) (i:=i) J (λj hj=>h j J) hl;have:=h k J;omega
theorem aay{N m h a:Nat}{O:Nat->Nat->Bool}(hh:h<N)(ha:a<m)(ho:O h a=aE):fal N m (OR O h a)<fal N m O:=by
 have hle:∀i j,(if OR O h a i j=aD then 0 else 1)<=(if O i j=aD then 0 else 1):=λi j=>by
  unfold OR
  by_cases e:i=h/\j=a
  rw[if_pos e,if_pos I];exact bO _;rw[if_neg e];exact bJ _
 unfold fal;refine IS hh (λi _=>Aq m λj _=>hle i j) (IS ha (λj _=>hle h j) ?_);have e1:OR O h a h a=true:=by unfold OR;rw[if_pos ⟨rfl,rfl⟩]
 rw[e1,ho];decide
structure Lp(l:List aV.Prod)(w:List Int)(o:dV->Nat->Nat->Nat)(M:List Bool)(N:Nat)(O O':Nat->Nat->Bool)(more:Bool)(i a:Nat):Prop where
 sound:Xp l w O'
 less:more=aD->fal N (w.length+1) O'<fal N (w.length+1) O
 still:more=aE->O'=O/\∀q a',(q<i\/(q=i/\a'<a))->∀h:q<l.length,a'<=w.length->IQ o O M w.length a' l[q].2=aD->O l[q].1.toNat a'=aD
section
variable{l:List aV.Prod}{w:List Int}{n:Nat}{c:qA}{M:List Bool}{O O':Nat->Nat->Bool}{more:Bool}{i a:Nat}
theorem Lp.start(h:Xp l w O)(o:dV->Nat->Nat->Nat)(N:Nat):Lp l w o M N O O aE 0 0:=⟨h,λh=>by(cases h),λ_=>⟨rfl,λq a' h=>by omega⟩⟩
theorem Lp.set(hM:∀i:Nat,M.getD i aE=aD->∃ws,Fe l (2,(i:Int)) ws)(hc:Lfp w l n c)(hs:pC n l){N:Nat}(h:Lp l w (Dq c w) M N O O' more i a)(hi:i<l.length)(ha:a<=w.length)(hN:l[i].1.toNat<N)(h0:O' l[i].1.toNat a=aE)(h1:IQ (Dq c w) O' M w.length a l[i].2=aD):Lp l w (Dq c w) M N O (OR O' l[i].1.toNat a) aD i (a+1):=by
 obtain⟨s1,s2,s3⟩:=hs _ (cV hi);refine⟨λk b hk hb=>?_,λ_=>?_,λe=>by cases e⟩
 ·unfold OR at hk
  by_cases e:k=l[i].1.toNat/\b=a
  ·obtain⟨rfl,rfl⟩:=e
   obtain⟨v,hv⟩:=IR hM hc hs h.sound ha (λx hx=>(s3 x hx)) h1;exact⟨v,.Zb (by show(2:Int)≠1;decide) (cV hi) (by show l[i].1=((l[i].1.toNat:Nat):Int);omega) hv⟩
  rw[if_neg e]at hk;exact h.sound k b hk hb
 have:=aay (N:=N) (m:=w.length+1) hN (by omega:a<w.length+1) h0
 cases hm:more
 ·obtain⟨rfl,_⟩:=h.still hm
  exact this
 have:=h.less hm;omega
end
theorem Xq{n:Nat}{l:List aV.Prod}(hf:Dw n l)(hs:pC n l):Dv (KB l) (λs=>Wq n s/\xO l s) (A_ n):=
 ⟨λs xo=>⟨(Dy hf).keep s xo.1,yK hs l (λ_ h=>h) _ xo.2⟩,λs xo=>(Dy hf).dec s xo.1⟩
theorem Xr{g:eL}{n:Nat}(jr:cL g=0)(hn:g.bM=n):Wq n (wJ n g.aF)/\xO g.aF (wJ n g.aF):=by
 have hf:=yH jr hn;have hs:=Sq jr hn;have hz:∀i:Nat,(dJ n aE).getD i aE=false:=λi=>by
  rw[cK,List.getElem?_replicate];split<;>rfl
 have h0:xO g.aF ⟨dJ n aE,(dJ n aE).set 0 aD,dJ n aE,aE⟩:=
  ⟨λi h=>(by have h:(dJ n aE).getD i aE=true:=h;rw[hz i]at h;cases h),λi h=>(by have h:(dJ n aE).getD i aE=true:=h;rw[hz i]at h;cases h)⟩
 obtain⟨s',h1,h2,h3⟩:=yG (Xq hf hs) _ ⟨dJ n aE,(dJ n aE).set 0 aD,dJ n aE,aE⟩ ⟨⟨by simp,by simp,by simp⟩,h0⟩ (bJ _);have e:wJ n g.aF=ie g.aF ⟨s'.E,s'.R,s'.M,aE⟩:=h3;rw[e];exact(Xq hf hs).keep s' h1
end xN
namespace cZ
open Go.RowKit dr eH
theorem Xs(a:Int):(dr.eV a).length=1:=rfl
theorem wM(v:Value)(l:List Int)(w:World)(hs:Sl w v l.length (l.flatMap dr.eV))(pB:FuncId)(first cp:Array Value)(p:Int->Bool)(Dl:Enters aC pB)
 (hp:∀a∈l,∀w',Gr w w'->Calls aC pB (first++#[((dr.eV a).headD undef)]++cp) w' (cY (ret (.bool (p a))) w')):
 Calls aC 209 #[v,.func (.func pB) first cp] w (cY (ret (av az (rv p l))) w):=by
 obtain⟨base,cap,rfl,lR,kA,fl⟩:=hs;unfold maxLen at kA;refine enter (args:=[ap base l.length cap,.func (.func pB) first cp]) (n:=19) Tryz.func209 I I I ?_
 repeat(first|refine qv I (qp I) I I ?_|refine cz ?_|refine bC ?_|refine aM ?_|refine qn I ?_|refine qo I ?_|refine c_ ?_|refine eQ ?_|refine dx ?_|refine dm ?_|refine cB ?_|refine eb ?_|refine bU ?_|refine cO ?_|refine cP ?_|refine dK ?_|refine dL I ?_|refine qv I (sq bR.eq I) I I ?_|refine qv I (aW I I (qT J)) I I ?_|refine qv I (aW I I (qF J)) I I ?_|refine qv I (bL I I J J I) I I ?_)
 refine eK (ι:=Nat) (λk=>k<=l.length/\∀j (hj:j<l.length),j<k->p l[j]=aE) (λk=>[(0,ap base l.length cap),(1,.func (.func pB) first cp),(7,av az l.length),(8,av az (k:Int))]) (λ_=>[]) (λk=>l.length-k) 0 ⟨by omega,λj hj h=>by omega⟩ ?_;rintro k ⟨h1,h2⟩
 by_cases c2:k<l.length
 ·obtain⟨b,off,rfl,hr⟩:=fl J
  have d_:=iB (L:=([]:List cU)) Xs hr c2;have lz:=hp l[k] (cV c2)
  by_cases c3:p l[k]=aD
  ·rw[ry c2 c3 h2]
   rw[c3]at lz;clear hp h2 fl
   repeat(first|refine qv I (qp I) I I ?_|refine cz ?_|refine bC ?_|refine aM ?_|refine qn I ?_|refine qo I ?_|refine c_ ?_|refine eQ ?_|refine dx ?_|refine dm ?_|refine cB ?_|refine eb ?_|refine bU ?_|refine cO ?_|refine cP ?_|refine dK ?_|refine dL I ?_|refine qv I (a_ bR.eq aL.ty I I c2) I I ?_|refine qv I (aB aL.ty I (d_ 0 _ I)) I I ?_|refine qv I (sq bR.eq I) I I ?_|refine qv I (aW I I (qT J)) I I ?_|refine qv I (aW I I (qF J)) I I ?_|refine qv I (bL I I J J I) I I ?_)
   refine a8 (BI Dl I I) (λw hm=>lz w hm.below) I I I ?_;intro _ _
   repeat(first|refine qv I (qp I) I I ?_|refine cz ?_|refine bC ?_|refine aM ?_|refine qn I ?_|refine qo I ?_|refine c_ ?_|refine eQ ?_|refine dx ?_|refine dm ?_|refine cB ?_|refine eb ?_|refine bU ?_|refine cO ?_|refine cP ?_|refine dK ?_|refine dL I ?_|refine qv I (sq bR.eq I) I I ?_|refine qv I (aW I I (qT J)) I I ?_|refine qv I (aW I I (qF J)) I I ?_|refine qv I (bL I I J J I) I I ?_)
   exact fa
  have Kk:p l[k]=false:=by simpa using c3
  rw[Kk]at lz;clear hp fl c3
  repeat(first|refine qv I (qp I) I I ?_|refine cz ?_|refine bC ?_|refine aM ?_|refine qn I ?_|refine qo I ?_|refine c_ ?_|refine eQ ?_|refine dx ?_|refine dm ?_|refine cB ?_|refine eb ?_|refine bU ?_|refine cO ?_|refine cP ?_|refine dK ?_|refine dL I ?_|refine qv I (a_ bR.eq aL.ty I I c2) I I ?_|refine qv I (aB aL.ty I (d_ 0 _ I)) I I ?_|refine qv I (sq bR.eq I) I I ?_|refine qv I (aW I I (qT J)) I I ?_|refine qv I (aW I I (qF J)) I I ?_|refine qv I (bL I I J J I) I I ?_)
  refine a8 (BI Dl I I) (λw hm=>lz w hm.below) I I I ?_;intro _ _
  repeat(first|refine qv I (qp I) I I ?_|refine cz ?_|refine bC ?_|refine aM ?_|refine qn I ?_|refine qo I ?_|refine c_ ?_|refine eQ ?_|refine dx ?_|refine dm ?_|refine cB ?_|refine eb ?_|refine bU ?_|refine cO ?_|refine cP ?_|refine dK ?_|refine dL I ?_|refine qv I (sq bR.eq I) I I ?_|refine qv I (aW I I (qT J)) I I ?_|refine qv I (aW I I (qF J)) I I ?_|refine qv I (bL I I J J I) I I ?_)
  exact cJ (k+1) ⟨by omega,λj hj h=>if e:j<k then h2 j hj e else(by obtain rfl:j=k:=J;exact Kk)⟩ (by show l.length-(k+1)<l.length-k;omega)
 ·rw[rz λj hj=>h2 j hj J]
  clear hp h2 fl
  repeat(first|refine qv I (qp I) I I ?_|refine cz ?_|refine bC ?_|refine aM ?_|refine qn I ?_|refine qo I ?_|refine c_ ?_|refine eQ ?_|refine dx ?_|refine dm ?_|refine cB ?_|refine eb ?_|refine bU ?_|refine cO ?_|refine cP ?_|refine dK ?_|refine dL I ?_|refine qv I (sq bR.eq I) I I ?_|refine qv I (aW I I (qT J)) I I ?_|refine qv I (aW I I (qF J)) I I ?_|refine qv I (bL I I J J I) I I ?_)
  exact fa
theorem sT(v:Value)(l:List Int)(w:World)(hs:Sl w v l.length (l.flatMap dr.eV))(pB:FuncId)(first cp:Array Value)(p:Int->Bool)(Dl:Enters aC pB)
 (hp:∀a∈l,∀w',Gr w w'->Calls aC pB (first++#[((dr.eV a).headD undef)]++cp) w' (cY (ret (.bool (p a))) w')):
 Calls aC 185 #[v,.func (.func pB) first cp] w (cY (ret (.bool (l.any p))) w):=by
 refine enter (args:=[v,.func (.func pB) first cp]) (n:=9) Tryz.func185 I I I ?_;have hh:=λw' (hg:Gr w w')=>wM v l w' (hs.gr hg) pB first cp p Dl λa ha B7 yC=>hp a ha B7 (hg.trans yC);have hr:=ph p l;rw[<-uk p l];generalize rv p l=r at*
 repeat(first|refine qv I (qp I) I I ?_|refine cz ?_|refine bC ?_|refine aM ?_|refine dx ?_|refine cB ?_|refine bU ?_|refine qv I (dQ I I (qT J)) I I ?_|refine qv I (dQ I I (qF J)) I I ?_)
 refine a8 (gK aJ.en I I I) (λw hm=>hh _ hm.below) I I I ?_;intro _ _
 repeat(first|refine qv I (qp I) I I ?_|refine cz ?_|refine bC ?_|refine aM ?_|refine dx ?_|refine cB ?_|refine bU ?_|refine qv I (dQ I I I) I I ?_|refine qv I (dQ I I (qT J)) I I ?_|refine qv I (dQ I I (qF J)) I I ?_)
 exact fa
end cZ
namespace cZ
open Go.RowKit dr eH dT iA fq
theorem OS{α:Type}{f:α->List Value}{c:Nat}{W0:World}{W:b9}{L:List cU}{b off:Nat}{l:List α}(hc:∀a,(f a).length=c)(ho:p_ W0 W)(h:Rd W0 b off (l.flatMap f)){k:Nat}(hk:k<l.length)(j:Nat)(u:Value)(hj:(f l[k])[j]?=aj u):At W L ⟨b,off+k*c+j,ak⟩ u:=by
 have Zz:j<c:=by rw[<-hc l[k]];exact(dv.1 hj).1
 rw[l6];exact Qb ho h _ u (by rw[ui hc l k j hk Zz];exact hj)
end cZ
namespace iU
abbrev Ev:=Int×Int
def sa(x:Ev):Bool:=decide (x.1<1)||decide (4<x.1)||decide (x.2<0)||decide (1099511627776<x.2)
end iU
namespace iU
def cL(wait:List Ev)(c g:Int):Int:=if 4200<wait.length then 2 else if c<0 then 1 else if 1073741824<c then 1 else if g<0 then 1 else if 1099511627776<g then 1 else if wait.any sa=aD then 1 else 0
theorem de{wait:List Ev}{c g:Int}(h:cL wait c g=0):wait.length<=4200/\0<=c/\c<=1073741824/\0<=g/\g<=1099511627776/\wait.any sa=false:=by
 unfold cL at h;split at h;· simp at h
 split at h;· simp at h
 split at h;· simp at h
 split at h;· simp at h
 split at h;· simp at h
 split at h;· simp at h
 rename_i a b c d e f
 exact⟨by omega,by omega,by omega,by omega,by omega,by simpa using f⟩
def Fp(wait:List Ev)(c g:Int)(l:List Ev):Int:=if cL wait c g≠0 then cL wait c g else if l.any sa=aD then 1 else if 4200<wait.length+l.length then 18 else 0
def IT(wait:List Ev)(c g:Int)(l:List Ev):List Ev:=if Fp wait c g l=0 then wait++l else wait
theorem aaz{wait:List Ev}{c g:Int}{l:List Ev}(h:Fp wait c g l=0):cL wait c g=0/\l.any sa=aE/\wait.length+l.length<=4200:=by
 unfold Fp at h;split at h;contradiction;split at h;simp at h;split at h;simp at h
 rename_i a b d
 exact⟨by simpa using a,by simpa using b,by omega⟩
def ot(wait:List Ev)(c g n:Int):Int:=if cL wait c g≠0 then cL wait c g else if n<1 then 1 else if 1073741824<n then 1 else 0
def x9(wait:List Ev)(c g n:Int):Int:=if ot wait c g n=0 then min (c+n) 1073741824 else c
theorem Tj{wait:List Ev}{c g n:Int}(h:ot wait c g n=0):cL wait c g=0/\1<=n/\n<=1073741824:=by
 unfold ot at h;split at h;contradiction;split at h;simp at h;split at h;simp at h
 rename_i a b d
 exact⟨by simpa using a,by omega,by omega⟩
def G2(wait:List Ev)(c g n:Int):Int:=if cL wait c g≠0 then cL wait c g else if n<0 then 1 else 0
def takeN(wait:List Ev)(c n:Int):Nat:=(min n (min c wait.length)).toNat
end iU
namespace cZ
open Go.RowKit dr eH
def pR(w:World)(e:TypeId)(size:Nat)(v:Value)(n:Nat)(xs:List Value):Prop:=
 xs.length=n*size/\((v=ap ak 0 0/\n=0)\/∃g off cap kg,v=ap (aj ⟨g,off,ak⟩) n cap/\w.heap[g]?=aj (.cells kg e (0,0))/\n<=cap/\cap<=maxLen/\off+cap*size<=kg.size/\(kg.toList.drop off).take (n*size)=xs)
def q7(e:TypeId)(size:Nat)(v:Value)(n:Nat)(xs:List Value):cU:=
 ⟨v.ownBlock,λ_=>False,λw=>pR w e size v n xs,λw h k hk=>by
  rcases h.2 with⟨rfl,_⟩|⟨g,off,cap,kg,rfl,hg,_⟩
  exact hk.elim (λh=>by cases h) nk
  ·simp only[qK,dB,or_false]at hk
   subst hk;exact(lA.1 hg).1,λw w' h _ hb=>by
  refine⟨h.1,?_⟩;rcases h.2 with hn|⟨g,off,cap,kg,rfl,hg,rest⟩
  exact .inl hn;exact .inr ⟨g,off,cap,kg,rfl,by rw[hb g (.inl I)];exact hg,rest⟩⟩
theorem Tk{w:World}{e:TypeId}{size:Nat}{v:Value}{n:Nat}{xs:List Value}(h:w.ownsRow 0 e size v n xs):pR w e size v n xs:=by
 refine⟨h.1,?_⟩;rcases h.2 with hn|⟨g,cap,kg,rfl,_,hg,h1,h2,h3,h4⟩
 exact .inl hn;exact .inr ⟨g,0,cap,kg,rfl,hg,h1,h2,by omega,by rw[qL];exact h4⟩
theorem mg{w:World}{e:TypeId}{size:Nat}{v:Value}{n:Nat}{xs:List Value}(h:pR w e size v n xs):∃base cap,v=ap base n cap/\n<=cap/\cap<=maxLen/\(base=ak->cap=0):=by
 rcases h.2 with⟨rfl,rfl⟩|⟨g,off,cap,kg,rfl,hg,h1,h2,h3,h4⟩
 exact⟨ak,0,rfl,bJ _,bO _,λ_=>rfl⟩;exact⟨_,cap,rfl,h1,h2,λh=>by cases h⟩
theorem Bo{w:World}{e:TypeId}{size:Nat}{g off m cap n:Nat}{xs:List Value}(h:pR w e size (ap (aj ⟨g,off,ak⟩) m cap) n xs){j:Nat}{u:Value}(hu:xs[j]?=aj u):w.cell? ⟨g,off+j,ak⟩=aj u:=by
 rcases h.2 with⟨h,_⟩|⟨g',Ag,HP,kg,hv,hg,h1,h2,h3,h4⟩
 cases h
 cases hv
 rw[cell_of_row w g (off+j) kg e (0,0) hg];rw[<-h4,uA]at hu;split at hu;rw[List.getElem?_drop]at hu;simpa using hu
 cases hu
theorem Lq{w:World}{e:TypeId}{size:Nat}{base:Option Addr}{cap n:Nat}{xs:List Value}(h:pR w e size (ap base (n+1) cap) (n+1) xs):pR w e size (tB base cap size 1 (n+1)) n (xs.drop size):=by
 rcases h.2 with⟨_,h⟩|⟨g,off,HP,kg,hv,hg,h1,h2,h3,h4⟩
 cases h
 cases hv
 have hl:=h.1;refine⟨by rw[iv,hl,kQ];omega,.inr ?_⟩;unfold tB
 by_cases c:cap=1
 ·subst c
  obtain rfl:n=0:=by omega
  rw[if_pos I];refine⟨g,off,0,kg,rfl,hg,bJ _,bO _,by omega,?_⟩;have e:xs.drop size=[]:=je (by rw[hl];omega);rw[e];simp
 rw[if_neg c];refine⟨g,off+size,cap-1,kg,?_,hg,by omega,by omega,?_,?_⟩;rw[Ov,Nat.one_mul,fv,Ix]
 ·obtain⟨q,rfl⟩:∃q,cap=q+1:=⟨cap-1,by omega⟩
  rw[kQ]at h3;rw[Ix];omega
 rw[<-h4,List.drop_take,qM,kQ,Ix]
section
variable{P:Program}{n:Nat}{W:b9}{fr:Fr}{L:List cU}{Q:Exit->Act->World->Prop}{ops:Array Oper}{rest:List Oper}{d:Nat}{ty:TypeId}{pos:String}{after:Array Edge}
theorem Tl{i g off size cap m k:Nat}{e:TypeId}{xs:List Value}(hi:L[i]?=aj (q7 e size (ap (aj ⟨g,off,ak⟩) m cap) k xs)){j:Nat}{v:Value}(hv:xs[j]?=aj v):At W L ⟨g,off+j,ak⟩ v:=λw hm=>Bo (hm.get hi) hv
theorem Q3{i size m:Nat}{e:TypeId}{v:Value}{xs:List Value}(hi:L[i]?=aj (q7 e size v m xs))(h:∀base cap,v=ap base m cap->m<=cap->cap<=maxLen->(base=ak->cap=0)->TL P n W ops Q rest fr L):TL P n W ops Q rest fr L:=⟨λa w hr hm=>by
 obtain⟨base,cap,h1,h2,h3,h4⟩:=mg (hm.get hi:pR w e size v m xs);exact(h base cap h1 h2 h3 h4).go a w hr hm⟩
theorem Xt(i:Nat){e:TypeId}{size m cap:Nat}{base:Option Addr}{xs:List Value}(hi:L[i]?=aj (q7 e size (ap base (m+1) cap) (m+1) xs))(h:TL P n W ops Q rest fr (L.set i (q7 e size (tB base cap size 1 (m+1)) m (xs.drop size)))):TL P n W ops Q rest fr L:=
  ZD (q7 e size (tB base cap size 1 (m+1)) m (xs.drop size)) hi (λ_ h=>Lq h) (λk hk=>by
    cases base with
    |none=>unfold tB at hk;split at hk<;>cases hk
    | some q=>
      unfold tB at hk;split at hk;exact hk;simp only[q7,Ov,qK,dB]at hk⊢;unfold Addr.add at hk;split at hk<;>exact hk) (λ_ h=>nk h) h
theorem IU{t ty e:TypeId}{i:TypeInfo}{z:Value}{size bytes:Nat}(ht:P.underlying t=aj (.slice e))(hi:P.info? e=aj i)(hz:i.zero=aj z)(mi:i.size=size)(JN:i.bytes=bytes)(Nn:z.cells.size=size)(hsz:0<size)(w:World)
 {v:Value} {m:Nat} {xs:List Value} (mw:pR w e size v m xs) {a:Addr} {k c:Nat} {news:List Value} (hl:news.length=k*size) (A3:∀j u,news[j]?=aj u->w.cell? (a.add j)=aj u) (h1:∀u∈news,u.oneCell'=aD)
 (r9:m+k<=maxLen) (zY:(m+k)*bytes<=140737488355328):
 ∃v' w',(tL #[t,t] ty #[v,ap (aj a) k c]).run P w= .ok v' w'/\pR w' e size v' (m+k) (xs++news)/\w.grownBy w' v.ownBlock/\(∀q,v'.ownBlock=aj q->v.ownBlock=aj q\/w.heap.size<=q):=by
 rcases mw.2 with⟨rfl,rfl⟩|⟨g,off,cap,kg,rfl,hg,hnc,No,hcs,yp⟩
 ·obtain⟨v',w',hr,h2,h3,h4⟩:=oh (ty:=ty) (c:=c) ht hi hz mi JN Nn hsz w (⟨mw.1,.inl ⟨rfl,rfl⟩⟩:w.ownsRow 0 e size (ap ak 0 0) 0 xs) hl A3 h1 r9 zY
  exact⟨v',w',hr,Tk h2,h3,h4⟩
 ·have hlen:(xs++news).length=(m+k)*size:=by rw[bT,mw.1,hl,jF]
  have ad8:((m+k:Nat):Int)<=9223372036854775807:=by simp only[maxLen]at r9;omega
  subst mi JN
  by_cases hroom:m+k<=cap
  ·have CS:off+m*i.size+news.length<=kg.size:=by
    have:=o8 i.size hroom;rw[jF,<-hl]at this;omega
   have hf:=run_firstCells_some (P:=P) w i.size k a k c news hl A3;have hst:=run_storeCells_at P g (off+m*i.size) e news 0 kg w hg (by simpa using CS) h1;simp only[iO]at hst;refine⟨ap (aj ⟨g,off,ak⟩) (m+k) cap,_,by simp[tL,run_underlying ht,sizeOf,typeInfo,hi,zy,hroom,hf,fv,hst];rfl,⟨hlen,.inr ⟨g,off,cap,_,rfl,setRow_heap w g kg _ e _ hg,hroom,No,?_,?_⟩⟩,⟨rfl,rfl,rfl,by simp,λk hk h=>setRow_other w g k _ (λe=>h (by simp[qK,e]))⟩,λq hq=> .inl hq⟩
   ·simp only[eE,bT,jR,iv,nj]
    omega
   have e1:kg.toList.take (off+m*i.size)=kg.toList.take off++xs:=by rw[List.take_add,yp]
   have e2:(kg.toList.take off).length=off:=by rw[jR,nj];omega
   show((kg.toList.take (off+m*i.size)++(news++kg.toList.drop (off+m*i.size+news.length))).drop off).take _=_
   rw[e1,eZ,List.drop_append,je (WZ e2),e2,px,qL,fg,<-eZ,<-hlen];exact WU
  have holds:∀j u,xs[j]?=aj u->w.cell? ((⟨g,off,ak⟩:Addr).add j)=aj u:=λj u hj=>by rw[fv];exact Bo mw hj
  have hr:=run_append_grow (P:=P) w t ty e i z ht hi hz ⟨g,off,ak⟩ m cap xs mw.1 holds a k c news hl A3 J ad8 (growslice_fits J zY);have hge:=grownCap_ge w (m+k) cap e;have No:grownCap w (m+k) cap e<=maxLen:=grownCap_le_maxLen w (m+k) cap e r9;refine⟨_,_,hr,⟨hlen,.inr ⟨w.heap.size,0,_,_,rfl,heap_alloc_new w.drew _,hge,No,?_,?_⟩⟩,⟨rfl,rfl,rfl,by simp,λk hk _=>heap_alloc_old w.drew _ hk⟩,λq hq=> .inr ?_⟩
  ·simp only[Array.size_append,eE,size_zeroCells,Nn,mw.1,hl,<-jF,du]
   exact WZ (by congr 1;omega)
  ·simp only[Array.toList_append,eZ,qL]
   rw[<-eZ,<-hlen];exact WU
  simp only[qK,dB]at hq;omega
theorem Q4{t e:TypeId}{s x:Operand}{i j size bytes m k:Nat}{v v2:Value}{xs ys:List Value}[ub:tA P t e size bytes](hi:L[i]?=aj (q7 e size v m xs))(hj:L[j]?=aj (bD e size v2 k ys))(hs:ev fr s=aj v)(hx:ev fr x=aj v2)
 (h1:∀u∈ys,u.oneCell'=aD) (r9:m+k<=140737488355328) (hb:(m+k)*bytes<=140737488355328) (hn:Nat.blt d n=aD)
 (h:∀v',TL P n W ops Q rest ((d,v')::fr) (L.set i (q7 e size v' (m+k) (xs++ys)))):
 TL P n W ops Q (⟨aj d,.call {callee:= .builtin .append,args:=#[s,x],argTypes:=#[t,t]},ty,pos,after,ak⟩::rest) fr L:=kU I λact w hr hm K hK=>by
 obtain⟨inf,z,ht,yq,hz,mi,JN,Nn,hsz⟩:=ub.el.ex;have mw:pR w e size v m xs:=hm.get hi;have Xu:w.ownsRow 0 e size v2 k ys:=hm.get hj;rcases Xu.2 with⟨rfl,rfl⟩|⟨g,cap,kg,rfl,_⟩
 ·have hy:ys=[]:=List.eq_nil_of_length_eq_zero (by rw[Xu.1];simp)
  subst hy;have h2:=h v;have tv:L.set i (q7 e size v (m+0) (xs++[]))=L:=by
   rw[eB,iO];apply mG;intro q
   by_cases hq:i=q
   ·subst hq
    rw[List.getElem?_set_self (dv.1 hi).1,hi]
   rw[List.getElem?_set_ne hq]
  rw[tv]at h2;have e':(execOp act.eval ⟨aj d,.call {callee:= .builtin .append,args:=#[s,x],argTypes:=#[t,t]},ty,pos,after,ak⟩).run P w= .ok (.value v) w:=by
   obtain⟨base,cap,rfl,q1,q2,q3⟩:=mg mw
   cases base with
   | none=>
    obtain rfl:=q3 rfl;obtain rfl:m=0:=by omega
    simp[lZ,sd,hr.ev hs,hr.ev hx,tL,run_underlying ht,sizeOf,typeInfo,yq,zy,CD,loadCells,loadCellsFrom]
   |some q=>simp[lZ,sd,hr.ev hs,hr.ev hx,tL,run_underlying ht,sizeOf,typeInfo,yq,zy,CD,loadCells,loadCellsFrom,q1,storeCells]
  unfold gG;rw[e'];exact hK _ _ (h2.go _ _ (hr.put hn _) hm)
 ·obtain⟨v',w',hrun,h2,h3,h4⟩:=IU (ty:=ty) (c:=cap) ht yq hz mi JN Nn hsz w mw Xu.1 (λq u hq=>by rw[fv,du];exact kx hj hq w hm) h1 (by unfold maxLen;omega) hb
  have e':(execOp act.eval ⟨aj d,.call {callee:= .builtin .append,args:=#[s,x],argTypes:=#[t,t]},ty,pos,after,ak⟩).run P w= .ok (.value v') w':=by
   simp only[lZ,sd,List.map_toArray,gu,List.map_nil,hr.ev hs,hr.ev hx,Sem.run_bind,hrun,Result.andThen_ok,Sem.run_pure]
  unfold gG;rw[e'];exact hK _ _ ((h v').go _ _ (hr.put hn _) (hm.BG hi h3 h2 h4))
end
end cZ
namespace cZ
open Go.RowKit dr eH iU
def tE(e:Ev):List Value:=[av az e.1,av az e.2]
theorem Xv(l:List Ev):∀u∈l.flatMap tE,u.oneCell'=true:=by
 intro u hu;obtain⟨f,_,h⟩:=uB.1 hu;simp only[tE,ez,iD,or_false]at h;rcases h with rfl|rfl<;>rfl
theorem G3(x:Ev)(w:World):Calls aC 137 #[aU (tE x).toArray] w (cY (ret (.bool (sa x))) w):=by
 obtain⟨k,q⟩:=x;refine enter (args:=[aU (tE (k,q)).toArray]) (n:=21) Tryz.func137 I I I ?_;refine bC (aM (b_ I I I λg=>?_))
 repeat' (first
  |refine aI (bX I) I I I ?_
  |refine aI (cC I) I I I ?_
  |refine cz ?_
  |refine bC ?_
  |refine aM ?_
  |refine dx ?_
  |refine cB ?_
  |refine bU ?_
  |refine aI (aB aL.ty I (aH (i:=0) I I)) I I I ?_
  |refine aI (dH I I) I I I ?_
  |refine aI (dI I I) I I I ?_
  |refine aI (dj cI.iC I I) I I I ?_
  |refine aI (aW I I (decide_eq_true J)) I I I ?_
  |refine aI (aW I I (decide_eq_false J)) I I I ?_
  |refine fM I I I I I I ?_
  |refine bI (aB aL.ty I (aH (i:=0) I I)) I I I I I ?_
  |refine bI (dj cI.iC I I) I I I I I ?_
  |refine bI (aW I I (decide_eq_true J)) I I I I I ?_
  |refine bI (aW I I (decide_eq_false J)) I I I I I ?_
  |refine bI (bB I I (decide_eq_true J)) I I I I I ?_
  |refine bI (bB I I (decide_eq_false J)) I I I I I ?_
  |refine tZ (aW I I I) I I I (λh=>?_) (λh=>?_)
  |refine pa (aW I I I) I I I I I (λh=>?_) (λh=>?_)
  |refine pa (bB I I I) I I I I I (λh=>?_) (λh=>?_)
  |((fail_if_success (refine Ng I I I ?_));(fail_if_success (refine Nh I I I ?_));refine zW I I I (λh=>?_) (λh=>?_)))
 all_goals (refine ea I I ?_;congr 1;unfold sa;dsimp only at*;simp only[*,decide_true,decide_false,Bool.true_or,Bool.false_or,Bool.or_true])
end cZ
namespace cZ
open Go.RowKit dr eH iU
theorem y0(a:Ev):(tE a).length=2:=rfl
theorem x_(v:Value)(l:List Ev)(w:World)(hs:Sl w v l.length (l.flatMap tE))(pB:FuncId)(first cp:Array Value)(p:Ev->Bool)(Dl:Enters aC pB)
 (hp:∀a∈l,∀w',Gr w w'->Calls aC pB (first++#[(aU (tE a).toArray)]++cp) w' (cY (ret (.bool (p a))) w')):
 Calls aC 162 #[v,.func (.func pB) first cp] w (cY (ret (av az (rv p l))) w):=by
 obtain⟨base,cap,rfl,lR,kA,fl⟩:=hs;unfold maxLen at kA;refine enter (args:=[ap base l.length cap,.func (.func pB) first cp]) (n:=19) Tryz.func162 I I I ?_
 repeat(first|refine aI (bX I) I I I ?_|refine aI (cC I) I I I ?_|refine cz ?_|refine bC ?_|refine aM ?_|refine dN I ?_|refine dO I ?_|refine c_ ?_|refine eQ ?_|refine dx ?_|refine dm ?_|refine cB ?_|refine eb ?_|refine bU ?_|refine cO ?_|refine cP ?_|refine dK ?_|refine dL I ?_|refine aI (eR bR.eq I) I I I ?_|refine aI (aW I I (decide_eq_true J)) I I I ?_|refine aI (aW I I (decide_eq_false J)) I I I ?_|refine aI (bL I I J J I) I I I ?_)
 refine eK (ι:=Nat) (λk=>k<=l.length/\∀j (hj:j<l.length),j<k->p l[j]=aE) (λk=>[(0,ap base l.length cap),(1,.func (.func pB) first cp),(7,av az l.length),(8,av az (k:Int))]) (λ_=>[]) (λk=>l.length-k) 0 ⟨by omega,λj hj h=>by omega⟩ ?_;rintro k ⟨h1,h2⟩
 by_cases c2:k<l.length
 ·obtain⟨b,off,rfl,hr⟩:=fl J
  have d_:=iB (L:=([]:List cU)) y0 hr c2;have lz:=hp l[k] (cV c2)
  by_cases c3:p l[k]=aD
  ·rw[ry c2 c3 h2]
   rw[c3]at lz;clear hp h2 fl
   repeat(first|refine aI (bX I) I I I ?_|refine aI (cC I) I I I ?_|refine cz ?_|refine bC ?_|refine aM ?_|refine dN I ?_|refine dO I ?_|refine c_ ?_|refine eQ ?_|refine dx ?_|refine dm ?_|refine cB ?_|refine eb ?_|refine bU ?_|refine cO ?_|refine cP ?_|refine dK ?_|refine dL I ?_|refine aI (a_ bR.eq aL.ty I I c2) I I I ?_|refine aI (bH aL.ty I I d_) I I I ?_|refine aI (eR bR.eq I) I I I ?_|refine aI (aW I I (decide_eq_true J)) I I I ?_|refine aI (aW I I (decide_eq_false J)) I I I ?_|refine aI (bL I I J J I) I I I ?_)
   refine a8 (BI Dl I I) (λw hm=>lz w hm.below) I I I ?_;intro _ _
   repeat(first|refine aI (bX I) I I I ?_|refine aI (cC I) I I I ?_|refine cz ?_|refine bC ?_|refine aM ?_|refine dN I ?_|refine dO I ?_|refine c_ ?_|refine eQ ?_|refine dx ?_|refine dm ?_|refine cB ?_|refine eb ?_|refine bU ?_|refine cO ?_|refine cP ?_|refine dK ?_|refine dL I ?_|refine aI (eR bR.eq I) I I I ?_|refine aI (aW I I (decide_eq_true J)) I I I ?_|refine aI (aW I I (decide_eq_false J)) I I I ?_|refine aI (bL I I J J I) I I I ?_)
   exact fa
  have Kk:p l[k]=false:=by simpa using c3
  rw[Kk]at lz;clear hp fl c3
  repeat(first|refine aI (bX I) I I I ?_|refine aI (cC I) I I I ?_|refine cz ?_|refine bC ?_|refine aM ?_|refine dN I ?_|refine dO I ?_|refine c_ ?_|refine eQ ?_|refine dx ?_|refine dm ?_|refine cB ?_|refine eb ?_|refine bU ?_|refine cO ?_|refine cP ?_|refine dK ?_|refine dL I ?_|refine aI (a_ bR.eq aL.ty I I c2) I I I ?_|refine aI (bH aL.ty I I d_) I I I ?_|refine aI (eR bR.eq I) I I I ?_|refine aI (aW I I (decide_eq_true J)) I I I ?_|refine aI (aW I I (decide_eq_false J)) I I I ?_|refine aI (bL I I J J I) I I I ?_)
  refine a8 (BI Dl I I) (λw hm=>lz w hm.below) I I I ?_;intro _ _
  repeat(first|refine aI (bX I) I I I ?_|refine aI (cC I) I I I ?_|refine cz ?_|refine bC ?_|refine aM ?_|refine dN I ?_|refine dO I ?_|refine c_ ?_|refine eQ ?_|refine dx ?_|refine dm ?_|refine cB ?_|refine eb ?_|refine bU ?_|refine cO ?_|refine cP ?_|refine dK ?_|refine dL I ?_|refine aI (eR bR.eq I) I I I ?_|refine aI (aW I I (decide_eq_true J)) I I I ?_|refine aI (aW I I (decide_eq_false J)) I I I ?_|refine aI (bL I I J J I) I I I ?_)
  exact cJ (k+1) ⟨by omega,λj hj h=>if e:j<k then h2 j hj e else(by obtain rfl:j=k:=J;exact Kk)⟩ (by show l.length-(k+1)<l.length-k;omega)
 ·rw[rz λj hj=>h2 j hj J]
  clear hp h2 fl
  repeat(first|refine aI (bX I) I I I ?_|refine aI (cC I) I I I ?_|refine cz ?_|refine bC ?_|refine aM ?_|refine dN I ?_|refine dO I ?_|refine c_ ?_|refine eQ ?_|refine dx ?_|refine dm ?_|refine cB ?_|refine eb ?_|refine bU ?_|refine cO ?_|refine cP ?_|refine dK ?_|refine dL I ?_|refine aI (eR bR.eq I) I I I ?_|refine aI (aW I I (decide_eq_true J)) I I I ?_|refine aI (aW I I (decide_eq_false J)) I I I ?_|refine aI (bL I I J J I) I I I ?_)
  exact fa
theorem ng(v:Value)(l:List Ev)(w:World)(hs:Sl w v l.length (l.flatMap tE))(pB:FuncId)(first cp:Array Value)(p:Ev->Bool)(Dl:Enters aC pB)
 (hp:∀a∈l,∀w',Gr w w'->Calls aC pB (first++#[(aU (tE a).toArray)]++cp) w' (cY (ret (.bool (p a))) w')):
 Calls aC 136 #[v,.func (.func pB) first cp] w (cY (ret (.bool (l.any p))) w):=by
 refine enter (args:=[v,.func (.func pB) first cp]) (n:=9) Tryz.func136 I I I ?_;have hh:=λw' (hg:Gr w w')=>x_ v l w' (hs.gr hg) pB first cp p Dl λa ha B7 yC=>hp a ha B7 (hg.trans yC);have hr:=ph p l;rw[<-uk p l];generalize rv p l=r at*
 repeat(first|refine aI (bX I) I I I ?_|refine aI (cC I) I I I ?_|refine cz ?_|refine bC ?_|refine aM ?_|refine dx ?_|refine cB ?_|refine bU ?_|refine aI (dQ I I (decide_eq_true J)) I I I ?_|refine aI (dQ I I (decide_eq_false J)) I I I ?_)
 refine a8 (gK aJ.en I I I) (λw hm=>hh _ hm.below) I I I ?_;intro _ _
 repeat(first|refine aI (bX I) I I I ?_|refine aI (cC I) I I I ?_|refine cz ?_|refine bC ?_|refine aM ?_|refine dx ?_|refine cB ?_|refine bU ?_|refine aI (dQ I I I) I I I ?_|refine aI (dQ I I (decide_eq_true J)) I I I ?_|refine aI (dQ I I (decide_eq_false J)) I I I ?_)
 exact fa
theorem pS(v:Value)(l:List Ev)(w:World)(hs:Sl w v l.length (l.flatMap tE))(hl:l.length*16<=140737488355328):
 Calls aC 109 #[v] w (cY (dg 55 2 l.length (l.flatMap tE) id) w):=by
 obtain⟨base,cap,rfl,lR,kA,fl⟩:=hs;unfold maxLen at kA;refine enter (args:=[ap base l.length cap]) (n:=8) Tryz.func109 I I I ?_;have rj:∀w',Gr w w'->Sl w' (ap base l.length cap) l.length (l.flatMap tE):=λw' hg=>Sl.gr ⟨base,cap,rfl,lR,kA,fl⟩ hg;clear fl
 cases base with
 | none=>
  repeat(first|refine aI (bX I) I I I ?_|refine aI (cC I) I I I ?_|refine cz ?_|refine bC ?_|refine aM ?_|refine dN I ?_|refine dO I ?_|refine c_ ?_|refine dx ?_|refine cB ?_|refine bU ?_|refine aI (ki bR.eq I I I) I I I ?_)
  have h0:l=[]:=by
   cases l with
   |nil=>rfl
   |cons x l=>obtain⟨_,_,h,_,_,h2⟩:=rj w (Gr.refl w);simp only[jQ]at h;obtain⟨rfl,_⟩:=h;obtain⟨b,off,h,_⟩:=h2 (by simp);cases h
  subst h0;refine ef 55 2 ?_;exact da I I λw hm=>hm.meets (S:=dg 55 2 0 [] id) _ trivial [0] ahk I
 |some p=>
  repeat(first|refine aI (bX I) I I I ?_|refine aI (cC I) I I I ?_|refine cz ?_|refine bC ?_|refine aM ?_|refine dN I ?_|refine dO I ?_|refine c_ ?_|refine dx ?_|refine cB ?_|refine bU ?_|refine aI (ki bR.eq I I I) I I I ?_)
  refine wj I λg=>?_
  repeat(first|refine aI (bX I) I I I ?_|refine aI (cC I) I I I ?_|refine cz ?_|refine bC ?_|refine aM ?_|refine dN I ?_|refine dO I ?_|refine c_ ?_|refine dx ?_|refine cB ?_|refine bU ?_)
  refine fc (i:=0) I (λw' hm=>rj w' hm.below) I I (lD y0 l) (Xv l) J J I λv'=>?_;rw[fg]
  repeat(first|refine aI (bX I) I I I ?_|refine aI (cC I) I I I ?_|refine cz ?_|refine bC ?_|refine aM ?_|refine dN I ?_|refine dO I ?_|refine c_ ?_|refine dx ?_|refine cB ?_|refine bU ?_)
  refine da I I λw hm=>?_;exact hm.meets (S:=dg 55 2 l.length (l.flatMap tE) id) v' trivial [0] ahk (by simp[dg])
end cZ
namespace cZ
open Go.RowKit dr eH iU
theorem kf{v:Value}{c g:Int}(h:v.oneCell'=aD):(#[v,av az c,av az g]:Array Value).toList.all Value.oneCell'=true:=by
 simp only[dw,dA,h];rfl
def y6(v:Value)(c g:Int):Value:=aU #[v,av az c,av az g]
theorem sU(v:Value)(wait:List Ev)(c g:Int)(w:World)(hs:Sl w v wait.length (wait.flatMap tE)):
 Calls aC 102 #[y6 v c g] w (cY (ret (av az (cL wait c g))) w):=by
 have JQ:=λw' (hg:Gr w w')=>ng v wait w' (hs.gr hg) 137 #[] #[] sa aJ.en (λa _ B7 _=>G3 a B7);obtain⟨base,cap,rfl,lR,kA,fl⟩:=hs;unfold maxLen at kA;clear fl;refine enter (args:=[y6 (ap base wait.length cap) c g]) (n:=32) Tryz.func102 I I I ?_;refine bC (aM (b_ I I I λgb=>?_))
 repeat' (first
  |refine aI (bX I) I I I ?_
  |refine aI (cC I) I I I ?_
  |refine cz ?_
  |refine bC ?_
  |refine aM ?_
  |refine dN I ?_
  |refine dO I ?_
  |refine c_ ?_
  |refine dx ?_
  |refine dm ?_
  |refine cB ?_
  |refine bU ?_
  |refine cO ?_
  |refine cP ?_
  |refine aI (aB aL.ty I (aH (i:=0) I I)) I I I ?_
  |refine aI (dH I I) I I I ?_
  |refine aI (dI I I) I I I ?_
  |refine aI (eR bR.eq I) I I I ?_
  |refine aI (dj cI.iC I I) I I I ?_
  |refine aI (aW I I (decide_eq_true J)) I I I ?_
  |refine aI (aW I I (decide_eq_false J)) I I I ?_
  |refine aI (bB I I (decide_eq_true J)) I I I ?_
  |refine aI (bB I I (decide_eq_false J)) I I I ?_
  |refine fM I I I I I I ?_
  |refine bI (aB aL.ty I (aH (i:=0) I I)) I I I I I ?_
  |refine bI (dj cI.iC I I) I I I I I ?_
  |refine bI (aW I I (decide_eq_true J)) I I I I I ?_
  |refine bI (aW I I (decide_eq_false J)) I I I I I ?_
  |refine bI (bB I I (decide_eq_true J)) I I I I I ?_
  |refine bI (bB I I (decide_eq_false J)) I I I I I ?_
  |refine tZ (aW I I I) I I I (λh=>?_) (λh=>?_)
  |refine pa (aW I I I) I I I I I (λh=>?_) (λh=>?_)
  |refine tZ (bB I I I) I I I (λh=>?_) (λh=>?_)
  |refine pa (bB I I I) I I I I I (λh=>?_) (λh=>?_)
  |refine mJ (gK aJ.en I I I) (λw hm=>JQ _ hm.below) I I I I I (λ_ _=>?_)
  |((fail_if_success (refine dN I ?_));(fail_if_success (refine dO I ?_));refine P0 I (λh=>?_) (λh=>?_))
  |((fail_if_success (refine Ng I I I ?_));(fail_if_success (refine Nh I I I ?_));refine zW I I I (λh=>?_) (λh=>?_)))
 all_goals (refine ea I I ?_;unfold cL;repeat (first|rfl|rw[if_pos (by first|omega|assumption)]|rw[if_neg (by first|omega|assumption|simp only[*,Bool.false_eq_true,not_false_eq_true])]))
theorem vv(v:Value)(wait:List Ev)(c g:Int)(w:World)(hs:Sl w v wait.length (wait.flatMap tE))(hl:wait.length*16<=140737488355328):
 Calls aC 101 #[y6 v c g] w (cY (dg 55 2 wait.length (wait.flatMap tE) λv=>y6 v c g) w):=by
 have lz:=λw' (hg:Gr w w')=>pS v wait w' (hs.gr hg) hl;refine enter (args:=[y6 v c g]) (n:=8) Tryz.func101 I I I ?_;refine bC (aM (b_ I I I λgb=>bz I λg2=>?_))
 repeat(first|refine cz ?_|refine bC ?_|refine aM ?_|refine dx ?_|refine cB ?_|refine bU ?_|refine aI (aB aL.ty I (aH (i:=0) I I)) I I I ?_|refine aI (dj cI.iC I I) I I I ?_)
 refine a8 (ju aJ.en I I) (λw hm=>lz _ hm.below) I I I ?_;intro v2 _
 repeat(first|refine cz ?_|refine bC ?_|refine aM ?_|refine dx ?_|refine cB ?_|refine bU ?_|refine aI (dj cI.iC I I) I I I ?_)
 refine aY (i:=2) I λoQ mL=>?_;refine cD (i:=0) I I I oQ mL I ?_
 repeat(first|refine cz ?_|refine bC ?_|refine aM ?_|refine dx ?_|refine cB ?_|refine bU ?_|refine aI (aQ (i:=0) aL.ty I I I) I I I ?_|refine aI (dj cI.iC I I) I I I ?_)
 refine aZ (i:=1) I I I I (kf mL) I ?_
 repeat(first|refine cz ?_|refine bC ?_|refine aM ?_|refine dx ?_|refine cB ?_|refine bU ?_|refine aI (dj cI.iC I I) I I I ?_)
 exact h_ (i:=1) I I I I λw hm=>hm.meets (S:=dg 55 2 wait.length (wait.flatMap tE) λv=>y6 v c g) v2 trivial [2] ahk I
def OT(m:List Ev)(c g e:Int):Spec Value:=dg 55 2 m.length (m.flatMap tE) λv=> .tuple #[y6 v c g,av az e]
theorem OU(v:Value)(wait:List Ev)(c g:Int)(vl:Value)(l:List Ev)(w:World)(hs:Sl w v wait.length (wait.flatMap tE))(hl:wait.length*16<=140737488355328)(ZI:Sl w vl l.length (l.flatMap tE)):
 Calls aC 173 #[y6 v c g,vl] w (cY (OT (IT wait c g l) c g (Fp wait c g l)) w):=by
 have jr:=λw' (hg:Gr w w')=>sU v wait c g w' (hs.gr hg);have hsm:=λw' (hg:Gr w w')=>vv v wait c g w' (hs.gr hg) hl;have JQ:=λw' (hg:Gr w w')=>ng vl l w' (ZI.gr hg) 137 #[] #[] sa aJ.en (λa _ B7 _=>G3 a B7);have rj:∀L,Y8 w L vl l.length (l.flatMap tE):=λL w' hm=>ZI.gr hm.below;obtain⟨base,cap,rfl,lR,kA,_⟩:=hs;obtain⟨abW,Oj,rfl,agK,aeN,_⟩:=ZI;unfold maxLen at kA aeN;refine enter (args:=[y6 (ap base wait.length cap) c g,ap abW l.length Oj]) (n:=35) Tryz.func173 I I I ?_;refine bC (aM (b_ I I I λg0=>bz I λg4=>?_));have l7:=aaz (wait:=wait) (c:=c) (g:=g) (l:=l);generalize hE:Fp wait c g l=E at*
 repeat(first|refine aI (bX I) I I I ?_|refine aI (cC I) I I I ?_|refine cz ?_|refine bC ?_|refine aM ?_|refine dN I ?_|refine dO I ?_|refine c_ ?_|refine dx ?_|refine dm ?_|refine cB ?_|refine bU ?_|refine cO ?_|refine cP ?_|refine aI (aQ (i:=0) aL.ty I I I) I I I ?_|refine aI (eR bR.eq I) I I I ?_|refine aI (dj cI.iC I I) I I I ?_|refine aI (bB I I (decide_eq_true J)) I I I ?_|refine aI (bB I I (decide_eq_false J)) I I I ?_|refine aI (aX I I (decide_eq_true J)) I I I ?_|refine aI (aX I I (decide_eq_false J)) I I I ?_|refine aI (bm I I (decide_eq_true J)) I I I ?_|refine aI (bm I I (decide_eq_false J)) I I I ?_|refine aI (df I I J J I) I I I ?_)
 refine a8 (ju aJ.en I I) (λw hm=>jr _ hm.below) I I I ?_;intro _ _
 repeat(first|refine aI (bX I) I I I ?_|refine aI (cC I) I I I ?_|refine cz ?_|refine cB ?_|refine aI (eR bR.eq I) I I I ?_|refine aI (dj cI.iC I I) I I I ?_|refine aI (bB I I (decide_eq_true J)) I I I ?_|refine aI (bB I I (decide_eq_false J)) I I I ?_|refine aI (aX I I (decide_eq_true J)) I I I ?_|refine aI (aX I I (decide_eq_false J)) I I I ?_|refine aI (bm I I (decide_eq_true J)) I I I ?_|refine aI (bm I I (decide_eq_false J)) I I I ?_|refine aI (df I I J J I) I I I ?_)
 refine U6 (ι:=Unit) (λ_=>True) (λ_=>[(1,ap abW l.length Oj),(2,aK (aj ⟨g0,0,ak⟩)),(4,aK (aj ⟨g4,0,ak⟩)),(6,av az E)]) (λ_=>[aR g0 (y6 (ap base wait.length cap) c g).cells 166,aR g4 #[ap ak 0 0,av az 0,av az 0] 166]) ?_ ?_
 ·unfold Fp at hE
  by_cases c1:cL wait c g=0
  ·rw[if_neg (by simpa using c1)]at hE
   by_cases c2:l.any sa=aD
   ·rw[if_pos c2]at hE
    subst hE;rw[c2]at JQ;rw[c1]
    repeat(first|refine aI (bX I) I I I ?_|refine aI (cC I) I I I ?_|refine cz ?_|refine bC ?_|refine aM ?_|refine dN I ?_|refine dO I ?_|refine c_ ?_|refine dx ?_|refine dm ?_|refine cB ?_|refine bU ?_|refine cO ?_|refine cP ?_|refine aI (eR bR.eq I) I I I ?_|refine aI (dj cI.iC I I) I I I ?_|refine aI (bB I I (decide_eq_true J)) I I I ?_|refine aI (bB I I (decide_eq_false J)) I I I ?_|refine aI (aX I I (decide_eq_true J)) I I I ?_|refine aI (aX I I (decide_eq_false J)) I I I ?_|refine aI (bm I I (decide_eq_true J)) I I I ?_|refine aI (bm I I (decide_eq_false J)) I I I ?_|refine aI (df I I J J I) I I I ?_)
    refine a8 (gK aJ.en I I I) (λw hm=>JQ _ hm.below) I I I ?_;intro _ _
    repeat(first|refine aI (bX I) I I I ?_|refine aI (cC I) I I I ?_|refine cz ?_|refine bC ?_|refine aM ?_|refine dN I ?_|refine dO I ?_|refine c_ ?_|refine dx ?_|refine dm ?_|refine cB ?_|refine bU ?_|refine cO ?_|refine cP ?_|refine aI (eR bR.eq I) I I I ?_|refine aI (dj cI.iC I I) I I I ?_|refine aI (bB I I (decide_eq_true J)) I I I ?_|refine aI (bB I I (decide_eq_false J)) I I I ?_|refine aI (aX I I (decide_eq_true J)) I I I ?_|refine aI (aX I I (decide_eq_false J)) I I I ?_|refine aI (bm I I (decide_eq_true J)) I I I ?_|refine aI (bm I I (decide_eq_false J)) I I I ?_|refine aI (df I I J J I) I I I ?_)
    exact eJ () trivial (by repeat' (first|exact dl|refine dh I ?_)) I
   rw[if_neg c2]at hE;have T_:l.any sa=false:=by simpa using c2
   rw[T_]at JQ;rw[c1]
   by_cases c3:4200<wait.length+l.length
   ·rw[if_pos c3]at hE
    subst hE
    repeat(first|refine aI (bX I) I I I ?_|refine aI (cC I) I I I ?_|refine cz ?_|refine bC ?_|refine aM ?_|refine dN I ?_|refine dO I ?_|refine c_ ?_|refine dx ?_|refine dm ?_|refine cB ?_|refine bU ?_|refine cO ?_|refine cP ?_|refine aI (eR bR.eq I) I I I ?_|refine aI (dj cI.iC I I) I I I ?_|refine aI (bB I I (decide_eq_true J)) I I I ?_|refine aI (bB I I (decide_eq_false J)) I I I ?_|refine aI (aX I I (decide_eq_true J)) I I I ?_|refine aI (aX I I (decide_eq_false J)) I I I ?_|refine aI (bm I I (decide_eq_true J)) I I I ?_|refine aI (bm I I (decide_eq_false J)) I I I ?_|refine aI (df I I J J I) I I I ?_)
    refine a8 (gK aJ.en I I I) (λw hm=>JQ _ hm.below) I I I ?_;intro _ _
    repeat(first|refine aI (bX I) I I I ?_|refine aI (cC I) I I I ?_|refine cz ?_|refine bC ?_|refine aM ?_|refine dN I ?_|refine dO I ?_|refine c_ ?_|refine dx ?_|refine dm ?_|refine cB ?_|refine bU ?_|refine cO ?_|refine cP ?_|refine aI (aB aL.ty I (aH (i:=0) I I)) I I I ?_|refine aI (eR bR.eq I) I I I ?_|refine aI (dj cI.iC I I) I I I ?_|refine aI (bB I I (decide_eq_true J)) I I I ?_|refine aI (bB I I (decide_eq_false J)) I I I ?_|refine aI (aX I I (decide_eq_true J)) I I I ?_|refine aI (aX I I (decide_eq_false J)) I I I ?_|refine aI (bm I I (decide_eq_true J)) I I I ?_|refine aI (bm I I (decide_eq_false J)) I I I ?_|refine aI (df I I J J I) I I I ?_)
    exact eJ () trivial (by repeat' (first|exact dl|refine dh I ?_)) I
   rw[if_neg c3]at hE;subst hE
   repeat(first|refine aI (bX I) I I I ?_|refine aI (cC I) I I I ?_|refine cz ?_|refine bC ?_|refine aM ?_|refine dN I ?_|refine dO I ?_|refine c_ ?_|refine dx ?_|refine dm ?_|refine cB ?_|refine bU ?_|refine cO ?_|refine cP ?_|refine aI (eR bR.eq I) I I I ?_|refine aI (dj cI.iC I I) I I I ?_|refine aI (bB I I (decide_eq_true J)) I I I ?_|refine aI (bB I I (decide_eq_false J)) I I I ?_|refine aI (aX I I (decide_eq_true J)) I I I ?_|refine aI (aX I I (decide_eq_false J)) I I I ?_|refine aI (bm I I (decide_eq_true J)) I I I ?_|refine aI (bm I I (decide_eq_false J)) I I I ?_|refine aI (df I I J J I) I I I ?_)
   refine a8 (gK aJ.en I I I) (λw hm=>JQ _ hm.below) I I I ?_;intro _ _
   repeat(first|refine aI (bX I) I I I ?_|refine aI (cC I) I I I ?_|refine cz ?_|refine bC ?_|refine aM ?_|refine dN I ?_|refine dO I ?_|refine c_ ?_|refine dx ?_|refine dm ?_|refine cB ?_|refine bU ?_|refine cO ?_|refine cP ?_|refine aI (aB aL.ty I (aH (i:=0) I I)) I I I ?_|refine aI (eR bR.eq I) I I I ?_|refine aI (dj cI.iC I I) I I I ?_|refine aI (bB I I (decide_eq_true J)) I I I ?_|refine aI (bB I I (decide_eq_false J)) I I I ?_|refine aI (aX I I (decide_eq_true J)) I I I ?_|refine aI (aX I I (decide_eq_false J)) I I I ?_|refine aI (bm I I (decide_eq_true J)) I I I ?_|refine aI (bm I I (decide_eq_false J)) I I I ?_|refine aI (df I I J J I) I I I ?_)
   exact eJ () trivial (by repeat' (first|exact dl|refine dh I ?_)) I
  rw[if_pos c1]at hE;subst hE
  repeat(first|refine aI (bX I) I I I ?_|refine aI (cC I) I I I ?_|refine cz ?_|refine bC ?_|refine aM ?_|refine dN I ?_|refine dO I ?_|refine c_ ?_|refine dx ?_|refine dm ?_|refine cB ?_|refine bU ?_|refine cO ?_|refine cP ?_|refine aI (eR bR.eq I) I I I ?_|refine aI (dj cI.iC I I) I I I ?_|refine aI (bB I I (decide_eq_true J)) I I I ?_|refine aI (bB I I (decide_eq_false J)) I I I ?_|refine aI (aX I I (decide_eq_true J)) I I I ?_|refine aI (aX I I (decide_eq_false J)) I I I ?_|refine aI (bm I I (decide_eq_true J)) I I I ?_|refine aI (bm I I (decide_eq_false J)) I I I ?_|refine aI (df I I J J I) I I I ?_)
  exact eJ () trivial (by repeat' (first|exact dl|refine dh I ?_)) I
 ·intro _ _
  repeat(first|refine aI (bX I) I I I ?_|refine aI (cC I) I I I ?_|refine cz ?_|refine bC ?_|refine aM ?_|refine dN I ?_|refine dO I ?_|refine c_ ?_|refine dx ?_|refine dm ?_|refine cB ?_|refine bU ?_|refine cO ?_|refine cP ?_|refine aI (aQ (i:=0) aL.ty I I I) I I I ?_|refine aI (eR bR.eq I) I I I ?_|refine aI (dj cI.iC I I) I I I ?_|refine aI (bB I I (decide_eq_true J)) I I I ?_|refine aI (bB I I (decide_eq_false J)) I I I ?_|refine aI (aX I I (decide_eq_true J)) I I I ?_|refine aI (aX I I (decide_eq_false J)) I I I ?_|refine aI (bm I I (decide_eq_true J)) I I I ?_|refine aI (bm I I (decide_eq_false J)) I I I ?_|refine aI (df I I J J I) I I I ?_)
  refine a8 (ju aJ.en I I) (λw hm=>hsm _ hm.below) I I I ?_;intro v2 _;refine aY (i:=2) I λoQ mL=>?_;refine bz I λg7=>?_;refine aZ (i:=3) I I I I (kf mL) I ?_
  by_cases c1:E=0
  ·have hw:IT wait c g l=wait++l:=by unfold IT;rw[hE,if_pos c1]
   subst c1;obtain⟨_,_,k3⟩:=l7 rfl;rw[hw]
   repeat(first|refine aI (bX I) I I I ?_|refine aI (cC I) I I I ?_|refine cz ?_|refine bC ?_|refine aM ?_|refine dN I ?_|refine dO I ?_|refine c_ ?_|refine dx ?_|refine dm ?_|refine cB ?_|refine bU ?_|refine cO ?_|refine cP ?_|refine aI (aB aL.ty I (aH (i:=3) I I)) I I I ?_|refine aI (eR bR.eq I) I I I ?_|refine aI (dj cI.iC I I) I I I ?_|refine aI (bB I I (decide_eq_true J)) I I I ?_|refine aI (bB I I (decide_eq_false J)) I I I ?_|refine aI (aX I I (decide_eq_true J)) I I I ?_|refine aI (aX I I (decide_eq_false J)) I I I ?_|refine aI (bm I I (decide_eq_true J)) I I I ?_|refine aI (bm I I (decide_eq_false J)) I I I ?_|refine aI (df I I J J I) I I I ?_)
   refine fc (i:=2) I (rj _) I I (lD y0 l) (Xv l) J J I λv'=>?_
   repeat(first|refine aI (bX I) I I I ?_|refine aI (cC I) I I I ?_|refine cz ?_|refine bC ?_|refine aM ?_|refine dN I ?_|refine dO I ?_|refine c_ ?_|refine dx ?_|refine dm ?_|refine cB ?_|refine bU ?_|refine cO ?_|refine cP ?_|refine aI (eR bR.eq I) I I I ?_|refine aI (dj cI.iC I I) I I I ?_|refine aI (bB I I (decide_eq_true J)) I I I ?_|refine aI (bB I I (decide_eq_false J)) I I I ?_|refine aI (aX I I (decide_eq_true J)) I I I ?_|refine aI (aX I I (decide_eq_false J)) I I I ?_|refine aI (bm I I (decide_eq_true J)) I I I ?_|refine aI (bm I I (decide_eq_false J)) I I I ?_|refine aI (df I I J J I) I I I ?_)
   refine aY (i:=2) I λxt B9=>?_;refine cD (i:=3) I I I xt B9 I ?_
   repeat(first|refine aI (bX I) I I I ?_|refine aI (cC I) I I I ?_|refine cz ?_|refine bC ?_|refine aM ?_|refine dN I ?_|refine dO I ?_|refine c_ ?_|refine dx ?_|refine dm ?_|refine cB ?_|refine bU ?_|refine cO ?_|refine cP ?_|refine aI (aQ (i:=3) aL.ty I I I) I I I ?_|refine aI (eR bR.eq I) I I I ?_|refine aI (dj cI.iC I I) I I I ?_|refine aI (bB I I (decide_eq_true J)) I I I ?_|refine aI (bB I I (decide_eq_false J)) I I I ?_|refine aI (aX I I (decide_eq_true J)) I I I ?_|refine aI (aX I I (decide_eq_false J)) I I I ?_|refine aI (bm I I (decide_eq_true J)) I I I ?_|refine aI (bm I I (decide_eq_false J)) I I I ?_|refine aI (df I I J J I) I I I ?_)
   refine aZ (i:=1) I I I I (kf B9) I ?_
   repeat(first|refine aI (bX I) I I I ?_|refine aI (cC I) I I I ?_|refine cz ?_|refine bC ?_|refine aM ?_|refine dN I ?_|refine dO I ?_|refine c_ ?_|refine dx ?_|refine dm ?_|refine cB ?_|refine bU ?_|refine cO ?_|refine cP ?_|refine aI (eR bR.eq I) I I I ?_|refine aI (dj cI.iC I I) I I I ?_|refine aI (bB I I (decide_eq_true J)) I I I ?_|refine aI (bB I I (decide_eq_false J)) I I I ?_|refine aI (aX I I (decide_eq_true J)) I I I ?_|refine aI (aX I I (decide_eq_false J)) I I I ?_|refine aI (bm I I (decide_eq_true J)) I I I ?_|refine aI (bm I I (decide_eq_false J)) I I I ?_|refine aI (df I I J J I) I I I ?_)
   exact e8 (i:=1) I I I I I λw hm=>hm.meets (S:=OT (wait++l) c g 0) v' trivial [2] ahk (by simp[OT,dg])
  have hw:IT wait c g l=wait:=by unfold IT;rw[hE,if_neg c1]
  rw[hw]
  repeat(first|refine aI (bX I) I I I ?_|refine aI (cC I) I I I ?_|refine cz ?_|refine bC ?_|refine aM ?_|refine dN I ?_|refine dO I ?_|refine c_ ?_|refine dx ?_|refine dm ?_|refine cB ?_|refine bU ?_|refine cO ?_|refine cP ?_|refine aI (aQ (i:=3) aL.ty I I I) I I I ?_|refine aI (eR bR.eq I) I I I ?_|refine aI (dj cI.iC I I) I I I ?_|refine aI (bB I I (decide_eq_true J)) I I I ?_|refine aI (bB I I (decide_eq_false J)) I I I ?_|refine aI (aX I I (decide_eq_true J)) I I I ?_|refine aI (aX I I (decide_eq_false J)) I I I ?_|refine aI (bm I I (decide_eq_true J)) I I I ?_|refine aI (bm I I (decide_eq_false J)) I I I ?_|refine aI (df I I J J I) I I I ?_)
  refine aZ (i:=1) I I I I (kf mL) I ?_
  repeat(first|refine aI (bX I) I I I ?_|refine aI (cC I) I I I ?_|refine cz ?_|refine bC ?_|refine aM ?_|refine dN I ?_|refine dO I ?_|refine c_ ?_|refine dx ?_|refine dm ?_|refine cB ?_|refine bU ?_|refine cO ?_|refine cP ?_|refine aI (eR bR.eq I) I I I ?_|refine aI (dj cI.iC I I) I I I ?_|refine aI (bB I I (decide_eq_true J)) I I I ?_|refine aI (bB I I (decide_eq_false J)) I I I ?_|refine aI (aX I I (decide_eq_true J)) I I I ?_|refine aI (aX I I (decide_eq_false J)) I I I ?_|refine aI (bm I I (decide_eq_true J)) I I I ?_|refine aI (bm I I (decide_eq_false J)) I I I ?_|refine aI (df I I J J I) I I I ?_)
  exact e8 (i:=1) I I I I I λw hm=>hm.meets (S:=OT wait c g E) v2 trivial [2] ahk I
end cZ
end Go.Proofs.YtdmgcnggnejnnaaGreat

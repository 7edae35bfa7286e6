/- Part 3 of what SessionOwn needs: PlA, PlC, PlD, PlacesM, PlM, PlR, ItO, SmM, SmU, SmP, Els, ItD, SortJ, ItE, ItF, ItG, ItA, ItP, OutA, WrG, SmIe, SmIn, BoE, PlE, PlP, PlacesS, PlK, ClimbL, ClimbO, ClimbA, TdS, LrM, LrN, Opens, CfgL, SpecL, SpecS, SpecI, SpecJ, BeginL, IntS, PlT, GateL, GateM, DfS, DfaP, DfN, DfT, SmO. -/
import Derived.Test.YtdmgcnggnejnnaaGreatMgB
import Derived.Shelf.SlGeneric
import Derived.Shelf.SlSortCmp.NoneTotal
import Derived.Ground.SlsfProg
import Derived.Lib.IndexMore
namespace Go.Proofs.YtdmgcnggnejnnaaGreat
set_option linter.unusedVariables false
set_option linter.unusedSimpArgs false
open _root_.And renaming intro->cJ
open _root_.Array renaming getElem?_eq_some_iff->jx,length_toList->mf,getElem?_toList->rh,getElem?_eq_getElem->yz,getElem?_modify->En
open _root_.Array.mk renaming injEq->pI
open _root_.BitVec renaming ofNat->io
open _root_.Bool renaming true->aC,false->aE,and_eq_true->eX,or_eq_true->nL,eq_false_iff->wk
open _root_.Go.Instr renaming build->df,field->Zk
open _root_.Go.IntKind renaming i64->az,bits->kX,wrap_u64->sN,signed->pt,u64->uA,min->AV,max->AW
open _root_.Go.Op renaming shift->iM
open _root_.Go.Program renaming keyLits->sO
open _root_.Go.Proofs.Tryz renaming prog->aD
open _root_.Go.Value renaming slice->ap,int->av,pointer->aJ,agg->aQ,bool->fT
open _root_.Go.Value.agg renaming injEq->ly
open _root_.Go.Value.int renaming injEq->yA
open _root_.Go.Value.slice renaming injEq->kH
open _root_.Go.World renaming block_lt_of_cell?->oF
open _root_.Int renaming toNat_natCast->dF,eq_ofNat_of_zero_le->iw,toNat_of_nonneg->vh
open _root_.List renaming getElem?_eq_getElem->bK,getD_eq_getElem?_getD->cB,length_append->bI,getElem?_eq_some_iff->dg,getElem_mem->b_,replicate->cL,length_cons->db,all_cons->cY,mem_singleton->dO,all_nil->c_,drop_eq_getElem_cons->eZ,append_nil->du,length_map->dA,take_succ_eq_append_getElem->gX,append_assoc->dZ,mem_cons->dC,getElem?_map->fe,map_append->e7,take_of_length_le->fU,nil_append->eI,flatMap_append->fV,mem_append->fx,not_mem_nil->fH,mem_cons_self->ia,length_nil->gY,mem_map->eT,mem_cons_of_mem->jR,mem_iff_getElem->iB,map_cons->gv,getElem?_eq_none->k7,length_take->iN,cons_append->jf,flatMap_cons->mg,mem_of_getElem?->mh,drop_eq_nil_of_le->pX,ext_getElem?->mi,take_length->pY,any_eq_true->rj,getElem_map->ta,take_append_drop->yd,getElem?_take->rl,drop_zero->tk,all_eq_true->uE,take_succ_cons->sQ,take_zero->uG,drop_length->yR,drop_succ_cons->Bv,mem_append_left->uH,mem_flatMap->vj,mem_filterMap->Qz,nodup_append->DN,foldl_append->Zl,idxOf_cons->Zm,map->Zn
open _root_.List.Pairwise renaming of_map->afz
open _root_.List.cons renaming injEq->gU,inj->Zo
open _root_.Nat renaming le_refl->bz,zero_le->bH,zero_add->cX,lt_of_lt_of_le->iO,le_trans->fI,add_zero->iu,mul_le_mul_right->sR,add_assoc->k9,mul_one->k_,sub_self->pK,pow_lt_pow_right->Er,div_le_self->Es,mod_lt->A3,succ_pos->E9,sub_zero->Zp,le_succ->Zq
open _root_.Option renaming some->aj,none->ak,getD_some->kL
open _root_.Option.some renaming injEq->dh,inj->ra
open _root_.Prod.mk renaming injEq->fX
open _root_.True renaming intro->cT
open _root_.UInt8 renaming ofNat->fY
open _root_.Vector renaming replicate->eB,getElem_toList->nj,toList->QB
set_option maxHeartbeats 16000000
namespace bZ
open Go.RowKit cK dS de gd eE
theorem nU(e:Bool)(b b':Option Addr)(m m' k k':Nat)(w:World):(df 244 #[(0,.bool e),(1,ap b m k),(2,ap b' m' k')]).run aD w= .ok (aQ #[.bool e,ap b m k,ap b' m' k']) w:=by
 go_simp
set_option maxRecDepth 100000 in
theorem Zr{M:Nat}(IH:J5 M)(a b1:Re)(ha:a.size<=M)(GY:b1.size<=M)(g:Nat)(vf ve:Value)(bQ:Int)(p:PS)(x:WH)(v:Value)(w:World)(B:bL)(hp:MU p)(hx:x.vs.length=p.follow.length)(hn:p.a_.length+(a.size+b1.size+1)<=100000)(Qy:cK.dU bQ)(hv:oJ (Bt B) B.w v (l9 (.Js a b1)))(hm:Mem B (n_ g vf ve bQ x p) w):
 Calls aD 112 #[aJ (aj ⟨g,0,ak⟩),v] w (da (cU g vf ve bQ (cP bQ (.Js a b1) p)) B):=by
 obtain⟨vk,rfl,_,SO⟩:=hv;obtain⟨bk,ck,rfl,h1,h2,h3⟩:=SO;obtain⟨b,off,rfl,hF,eP⟩:=h3 (by show 0<2;decide);obtain⟨kb,kc,hr,wm⟩:=qO (k:=0) eP (by show 0<2;decide);obtain⟨kb2,kc2,ul,lB⟩:=qO (k:=1) eP (by show 1<2;decide);have J7:=λ(L:List b9) (j:Nat) (v:Value) hj=>tj (L:=L) hF hr j v hj;have rm:=λ(L:List b9) (j:Nat) (v:Value) hj=>tj (L:=L) hF ul j v hj;clear h3 eP hr ul;obtain⟨GJ,WE,hp3,hp4,hp5⟩:=mc bQ a p hp;obtain⟨kp1,kp2,kp3,kp4,kp5⟩:=mc bQ b1 _ GJ;have Vw:=λw B hv hm=>IH a ha g vf ve bQ p x (re (l9 a).kind (l9 a).uQ (ap kb (l9 a).kids.length kc)) w B hp hx J Qy hv hm;have Bw:=λx1 kz w B hv hm=>IH b1 GY g vf ve bQ (cP bQ a p).2 x1 (re (l9 b1).kind (l9 b1).uQ (ap kb2 (l9 b1).kids.length kc2)) w B GJ kz J Qy hv hm;rw[show cP bQ (.Js a b1) p=(⟨(cP bQ a p).1.empty||(cP bQ b1 (cP bQ a p).2).1.empty,rr (cP bQ a p).1.first (cP bQ b1 (cP bQ a p).2).1.first,rr (cP bQ a p).1.last (cP bQ b1 (cP bQ a p).2).1.last⟩,(cP bQ b1 (cP bQ a p).2).2)from I];generalize cP bQ b1 (cP bQ a p).2=R2 at*;generalize cP bQ a p=R1 at*;obtain⟨⟨e1,ix,kT⟩,p1⟩:=R1;obtain⟨⟨e2,iE,kB⟩,p2⟩:=R2;dsimp only at GJ WE hp3 hp4 hp5 kp1 kp2 kp3 kp4 kp5 Bw⊢;unfold n_ at hm;refine dB hm (args:=[aJ (aj ⟨g,0,ak⟩),re 5 C4.zero (ap (aj ⟨b,off,ak⟩) 2 ck)]) (n:=176) Tryz.func112 I I I ?_;clear hm;refine bW (bB (bP I I I λg3=>a8 I λg4=>?_));refine zL ?_
 repeat(first|refine GA ?_|refine gV (aB (v:=av az 5) aK.ty I (aH (i:=6) I I)) ?_)
 (repeat refine bW ?_)
 refine lU (ι:=WH×Value×Value×Value×Value×Nat×Nat) (λy=>y.1.vs.length=p2.follow.length) (λy=>[(0,aJ (aj ⟨g,0,ak⟩)),(4,aJ (aj ⟨g4,0,ak⟩)),(7,aJ (aj ⟨y.2.2.2.2.2.1,0,ak⟩)),(8,aJ (aj ⟨y.2.2.2.2.2.2,0,ak⟩))])
  (λy=>n_ g vf ve bQ y.1 p2++[gJ y.2.1 ix,gJ y.2.2.1 kT,gJ y.2.2.2.1 iE,gJ y.2.2.2.2.1 kB,aP g4 #[.bool aE,ap ak 0 0,ap ak 0 0] 244,aP y.2.2.2.2.2.1 #[.bool e1,y.2.1,y.2.2.1] 244,aP y.2.2.2.2.2.2 #[.bool e2,y.2.2.2.1,y.2.2.2.2.1] 244]) ?_ ?_
 ·refine dT ([aP g3 (mQ 5 C4.zero (ap (aj ⟨b,off,ak⟩) 2 ck)).toArray 119]) (.calm 0 (.calm 1 (.calm 2 (.calm 3 (.calm 4 (.calm 6 (.calm 7 (.calm 8 (.calm 9 (.calm 10 (.three 5 (.three 11 (.two 12 (.one 13 (.one 14 (.one 15 (.done)))) 13 (.one 12 (.one 14 (.one 15 (.done))))) 12 (.two 11 (.one 13 (.one 14 (.one 15 (.done)))) 13 (.one 11 (.one 14 (.one 15 (.done))))) 13 (.two 11 (.one 12 (.one 14 (.one 15 (.done)))) 12 (.one 11 (.one 14 (.one 15 (.done)))))) 12 (.two 5 (.two 11 (.one 13 (.one 14 (.one 15 (.done)))) 13 (.one 11 (.one 14 (.one 15 (.done))))) 13 (.one 5 (.one 11 (.one 14 (.one 15 (.done)))))) 13 (.two 5 (.two 11 (.one 12 (.one 14 (.one 15 (.done)))) 12 (.one 11 (.one 14 (.one 15 (.done))))) 12 (.one 5 (.one 11 (.one 14 (.one 15 (.done))))))))))))))))) (bX [6]) ?_
  repeat(first|refine GW ?_|(refine GN ?_;first|refine QW (aB (v:=ap (aj ⟨b,off,ak⟩) 2 ck) aK.ty I (aH (i:=0) I I)) ?_|refine QW (aY (j:=0) bM.eq aK.ty I I akh) ?_|refine QW (aY (j:=1) bM.eq aK.ty I I akh) ?_|refine QW (bm aK.ty I I (J7 _)) ?_|refine QW (bm aK.ty I I (rm _)) ?_))
  refine zu I I I ?_ ?_ ?_
  ·refine bx [0,1,2,3,4,5] [6,7] akh I I (fB aI.en I I I) (λw hm hb=>Vw w _ (fh (hm.pick [0,1,2,3,4,5] akh I) wm) hb) I I I ?_
   rintro⟨⟨um,uo,g_,uu,oy,F1⟩,mB,lY⟩ kz;have kz:oy.length=p1.follow.length:=kz
   conv=>arg 8;simp only[zJ,cI,ret,id_eq,cU,n_]
   conv=>arg 7;simp only[cU]
   refine aM (bX [0]) ?_;refine zu I I I ?_ ?_ ?_
   ·refine bx [2,3,4,5,6,7] [0,1,8,9] akh I I (fB aI.en I I I) (λw hm hb=>Bw ⟨um,uo,g_,uu,oy,F1⟩ kz w _ (fh (hm.pick [2,3,4,5,6,7] akh I) lB) hb) I I I ?_
    rintro⟨⟨qB,qC,fl,qD,lZ,F2⟩,kq,kM⟩ fO;have fO:lZ.length=p2.follow.length:=fO
    conv=>arg 8;simp only[zJ,cI,ret,id_eq,cU,n_]
    conv=>arg 7;simp only[cU]
    refine aM (bX [0]) ?_;refine eK I I ?_ ?_
    ·refine a8 I λg7=>(aM (bX [0]) ?_)
     refine aL I (a8 I λg8=>(aM (bX [0]) ?_));refine aL I (aW (i:=2) I λ_ pZ=>aW (i:=3) I λ_ p8=>aX (i:=12) (cs':=#[.bool e1,mB,lY]) I I I I (by simp only[cY,c_,pZ,p8];rfl) I (aM (bX [0]) ?_))
     try refine GW ?_
     refine aL I (aW (i:=10) I λ_ p9=>aW (i:=11) I λ_ p_=>aX (i:=13) (cs':=#[.bool e2,kq,kM]) I I I I (by simp only[cY,c_,p9,p_];rfl) I (aM (bX [0]) ?_))
     try refine GW ?_
     refine dm [4,5,6,7,8,9,2,3,10,11,1,12,13] ?_;exact ee (⟨qB,qC,fl,qD,lZ,F2⟩,mB,lY,kq,kM,g7,g8) fO (by repeat' (first|exact cT|refine cJ I ?_)) I
    refine a8 I λg8=>(aM (bX [0]) ?_);refine aL I (a8 I λg7=>(aM (bX [0]) ?_));refine aL I (aW (i:=2) I λ_ pZ=>aW (i:=3) I λ_ p8=>aX (i:=13) (cs':=#[.bool e1,mB,lY]) I I I I (by simp only[cY,c_,pZ,p8];rfl) I (aM (bX [0]) ?_))
    try refine GW ?_
    refine aL I (aW (i:=10) I λ_ p9=>aW (i:=11) I λ_ p_=>aX (i:=12) (cs':=#[.bool e2,kq,kM]) I I I I (by simp only[cY,c_,p9,p_];rfl) I (aM (bX [0]) ?_))
    try refine GW ?_
    refine dm [4,5,6,7,8,9,2,3,10,11,1,13,12] ?_;exact ee (⟨qB,qC,fl,qD,lZ,F2⟩,mB,lY,kq,kM,g7,g8) fO (by repeat' (first|exact cT|refine cJ I ?_)) I
   ·refine a8 I λg7=>(aM (bX [0]) ?_)
    refine eK I I ?_ ?_
    ·refine bx [2,3,4,5,6,7] [0,1,8,9,10] akh I I (fB aI.en I I I) (λw hm hb=>Bw ⟨um,uo,g_,uu,oy,F1⟩ kz w _ (fh (hm.pick [2,3,4,5,6,7] akh I) lB) hb) I I I ?_
     rintro⟨⟨qB,qC,fl,qD,lZ,F2⟩,kq,kM⟩ fO;have fO:lZ.length=p2.follow.length:=fO
     conv=>arg 8;simp only[zJ,cI,ret,id_eq,cU,n_]
     conv=>arg 7;simp only[cU]
     refine aM (bX [0]) ?_;refine aL I (a8 I λg8=>(aM (bX [0]) ?_));refine aL I (aW (i:=2) I λ_ pZ=>aW (i:=3) I λ_ p8=>aX (i:=4) (cs':=#[.bool e1,mB,lY]) I I I I (by simp only[cY,c_,pZ,p8];rfl) I (aM (bX [0]) ?_))
     try refine GW ?_
     refine aL I (aW (i:=11) I λ_ p9=>aW (i:=12) I λ_ p_=>aX (i:=13) (cs':=#[.bool e2,kq,kM]) I I I I (by simp only[cY,c_,p9,p_];rfl) I (aM (bX [0]) ?_))
     try refine GW ?_
     refine dm [5,6,7,8,9,10,2,3,11,12,1,4,13] ?_;exact ee (⟨qB,qC,fl,qD,lZ,F2⟩,mB,lY,kq,kM,g7,g8) fO (by repeat' (first|exact cT|refine cJ I ?_)) I
    refine a8 I λg8=>(aM (bX [0]) ?_);refine aL I (bx [2,3,4,5,6,7] [0,1,8,9,10,11] akh I I (fB aI.en I I I) (λw hm hb=>Bw ⟨um,uo,g_,uu,oy,F1⟩ kz w _ (fh (hm.pick [2,3,4,5,6,7] akh I) lB) hb) I I I ?_);rintro⟨⟨qB,qC,fl,qD,lZ,F2⟩,kq,kM⟩ fO;have fO:lZ.length=p2.follow.length:=fO
    conv=>arg 8;simp only[zJ,cI,ret,id_eq,cU,n_]
    conv=>arg 7;simp only[cU]
    refine aM (bX [0]) ?_;refine aL I (aW (i:=2) I λ_ pZ=>aW (i:=3) I λ_ p8=>aX (i:=4) (cs':=#[.bool e1,mB,lY]) I I I I (by simp only[cY,c_,pZ,p8];rfl) I (aM (bX [0]) ?_))
    try refine GW ?_
    refine aL I (aW (i:=12) I λ_ p9=>aW (i:=13) I λ_ p_=>aX (i:=5) (cs':=#[.bool e2,kq,kM]) I I I I (by simp only[cY,c_,p9,p_];rfl) I (aM (bX [0]) ?_))
    try refine GW ?_
    refine dm [6,7,8,9,10,11,2,3,12,13,1,4,5] ?_;exact ee (⟨qB,qC,fl,qD,lZ,F2⟩,mB,lY,kq,kM,g7,g8) fO (by repeat' (first|exact cT|refine cJ I ?_)) I
   refine a8 I λg8=>(aM (bX [0]) ?_);refine eK I I ?_ ?_
   ·refine bx [2,3,4,5,6,7] [0,1,8,9,10] akh I I (fB aI.en I I I) (λw hm hb=>Bw ⟨um,uo,g_,uu,oy,F1⟩ kz w _ (fh (hm.pick [2,3,4,5,6,7] akh I) lB) hb) I I I ?_
    rintro⟨⟨qB,qC,fl,qD,lZ,F2⟩,kq,kM⟩ fO;have fO:lZ.length=p2.follow.length:=fO
    conv=>arg 8;simp only[zJ,cI,ret,id_eq,cU,n_]
    conv=>arg 7;simp only[cU]
    refine aM (bX [0]) ?_;refine aL I (a8 I λg7=>(aM (bX [0]) ?_));refine aL I (aW (i:=2) I λ_ pZ=>aW (i:=3) I λ_ p8=>aX (i:=13) (cs':=#[.bool e1,mB,lY]) I I I I (by simp only[cY,c_,pZ,p8];rfl) I (aM (bX [0]) ?_))
    try refine GW ?_
    refine aL I (aW (i:=11) I λ_ p9=>aW (i:=12) I λ_ p_=>aX (i:=4) (cs':=#[.bool e2,kq,kM]) I I I I (by simp only[cY,c_,p9,p_];rfl) I (aM (bX [0]) ?_))
    try refine GW ?_
    refine dm [5,6,7,8,9,10,2,3,11,12,1,13,4] ?_;exact ee (⟨qB,qC,fl,qD,lZ,F2⟩,mB,lY,kq,kM,g7,g8) fO (by repeat' (first|exact cT|refine cJ I ?_)) I
   refine a8 I λg7=>(aM (bX [0]) ?_);refine aL I (bx [2,3,4,5,6,7] [0,1,8,9,10,11] akh I I (fB aI.en I I I) (λw hm hb=>Bw ⟨um,uo,g_,uu,oy,F1⟩ kz w _ (fh (hm.pick [2,3,4,5,6,7] akh I) lB) hb) I I I ?_);rintro⟨⟨qB,qC,fl,qD,lZ,F2⟩,kq,kM⟩ fO;have fO:lZ.length=p2.follow.length:=fO
   conv=>arg 8;simp only[zJ,cI,ret,id_eq,cU,n_]
   conv=>arg 7;simp only[cU]
   refine aM (bX [0]) ?_;refine aL I (aW (i:=2) I λ_ pZ=>aW (i:=3) I λ_ p8=>aX (i:=5) (cs':=#[.bool e1,mB,lY]) I I I I (by simp only[cY,c_,pZ,p8];rfl) I (aM (bX [0]) ?_))
   try refine GW ?_
   refine aL I (aW (i:=12) I λ_ p9=>aW (i:=13) I λ_ p_=>aX (i:=4) (cs':=#[.bool e2,kq,kM]) I I I I (by simp only[cY,c_,p9,p_];rfl) I (aM (bX [0]) ?_))
   try refine GW ?_
   refine dm [6,7,8,9,10,11,2,3,12,13,1,5,4] ?_;exact ee (⟨qB,qC,fl,qD,lZ,F2⟩,mB,lY,kq,kM,g7,g8) fO (by repeat' (first|exact cT|refine cJ I ?_)) I
  ·refine a8 I λg7=>(aM (bX [6]) ?_)
   refine eK I I ?_ ?_
   ·refine bx [0,1,2,3,4,5] [6,7,8] akh I I (fB aI.en I I I) (λw hm hb=>Vw w _ (fh (hm.pick [0,1,2,3,4,5] akh I) wm) hb) I I I ?_
    rintro⟨⟨um,uo,g_,uu,oy,F1⟩,mB,lY⟩ kz;have kz:oy.length=p1.follow.length:=kz
    conv=>arg 8;simp only[zJ,cI,ret,id_eq,cU,n_]
    conv=>arg 7;simp only[cU]
    refine aM (bX [0]) ?_;refine eK I I ?_ ?_
    ·refine bx [3,4,5,6,7,8] [0,1,2,9,10] akh I I (fB aI.en I I I) (λw hm hb=>Bw ⟨um,uo,g_,uu,oy,F1⟩ kz w _ (fh (hm.pick [3,4,5,6,7,8] akh I) lB) hb) I I I ?_
     rintro⟨⟨qB,qC,fl,qD,lZ,F2⟩,kq,kM⟩ fO;have fO:lZ.length=p2.follow.length:=fO
     conv=>arg 8;simp only[zJ,cI,ret,id_eq,cU,n_]
     conv=>arg 7;simp only[cU]
     refine aM (bX [0]) ?_;refine aL I (a8 I λg8=>(aM (bX [0]) ?_));refine aL I (aW (i:=3) I λ_ pZ=>aW (i:=4) I λ_ p8=>aX (i:=2) (cs':=#[.bool e1,mB,lY]) I I I I (by simp only[cY,c_,pZ,p8];rfl) I (aM (bX [0]) ?_))
     try refine GW ?_
     refine aL I (aW (i:=11) I λ_ p9=>aW (i:=12) I λ_ p_=>aX (i:=13) (cs':=#[.bool e2,kq,kM]) I I I I (by simp only[cY,c_,p9,p_];rfl) I (aM (bX [0]) ?_))
     try refine GW ?_
     refine dm [5,6,7,8,9,10,3,4,11,12,1,2,13] ?_;exact ee (⟨qB,qC,fl,qD,lZ,F2⟩,mB,lY,kq,kM,g7,g8) fO (by repeat' (first|exact cT|refine cJ I ?_)) I
    refine a8 I λg8=>(aM (bX [0]) ?_);refine aL I (bx [3,4,5,6,7,8] [0,1,2,9,10,11] akh I I (fB aI.en I I I) (λw hm hb=>Bw ⟨um,uo,g_,uu,oy,F1⟩ kz w _ (fh (hm.pick [3,4,5,6,7,8] akh I) lB) hb) I I I ?_);rintro⟨⟨qB,qC,fl,qD,lZ,F2⟩,kq,kM⟩ fO;have fO:lZ.length=p2.follow.length:=fO
    conv=>arg 8;simp only[zJ,cI,ret,id_eq,cU,n_]
    conv=>arg 7;simp only[cU]
    refine aM (bX [0]) ?_;refine aL I (aW (i:=3) I λ_ pZ=>aW (i:=4) I λ_ p8=>aX (i:=2) (cs':=#[.bool e1,mB,lY]) I I I I (by simp only[cY,c_,pZ,p8];rfl) I (aM (bX [0]) ?_))
    try refine GW ?_
    refine aL I (aW (i:=12) I λ_ p9=>aW (i:=13) I λ_ p_=>aX (i:=5) (cs':=#[.bool e2,kq,kM]) I I I I (by simp only[cY,c_,p9,p_];rfl) I (aM (bX [0]) ?_))
    try refine GW ?_
    refine dm [6,7,8,9,10,11,3,4,12,13,1,2,5] ?_;exact ee (⟨qB,qC,fl,qD,lZ,F2⟩,mB,lY,kq,kM,g7,g8) fO (by repeat' (first|exact cT|refine cJ I ?_)) I
   refine a8 I λg8=>(aM (bX [6]) ?_);refine aL I (bx [0,1,2,3,4,5] [6,7,8,9] akh I I (fB aI.en I I I) (λw hm hb=>Vw w _ (fh (hm.pick [0,1,2,3,4,5] akh I) wm) hb) I I I ?_);rintro⟨⟨um,uo,g_,uu,oy,F1⟩,mB,lY⟩ kz;have kz:oy.length=p1.follow.length:=kz
   conv=>arg 8;simp only[zJ,cI,ret,id_eq,cU,n_]
   conv=>arg 7;simp only[cU]
   refine aM (bX [0]) ?_;refine aL I (bx [4,5,6,7,8,9] [0,1,2,3,10,11] akh I I (fB aI.en I I I) (λw hm hb=>Bw ⟨um,uo,g_,uu,oy,F1⟩ kz w _ (fh (hm.pick [4,5,6,7,8,9] akh I) lB) hb) I I I ?_);rintro⟨⟨qB,qC,fl,qD,lZ,F2⟩,kq,kM⟩ fO;have fO:lZ.length=p2.follow.length:=fO
   conv=>arg 8;simp only[zJ,cI,ret,id_eq,cU,n_]
   conv=>arg 7;simp only[cU]
   refine aM (bX [0]) ?_;refine aL I (aW (i:=4) I λ_ pZ=>aW (i:=5) I λ_ p8=>aX (i:=2) (cs':=#[.bool e1,mB,lY]) I I I I (by simp only[cY,c_,pZ,p8];rfl) I (aM (bX [0]) ?_))
   try refine GW ?_
   refine aL I (aW (i:=12) I λ_ p9=>aW (i:=13) I λ_ p_=>aX (i:=3) (cs':=#[.bool e2,kq,kM]) I I I I (by simp only[cY,c_,p9,p_];rfl) I (aM (bX [0]) ?_))
   try refine GW ?_
   refine dm [6,7,8,9,10,11,4,5,12,13,1,2,3] ?_;exact ee (⟨qB,qC,fl,qD,lZ,F2⟩,mB,lY,kq,kM,g7,g8) fO (by repeat' (first|exact cT|refine cJ I ?_)) I
  refine a8 I λg8=>(aM (bX [6]) ?_);refine eK I I ?_ ?_
  ·refine bx [0,1,2,3,4,5] [6,7,8] akh I I (fB aI.en I I I) (λw hm hb=>Vw w _ (fh (hm.pick [0,1,2,3,4,5] akh I) wm) hb) I I I ?_
   rintro⟨⟨um,uo,g_,uu,oy,F1⟩,mB,lY⟩ kz;have kz:oy.length=p1.follow.length:=kz
   conv=>arg 8;simp only[zJ,cI,ret,id_eq,cU,n_]
   conv=>arg 7;simp only[cU]
   refine aM (bX [0]) ?_;refine eK I I ?_ ?_
   ·refine bx [3,4,5,6,7,8] [0,1,2,9,10] akh I I (fB aI.en I I I) (λw hm hb=>Bw ⟨um,uo,g_,uu,oy,F1⟩ kz w _ (fh (hm.pick [3,4,5,6,7,8] akh I) lB) hb) I I I ?_
    rintro⟨⟨qB,qC,fl,qD,lZ,F2⟩,kq,kM⟩ fO;have fO:lZ.length=p2.follow.length:=fO
    conv=>arg 8;simp only[zJ,cI,ret,id_eq,cU,n_]
    conv=>arg 7;simp only[cU]
    refine aM (bX [0]) ?_;refine aL I (a8 I λg7=>(aM (bX [0]) ?_));refine aL I (aW (i:=3) I λ_ pZ=>aW (i:=4) I λ_ p8=>aX (i:=13) (cs':=#[.bool e1,mB,lY]) I I I I (by simp only[cY,c_,pZ,p8];rfl) I (aM (bX [0]) ?_))
    try refine GW ?_
    refine aL I (aW (i:=11) I λ_ p9=>aW (i:=12) I λ_ p_=>aX (i:=2) (cs':=#[.bool e2,kq,kM]) I I I I (by simp only[cY,c_,p9,p_];rfl) I (aM (bX [0]) ?_))
    try refine GW ?_
    refine dm [5,6,7,8,9,10,3,4,11,12,1,13,2] ?_;exact ee (⟨qB,qC,fl,qD,lZ,F2⟩,mB,lY,kq,kM,g7,g8) fO (by repeat' (first|exact cT|refine cJ I ?_)) I
   refine a8 I λg7=>(aM (bX [0]) ?_);refine aL I (bx [3,4,5,6,7,8] [0,1,2,9,10,11] akh I I (fB aI.en I I I) (λw hm hb=>Bw ⟨um,uo,g_,uu,oy,F1⟩ kz w _ (fh (hm.pick [3,4,5,6,7,8] akh I) lB) hb) I I I ?_);rintro⟨⟨qB,qC,fl,qD,lZ,F2⟩,kq,kM⟩ fO;have fO:lZ.length=p2.follow.length:=fO
   conv=>arg 8;simp only[zJ,cI,ret,id_eq,cU,n_]
   conv=>arg 7;simp only[cU]
   refine aM (bX [0]) ?_;refine aL I (aW (i:=3) I λ_ pZ=>aW (i:=4) I λ_ p8=>aX (i:=5) (cs':=#[.bool e1,mB,lY]) I I I I (by simp only[cY,c_,pZ,p8];rfl) I (aM (bX [0]) ?_))
   try refine GW ?_
   refine aL I (aW (i:=12) I λ_ p9=>aW (i:=13) I λ_ p_=>aX (i:=2) (cs':=#[.bool e2,kq,kM]) I I I I (by simp only[cY,c_,p9,p_];rfl) I (aM (bX [0]) ?_))
   try refine GW ?_
   refine dm [6,7,8,9,10,11,3,4,12,13,1,5,2] ?_;exact ee (⟨qB,qC,fl,qD,lZ,F2⟩,mB,lY,kq,kM,g7,g8) fO (by repeat' (first|exact cT|refine cJ I ?_)) I
  refine a8 I λg7=>(aM (bX [6]) ?_);refine aL I (bx [0,1,2,3,4,5] [6,7,8,9] akh I I (fB aI.en I I I) (λw hm hb=>Vw w _ (fh (hm.pick [0,1,2,3,4,5] akh I) wm) hb) I I I ?_);rintro⟨⟨um,uo,g_,uu,oy,F1⟩,mB,lY⟩ kz;have kz:oy.length=p1.follow.length:=kz
  conv=>arg 8;simp only[zJ,cI,ret,id_eq,cU,n_]
  conv=>arg 7;simp only[cU]
  refine aM (bX [0]) ?_;refine aL I (bx [4,5,6,7,8,9] [0,1,2,3,10,11] akh I I (fB aI.en I I I) (λw hm hb=>Bw ⟨um,uo,g_,uu,oy,F1⟩ kz w _ (fh (hm.pick [4,5,6,7,8,9] akh I) lB) hb) I I I ?_);rintro⟨⟨qB,qC,fl,qD,lZ,F2⟩,kq,kM⟩ fO;have fO:lZ.length=p2.follow.length:=fO
  conv=>arg 8;simp only[zJ,cI,ret,id_eq,cU,n_]
  conv=>arg 7;simp only[cU]
  refine aM (bX [0]) ?_;refine aL I (aW (i:=4) I λ_ pZ=>aW (i:=5) I λ_ p8=>aX (i:=3) (cs':=#[.bool e1,mB,lY]) I I I I (by simp only[cY,c_,pZ,p8];rfl) I (aM (bX [0]) ?_))
  try refine GW ?_
  refine aL I (aW (i:=12) I λ_ p9=>aW (i:=13) I λ_ p_=>aX (i:=2) (cs':=#[.bool e2,kq,kM]) I I I I (by simp only[cY,c_,p9,p_];rfl) I (aM (bX [0]) ?_))
  try refine GW ?_
  refine dm [6,7,8,9,10,11,4,5,12,13,1,3,2] ?_;exact ee (⟨qB,qC,fl,qD,lZ,F2⟩,mB,lY,kq,kM,g7,g8) fO (by repeat' (first|exact cT|refine cJ I ?_)) I
 clear Vw Bw J7 rm;rintro⟨⟨vc,vr,vfol,vl,vs,F⟩,mB,lY,kq,kM,g7,g8⟩ fO;have fO:vs.length=p2.follow.length:=fO;dsimp only
 conv=>arg 7;simp only[zA,zB,zC,zD,zE,zF,zG,zH,zI,cI,ret,id_eq,n_]
 have PB:=kp hp4;have HJ:=kp hp5;have Y4:=kp kp4;have hl4:=kp kp5
 cases e1 with
 | true=>
  (repeat refine bW ?_)
  refine dT ([aP g7 #[.bool aC,mB,lY] 244,aP g8 #[.bool e2,kq,kM] 244]) (.calm 0 (.calm 1 (.calm 2 (.calm 3 (.calm 4 (.calm 5 (.calm 6 (.calm 7 (.calm 8 (.calm 9 (.calm 11 (.calm 12 (.calm 13 (.calm 14 (.one 10 (.one 15 (.calm 16 (.one 17 (.done))))))))))))))))))) (bX [11,12]) ?_
  repeat(first|refine GW ?_|(refine GN ?_;first|refine QW (aB aK.ty I (aH (i:=0) I I)) ?_|refine QW (aB aK.ty I (aH (i:=1) I I)) ?_))
  refine aL I (aV (fB aI.en I I I) (λw' hm=>iK mB kq ix iE w' (Sl.dD (hm.get (i:=6) I)) (Sl.dD (hm.get (i:=8) I)) J J) I I I ?_);intro vu _
  conv=>arg 8;simp only[zJ,cI,ret,id_eq,tZ]
  refine aM (bX [11,12]) ?_
  try refine GW ?_
  refine aL I (aV (fB aI.en I I I) (λw' hm=>iK lY kM kT kB w' (Sl.dD (hm.get (i:=7) I)) (Sl.dD (hm.get (i:=9) I)) J J) I I I ?_);intro vu2 _
  conv=>arg 8;simp only[zJ,cI,ret,id_eq,tZ]
  refine n9 (i:=13) I λbu cu hu _ _=>?_;refine n9 (i:=14) I λbu2 cu2 hu2 _ _=>?_;subst hu hu2;refine aM (bX [11,12]) ?_
  repeat(first|refine GW ?_|(refine GN ?_;first|refine QW (bD I (nU _ _ _ _ _ _ _)) ?_))
  refine aL I (aX (i:=10) (cs':=#[.bool aC,ap bu (rr ix iE).length cu,ap bu2 (rr kT kB).length cu2]) I I I I I I (aM (bX [11,12]) ?_))
  try refine GW ?_
  try refine GA ?_
  refine fZ (i:=10) I I I I λw hm=>?_;exact hm.cC (S:=cU g vf ve bQ (⟨aC||e2,rr ix iE,rr kT kB⟩,p2)) (⟨vc,vr,vfol,vl,vs,F⟩,ap bu (rr ix iE).length cu,ap bu2 (rr kT kB).length cu2) fO [0,1,2,3,4,5,13,14] akh I
 | false=>
  (repeat refine bW ?_)
  refine dT ([aP g7 #[.bool aE,mB,lY] 244,aP g8 #[.bool e2,kq,kM] 244]) (.calm 0 (.calm 1 (.calm 2 (.calm 3 (.calm 4 (.calm 5 (.calm 6 (.calm 7 (.calm 8 (.calm 9 (.calm 11 (.calm 12 (.calm 13 (.calm 14 (.one 10 (.one 15 (.calm 16 (.one 17 (.done))))))))))))))))))) (bX [11,12]) ?_
  repeat(first|refine GW ?_|(refine GN ?_;first|refine QW (aB aK.ty I (aH (i:=0) I I)) ?_|refine QW (aB aK.ty I (aH (i:=1) I I)) ?_))
  refine aL I (aV (fB aI.en I I I) (λw' hm=>iK mB kq ix iE w' (Sl.dD (hm.get (i:=6) I)) (Sl.dD (hm.get (i:=8) I)) J J) I I I ?_);intro vu _
  conv=>arg 8;simp only[zJ,cI,ret,id_eq,tZ]
  refine aM (bX [11,12]) ?_
  try refine GW ?_
  refine aL I (aV (fB aI.en I I I) (λw' hm=>iK lY kM kT kB w' (Sl.dD (hm.get (i:=7) I)) (Sl.dD (hm.get (i:=9) I)) J J) I I I ?_);intro vu2 _
  conv=>arg 8;simp only[zJ,cI,ret,id_eq,tZ]
  refine n9 (i:=13) I λbu cu hu _ _=>?_;refine n9 (i:=14) I λbu2 cu2 hu2 _ _=>?_;subst hu hu2;refine aM (bX [11,12]) ?_
  repeat(first|refine GW ?_|(refine GN ?_;first|refine QW (bD I (nU _ _ _ _ _ _ _)) ?_))
  refine aL I (aX (i:=10) (cs':=#[.bool e2,ap bu (rr ix iE).length cu,ap bu2 (rr kT kB).length cu2]) I I I I I I (aM (bX [11,12]) ?_))
  try refine GW ?_
  try refine GA ?_
  refine fZ (i:=10) I I I I λw hm=>?_;exact hm.cC (S:=cU g vf ve bQ (⟨aE||e2,rr ix iE,rr kT kB⟩,p2)) (⟨vc,vr,vfol,vl,vs,F⟩,ap bu (rr ix iE).length cu,ap bu2 (rr kT kB).length cu2) fO [0,1,2,3,4,5,13,14] akh I
end bZ
namespace bZ
open Go.RowKit cK dS de gd eE
set_option maxRecDepth 100000 in
theorem Zs{M:Nat}(IH:J5 M)(a b1:Re)(ha:a.size<=M)(GY:b1.size<=M)(g:Nat)(vf ve:Value)(bQ:Int)(p:PS)(x:WH)(v:Value)(w:World)(B:bL)(hp:MU p)(hx:x.vs.length=p.follow.length)(hn:p.a_.length+(a.size+b1.size+1)<=100000)(Qy:cK.dU bQ)(hv:oJ (Bt B) B.w v (l9 (.Jr a b1)))(hm:Mem B (n_ g vf ve bQ x p) w):
 Calls aD 112 #[aJ (aj ⟨g,0,ak⟩),v] w (da (cU g vf ve bQ (cP bQ (.Jr a b1) p)) B):=by
 obtain⟨vk,rfl,_,SO⟩:=hv;obtain⟨bk,ck,rfl,h1,h2,h3⟩:=SO;obtain⟨b,off,rfl,hF,eP⟩:=h3 (by show 0<2;decide);obtain⟨kb,kc,hr,wm⟩:=qO (k:=0) eP (by show 0<2;decide);obtain⟨kb2,kc2,ul,lB⟩:=qO (k:=1) eP (by show 1<2;decide);have J7:=λ(L:List b9) (j:Nat) (v:Value) hj=>tj (L:=L) hF hr j v hj;have rm:=λ(L:List b9) (j:Nat) (v:Value) hj=>tj (L:=L) hF ul j v hj;clear h3 eP hr ul;obtain⟨GJ,WE,hp3,hp4,hp5⟩:=mc bQ a p hp;obtain⟨kp1,kp2,kp3,kp4,kp5⟩:=mc bQ b1 _ GJ;have Vw:=λw B hv hm=>IH a ha g vf ve bQ p x (re (l9 a).kind (l9 a).uQ (ap kb (l9 a).kids.length kc)) w B hp hx J Qy hv hm;have Bw:=λx1 kz w B hv hm=>IH b1 GY g vf ve bQ (cP bQ a p).2 x1 (re (l9 b1).kind (l9 b1).uQ (ap kb2 (l9 b1).kids.length kc2)) w B GJ kz J Qy hv hm;rw[show cP bQ (.Jr a b1) p=(⟨(cP bQ a p).1.empty&&(cP bQ b1 (cP bQ a p).2).1.empty,if(cP bQ a p).1.empty then rr (cP bQ a p).1.first (cP bQ b1 (cP bQ a p).2).1.first else(cP bQ a p).1.first,if(cP bQ b1 (cP bQ a p).2).1.empty then rr (cP bQ a p).1.last (cP bQ b1 (cP bQ a p).2).1.last else(cP bQ b1 (cP bQ a p).2).1.last⟩,{(cP bQ b1 (cP bQ a p).2).2 with follow:=fE (cP bQ b1 (cP bQ a p).2).2.follow (cP bQ a p).1.last (cP bQ b1 (cP bQ a p).2).1.first})from rfl];generalize cP bQ b1 (cP bQ a p).2=R2 at*;generalize cP bQ a p=R1 at*;obtain⟨⟨e1,ix,kT⟩,p1⟩:=R1;obtain⟨⟨e2,iE,kB⟩,p2⟩:=R2;dsimp only at GJ WE hp3 hp4 hp5 kp1 kp2 kp3 kp4 kp5 Bw⊢;unfold n_ at hm;refine dB hm (args:=[aJ (aj ⟨g,0,ak⟩),re 4 C4.zero (ap (aj ⟨b,off,ak⟩) 2 ck)]) (n:=176) Tryz.func112 I I I ?_;clear hm;refine bW (bB (bP I I I λg3=>a8 I λg4=>?_));refine zL ?_
 repeat(first|refine GA ?_|refine gV (aB (v:=av az 4) aK.ty I (aH (i:=6) I I)) ?_)
 (repeat refine bW ?_)
 refine lU (ι:=WH×Value×Value×Value×Value×Nat×Nat) (λy=>y.1.vs.length=p2.follow.length) (λy=>[(0,aJ (aj ⟨g,0,ak⟩)),(4,aJ (aj ⟨g4,0,ak⟩)),(9,aJ (aj ⟨y.2.2.2.2.2.1,0,ak⟩)),(10,aJ (aj ⟨y.2.2.2.2.2.2,0,ak⟩))])
  (λy=>n_ g vf ve bQ y.1 p2++[gJ y.2.1 ix,gJ y.2.2.1 kT,gJ y.2.2.2.1 iE,gJ y.2.2.2.2.1 kB,aP g4 #[.bool aE,ap ak 0 0,ap ak 0 0] 244,aP y.2.2.2.2.2.1 #[.bool e1,y.2.1,y.2.2.1] 244,aP y.2.2.2.2.2.2 #[.bool e2,y.2.2.2.1,y.2.2.2.2.1] 244]) ?_ ?_
 ·refine dT ([aP g3 (mQ 4 C4.zero (ap (aj ⟨b,off,ak⟩) 2 ck)).toArray 119]) (.calm 0 (.calm 1 (.calm 2 (.calm 3 (.calm 4 (.calm 6 (.calm 7 (.calm 8 (.calm 9 (.calm 10 (.three 5 (.three 11 (.two 12 (.one 13 (.one 14 (.one 15 (.done)))) 13 (.one 12 (.one 14 (.one 15 (.done))))) 12 (.two 11 (.one 13 (.one 14 (.one 15 (.done)))) 13 (.one 11 (.one 14 (.one 15 (.done))))) 13 (.two 11 (.one 12 (.one 14 (.one 15 (.done)))) 12 (.one 11 (.one 14 (.one 15 (.done)))))) 12 (.two 5 (.two 11 (.one 13 (.one 14 (.one 15 (.done)))) 13 (.one 11 (.one 14 (.one 15 (.done))))) 13 (.one 5 (.one 11 (.one 14 (.one 15 (.done)))))) 13 (.two 5 (.two 11 (.one 12 (.one 14 (.one 15 (.done)))) 12 (.one 11 (.one 14 (.one 15 (.done))))) 12 (.one 5 (.one 11 (.one 14 (.one 15 (.done))))))))))))))))) (bX [6]) ?_
  repeat(first|refine GW ?_|(refine GN ?_;first|refine QW (aB (v:=ap (aj ⟨b,off,ak⟩) 2 ck) aK.ty I (aH (i:=0) I I)) ?_|refine QW (aY (j:=0) bM.eq aK.ty I I akh) ?_|refine QW (aY (j:=1) bM.eq aK.ty I I akh) ?_|refine QW (bm aK.ty I I (J7 _)) ?_|refine QW (bm aK.ty I I (rm _)) ?_))
  refine zu I I I ?_ ?_ ?_
  ·refine bx [0,1,2,3,4,5] [6,7] akh I I (fB aI.en I I I) (λw hm hb=>Vw w _ (fh (hm.pick [0,1,2,3,4,5] akh I) wm) hb) I I I ?_
   rintro⟨⟨um,uo,g_,uu,oy,F1⟩,mB,lY⟩ kz;have kz:oy.length=p1.follow.length:=kz
   conv=>arg 8;simp only[zJ,cI,ret,id_eq,cU,n_]
   conv=>arg 7;simp only[cU]
   refine aM (bX [0]) ?_;refine zu I I I ?_ ?_ ?_
   ·refine bx [2,3,4,5,6,7] [0,1,8,9] akh I I (fB aI.en I I I) (λw hm hb=>Bw ⟨um,uo,g_,uu,oy,F1⟩ kz w _ (fh (hm.pick [2,3,4,5,6,7] akh I) lB) hb) I I I ?_
    rintro⟨⟨qB,qC,fl,qD,lZ,F2⟩,kq,kM⟩ fO;have fO:lZ.length=p2.follow.length:=fO
    conv=>arg 8;simp only[zJ,cI,ret,id_eq,cU,n_]
    conv=>arg 7;simp only[cU]
    refine aM (bX [0]) ?_;refine eK I I ?_ ?_
    ·refine a8 I λg7=>(aM (bX [0]) ?_)
     refine aL I (a8 I λg8=>(aM (bX [0]) ?_));refine aL I (aW (i:=2) I λ_ pZ=>aW (i:=3) I λ_ p8=>aX (i:=12) (cs':=#[.bool e1,mB,lY]) I I I I (by simp only[cY,c_,pZ,p8];rfl) I (aM (bX [0]) ?_))
     try refine GW ?_
     refine aL I (aW (i:=10) I λ_ p9=>aW (i:=11) I λ_ p_=>aX (i:=13) (cs':=#[.bool e2,kq,kM]) I I I I (by simp only[cY,c_,p9,p_];rfl) I (aM (bX [0]) ?_))
     try refine GW ?_
     refine dm [4,5,6,7,8,9,2,3,10,11,1,12,13] ?_;exact ee (⟨qB,qC,fl,qD,lZ,F2⟩,mB,lY,kq,kM,g7,g8) fO (by repeat' (first|exact cT|refine cJ I ?_)) I
    refine a8 I λg8=>(aM (bX [0]) ?_);refine aL I (a8 I λg7=>(aM (bX [0]) ?_));refine aL I (aW (i:=2) I λ_ pZ=>aW (i:=3) I λ_ p8=>aX (i:=13) (cs':=#[.bool e1,mB,lY]) I I I I (by simp only[cY,c_,pZ,p8];rfl) I (aM (bX [0]) ?_))
    try refine GW ?_
    refine aL I (aW (i:=10) I λ_ p9=>aW (i:=11) I λ_ p_=>aX (i:=12) (cs':=#[.bool e2,kq,kM]) I I I I (by simp only[cY,c_,p9,p_];rfl) I (aM (bX [0]) ?_))
    try refine GW ?_
    refine dm [4,5,6,7,8,9,2,3,10,11,1,13,12] ?_;exact ee (⟨qB,qC,fl,qD,lZ,F2⟩,mB,lY,kq,kM,g7,g8) fO (by repeat' (first|exact cT|refine cJ I ?_)) I
   ·refine a8 I λg7=>(aM (bX [0]) ?_)
    refine eK I I ?_ ?_
    ·refine bx [2,3,4,5,6,7] [0,1,8,9,10] akh I I (fB aI.en I I I) (λw hm hb=>Bw ⟨um,uo,g_,uu,oy,F1⟩ kz w _ (fh (hm.pick [2,3,4,5,6,7] akh I) lB) hb) I I I ?_
     rintro⟨⟨qB,qC,fl,qD,lZ,F2⟩,kq,kM⟩ fO;have fO:lZ.length=p2.follow.length:=fO
     conv=>arg 8;simp only[zJ,cI,ret,id_eq,cU,n_]
     conv=>arg 7;simp only[cU]
     refine aM (bX [0]) ?_;refine aL I (a8 I λg8=>(aM (bX [0]) ?_));refine aL I (aW (i:=2) I λ_ pZ=>aW (i:=3) I λ_ p8=>aX (i:=4) (cs':=#[.bool e1,mB,lY]) I I I I (by simp only[cY,c_,pZ,p8];rfl) I (aM (bX [0]) ?_))
     try refine GW ?_
     refine aL I (aW (i:=11) I λ_ p9=>aW (i:=12) I λ_ p_=>aX (i:=13) (cs':=#[.bool e2,kq,kM]) I I I I (by simp only[cY,c_,p9,p_];rfl) I (aM (bX [0]) ?_))
     try refine GW ?_
     refine dm [5,6,7,8,9,10,2,3,11,12,1,4,13] ?_;exact ee (⟨qB,qC,fl,qD,lZ,F2⟩,mB,lY,kq,kM,g7,g8) fO (by repeat' (first|exact cT|refine cJ I ?_)) I
    refine a8 I λg8=>(aM (bX [0]) ?_);refine aL I (bx [2,3,4,5,6,7] [0,1,8,9,10,11] akh I I (fB aI.en I I I) (λw hm hb=>Bw ⟨um,uo,g_,uu,oy,F1⟩ kz w _ (fh (hm.pick [2,3,4,5,6,7] akh I) lB) hb) I I I ?_);rintro⟨⟨qB,qC,fl,qD,lZ,F2⟩,kq,kM⟩ fO;have fO:lZ.length=p2.follow.length:=fO
    conv=>arg 8;simp only[zJ,cI,ret,id_eq,cU,n_]
    conv=>arg 7;simp only[cU]
    refine aM (bX [0]) ?_;refine aL I (aW (i:=2) I λ_ pZ=>aW (i:=3) I λ_ p8=>aX (i:=4) (cs':=#[.bool e1,mB,lY]) I I I I (by simp only[cY,c_,pZ,p8];rfl) I (aM (bX [0]) ?_))
    try refine GW ?_
    refine aL I (aW (i:=12) I λ_ p9=>aW (i:=13) I λ_ p_=>aX (i:=5) (cs':=#[.bool e2,kq,kM]) I I I I (by simp only[cY,c_,p9,p_];rfl) I (aM (bX [0]) ?_))
    try refine GW ?_
    refine dm [6,7,8,9,10,11,2,3,12,13,1,4,5] ?_;exact ee (⟨qB,qC,fl,qD,lZ,F2⟩,mB,lY,kq,kM,g7,g8) fO (by repeat' (first|exact cT|refine cJ I ?_)) I
   refine a8 I λg8=>(aM (bX [0]) ?_);refine eK I I ?_ ?_
   ·refine bx [2,3,4,5,6,7] [0,1,8,9,10] akh I I (fB aI.en I I I) (λw hm hb=>Bw ⟨um,uo,g_,uu,oy,F1⟩ kz w _ (fh (hm.pick [2,3,4,5,6,7] akh I) lB) hb) I I I ?_
    rintro⟨⟨qB,qC,fl,qD,lZ,F2⟩,kq,kM⟩ fO;have fO:lZ.length=p2.follow.length:=fO
    conv=>arg 8;simp only[zJ,cI,ret,id_eq,cU,n_]
    conv=>arg 7;simp only[cU]
    refine aM (bX [0]) ?_;refine aL I (a8 I λg7=>(aM (bX [0]) ?_));refine aL I (aW (i:=2) I λ_ pZ=>aW (i:=3) I λ_ p8=>aX (i:=13) (cs':=#[.bool e1,mB,lY]) I I I I (by simp only[cY,c_,pZ,p8];rfl) I (aM (bX [0]) ?_))
    try refine GW ?_
    refine aL I (aW (i:=11) I λ_ p9=>aW (i:=12) I λ_ p_=>aX (i:=4) (cs':=#[.bool e2,kq,kM]) I I I I (by simp only[cY,c_,p9,p_];rfl) I (aM (bX [0]) ?_))
    try refine GW ?_
    refine dm [5,6,7,8,9,10,2,3,11,12,1,13,4] ?_;exact ee (⟨qB,qC,fl,qD,lZ,F2⟩,mB,lY,kq,kM,g7,g8) fO (by repeat' (first|exact cT|refine cJ I ?_)) I
   refine a8 I λg7=>(aM (bX [0]) ?_);refine aL I (bx [2,3,4,5,6,7] [0,1,8,9,10,11] akh I I (fB aI.en I I I) (λw hm hb=>Bw ⟨um,uo,g_,uu,oy,F1⟩ kz w _ (fh (hm.pick [2,3,4,5,6,7] akh I) lB) hb) I I I ?_);rintro⟨⟨qB,qC,fl,qD,lZ,F2⟩,kq,kM⟩ fO;have fO:lZ.length=p2.follow.length:=fO
   conv=>arg 8;simp only[zJ,cI,ret,id_eq,cU,n_]
   conv=>arg 7;simp only[cU]
   refine aM (bX [0]) ?_;refine aL I (aW (i:=2) I λ_ pZ=>aW (i:=3) I λ_ p8=>aX (i:=5) (cs':=#[.bool e1,mB,lY]) I I I I (by simp only[cY,c_,pZ,p8];rfl) I (aM (bX [0]) ?_))
   try refine GW ?_
   refine aL I (aW (i:=12) I λ_ p9=>aW (i:=13) I λ_ p_=>aX (i:=4) (cs':=#[.bool e2,kq,kM]) I I I I (by simp only[cY,c_,p9,p_];rfl) I (aM (bX [0]) ?_))
   try refine GW ?_
   refine dm [6,7,8,9,10,11,2,3,12,13,1,5,4] ?_;exact ee (⟨qB,qC,fl,qD,lZ,F2⟩,mB,lY,kq,kM,g7,g8) fO (by repeat' (first|exact cT|refine cJ I ?_)) I
  ·refine a8 I λg7=>(aM (bX [6]) ?_)
   refine eK I I ?_ ?_
   ·refine bx [0,1,2,3,4,5] [6,7,8] akh I I (fB aI.en I I I) (λw hm hb=>Vw w _ (fh (hm.pick [0,1,2,3,4,5] akh I) wm) hb) I I I ?_
    rintro⟨⟨um,uo,g_,uu,oy,F1⟩,mB,lY⟩ kz;have kz:oy.length=p1.follow.length:=kz
    conv=>arg 8;simp only[zJ,cI,ret,id_eq,cU,n_]
    conv=>arg 7;simp only[cU]
    refine aM (bX [0]) ?_;refine eK I I ?_ ?_
    ·refine bx [3,4,5,6,7,8] [0,1,2,9,10] akh I I (fB aI.en I I I) (λw hm hb=>Bw ⟨um,uo,g_,uu,oy,F1⟩ kz w _ (fh (hm.pick [3,4,5,6,7,8] akh I) lB) hb) I I I ?_
     rintro⟨⟨qB,qC,fl,qD,lZ,F2⟩,kq,kM⟩ fO;have fO:lZ.length=p2.follow.length:=fO
     conv=>arg 8;simp only[zJ,cI,ret,id_eq,cU,n_]
     conv=>arg 7;simp only[cU]
     refine aM (bX [0]) ?_;refine aL I (a8 I λg8=>(aM (bX [0]) ?_));refine aL I (aW (i:=3) I λ_ pZ=>aW (i:=4) I λ_ p8=>aX (i:=2) (cs':=#[.bool e1,mB,lY]) I I I I (by simp only[cY,c_,pZ,p8];rfl) I (aM (bX [0]) ?_))
     try refine GW ?_
     refine aL I (aW (i:=11) I λ_ p9=>aW (i:=12) I λ_ p_=>aX (i:=13) (cs':=#[.bool e2,kq,kM]) I I I I (by simp only[cY,c_,p9,p_];rfl) I (aM (bX [0]) ?_))
     try refine GW ?_
     refine dm [5,6,7,8,9,10,3,4,11,12,1,2,13] ?_;exact ee (⟨qB,qC,fl,qD,lZ,F2⟩,mB,lY,kq,kM,g7,g8) fO (by repeat' (first|exact cT|refine cJ I ?_)) I
    refine a8 I λg8=>(aM (bX [0]) ?_);refine aL I (bx [3,4,5,6,7,8] [0,1,2,9,10,11] akh I I (fB aI.en I I I) (λw hm hb=>Bw ⟨um,uo,g_,uu,oy,F1⟩ kz w _ (fh (hm.pick [3,4,5,6,7,8] akh I) lB) hb) I I I ?_);rintro⟨⟨qB,qC,fl,qD,lZ,F2⟩,kq,kM⟩ fO;have fO:lZ.length=p2.follow.length:=fO
    conv=>arg 8;simp only[zJ,cI,ret,id_eq,cU,n_]
    conv=>arg 7;simp only[cU]
    refine aM (bX [0]) ?_;refine aL I (aW (i:=3) I λ_ pZ=>aW (i:=4) I λ_ p8=>aX (i:=2) (cs':=#[.bool e1,mB,lY]) I I I I (by simp only[cY,c_,pZ,p8];rfl) I (aM (bX [0]) ?_))
    try refine GW ?_
    refine aL I (aW (i:=12) I λ_ p9=>aW (i:=13) I λ_ p_=>aX (i:=5) (cs':=#[.bool e2,kq,kM]) I I I I (by simp only[cY,c_,p9,p_];rfl) I (aM (bX [0]) ?_))
    try refine GW ?_
    refine dm [6,7,8,9,10,11,3,4,12,13,1,2,5] ?_;exact ee (⟨qB,qC,fl,qD,lZ,F2⟩,mB,lY,kq,kM,g7,g8) fO (by repeat' (first|exact cT|refine cJ I ?_)) I
   refine a8 I λg8=>(aM (bX [6]) ?_);refine aL I (bx [0,1,2,3,4,5] [6,7,8,9] akh I I (fB aI.en I I I) (λw hm hb=>Vw w _ (fh (hm.pick [0,1,2,3,4,5] akh I) wm) hb) I I I ?_);rintro⟨⟨um,uo,g_,uu,oy,F1⟩,mB,lY⟩ kz;have kz:oy.length=p1.follow.length:=kz
   conv=>arg 8;simp only[zJ,cI,ret,id_eq,cU,n_]
   conv=>arg 7;simp only[cU]
   refine aM (bX [0]) ?_;refine aL I (bx [4,5,6,7,8,9] [0,1,2,3,10,11] akh I I (fB aI.en I I I) (λw hm hb=>Bw ⟨um,uo,g_,uu,oy,F1⟩ kz w _ (fh (hm.pick [4,5,6,7,8,9] akh I) lB) hb) I I I ?_);rintro⟨⟨qB,qC,fl,qD,lZ,F2⟩,kq,kM⟩ fO;have fO:lZ.length=p2.follow.length:=fO
   conv=>arg 8;simp only[zJ,cI,ret,id_eq,cU,n_]
   conv=>arg 7;simp only[cU]
   refine aM (bX [0]) ?_;refine aL I (aW (i:=4) I λ_ pZ=>aW (i:=5) I λ_ p8=>aX (i:=2) (cs':=#[.bool e1,mB,lY]) I I I I (by simp only[cY,c_,pZ,p8];rfl) I (aM (bX [0]) ?_))
   try refine GW ?_
   refine aL I (aW (i:=12) I λ_ p9=>aW (i:=13) I λ_ p_=>aX (i:=3) (cs':=#[.bool e2,kq,kM]) I I I I (by simp only[cY,c_,p9,p_];rfl) I (aM (bX [0]) ?_))
   try refine GW ?_
   refine dm [6,7,8,9,10,11,4,5,12,13,1,2,3] ?_;exact ee (⟨qB,qC,fl,qD,lZ,F2⟩,mB,lY,kq,kM,g7,g8) fO (by repeat' (first|exact cT|refine cJ I ?_)) I
  refine a8 I λg8=>(aM (bX [6]) ?_);refine eK I I ?_ ?_
  ·refine bx [0,1,2,3,4,5] [6,7,8] akh I I (fB aI.en I I I) (λw hm hb=>Vw w _ (fh (hm.pick [0,1,2,3,4,5] akh I) wm) hb) I I I ?_
   rintro⟨⟨um,uo,g_,uu,oy,F1⟩,mB,lY⟩ kz;have kz:oy.length=p1.follow.length:=kz
   conv=>arg 8;simp only[zJ,cI,ret,id_eq,cU,n_]
   conv=>arg 7;simp only[cU]
   refine aM (bX [0]) ?_;refine eK I I ?_ ?_
   ·refine bx [3,4,5,6,7,8] [0,1,2,9,10] akh I I (fB aI.en I I I) (λw hm hb=>Bw ⟨um,uo,g_,uu,oy,F1⟩ kz w _ (fh (hm.pick [3,4,5,6,7,8] akh I) lB) hb) I I I ?_
    rintro⟨⟨qB,qC,fl,qD,lZ,F2⟩,kq,kM⟩ fO;have fO:lZ.length=p2.follow.length:=fO
    conv=>arg 8;simp only[zJ,cI,ret,id_eq,cU,n_]
    conv=>arg 7;simp only[cU]
    refine aM (bX [0]) ?_;refine aL I (a8 I λg7=>(aM (bX [0]) ?_));refine aL I (aW (i:=3) I λ_ pZ=>aW (i:=4) I λ_ p8=>aX (i:=13) (cs':=#[.bool e1,mB,lY]) I I I I (by simp only[cY,c_,pZ,p8];rfl) I (aM (bX [0]) ?_))
    try refine GW ?_
    refine aL I (aW (i:=11) I λ_ p9=>aW (i:=12) I λ_ p_=>aX (i:=2) (cs':=#[.bool e2,kq,kM]) I I I I (by simp only[cY,c_,p9,p_];rfl) I (aM (bX [0]) ?_))
    try refine GW ?_
    refine dm [5,6,7,8,9,10,3,4,11,12,1,13,2] ?_;exact ee (⟨qB,qC,fl,qD,lZ,F2⟩,mB,lY,kq,kM,g7,g8) fO (by repeat' (first|exact cT|refine cJ I ?_)) I
   refine a8 I λg7=>(aM (bX [0]) ?_);refine aL I (bx [3,4,5,6,7,8] [0,1,2,9,10,11] akh I I (fB aI.en I I I) (λw hm hb=>Bw ⟨um,uo,g_,uu,oy,F1⟩ kz w _ (fh (hm.pick [3,4,5,6,7,8] akh I) lB) hb) I I I ?_);rintro⟨⟨qB,qC,fl,qD,lZ,F2⟩,kq,kM⟩ fO;have fO:lZ.length=p2.follow.length:=fO
   conv=>arg 8;simp only[zJ,cI,ret,id_eq,cU,n_]
   conv=>arg 7;simp only[cU]
   refine aM (bX [0]) ?_;refine aL I (aW (i:=3) I λ_ pZ=>aW (i:=4) I λ_ p8=>aX (i:=5) (cs':=#[.bool e1,mB,lY]) I I I I (by simp only[cY,c_,pZ,p8];rfl) I (aM (bX [0]) ?_))
   try refine GW ?_
   refine aL I (aW (i:=12) I λ_ p9=>aW (i:=13) I λ_ p_=>aX (i:=2) (cs':=#[.bool e2,kq,kM]) I I I I (by simp only[cY,c_,p9,p_];rfl) I (aM (bX [0]) ?_))
   try refine GW ?_
   refine dm [6,7,8,9,10,11,3,4,12,13,1,5,2] ?_;exact ee (⟨qB,qC,fl,qD,lZ,F2⟩,mB,lY,kq,kM,g7,g8) fO (by repeat' (first|exact cT|refine cJ I ?_)) I
  refine a8 I λg7=>(aM (bX [6]) ?_);refine aL I (bx [0,1,2,3,4,5] [6,7,8,9] akh I I (fB aI.en I I I) (λw hm hb=>Vw w _ (fh (hm.pick [0,1,2,3,4,5] akh I) wm) hb) I I I ?_);rintro⟨⟨um,uo,g_,uu,oy,F1⟩,mB,lY⟩ kz;have kz:oy.length=p1.follow.length:=kz
  conv=>arg 8;simp only[zJ,cI,ret,id_eq,cU,n_]
  conv=>arg 7;simp only[cU]
  refine aM (bX [0]) ?_;refine aL I (bx [4,5,6,7,8,9] [0,1,2,3,10,11] akh I I (fB aI.en I I I) (λw hm hb=>Bw ⟨um,uo,g_,uu,oy,F1⟩ kz w _ (fh (hm.pick [4,5,6,7,8,9] akh I) lB) hb) I I I ?_);rintro⟨⟨qB,qC,fl,qD,lZ,F2⟩,kq,kM⟩ fO;have fO:lZ.length=p2.follow.length:=fO
  conv=>arg 8;simp only[zJ,cI,ret,id_eq,cU,n_]
  conv=>arg 7;simp only[cU]
  refine aM (bX [0]) ?_;refine aL I (aW (i:=4) I λ_ pZ=>aW (i:=5) I λ_ p8=>aX (i:=3) (cs':=#[.bool e1,mB,lY]) I I I I (by simp only[cY,c_,pZ,p8];rfl) I (aM (bX [0]) ?_))
  try refine GW ?_
  refine aL I (aW (i:=12) I λ_ p9=>aW (i:=13) I λ_ p_=>aX (i:=2) (cs':=#[.bool e2,kq,kM]) I I I I (by simp only[cY,c_,p9,p_];rfl) I (aM (bX [0]) ?_))
  try refine GW ?_
  refine dm [6,7,8,9,10,11,4,5,12,13,1,3,2] ?_;exact ee (⟨qB,qC,fl,qD,lZ,F2⟩,mB,lY,kq,kM,g7,g8) fO (by repeat' (first|exact cT|refine cJ I ?_)) I
 clear Vw Bw J7 rm;rintro⟨⟨vc,vr,vfol,vl,vs,F⟩,mB,lY,kq,kM,g7,g8⟩ fO;have fO:vs.length=p2.follow.length:=fO;dsimp only
 conv=>arg 7;simp only[zA,zB,zC,zD,zE,zF,zG,zH,zI,cI,ret,id_eq,n_]
 have PB:=kp hp4;have HJ:=kp hp5;have Y4:=kp kp4;have hl4:=kp kp5
 repeat(first|refine GA ?_|refine gV (aB (v:=lY) aK.ty I (aH (i:=11) I I)) ?_|refine gV (aB (v:=kq) aK.ty I (aH (i:=12) I I)) ?_)
 refine bx [0,3,4,7,8] [1,2,5,6,9,10,11,12] akh I I (sV aI.en I I I I) (λw hm hb=>Aj g vc vr vf vfol vl ve bQ lY kq vs F p2.follow kT iE w _ fO (by rw[kp1.follow];omega) (by rw[kp1.follow];exact kp1.ris) (by rw[kp1.follow];exact ox hp5 kp2) (by rw[kp1.follow];exact kp4) hb) I I I ?_;rintro⟨pW,F'⟩ Y5;have Y5:pW.length=p2.follow.length:=Y5
 conv=>arg 8;simp only[zJ,cI,ret,id_eq,Tg]
 refine n9 (i:=3) I λba ca hva _ _=>?_;refine n9 (i:=4) I λbb cb AM _ _=>?_;subst hva AM
 cases e1 with
 | true=>
  cases e2 with
  | true=>
   repeat(first|refine GA ?_|refine gV (aB aK.ty I (aH (i:=6) I I)) ?_|refine gV (aB aK.ty I (aH (i:=7) I I)) ?_|refine gV (bD I (nU _ _ _ _ _ _ _)) ?_)
   refine a8 I λg11=>?_;refine zL ?_;refine ij 13 (cs':=#[.bool aC,ap ba ix.length ca,ap bb kB.length cb]) ?_;refine zL ?_
   repeat(first|refine GA ?_|refine gV (aB aK.ty I (aH (i:=6) I I)) ?_|refine gV (aB aK.ty I (aH (i:=7) I I)) ?_)
   refine aV (fB aI.en I I I) (λw' hm=>iK _ kq ix iE w' (Sl.dD (hm.get (i:=3) I)) (Sl.dD (hm.get (i:=12) I)) J J) I I I ?_;intro vu _
   conv=>arg 8;simp only[zJ,cI,ret,id_eq,tZ]
   try refine GA ?_
   refine aW (i:=14) I λqu1 qu2=>bV (i:=13) I I I qu1 qu2 I ?_;refine zL ?_
   repeat(first|refine GA ?_|refine gV (aB aK.ty I (aH (i:=6) I I)) ?_|refine gV (aB aK.ty I (aH (i:=7) I I)) ?_)
   refine aV (fB aI.en I I I) (λw' hm=>iK lY _ kT kB w' (Sl.dD (hm.get (i:=11) I)) (Sl.dD (hm.get (i:=4) I)) J J) I I I ?_;intro vu2 _
   conv=>arg 8;simp only[zJ,cI,ret,id_eq,tZ]
   try refine GA ?_
   refine aW (i:=15) I λqv1 qv2=>bV (i:=13) I I I qv1 qv2 I ?_;refine zL ?_
   repeat(first|refine GA ?_|refine gV (aO (i:=13) aK.ty I I I) ?_|refine gV (aB aK.ty I (aH (i:=6) I I)) ?_|refine gV (aB aK.ty I (aH (i:=7) I I)) ?_)
   refine aX (i:=5) (cs':=#[.bool aC,vu,vu2]) I I I I (by simp only[cY,c_,qu2,qv2];rfl) I ?_;refine zL ?_
   try refine GA ?_
   refine fZ (i:=5) I I I I λw hm=>?_;exact hm.cC (S:=cU g vf ve bQ (⟨aC,rr ix iE,rr kT kB⟩,{p2 with follow:=fE p2.follow kT iE})) (⟨vc,vr,vfol,vl,pW,F'⟩,vu,vu2) (by show pW.length=(fE p2.follow kT iE).length;rw[lA];exact Y5) [8,0,1,9,10,2,14,15] akh I
  | false=>
   repeat(first|refine GA ?_|refine gV (aB aK.ty I (aH (i:=6) I I)) ?_|refine gV (aB aK.ty I (aH (i:=7) I I)) ?_|refine gV (bD I (nU _ _ _ _ _ _ _)) ?_)
   refine a8 I λg11=>?_;refine zL ?_;refine ij 13 (cs':=#[.bool aE,ap ba ix.length ca,ap bb kB.length cb]) ?_;refine zL ?_
   repeat(first|refine GA ?_|refine gV (aB aK.ty I (aH (i:=6) I I)) ?_|refine gV (aB aK.ty I (aH (i:=7) I I)) ?_)
   refine aV (fB aI.en I I I) (λw' hm=>iK _ kq ix iE w' (Sl.dD (hm.get (i:=3) I)) (Sl.dD (hm.get (i:=12) I)) J J) I I I ?_;intro vu _
   conv=>arg 8;simp only[zJ,cI,ret,id_eq,tZ]
   try refine GA ?_
   refine aW (i:=14) I λqu1 qu2=>bV (i:=13) I I I qu1 qu2 I ?_;refine zL ?_
   repeat(first|refine GA ?_|refine gV (aO (i:=13) aK.ty I I I) ?_|refine gV (aB aK.ty I (aH (i:=6) I I)) ?_|refine gV (aB aK.ty I (aH (i:=7) I I)) ?_)
   refine aX (i:=5) (cs':=#[.bool aE,vu,ap bb kB.length cb]) I I I I (by simp only[cY,c_,qu2];rfl) I ?_;refine zL ?_
   try refine GA ?_
   refine fZ (i:=5) I I I I λw hm=>?_;exact hm.cC (S:=cU g vf ve bQ (⟨aE,rr ix iE,kB⟩,{p2 with follow:=fE p2.follow kT iE})) (⟨vc,vr,vfol,vl,pW,F'⟩,vu,ap bb kB.length cb) (by show pW.length=(fE p2.follow kT iE).length;rw[lA];exact Y5) [8,0,1,9,10,2,14,4] akh I
 | false=>
  cases e2 with
  | true=>
   repeat(first|refine GA ?_|refine gV (aB aK.ty I (aH (i:=6) I I)) ?_|refine gV (aB aK.ty I (aH (i:=7) I I)) ?_|refine gV (bD I (nU _ _ _ _ _ _ _)) ?_)
   refine a8 I λg11=>?_;refine zL ?_;refine ij 13 (cs':=#[.bool aE,ap ba ix.length ca,ap bb kB.length cb]) ?_;refine zL ?_
   repeat(first|refine GA ?_|refine gV (aB aK.ty I (aH (i:=6) I I)) ?_|refine gV (aB aK.ty I (aH (i:=7) I I)) ?_)
   refine aV (fB aI.en I I I) (λw' hm=>iK lY _ kT kB w' (Sl.dD (hm.get (i:=11) I)) (Sl.dD (hm.get (i:=4) I)) J J) I I I ?_;intro vu2 _
   conv=>arg 8;simp only[zJ,cI,ret,id_eq,tZ]
   try refine GA ?_
   refine aW (i:=14) I λqv1 qv2=>bV (i:=13) I I I qv1 qv2 I ?_;refine zL ?_
   repeat(first|refine GA ?_|refine gV (aO (i:=13) aK.ty I I I) ?_|refine gV (aB aK.ty I (aH (i:=6) I I)) ?_|refine gV (aB aK.ty I (aH (i:=7) I I)) ?_)
   refine aX (i:=5) (cs':=#[.bool aE,ap ba ix.length ca,vu2]) I I I I (by simp only[cY,c_,qv2];rfl) I ?_;refine zL ?_
   try refine GA ?_
   refine fZ (i:=5) I I I I λw hm=>?_;exact hm.cC (S:=cU g vf ve bQ (⟨aE,ix,rr kT kB⟩,{p2 with follow:=fE p2.follow kT iE})) (⟨vc,vr,vfol,vl,pW,F'⟩,ap ba ix.length ca,vu2) (by show pW.length=(fE p2.follow kT iE).length;rw[lA];exact Y5) [8,0,1,9,10,2,3,14] akh I
  | false=>
   repeat(first|refine GA ?_|refine gV (aB aK.ty I (aH (i:=6) I I)) ?_|refine gV (aB aK.ty I (aH (i:=7) I I)) ?_|refine gV (bD I (nU _ _ _ _ _ _ _)) ?_)
   refine a8 I λg11=>?_;refine zL ?_;refine ij 13 (cs':=#[.bool aE,ap ba ix.length ca,ap bb kB.length cb]) ?_;refine zL ?_
   repeat(first|refine GA ?_|refine gV (aO (i:=13) aK.ty I I I) ?_|refine gV (aB aK.ty I (aH (i:=6) I I)) ?_|refine gV (aB aK.ty I (aH (i:=7) I I)) ?_)
   refine ij 5 (cs':=#[.bool aE,ap ba ix.length ca,ap bb kB.length cb]) ?_;refine zL ?_
   try refine GA ?_
   refine fZ (i:=5) I I I I λw hm=>?_;exact hm.cC (S:=cU g vf ve bQ (⟨aE,ix,kB⟩,{p2 with follow:=fE p2.follow kT iE})) (⟨vc,vr,vfol,vl,pW,F'⟩,ap ba ix.length ca,ap bb kB.length cb) (by show pW.length=(fE p2.follow kT iE).length;rw[lA];exact Y5) [8,0,1,9,10,2,3,4] akh I
end bZ
namespace bZ
open Go.RowKit cK dS de gd eE
theorem Dj:∀M,J5 M
 |0=>λe h=>by have:=e.size_pos;omega
 | M +1=>λe h g vf ve bQ p x v w B hp hx hn hr hv hm=>by
  cases e with
  |none=>exact Vr g vf ve bQ p x v w B hx hv hm
  |empty=>exact Qw g vf ve bQ p x v w B hx hv hm
  |byte c=>exact Vt c g vf ve bQ p x v w B hp hx J hv hm
  | star a=>
   have h:a.size+1<=M+1:=h;exact Vu (Dj M) a J g vf ve bQ p x v w B hp hx hn hr hv hm
  | Js a b=>
   have h:a.size+b.size+1<=M+1:=h;exact Zr (Dj M) a b J J g vf ve bQ p x v w B hp hx hn hr hv hm
  | Jr a b=>
   have h:a.size+b.size+1<=M+1:=h;exact Zs (Dj M) a b J J g vf ve bQ p x v w B hp hx hn hr hv hm
end bZ
namespace eE
open de gd
structure MS where
 ps:PS
 first:List Int
 empty:List Bool
def MS.zero:MS:=⟨⟨[],[],[],[]⟩,[],[]⟩
def gh(last:List Bool)(l:List Int):List Bool:=l.foldl (λb x=>b.set x.toNat aC) last
def xL(i:Nat)(m:MS)(e:Re):MS:=
 ⟨{(cP i e m.ps).2 with last:=gh (cP i e m.ps).2.last (cP i e m.ps).1.last},rr m.first (cP i e m.ps).1.first,m.empty++[(cP i e m.ps).1.empty]⟩
def l_:Nat->MS->List Re->Int×MS
 |_,m,[]=>(0,m)
 |i,m,e::r=>if 200<(xL i m e).ps.a_.length then(2,.zero)else l_ (i+1) (xL i m e) r
abbrev MY(r:Rx):Int:=(mw r 1 0).1
def kr:List Rx->Int
 |[]=>0
 |r::l=>if MY r≠0 then MY r else kr l
structure QC(m:MS):Prop where
 ps:MU m.ps
 first:Ie m.ps.a_.length m.first
theorem E_(last:List Bool)(l:List Int):(gh last l).length=last.length:=by
 unfold gh
 induction l generalizing last with
 |nil=>rfl
 |cons x r ih=>rw[List.foldl_cons,ih,List.length_set]
theorem Vx(last:List Bool)(l:List Int){k:Nat}(hk:k<l.length):gh last (l.take (k+1))=(gh last (l.take k)).set l[k].toNat true:=by
 unfold gh;rw[gX hk,Zl];rfl
theorem J8:QC .zero:=⟨⟨rfl,rfl,rfl,λl h=>by cases h⟩,xc _⟩
theorem Tj(i:Nat){m:MS}(h:QC m)(e:Re):QC (xL i m e)/\(xL i m e).ps.a_.length<=m.ps.a_.length+e.size:=by
 obtain⟨h1,h2,h3,h4,h5⟩:=mc i e m.ps h.ps;exact⟨⟨⟨h1.rules,h1.follow,(E_ _ _).trans h1.last,h1.ris⟩,th (ox h.first h2).2 h4.2⟩,h3⟩
theorem Ig:∀{l:List Rx},kr l=0->∀r∈l,MY r=0
 |[],_,r,hr=>by cases hr
 | q::l,h,r,hr=>by
  rw[kr]at h;split at h;contradiction
  rename_i c
  rcases dC.1 hr with rfl|hr
  simpa using c
  exact Ig h r hr
end eE
namespace bZ
open Go.RowKit cK dS de gd eE
theorem tm(w:World):(df 181 (#[]:Array (Nat×Value))).run aD w= .ok (aQ #[ap ak 0 0,ap ak 0 0,ap ak 0 0,ap ak 0 0,ap ak 0 0,ap ak 0 0]) w:=by
 go_simp
theorem Vy(w:World):(df 242 (#[]:Array (Nat×Value))).run aD w= .ok (aQ #[ap ak 0 0,ap ak 0 0,ap ak 0 0,ap ak 0 0,ap ak 0 0,ap ak 0 0,av az 0]) w:=by
 go_simp
structure PIx where
 vc:Value
 vr:Value
 vf:Value
 vfol:Value
 vl:Value
 ve:Value
 vs:List Value
 F:Nat->Prop
def QD(x:PIx)(m:MS):List b9:=
 [aZ 116 4 x.vc m.ps.a_.length (m.ps.a_.flatMap ed),gJ x.vr m.ps.rules,gJ x.vf m.first,yQ x.vfol x.vs,wj x.F x.vs m.ps.follow,aZ 4 1 x.vl m.ps.last.length (m.ps.last.map fT),aZ 4 1 x.ve m.empty.length (m.empty.map fT)]
def QE(x:PIx):Array Value:=#[x.vc,x.vr,x.vf,x.vfol,x.vl,x.ve]
def ru(R:Int×MS):Spec PIx:=⟨λx=>x.vs.length=R.2.ps.follow.length,λx=> .tuple #[.agg (QE x),av az R.1],λx=>QD x R.2⟩
def Zt:PIx:=⟨ap ak 0 0,ap ak 0 0,ap ak 0 0,ap ak 0 0,ap ak 0 0,ap ak 0 0,[],λ_=>False⟩
theorem J9{n:Nat}{W:bL}{Q:Exit->Act->World->Prop}{fr:Fr}{L:List b9}{e':Exit}(h:E n W e' Q fr (L++QD Zt .zero)):E n W e' Q fr L:=by
 refine dN 116 4 (dN 3 1 (dN 3 1 (dN 26 1 (qM (wj (λ_=>False) [] []) (λk hk=>hk.elim (λh=>by cases h) id) (λw=>jI) (dN 4 1 (dN 4 1 ?_))))));simp only[dZ,jf,eI];exact h
theorem acv{vc vr vf vfol vl ve v:Value}{bQ:Int}{j:Nat}(h:[vc,vr,vf,vfol,vl,ve][j]?=aj v):(Tf vc vr vf vfol vl ve bQ)[0+j]?=aj v:=by
 rw[cX]
 match j,h with
 |0,h=>exact h
 |1,h=>exact h
 |2,h=>exact h
 |3,h=>exact h
 |4,h=>exact h
 |5,h=>exact h
def Ht(b:Bool):List Value:=[.bool b]
theorem Vz(b:Bool):(Ht b).length=1:=rfl
theorem Bx(l:List Bool):l.flatMap Ht=l.map fT:=by
 induction l with
 |nil=>rfl
 |cons x r ih=>rw[mg,ih];rfl
def Ih(rs:List Rx)(R:Int×MS):Prop:=
  ((rs.length=0\/20<rs.length)/\R=(1,.zero))\/(¬(rs.length=0\/20<rs.length)/\kr rs≠0/\R=(kr rs,.zero))\/
    (¬(rs.length=0\/20<rs.length)/\kr rs=0/\∃es:List Re,rs=es.map l9/\(∀e∈es,e.size<=100)/\R=l_ 0 .zero es)
theorem QF{l:List Rx}{k:Nat}(h:k<l.length):kr (l.drop k)=if MY l[k]≠0 then MY l[k]else kr (l.drop (k+1)):=by
 rw[eZ h,kr]
theorem Fa(v:Value)(rs:List Rx)(R:Int×MS)(w:World)(hv:ky yv (qy w) w v rs)(hR:Ih rs R):
    Calls aD 75 #[v] w (bY (ru R) w):=by
  obtain⟨bk,ck,rfl,h1,h2,h3⟩:=hv;unfold maxLen at h2;refine enter (args:=[ap bk rs.length ck]) (n:=104) Tryz.func75 I I I ?_;refine bW (bB (a8 I λg2=>?_));refine zL ?_;rcases hR with⟨c1,rfl⟩|hR
  · by_cases c2:rs.length=0
    · repeat(first|refine GC ?_|refine gV (cZ (b:=aC) I I (decide_eq_true J)) ?_|refine gV (bD I tm) ?_|refine GB ?_)
      refine ij 0 ?_;refine zL ?_
      try refine GA ?_
      refine J9 ?_;exact eJ (i:=0) I I I I I λw hm=>hm.meets (S:=ru (1,.zero)) Zt I [1,2,3,4,5,6,7] akh I
    have c3:20<rs.length:=c1.resolve_left c2
    repeat(first|refine GC ?_|refine gV (cZ (b:=aE) I I (decide_eq_false J)) ?_|refine gV (ea (b:=aC) I I (decide_eq_true J)) ?_|refine gV (bD I tm) ?_|refine GB ?_)
    refine ij 0 ?_;refine zL ?_
    try refine GA ?_
    refine J9 ?_;exact eJ (i:=0) I I I I I λw hm=>hm.meets (S:=ru (1,.zero)) Zt I [1,2,3,4,5,6,7] akh I
  have hlen:¬(rs.length=0\/20<rs.length):=by rcases hR with⟨h,_⟩|⟨h,_⟩<;>exact h
  repeat(first|refine GC ?_|refine gV (cZ (b:=aE) I I (decide_eq_false J)) ?_|refine gV (ea (b:=aE) I I (decide_eq_false J)) ?_|refine GB ?_)
  refine d_ (ι:=Nat) (λk=>k<=rs.length/\kr rs=kr (rs.drop k)) (λk=>[(0,ap bk rs.length ck),(2,aJ (aj ⟨g2,0,ak⟩)),(22,ap bk rs.length ck),(23,av az rs.length),(24,av az (k:Int))])
    (λ_=>[aP g2 #[ap ak 0 0,ap ak 0 0,ap ak 0 0,ap ak 0 0,ap ak 0 0,ap ak 0 0] 181]) (λk=>rs.length-k) 0 ⟨bH _,rfl⟩ ?_
  rintro k ⟨i1,i2⟩
  by_cases c6:k<rs.length
  · obtain⟨b,off,rfl,hF,eP⟩:=h3 J
    obtain⟨kb,kc,hr,Vv⟩:=qO eP c6;have dy:=λ(L:List b9) (j:Nat) (v:Value) (hj:(mQ rs[k].kind rs[k].uQ (.slice kb rs[k].kids.length kc))[j]?=aj v)=>jc (L:=L) hr hj;have jw:∀w',Gr w w'->Calls aD 111 #[re rs[k].kind rs[k].uQ (.slice kb rs[k].kids.length kc)] w' (bY (ret (av az (MY rs[k]))) w'):=λw' hg=>uY _ _ w' (Vv.gr hg);have hdr:=QF c6;clear h3 eP hr;generalize rs[k]=r at*
    repeat(first|refine GA ?_|refine gV (aY bM.eq aK.ty I I c6) ?_|refine gV (bm aK.ty I I (dy _)) ?_)
    refine a8 I λg5=>?_;refine zL ?_;refine ij 1 (cs':=(mQ r.kind r.uQ (ap kb r.kids.length kc)).toArray) ?_;refine zL ?_
    repeat(first|refine GA ?_|refine gV (aO (i:=1) aK.ty I I I) ?_)
    refine aV (i_ aI.en I I) (λw hm=>jw _ hm.below) I I I ?_;intro _ _;refine zL ?_
    by_cases c7:MY r=0
    · repeat(first|refine GC ?_|refine gV (dl (b:=aE) I I (decide_eq_false (by simpa using c7))) ?_|refine GB ?_)
      refine dm [0] ?_;exact bT (k+1) ⟨by omega,by rw[i2,hdr,if_neg (by simpa using c7)]⟩ (by show rs.length-(k+1)<rs.length-k;omega)
    have hne:kr rs≠0:=by rw[i2,hdr,if_pos c7];exact c7
    rcases hR with⟨_,_,rfl⟩|⟨_,h0,_⟩
    · rw[i2,hdr,if_pos c7]
      repeat(first|refine GC ?_|refine gV (dl (b:=aC) I I (decide_eq_true c7)) ?_|refine gV (bD I tm) ?_|refine GB ?_)
      refine ij 0 ?_;refine zL ?_
      try refine GA ?_
      refine J9 ?_;exact eJ (i:=0) I I I I I λw hm=>hm.meets (S:=ru (MY r,.zero)) Zt I [2,3,4,5,6,7,8] akh I
    exact absurd h0 hne
  · obtain rfl:k=rs.length:=by omega
    have h0:kr rs=0:=by rw[i2,pX (bz _)];rfl
    obtain⟨es,rfl,hsz,rfl⟩:∃es:List Re,rs=es.map l9/\(∀e∈es,e.size<=100)/\R=l_ 0 .zero es:=by
      rcases hR with⟨_,h,_⟩|⟨_,_,h⟩
      exact absurd h0 h;exact h
    have h20:(Zn l9 es).length<=20:=by omega
    clear hR hlen i1 i2
    repeat(first|refine GA ?_|refine gV (bD I Vy) ?_)
    refine bP I I I λg7=>?_;refine zL ?_
    try refine GA ?_
    refine jd 116 4 (jd 3 1 (jd 26 1 (m_ (wj (λ_=>False) [] []) (λk hk=>hk.elim (λh=>by cases h) id) (λw=>jI) (jd 4 1 (jd 3 1 (jd 4 1 ?_))))));refine d_ (ι:=Nat×MS×WH×Value×Value×Int) (λ(k,m,x,_,_,_)=>k<=es.length/\l_ 0 .zero es=l_ k m (es.drop k)/\QC m/\m.ps.a_.length<=200/\x.vs.length=m.ps.follow.length/\m.empty.length=k) (λ(k,_,_,_,_,_)=>[(2,aJ (aj ⟨g2,0,ak⟩)),(7,aJ (aj ⟨g7,0,ak⟩)),(37,ap bk (es.map l9).length ck),(38,av az (es.map l9).length),(39,av az (k:Int))])
      (λ(_,m,x,vf,ve,bQ)=>[aP g2 #[ap ak 0 0,ap ak 0 0,ap ak 0 0,ap ak 0 0,ap ak 0 0,ap ak 0 0] 181]++n_ g7 vf ve bQ x m.ps++[gJ vf m.first,aZ 4 1 ve m.empty.length (m.empty.map fT)]) (λ(k,_,_,_,_,_)=>es.length-k)
      (0,.zero,⟨ap ak 0 0,ap ak 0 0,ap ak 0 0,ap ak 0 0,[],λ_=>False⟩,ap ak 0 0,ap ak 0 0,0) ⟨bH _,rfl,J8,bH _,rfl,rfl⟩ ?_
    rintro⟨k,m,⟨vc,vr,vfol,vl,vs,F⟩,vf,ve,bQ⟩ ⟨i1,i2,i3,i4,i5,i6⟩;dsimp only at i1 i2 i3 i4 i5 i6⊢
    conv=>arg 7;simp only[zA,zB,zC,zD,zE,zF,zG,zH,zI,cI,ret,id_eq,n_]
    have hml:(Zn l9 es).length=es.length:=dA ..
    by_cases c6:k<es.length
    · obtain⟨b,off,rfl,hF,eP⟩:=h3 J
      obtain⟨kb,kc,hr,Vv⟩:=qO (k:=k) eP J;have dy:=λ(L:List b9) (j:Nat) (v:Value) (hj:(mQ (es.map l9)[k].kind (es.map l9)[k].uQ (.slice kb (es.map l9)[k].kids.length kc))[j]?=aj v)=>jc (L:=L) hr hj;have hke:(es.map l9)[k]' J=l9 es[k]:=ta ..;rw[hke]at dy Vv;have WI:=hsz es[k] (b_ c6);rw[eZ c6,l_]at i2;clear h3 eP hr hke;generalize es[k]=e at*;have hst:=Tj k i3 e;have LD:=mc k e m.ps i3.ps;have hno:=λv w B hv hm=>Dj 100 e WI g7 vf ve k m.ps ⟨vc,vr,vfol,vl,vs,F⟩ v w B i3.ps i5 J ⟨by omega,by omega⟩ hv hm
      repeat(first|refine GA ?_|refine gV (aY bM.eq aK.ty I I J) ?_|refine gV (bm aK.ty I I (dy _)) ?_)
      refine a8 I λg9=>?_;refine zL ?_
      try refine GA ?_
      refine ij 9 (cs':=(mQ (l9 e).kind (l9 e).uQ (ap kb (l9 e).kids.length kc)).toArray) ?_;refine zL ?_
      try refine GA ?_
      refine bV (i:=1) I I I I I I ?_;refine zL ?_
      repeat(first|refine GA ?_|refine gV (aO (i:=9) aK.ty I I I) ?_)
      refine bx [1,2,3,4,5,6] [0,7,8,9] akh I I (fB aI.en I I I) (λw hm hb=>hno _ w _ (fh (hm.pick [1,2,3,4,5,6] akh I) (Vv.mono λk hk=>⟨hk,id⟩)) hb) I I I ?_;rintro⟨⟨G1,CQ,xK,Ti,pW,F'⟩,va,vb⟩ OK
      conv=>arg 8;simp only[zJ,cI,ret,id_eq,cU,n_]
      conv=>arg 7;simp only[cU]
      have OK:pW.length=(cP k e m.ps).2.follow.length:=OK;unfold xL at i2 hst;generalize cP k e m.ps=R at*;obtain⟨⟨em,first,last⟩,p'⟩:=R;dsimp only at i2 hst LD OK⊢;obtain⟨n1,n2,n3,n4,n5⟩:=LD;have PB:=kp i3.first;have HJ:=kp n4;have Y4:=kp n5;refine aW (i:=10) I λ_ qa=>aW (i:=11) I λ_ qb=>a8 I λg10=>?_;refine zL ?_;refine aX (i:=12) (cs':=#[.bool em,va,vb]) I I I I (by simp only[cY,c_,qa,qb];rfl) I ?_;refine zL ?_
      try refine GA ?_
      (repeat refine bW ?_)
      refine lU (ι:=Value) (λWJ=>WJ.oneCell'=aC) (λ_=>[(2,aJ (aj ⟨g2,0,ak⟩)),(7,aJ (aj ⟨g7,0,ak⟩)),(10,aJ (aj ⟨g10,0,ak⟩)),(37,ap (aj ⟨b,off,ak⟩) (es.map l9).length ck),(38,av az (es.map l9).length),(39,av az (k:Int))])
        (λWJ=>[aP g2 #[ap ak 0 0,ap ak 0 0,ap ak 0 0,ap ak 0 0,ap ak 0 0,ap ak 0 0] 181,aP g7 (Tf G1 CQ WJ xK Ti ve (k:Int)) 242,aZ 116 4 G1 p'.a_.length (p'.a_.flatMap ed),gJ CQ p'.rules,yQ xK pW,wj F' pW p'.follow,aZ 4 1 Ti p'.last.length (p'.last.map fT),gJ WJ (rr m.first first),aZ 4 1 ve m.empty.length (m.empty.map fT),aP g10 #[.bool em,va,vb] 244,gJ vb last]) ?_ ?_
      · refine dT ([aP g10 #[.bool em,va,vb] 244]) (.calm 0 (.calm 1 (.calm 2 (.calm 3 (.calm 4 (.calm 6 (.calm 7 (.one 5 (.one 8 (.calm 9 (.calm 10 (.calm 11 (.one 12 (.done)))))))))))))) (bX [12]) ?_
        repeat(first|refine GW ?_|(refine GN ?_;first|refine QW (aB aK.ty I (aH (i:=0) I I)) ?_))
        refine aL I (dx (aB (v:=vf) aK.ty I (aH (i:=4) I I)) I I I (aM (bX [12]) ?_));refine aL I (aV (fB aI.en I I I) (λw' hm=>iK vf va m.first first w' (Sl.dD (hm.get (i:=1) I)) (Sl.dD (hm.get (i:=10) I)) J J) I I I ?_);intro WJ _
        conv=>arg 8;simp only[zJ,cI,ret,id_eq,tZ]
        refine aM (bX [12]) ?_
        try refine GW ?_
        refine aL I (aW (i:=13) I λqf1 qf2=>bV (i:=4) I I I qf1 qf2 I (aM (bX [12]) ?_))
        try refine GW ?_
        refine dm [0,4,5,6,7,8,9,13,2,12,11] ?_;exact ee WJ qf2 (by repeat' (first|exact cT|refine cJ I ?_)) I
      intro WJ GH
      (repeat refine bW ?_)
      refine lU (ι:=Value) (λTk=>Tk.oneCell'=aC) (λ_=>[(2,aJ (aj ⟨g2,0,ak⟩)),(7,aJ (aj ⟨g7,0,ak⟩)),(10,aJ (aj ⟨g10,0,ak⟩)),(37,ap (aj ⟨b,off,ak⟩) (es.map l9).length ck),(38,av az (es.map l9).length),(39,av az (k:Int))])
        (λTk=>[aP g2 #[ap ak 0 0,ap ak 0 0,ap ak 0 0,ap ak 0 0,ap ak 0 0,ap ak 0 0] 181,aP g7 (Tf G1 CQ WJ xK Ti Tk (k:Int)) 242,aZ 116 4 G1 p'.a_.length (p'.a_.flatMap ed),gJ CQ p'.rules,yQ xK pW,wj F' pW p'.follow,aZ 4 1 Ti p'.last.length (p'.last.map fT),gJ WJ (rr m.first first),aZ 4 1 Tk (m.empty++[em]).length ((m.empty++[em]).map fT),aP g10 #[.bool em,va,vb] 244,gJ vb last]) ?_ ?_
      · refine dT ([aP g10 #[.bool em,va,vb] 244]) (.calm 0 (.calm 1 (.calm 2 (.calm 3 (.calm 4 (.calm 6 (.calm 7 (.two 5 (.one 8 (.one 9 (.calm 10 (.calm 11 (.calm 12 (.one 13 (.done))))))) 8 (.one 5 (.one 9 (.calm 10 (.calm 11 (.calm 12 (.one 13 (.done))))))))))))))) (bX [9]) ?_
        repeat(first|refine GW ?_|(refine GN ?_;first|refine QW (aB aK.ty I (aH (i:=0) I I)) ?_))
        refine eK I I ?_ ?_
        · refine dx (aB (v:=ve) aK.ty I (aH (i:=1) I I)) I I I (aM (bX [9]) ?_)
          refine aL I (fD (cs:=#[.bool em]) [.bool em] I I I (by intro v hv;simp at hv;subst hv;rfl) I I I λg71=>(aM (bX [9]) ?_));refine aL I (eM (i:=8) (e:=4) (size:=1) (bytes:=1) (m:=m.empty.length) (xs:=m.empty.map fT) (k:=1) (ys:=[.bool em]) I (lq (i:=11) I (λj u h=>by simpa using h) (bz 1) akh) I I I (λu hu=>by rw[dO.1 hu];rfl) J J I λTk=>(aM (bX [9]) ?_))
          try refine GW ?_
          refine aL I (aW (i:=8) I λqe1 qe2=>bV (i:=1) I I I qe1 qe2 I (aM (bX [9]) ?_))
          try refine GW ?_
          refine dm [0,1,2,3,4,5,6,7,8,9,10] ?_;exact ee Tk qe2 (by repeat' (first|exact cT|refine cJ I ?_)) (by rw[<-Bu Tk m.empty em];rfl)
        refine fD (cs:=#[.bool em]) [.bool em] I I I (by intro v hv;simp at hv;subst hv;rfl) I I I λg71=>(aM (bX [9]) ?_);refine aL I (dx (aB (v:=ve) aK.ty I (aH (i:=1) I I)) I I I (aM (bX [9]) ?_));refine aL I (eM (i:=8) (e:=4) (size:=1) (bytes:=1) (m:=m.empty.length) (xs:=m.empty.map fT) (k:=1) (ys:=[.bool em]) I (lq (i:=11) I (λj u h=>by simpa using h) (bz 1) akh) I I I (λu hu=>by rw[dO.1 hu];rfl) J J I λTk=>(aM (bX [9]) ?_))
        try refine GW ?_
        refine aL I (aW (i:=8) I λqe1 qe2=>bV (i:=1) I I I qe1 qe2 I (aM (bX [9]) ?_))
        try refine GW ?_
        refine dm [0,1,2,3,4,5,6,7,8,9,10] ?_;exact ee Tk qe2 (by repeat' (first|exact cT|refine cJ I ?_)) (by rw[<-Bu Tk m.empty em];rfl)
      intro Tk he';rw[show p'.last.map fT=p'.last.flatMap Ht from(Bx _).symm];refine iR (i:=10) (φ:=∃a c,vb=ap a last.length c/\(0<last.length->∃gl,a=aj ⟨gl,0,ak⟩)) I (λw h=>by
        obtain⟨y1,y2⟩:=(show w.ownsRow 0 3 1 vb last.length (last.map (av .i64))from h);rcases y2 with⟨y3,y4⟩|⟨gl,cap,jZ,hv,_⟩
        exact⟨ak,0,by rw[y3,y4],λh=>by omega⟩;exact⟨_,_,hv,λ_=>⟨gl,rfl⟩⟩) λAM=>?_
      obtain⟨al,cl,rfl,hal⟩:=AM;refine iR (i:=6) (φ:=0<p'.last.length->∃gb cb,Ti=ap (aj ⟨gb,0,ak⟩) p'.last.length cb) I (λw h=>by
        obtain⟨y1,y2⟩:=(show w.ownsRow 0 4 1 Ti p'.last.length (p'.last.flatMap Ht)from h);rcases y2 with⟨y3,y4⟩|⟨gl,cap,jZ,hv,_⟩
        intro h;omega;exact λ_=>⟨gl,cap,hv⟩) λhvl=>?_
      repeat(first|refine GA ?_|refine gV (aB (v:=ap al last.length cl) aK.ty I (aH (i:=9) I I)) ?_)
      refine rb [0,1,2,3,4,5,6,7,8,10] ?_;refine d_ (ι:=Nat) (λj=>j<=last.length) (λj=>[(2,aJ (aj ⟨g2,0,ak⟩)),(7,aJ (aj ⟨g7,0,ak⟩)),(37,ap (aj ⟨b,off,ak⟩) (es.map l9).length ck),(38,av az (es.map l9).length),(39,av az (k:Int)),(77,ap al last.length cl),(78,av az last.length),(79,av az (j:Int))])
        (λj=>[aP g2 #[ap ak 0 0,ap ak 0 0,ap ak 0 0,ap ak 0 0,ap ak 0 0,ap ak 0 0] 181,aP g7 (Tf G1 CQ WJ xK Ti Tk (k:Int)) 242,aZ 116 4 G1 p'.a_.length (p'.a_.flatMap ed),gJ CQ p'.rules,yQ xK pW,wj F' pW p'.follow,aZ 4 1 Ti p'.last.length ((gh p'.last (last.take j)).flatMap Ht),gJ WJ (rr m.first first),aZ 4 1 Tk (m.empty++[em]).length ((m.empty++[em]).map fT),gJ (ap al last.length cl) last]) (λj=>last.length-j) 0 (bH _) ?_
      intro j j1
      by_cases c7:j<last.length
      · obtain⟨gl,rfl⟩:=hal J
        have hx:=n5.2 last[j] (b_ c7);have hgx:last[j]?=aj last[j]:=bK c7;have hms:=Vx p'.last last c7;have ajR:=E_ p'.last (last.take j);generalize last[j]=xx at*;obtain⟨xn,rfl⟩:=iw hx.1;rw[dF]at hms;have hxn:xn<p'.last.length:=by rw[n1.last];omega
        obtain⟨gb,cb,rfl⟩:=hvl J;have afA:∀(L:List b9) (hi:L[9]?=aj (gJ (ap (aj ⟨gl,0,ak⟩) last.length cl) last)),At (w:bL) L ⟨gl,0+j*1,ak⟩ (av az (xn:Int)):=λL hi=>jh hi (by rw[fe,cX,k_,hgx];rfl)
        repeat(first|refine GA ?_|refine gV (aY bM.eq aK.ty I I c7) ?_|refine gV (aB (v:=av az (xn:Int)) aK.ty I (afA _ I)) ?_|refine gV (aB (v:=ap (aj ⟨gb,0,ak⟩) p'.last.length cb) aK.ty I (aH (i:=1) I I)) ?_|refine gV (aY bM.eq aK.ty I I hxn) ?_)
        refine A' Vz (i:=6) (k:=xn) (l:=gh p'.last (last.take j)) (a:=aC) aK.ty I I J J J I I I ?_;rw[<-hms];refine zL ?_
        try refine GA ?_
        exact bT (j+1) J (by show last.length-(j+1)<last.length-j;omega)
      obtain rfl:j=last.length:=by omega
      rw[fU (bz _),Bx];refine iR (i:=2) (φ:=∃a c,G1=ap a p'.a_.length c) I (λw h=>by
        obtain⟨a,c,h,_⟩:=Sl.dD (show w.ownsRow 0 116 4 G1 p'.a_.length (p'.a_.flatMap ed)from h);exact⟨a,c,h⟩) λhvc=>?_
      obtain⟨ac,cc,rfl⟩:=hvc
      by_cases c8:200<p'.a_.length
      · rw[if_pos c8]at i2
        rw[i2]
        repeat(first|refine GC ?_|refine gV (aB (v:=ap ac p'.a_.length cc) aK.ty I (aH (i:=1) I I)) ?_|refine gV (ea (b:=aC) I I (decide_eq_true J)) ?_|refine gV (bD I tm) ?_|refine GB ?_)
        refine ij 0 ?_;refine zL ?_
        try refine GA ?_
        refine J9 ?_;exact eJ (i:=0) I I I I I λw hm=>hm.meets (S:=ru (2,.zero)) Zt I [10,11,12,13,14,15,16] akh I
      rw[if_neg c8]at i2
      repeat(first|refine GC ?_|refine gV (aB (v:=ap ac p'.a_.length cc) aK.ty I (aH (i:=1) I I)) ?_|refine gV (ea (b:=aE) I I (decide_eq_false J)) ?_|refine GB ?_)
      refine dm [0,1,2,3,4,5,6,7,8] ?_;exact bT (k+1,⟨{p' with last:=gh p'.last last},rr m.first first,m.empty++[em]⟩,⟨ap ac p'.a_.length cc,CQ,xK,Ti,pW,F'⟩,WJ,Tk,(k:Int)) ⟨by omega,i2,hst.1,by show p'.a_.length<=200;omega,OK,by rw[bI,List.length_singleton,i6]⟩ (by show es.length-(k+1)<es.length-k;omega) (hl:=by dsimp only;rw[show p'.last.length=(gh p'.last last).length from(E_ _ _).symm];rfl)
    obtain rfl:k=es.length:=by omega
    rw[pX (bz _)]at i2;rw[i2]
    try refine GA ?_
    refine aW (i:=2) I λ_ a1=>aW (i:=3) I λ_ a2=>aW (i:=4) I λ_ a3=>aW (i:=6) I λ_ a4=>aW (i:=7) I λ_ a5=>aW (i:=8) I λ_ a6=>?_
    repeat(first|refine GA ?_|refine gV (bm (cs:=[vc,vr,vf,vfol,vl,ve]) aK.ty I I (λj v hj=>aH (i:=1) I (acv hj))) ?_)
    refine aX (i:=0) (cs':=#[vc,vr,vf,vfol,vl,ve]) I I I I (by simp only[cY,c_,a1,a2,a3,a4,a5,a6];rfl) I ?_;refine zL ?_
    try refine GA ?_
    exact eJ (i:=0) I I I I I λw hm=>hm.meets (S:=ru (0,m)) ⟨vc,vr,vf,vfol,vl,ve,vs,F⟩ i5 [2,3,7,4,5,6,8] akh I
end bZ
namespace bZ
open Go.RowKit cK dS de gd eE lH
theorem Tl:∀{rs:List Rx},kr rs=0->∃es:List Re,rs=es.map l9/\∀e∈es,Fit e 1 0
 |[],_=>⟨[],rfl,λ_ h=>by cases h⟩
 |r::l,h=>by
  have hr:=Ig h r (ia ..);have hl:kr l=0:=by rw[kr,if_neg (by simpa using hr)]at h;exact h
  obtain⟨es,rfl,h2⟩:=Tl hl;obtain⟨e,rfl,hf,_⟩:=Jt (tV r) r 1 0 (mw r 1 0).2 (bz _) (by rw[<-hr]);refine⟨e::es,rfl,λx hx=>?_⟩;rcases dC.1 hx with rfl|hx
  exact hf;exact h2 x hx
theorem Zu{e:Re}(h:Fit e 1 0):e.size<=100:=by have:=h.sz;omega
theorem Ii:∀(es:List Re) (i:Nat) (m:MS),(l_ i m es).1≠0->(l_ i m es).2= .zero
 |[],_,_,h=>absurd I h
 |e::r,i,m,h=>by
  rw[l_]at h⊢;split at h
  ·rename_i c;rw[if_pos c]
  rename_i c;rw[if_neg c];exact Ii r _ _ h
theorem VA(rs:List Rx):(∃k:Int,k≠0/\Ih rs (k,.zero))\/∃(es:List Re) (m:MS),rs=es.map l9/\(∀e∈es,Fit e 1 0)/\0<es.length/\es.length<=20/\l_ 0 .zero es=(0,m)/\Ih rs (0,m):=by
 by_cases c:rs.length=0\/20<rs.length
 exact .inl ⟨1,by decide,.inl ⟨c,rfl⟩⟩
 by_cases h:kr rs=0
 ·obtain⟨es,h1,h2⟩:=Tl h
  have hR:Ih rs (l_ 0 .zero es):= .inr (.inr ⟨c,h,es,h1,λe he=>Zu (h2 e he),rfl⟩);have hz:=Ii es 0 .zero;have hl:rs.length=es.length:=by rw[h1,dA]
  obtain⟨k,m,e⟩:∃k m,l_ 0 .zero es=(k,m):=⟨_,_,rfl⟩;rw[e]at hR hz
  by_cases h0:k=0
  ·subst h0
   exact .inr ⟨es,m,h1,h2,by omega,by omega,e,hR⟩
  obtain rfl:m= .zero:=hz h0;exact .inl ⟨k,h0,hR⟩
 exact .inl ⟨kr rs,h,.inr (.inl ⟨c,h,rfl⟩)⟩
theorem Zv{e:TypeId}{size n:Nat}{v:Value}{xs:List Value}(w:World)(h:(aZ e size v n xs).holds w):∃a c,v=ap a n c/\(0<n->∃g,a=aj ⟨g,0,ak⟩):=by
 rcases(show w.ownsRow 0 e size v n xs from h).2 with⟨rfl,rfl⟩|⟨g,cap,jZ,rfl,_⟩
 exact⟨_,_,rfl,λh=>by omega⟩;exact⟨_,_,rfl,λ_=>⟨g,rfl⟩⟩
theorem fF{e:TypeId}{size n:Nat}{v:Value}{xs:List Value}(w:World)(h:(aZ e size v n xs).holds w):∃a c,v=ap a n c/\n<=9223372036854775807/\(0<n->∃g,a=aj ⟨g,0,ak⟩):=by
 rcases(show w.ownsRow 0 e size v n xs from h).2 with⟨rfl,rfl⟩|⟨g,cap,jZ,rfl,_,_,hn,hm,_⟩
 exact⟨_,_,rfl,by omega,λh=>by omega⟩;exact⟨_,_,rfl,by unfold maxLen at hm;omega,λ_=>⟨g,rfl⟩⟩
theorem acw{F:Nat->Prop}{v:Value}{vs:List Value}{ny:List (List Int)}{w:World}(hr:(yQ v vs).holds w)(he:(wj F vs ny).holds w)(hl:vs.length=ny.length):ky (bO fP) (qy w) w v ny:=by
 have CG:w.ownsRow 0 26 1 v vs.length (vs.flatMap Ai):=hr;obtain⟨base,cap,h1,h2,h3,h4⟩:=Sl.dD CG;rw[hl]at h1 h2;refine⟨base,cap,h1,h2,h3,λh0=>?_⟩;obtain⟨b,off,h5,h6⟩:=h4 J;rw[Vq]at h6;refine⟨b,off,h5,?_,λi hi=>⟨[vs[i]' J],⟨vs[i]' J,rfl,?_⟩,λj u hj=>?_⟩⟩
 ·have:=h6 0 _ (bK J)
  exact oF w _ this
 ·have hs:=Zi he hi J
  obtain⟨⟨q1,q2⟩,q3⟩:=he;obtain⟨v',JA,lT,_,hF⟩:=q2 i hi (by rw[dA];omega);rw[ta]at JA;simp only[Ai,gU,and_true]at JA;rw[<-sc]at hs;refine ky.of_flat hs lT (λb hb=>q3 b (hF b (by rw[<-JA];exact hb))) λa n cp hv=>q3 a.block (hF _ (by rw[<-JA,hv];rfl))
 have hj0:j=0:=by have:=(dg.1 hj).1;simp at this;exact this
 subst hj0;have:=h6 i u (by rw[bK J];exact hj);show w.cell? ⟨b,off+i*1+0,ak⟩=aj u
 rw[k_,iu];exact this
end bZ
namespace bZ
open Go.RowKit cK dS aU dL dP bJ cD
def J_:w8 bJ.Item:=zx jm 3 (λ_=>rfl) (λ_=>True)
theorem J'{κ τ:Type}[DecidableEq κ][DecidableEq τ](f:κ->τ)(x:κ):∀(D:List κ),(∀y∈D,f y=f x->y=x)->idx (D.map f) (f x)=idx D x
 |[],_=>rfl
 | y::D,h=>by
  have ih:=J' f x D λz hz=>h z (jR _ hz);unfold idx at ih⊢;rw[gv,Zm,Zm,ih]
  by_cases e:y=x
  subst e;simp;have:¬f y=f x:=λe2=>e (h y (ia ..) e2);rw[show(f y==f x)=aE by simpa using this,show(y==x)=aE by simpa using e]
def xd(s:List bJ.Item):Prop:=∀it∈s,0<=it.1/\it.1<256/\0<=it.2.1/\it.2.1<256/\0<=it.2.2/\it.2.2<256
theorem VB{S:List (List bJ.Item)}{s:List bJ.Item}(hS:∀t∈S,xd t)(hs:xd s):iJ s∈S.map iJ↔s∈S:=by
 constructor
 ·intro h
  obtain⟨t,ht,e⟩:=eT.1 h;rw[<-EY (hS t ht) hs e];exact ht
 exact List.mem_map_of_mem
def stL(g6 gm g7:Nat)(vS vN:Value)(xe:List Value)(F:Nat->Prop)(S:List (List bJ.Item)):List b9:=
 [aP g6 #[.map (aj gm)] 175,fq iC gm (kR (S.map iJ)) S.length,aP g7 #[vS,vN] 203,aZ 273 1 vS S.length xe,eh (bO J_) F (xe.map λv=>[v]) S]
theorem Ak{w:World}{e:TypeId}{size n:Nat}{v:Value}{xs:List Value}(h:(aZ e size v n xs).holds w):∀k,v.ownBlock=aj k->k<w.heap.size:=λk hk=>(aZ e size v n xs).lt w h k (.inl hk)
theorem VC{w:World}{v:Value}{l:List bJ.Item}(h:(aZ 278 3 v l.length (l.flatMap jm)).holds w):(bO J_).is (λk=>v.ownBlock=aj k) w [v] l:=
 ⟨v,rfl,ky.of_flat (Sl.dD h) (λ_ _=>trivial) (λ_ h=>h) (λa n cp hv=>by rw[hv];rfl)⟩
theorem Cf(g6 gm g7:Nat)(vS vN:Value)(xe:List Value)(F:Nat->Prop)(S:List (List bJ.Item))(vl:Value)(s:List bJ.Item)(hS:∀t∈S,xd t)(hs:xd s)(hSl:S.length<=1000)(sa:s.length<=20000)(w:World)(B:bL)
 (hm:Mem B (stL g6 gm g7 vS vN xe F S++[aZ 278 3 vl s.length (s.flatMap jm)]) w):
 Calls aD 127 #[vl,aJ (aj ⟨g6,0,ak⟩),aJ (aj ⟨g7,0,ak⟩)] w (da ⟨λ(_:Value×List Value×(Nat->Prop))=>True,λ_=>av az ((jC S s).1:Int),λx=>stL g6 gm g7 x.1 vN x.2.1 x.2.2 (jC S s).2⟩ B):=by
 have Cg:=VB hS hs;have hix:=J' iJ s S λt ht e=>EY (hS t ht) hs e;have lT:iC.ok (iJ s):=by
  show(iJ s).length<=9223372036854775807
  rw[Ia];omega
 unfold stL at hm;refine dB hm (args:=[vl,aJ (aj ⟨g6,0,ak⟩),aJ (aj ⟨g7,0,ak⟩)]) (n:=30) Tryz.func127 I I I ?_;refine iR (i:=3) I fF λfJ=>?_;obtain⟨aS,cS,rfl,-⟩:=fJ
 try refine GA ?_
 refine dT ([aP g6 #[.map (aj gm)] 175,fq iC gm (kR (S.map iJ)) S.length,aZ 278 3 vl s.length (s.flatMap jm)]) (.calm 0 (.calm 1 (.calm 2 (.calm 3 (.calm 4 (.calm 5 (.calm 6 (.calm 7 (.calm 8 (.done)))))))))) (bX [0,1,5]) ?_
 repeat(first|refine GW ?_|(refine GN ?_;first|refine QW (aB (v:= .map (aj gm)) aK.ty I (aH (i:=0) I I)) ?_))
 refine oW I (i_ aI.en I I) (λw hm=>E5 vl s w (Sl.dD (hm.get (i:=2) I)) hs sa) I I I ?_
 by_cases c:s∈S
 ·have hst:jC S s=(idx S s,S):=if_pos c
  rw[hst]
  repeat(first|refine GW ?_|(refine GN ?_;first|refine QW (vz (K:=iC) (x:=iJ s) bM.eq ow (i:=1) I I I lT (Cg.2 c)) ?_))
  rw[hix]
  try refine GA ?_
  exact cO I I λw hm=>hm.cC (S:=⟨λ(_:Value×List Value×(Nat->Prop))=>True,λ_=>av az (idx S s:Int),λx=>stL g6 gm g7 x.1 vN x.2.1 x.2.2 S⟩) (ap aS S.length cS,xe,F) trivial [0,1,2,3,4] akh I
 ·have hst:jC S s=(S.length,S++[s]):=if_neg c
  rw[hst];have hn:iJ s∉S.map iJ:=λh=>c (Cg.1 h);have GU:=HW hn;have ahi:kR (S.map iJ) (iJ s)=none:=if_neg hn;rw[dA]at GU;clear hix Cg
  repeat(first|refine GW ?_|(refine GN ?_;first|refine QW (vB (K:=iC) (x:=iJ s) bM.eq ow (i:=1) I I I lT hn) ?_))
  repeat(first|refine GA ?_|refine gV (aB (v:=ap aS S.length cS) aK.ty I (aH (i:=2) I I)) ?_)
  refine dT ([aP g6 #[.map (aj gm)] 175,aZ 278 3 vl s.length (s.flatMap jm)]) (.calm 0 (.calm 1 (.calm 2 (.calm 3 (.one 4 (.done)))))) (bX [0,5]) ?_
  repeat(first|refine GW ?_|(refine GN ?_;first|refine QW (aB (v:= .map (aj gm)) aK.ty I (aH (i:=0) I I)) ?_))
  refine oW I (i_ aI.en I I) (λw hm=>E5 vl s w (Sl.dD (hm.get (i:=1) I)) hs sa) I I I ?_
  try refine GW ?_
  refine aL I ?_;refine mI (i:=1) (x:=iJ s) (v:=av az (S.length:Int)) iC bM.eq I I I I lT J ?_;refine zL ?_;rw[GU,ahi,if_neg akh];refine aM (bX [0,5]) ?_
  try refine GW ?_
  repeat(first|refine GA ?_|refine gV (aB (v:=ap aS S.length cS) aK.ty I (aH (i:=2) I I)) ?_)
  refine aW (i:=5) I λPB HJ=>?_;refine ku (i:=3) I I PB HJ I I (λz h=>by cases h;rfl) J J I λz vS'=>?_;refine zL ?_;refine pF (eh (bO J_) (λk=>F k\/vl.ownBlock=aj k) ((xe.map λv=>[v])++[[vl]]) (S++[s])) 5 4 [0,1,2,3] akh I I I (λk hk=>hk.elim (λh=>by cases h) λh=>h.elim (λh=> .inr (.inr h)) λh=> .inl (.inl h)) (λw hr he=>mZ he (VC hr) (Ak hr)) ?_;refine zL ?_
  try refine GA ?_
  refine aW (i:=3) I λlD me=>bV (i:=2) I I I lD me I ?_;refine zL ?_
  try refine GA ?_
  exact cO I I λw hm=>hm.cC (S:=⟨λ(_:Value×List Value×(Nat->Prop))=>True,λ_=>av az (S.length:Int),λx=>stL g6 gm g7 x.1 vN x.2.1 x.2.2 (S++[s])⟩) (vS',xe++[vl],λk=>F k\/vl.ownBlock=aj k) trivial [0,1,2,3,4] akh (by dsimp only[stL];rw[e7,e7,bI];rfl)
end bZ
namespace cD
section
variable(A:vm)(bl:Nat->Nat)
def Fb(Q:List Nat)(tq:Int):List Nat:=if bl tq.toNat∈Q.map bl then Q else Q++[tq.toNat]
def qc(Q:List Nat)(tq:Int):List Nat×Int:=if val bl tq=0 then(Q,-1)else(Fb bl Q tq,(idx ((Fb bl Q tq).map bl) (bl tq.toNat):Int))
def lI(q:Nat)(Q:List Nat):Nat->List Nat×List Int
 |0=>(Q,[])
 |k+1=>((qc bl (lI q Q k).1 (A.d q k)).1,(lI q Q k).2++[(qc bl (lI q Q k).1 (A.d q k)).2])
def vec(l:List Int):Row:=Vector.ofFn λb:Fin 256=>l.getD b 0
def xM:Nat->Nat->List Nat->List Row->List Nat×List Row
 |0,_,Q,out=>(Q,out)
 |f+1,n,Q,out=>if n<Q.length then xM f (n+1) (lI A bl (Q.getD n 0) Q 256).1 (out++[vec (lI A bl (Q.getD n 0) Q 256).2])else(Q,out)
def qE:List Nat×List Row:=xM A bl (A.n+1) 0 [0] []
end
def QG(A:vm):vm:=⟨(qE A (dY A)).1.length,λk b=>((qE A (dY A)).2.getD k (eB 256 0)).toList.getD b 0,λk=>((qE A (dY A)).1.map A.tag).getD k 0⟩
section
variable{A:vm}{bl:Nat->Nat}
structure VD(A:vm)(bl:Nat->Nat)(Q:List Nat):Prop where
 head:∃R,Q=0::R/\∀q∈R,bl q≠0
 lt:∀q∈Q,q<A.n
 nodup:(Q.map bl).Nodup
theorem VD.len{Q:List Nat}(h:VD A bl Q):Q.length<=A.n/\0<Q.length:=by
 have h1:Q.Nodup:=afz bl (λa b hne e=>hne (by rw[e])) h.nodup;refine⟨og h1 h.lt,?_⟩;obtain⟨R,rfl,_⟩:=h.head;simp
theorem ahj(hA:A.Ok):VD A bl [0]:=⟨⟨[],rfl,by simp⟩,λq hq=>by simp at hq;subst hq;exact hA.pos,by simp⟩
theorem acx{Q:List Nat}(h:VD A bl Q){tq:Int}(h1:St A tq)(h0:val bl tq≠0):VD A bl (Fb bl Q tq):=by
 unfold Fb;unfold val at h0;split at h0;exact absurd I h0;split;exact h
 rename_i ajS hn
 unfold St at h1;obtain⟨R,rfl,hR⟩:=h.head;refine⟨⟨R++[tq.toNat],rfl,λq hq=>?_⟩,λq hq=>?_,?_⟩
 ·rcases fx.1 hq with hq|hq
  exact hR q hq;simp at hq;subst hq;exact h0
 ·rcases fx.1 hq with hq|hq
  exact h.lt q hq;simp at hq;subst hq;omega
 rw[e7];refine DN.2 ⟨h.nodup,by simp,λa ha b hb e=>?_⟩;simp at hb;subst hb e;exact hn ha
theorem acy(Q:List Nat)(tq:Int):∃E,Fb bl Q tq=Q++E:=by
 unfold Fb;split;exact⟨[],by simp⟩;exact⟨_,rfl⟩
theorem acz(Q:List Nat)(tq:Int):bl tq.toNat∈(Fb bl Q tq).map bl:=by
 unfold Fb;split
 assumption
 simp
theorem MZ{Q:List Nat}(h:VD A bl Q){tq:Int}(h1:St A tq):VD A bl (qc bl Q tq).1:=by
 unfold qc;split;exact h
 rename_i h0;exact acx h h1 h0
theorem M0(Q:List Nat)(tq:Int):∃E,(qc bl Q tq).1=Q++E:=by
 unfold qc;split;exact⟨[],by simp⟩;exact acy Q tq
theorem Ka(q:Nat)(Q:List Nat):∀k,(lI A bl q Q k).2.length=k
 |0=>rfl
 |k+1=>by simp[lI,Ka q Q k]
theorem aiW(hA:A.Ok){q:Nat}(hq:q<A.n){b:Nat}(hb:b<256):St A (A.d q b):=hA.step q hq b hb
theorem Dk(hA:A.Ok){Q:List Nat}(h:VD A bl Q){q:Nat}(hq:q<A.n):∀k,k<=256->VD A bl (lI A bl q Q k).1
 |0,_=>h
 |k+1,hk=>MZ (Dk hA h hq k J) (aiW hA hq J)
theorem Kb(q:Nat)(Q:List Nat):∀k,∃E,(lI A bl q Q k).1=Q++E
 |0=>⟨[],by simp[lI]⟩
 |k+1=>by
  obtain⟨E,h⟩:=Kb q Q k;obtain⟨E',h'⟩:=M0 (bl:=bl) (lI A bl q Q k).1 (A.d q k);exact⟨E++E',by simp only[lI];rw[h',h,dZ]⟩
def Ch(A:vm)(bl:Nat->Nat)(Q:List Nat)(q b:Nat)(x:Int):Prop:=(val bl (A.d q b)=0->x= -1)/\(val bl (A.d q b)≠0->val bl (A.d q b)∈Q.map bl/\x=(idx (Q.map bl) (val bl (A.d q b)):Int))
theorem Ch.more{Q:List Nat}{q b:Nat}{x:Int}(h:Ch A bl Q q b x)(E:List Nat):Ch A bl (Q++E) q b x:=by
 refine⟨h.1,λh0=>?_⟩;obtain⟨h1,h2⟩:=h.2 h0;rw[e7,qP h1];exact⟨uH _ h1,h2⟩
theorem acA(Q:List Nat)(q b:Nat):Ch A bl (qc bl Q (A.d q b)).1 q b (qc bl Q (A.d q b)).2:=by
 unfold qc;split
 ·rename_i h;exact⟨λ_=>rfl,λh'=>absurd h h'⟩
 rename_i h
 refine⟨λh'=>absurd h' h,λ_=>?_⟩;have e:val bl (A.d q b)=bl (A.d q b).toNat:=by
  unfold val at h⊢;split at h;exact absurd I h
  rename_i hn;rw[if_neg hn]
 rw[e];exact⟨acz Q _,rfl⟩
theorem Zw(q:Nat)(Q:List Nat):∀k b,b<k->Ch A bl (lI A bl q Q k).1 q b ((lI A bl q Q k).2.getD b 0)
 |0,_,h=>by omega
 | k +1,b,h=>by
  have hl:=Ka (A:=A) (bl:=bl) q Q k;simp only[lI]
  by_cases c:b<k
  ·have ih:=Zw q Q k b c
   obtain⟨E,e⟩:=M0 (bl:=bl) (lI A bl q Q k).1 (A.d q k);rw[e,jQ J];exact ih.more E
  obtain rfl:b=k:=by omega
  rw[my J,hl,pK];exact acA _ q b
theorem acB(l:List Int)(b:Nat)(hb:b<256):(vec l).toList.getD b 0=l.getD b 0:=by
 have h:b<(vec l).toList.length:=by simp;exact hb
 rw[cB,bK h,kL,nj];unfold vec;rw[Vector.getElem_ofFn]
structure VE(A:vm)(bl:Nat->Nat)(n:Nat)(Q:List Nat)(out:List Row):Prop where
 len:out.length=n
 le:n<=Q.length
 rows:∀k,k<n->∀b,b<256->Ch A bl Q (Q.getD k 0) b ((out.getD k (eB 256 0)).toList.getD b 0)
theorem Ij(_:A.Ok){n:Nat}{Q:List Nat}{out:List Row}(h:VE A bl n Q out)(hn:n<Q.length):VE A bl (n+1) (lI A bl (Q.getD n 0) Q 256).1 (out++[vec (lI A bl (Q.getD n 0) Q 256).2]):=by
 obtain⟨E,e⟩:=Kb (A:=A) (bl:=bl) (Q.getD n 0) Q 256;have hr:=Zw (A:=A) (bl:=bl) (Q.getD n 0) Q 256;have hlen:=h.len;refine⟨by simp[hlen],by rw[e];simp;omega,λk hk b hb=>?_⟩;have lO:k<Q.length:=by omega
 rw[e]at hr⊢;rw[jQ lO]
 by_cases c:k<n
 ·rw[jQ J]
  exact(h.rows k c b hb).more E
 obtain rfl:k=n:=by omega
 rw[my J,hlen,pK];show Ch A bl (Q++E) (Q.getD k 0) b ((vec _).toList.getD b 0)
 rw[acB _ b hb];exact hr b hb
theorem Al{Q:List Nat}{n:Nat}(h:n<Q.length):Q.getD n 0∈Q:=by
 rw[cB,bK h];exact b_ h
theorem Zx(hA:A.Ok):∀(f n:Nat) (Q:List Nat) (out:List Row),VD A bl Q->VE A bl n Q out->A.n+1<=f+n->VD A bl (xM A bl f n Q out).1/\VE A bl (xM A bl f n Q out).1.length (xM A bl f n Q out).1 (xM A bl f n Q out).2
 |0,n,Q,out,hQ,hO,hf=>by have:=hQ.len;have:=hO.le;omega
 | f +1,n,Q,out,hQ,hO,hf=>by
  unfold xM;split
  ·rename_i hn
   exact Zx hA f _ _ _ (Dk hA hQ (hQ.lt _ (Al hn)) 256 (bz _)) (Ij hA hO hn) J
  rename_i hn
  have:=hO.le;obtain rfl:n=Q.length:=by omega
  exact⟨hQ,hO⟩
theorem QH(hA:A.Ok):VD A bl (qE A bl).1/\VE A bl (qE A bl).1.length (qE A bl).1 (qE A bl).2:=
 Zx hA _ _ _ _ (ahj hA) ⟨rfl,bH _,λk hk=>by omega⟩ J
theorem Zy(hA:A.Ok){k:Nat}(hk:k<(QG A).n){b:Nat}(hb:b<256):Ch A (dY A) (qE A (dY A)).1 ((qE A (dY A)).1.getD k 0) b ((QG A).d k b):=
 (QH (bl:=dY A) hA).2.rows k hk b hb
theorem J'{Q:List Nat}(hn:(Q.map bl).Nodup){k:Nat}(hk:k<Q.length):idx (Q.map bl) (bl (Q.getD k 0))=k:=by
 have h:k<(Q.map bl).length:=by simpa using hk
 have:=Ej hn h;rw[ta]at this;rw[cB,bK hk];exact this
theorem acC{k:Nat}(hk:k<(QG A).n):(QG A).tag k=A.tag ((qE A (dY A)).1.getD k 0):=by
 have lO:k<(qE A (dY A)).1.length:=hk;show((qE A (dY A)).1.map A.tag).getD k 0=_
 rw[cB,fe,cB,bK lO];rfl
theorem acD(hA:A.Ok):(QG A).Ok:=by
 obtain⟨hQ,hO⟩:=QH (bl:=dY A) hA;obtain⟨h1,h2⟩:=hQ.len;have hle:=hA.le;refine⟨h2,fI h1 hle,λk hk b hb=>?_,λk hk=>by rw[acC hk];exact hA.tags _ (hQ.lt _ (Al hk))⟩;have hr:=Zy hA hk hb
 by_cases c:val (dY A) (A.d ((qE A (dY A)).1.getD k 0) b)=0
 rw[hr.1 c];exact⟨by omega,by omega⟩;obtain⟨r1,r2⟩:=hr.2 c;have:=pH r1;rw[dA]at this;rw[r2];exact⟨by omega,by show _<((qE A (dY A)).1.length:Int);omega⟩
end
end cD
namespace cD
section
variable{A B:vm}
def QI(A B:vm)(q r:Int):Prop:=∀s,tg A (go A q s)=tg B (go B r s)
theorem QI.step{q r:Int}(h:QI A B q r)(b:Nat)(hb:b<256):QI A B (dt A q b) (dt B r b):=λs=>by
 have:=h (fY b::s);have e:(fY b).toNat=b:=by simp;omega
 simp only[go,e]at this;exact this
theorem Am(f:Nat->Nat)(q:Nat):val f (q:Int)=f q:=by unfold val;rw[if_neg J,dF]
end
end cD
namespace cD
abbrev Pr:=Int×Int
abbrev Step:=Pr×Int×Nat
def QJ:Step:=((0,0),-1,0)
section
end
def back(todo:List Step):Nat->Nat->List UInt8
 |0,_=>[]
 |f+1,i=>if(todo.getD i QJ).2.1<0 then []else fY (todo.getD i QJ).2.2::back todo f (todo.getD i QJ).2.1.toNat
section
end
end cD
namespace bZ
open Go.RowKit cK dS
section
variable{α:Type}{s:w8 α}{F:Nat->Prop}{vs:List Value}{S:List (List α)}{W:bL}{L:List b9}{w:World}
theorem Ik(h:(eh (bO s) F (vs.map λv=>[v]) S).holds w):vs.length=S.length:=by have:=h.1.1;rwa [dA]at this
theorem QM(h:(eh (bO s) F (vs.map λv=>[v]) S).holds w){q:Nat}(hq:q<S.length){v:Value}(hv:vs[q]?=aj v):ky s F w v S[q]:=by
 have hnv:q<vs.length:=(dg.1 hv).1;obtain⟨v',e,hs⟩:=h.1.2 q hq (by rw[dA];exact hnv);rw[ta]at e;have h2:=(dg.1 hv).2;rw[h2]at e;rw[(Zo e).1];exact hs
theorem Zz(h:(eh (bO s) F (vs.map λv=>[v]) S).holds w){q:Nat}(hq:q<S.length){v:Value}(hv:vs[q]?=aj v):∃base cap,v= .slice base S[q].length cap/\S[q].length<=cap/\cap<=9223372036854775807/\(0<S[q].length->∃b off,base=aj ⟨b,off,ak⟩):=by
 obtain⟨base,cap,e,h1,h2,h3⟩:=QM h hq hv;exact⟨base,cap,e,h1,by unfold maxLen at h2;omega,λhn=>let ⟨b,off,h4,_⟩:=h3 hn;⟨b,off,h4⟩⟩
theorem QN{f:α->List Value}{c:Nat}{hc:∀a,(f a).length=c}{p:α->Prop}(Lo:0<c){i:Nat}(hi:L[i]?=aj (eh (bO (zx f c hc p)) F (vs.map λv=>[v]) S)){q:Nat}(hq:q<S.length){v:Value}(hv:vs[q]?=aj v):SlL W L v S[q].length (S[q].flatMap f):=λ_ hm=>
 ky.flat Lo (QM (hm.get hi) hq hv)
end
end bZ
namespace bZ
open Go.RowKit cK dS aU dL dP bJ cD
def Fc(c:bJ.Item->Nat)(x:bJ.Item):Value:=av az (c x:Int)
def By(c:bJ.Item->Nat)(it:bJ.Item)(x:bJ.Item):Nat:=if x=it then c x+1 else c x
structure sd(c:bJ.Item->Nat)(out:List bJ.Item)(b:Nat):Prop where
 zero:∀x,c x=0↔x∉out
 le:∀x,c x<=b
theorem sd.put{c:bJ.Item->Nat}{out:List bJ.Item}{b:Nat}(h:sd c out b)(it:bJ.Item):sd (By c it) (more out it) (b+2):=by
 refine⟨λx=>?_,λx=>?_⟩
 ·unfold By
  by_cases e:x=it
  ·subst e
   rw[if_pos I]
   constructor
   intro h;omega;intro h;exact absurd (u_.2 (.inr I)) h
  rw[if_neg e,h.zero x];rw[u_]
  constructor
  intro h1 h2;exact h2.elim h1 e;intro h1 h2;exact h1 (.inl h2)
 unfold By;have:=h.le x;split<;>omega
def G2(g5 gm g6 b:Nat)(v:Value)(c:bJ.Item->Nat)(out:List bJ.Item):List b9:=
 [aP g5 #[.map (aj gm)] 316,pG JY gm (av az 0) (Fc c) b,aP g6 #[v] 273,aZ 278 3 v out.length (out.flatMap jm)]
theorem acE(x:bJ.Item):∀u∈jm x,u.oneCell'=true:=by
 intro u hu;simp only[jm,dC,fH,or_false]at hu;rcases hu with rfl|rfl|rfl<;>rfl
theorem M3(g5 gm g6 b:Nat)(v:Value)(c:bJ.Item->Nat)(out:List bJ.Item)(it:bJ.Item)(hit:JY.ok it)(hp:sd c out b)(hb:b+2<=1152921504606846976)(ho:out.length+1<=1000000)(w:World)(B:bL)(hm:Mem B (G2 g5 gm g6 b v c out) w):
 Calls aD 157 #[aQ (jm it).toArray,aJ (aj ⟨g5,0,ak⟩),aJ (aj ⟨g6,0,ak⟩)] w (da ⟨λ_=>True,λ_=> .tuple #[],λv'=>G2 g5 gm g6 (b+2) v' (By c it) (more out it)⟩ B):=by
 unfold G2 at hm;have hle:=hp.le it;have hz:=hp.zero it;obtain⟨n,hn⟩:∃n,c it=n:=⟨_,rfl⟩;obtain⟨F,hF⟩:∃F,Fc c=F:=⟨_,rfl⟩;obtain⟨F',hF'⟩:∃F',Fc (By c it)=F':=⟨_,rfl⟩;have hcv:F it=av az (n:Int):=by rw[<-hF,<-hn];rfl
 have hF1:F' it=av az ((n+1:Nat):Int):=by rw[<-hF',<-hn];show av .i64 ((By c it it:Nat):Int)=_;unfold By;rw[if_pos I]
 have wg:∀y,JY.ok y->F' y=if y=it then av az ((n+1:Nat):Int)else F y:=λy _=>by
  rw[<-hF',<-hF,<-hn];show av .i64 ((By c it y:Nat):Int)=if y=it then _ else av .i64 ((c y:Nat):Int)
  unfold By
  by_cases e:y=it
  subst e;rw[if_pos I,if_pos I];rw[if_neg e,if_neg e]
 rw[hF]at hm;rw[hn]at hle hz;clear hp;refine dB hm (args:=[aQ (jm it).toArray,aJ (aj ⟨g5,0,ak⟩),aJ (aj ⟨g6,0,ak⟩)]) (n:=18) Tryz.func157 I I I ?_;refine bW (bB (bP I I I λg3=>?_));refine zL ?_
 try refine GA ?_
 (repeat refine bW ?_)
 refine lU (ι:=Unit) (λ_=>True) (λ_=>[(1,aJ (aj ⟨g5,0,ak⟩)),(2,aJ (aj ⟨g6,0,ak⟩)),(3,aJ (aj ⟨g3,0,ak⟩))]) (λ_=>[aP g5 #[.map (aj gm)] 316,pG JY gm (av az 0) F' (b+1+1),aP g6 #[v] 273,aZ 278 3 v out.length (out.flatMap jm),aP g3 (jm it).toArray 278]) ?_ ?_
 ·refine dT ([aP g5 #[.map (aj gm)] 316,aP g3 (jm it).toArray 278]) (.calm 0 (.calm 1 (.two 2 (.calm 3 (.one 4 (.calm 5 (.one 6 (.done))))) 4 (.calm 5 (.one 2 (.calm 3 (.one 6 (.done)))))))) (bX [0,4]) ?_
  repeat(first|refine GW ?_|(refine GN ?_;first|refine QW (aB (v:= .map (aj gm)) aK.ty I (aH (i:=0) I I)) ?_|refine QW (aO (i:=1) aK.ty I I I) ?_))
  refine eK I I ?_ ?_
  ·refine dx (Ef JY bM.eq ow (i:=1) I I (x:=it) I hit hcv) I I I (aM (bX [0,4]) ?_)
   repeat(first|(refine GN ?_;first|refine QW QP ?_|refine QW (dW (r:=((n+1:Nat):Int)) I I J J J) ?_|refine GX ?_)|refine GW ?_)
   refine aL I (ML JY bM.eq ow (i:=1) I I (x:=it) I hit J I λst=>aM (bX [0,4]) ?_)
   try refine GW ?_
   refine aL I (H_ JY F' bM.eq (i:=1) I I I I hit J wg (aM (bX [0,4]) ?_))
   try refine GW ?_
   exact ee () trivial (by repeat' (first|exact cT|refine cJ I ?_)) I
  refine ML JY bM.eq ow (i:=1) I I (x:=it) I hit J I λst=>aM (bX [0,4]) ?_
  try refine GW ?_
  refine aL I (dx (Ze JY bM.eq ow (i:=1) I I (x:=it) I hit hcv) I I I (aM (bX [0,4]) ?_))
  repeat(first|(refine GN ?_;first|refine QW QP ?_|refine QW (dW (r:=((n+1:Nat):Int)) I I J J J) ?_|refine GX ?_)|refine GW ?_)
  refine aL I (H_ JY F' bM.eq (i:=1) I I I I hit J wg (aM (bX [0,4]) ?_))
  try refine GW ?_
  exact ee () trivial (by repeat' (first|exact cT|refine cJ I ?_)) I
 rintro⟨⟩ _
 by_cases c1:it∈out
 ·have hm1:more out it=out:=if_pos c1
  rw[hm1];have hn0:n≠0:=λe=>hz.1 e c1;clear wg hcv
  repeat(first|refine GC ?_|refine gV (aB (v:= .map (aj gm)) aK.ty I (aH (i:=0) I I)) ?_|refine gV (aO (i:=4) aK.ty I I I) ?_|refine gV (Ef JY bM.eq ow (i:=1) I I (x:=it) I hit hF1) ?_|refine gV (cZ (b:=aE) I I (decide_eq_false J)) ?_|refine GB ?_)
  exact jP I λw hm=>hm.cC (S:=⟨λ(_:Value)=>True,λ_=> .tuple #[],λv'=>G2 g5 gm g6 (b+2) v' (By c it) out⟩) v trivial [0,1,2,3] akh (by unfold G2;rw[<-hF'];rfl)
 ·have hm1:more out it=out++[it]:=if_neg c1
  rw[hm1];have hn0:n=0:=hz.2 c1;clear wg hcv
  repeat(first|refine GC ?_|refine gV (aB (v:= .map (aj gm)) aK.ty I (aH (i:=0) I I)) ?_|refine gV (aO (i:=4) aK.ty I I I) ?_|refine gV (Ef JY bM.eq ow (i:=1) I I (x:=it) I hit hF1) ?_|refine gV (cZ (b:=aC) I I (decide_eq_true J)) ?_|refine gV (aB (v:=v) aK.ty I (aH (i:=2) I I)) ?_|refine GB ?_)
  refine fD (cs:=(jm it).toArray) [aQ (jm it).toArray] I I I (by intro v hv;simp only[dC,fH,or_false]at hv;subst hv;rfl) I I I λg16=>?_;refine zL ?_;refine eM (i:=3) (e:=278) (size:=3) (bytes:=24) (m:=out.length) (xs:=out.flatMap jm) (k:=1) (ys:=jm it) I (lq (i:=5) I (λj u h=>by simpa using h) (bz 1) akh) I I I (acE it) J J I λv'=>?_;refine zL ?_;refine aW (i:=3) I λlD me=>?_;refine bV (i:=2) I I I lD me I ?_;refine zL ?_
  try refine GA ?_
  exact jP I λw hm=>hm.cC (S:=⟨λ(_:Value)=>True,λ_=> .tuple #[],λv'=>G2 g5 gm g6 (b+2) v' (By c it) (out++[it])⟩) v' trivial [0,1,2,3] akh (by unfold G2;rw[<-hF',fV,bI];rfl)
end bZ
namespace bZ
open Go.Shelf
def QO:Go.Shelf.Ren:=⟨λ|6=>160|15=>176|14=>177|28=>197|29=>198|20=>199|21=>200|22=>201|23=>202|24=>203|25=>204|26=>205|27=>206|46=>215|47=>211|48=>212|49=>216|50=>217|57=>219|n=>n,λ|22=>273|24=>278|25=>321|3=>3|39=>281|0=>0|53=>360|55=>114|4=>4|46=>354|45=>353|50=>178|5=>5|9=>9|66=>369|70=>149|76=>376|77=>377|n=>n,λ|n=>n⟩
theorem ZA:Go.Proofs.SlLaysF0.n6 aD QO:={
 mixed:=by kernel_rfl
 f6:=⟨Tryz.f160.name,by decide,Tryz.func160.trans (congrArg aj (by kernel_rfl))⟩
 f14:=⟨Tryz.f177.name,by decide,Tryz.func177.trans (congrArg aj (by kernel_rfl))⟩
 f15:=Tryz.func176.trans (congrArg aj (by kernel_rfl))
 f20:=⟨Tryz.f199.name,by decide,Tryz.func199.trans (congrArg aj (by kernel_rfl))⟩
 f21:=⟨Tryz.f200.name,by decide,Tryz.func200.trans (congrArg aj (by kernel_rfl))⟩
 f22:=⟨Tryz.f201.name,by decide,Tryz.func201.trans (congrArg aj (by kernel_rfl))⟩
 f23:=⟨Tryz.f202.name,by decide,Tryz.func202.trans (congrArg aj (by kernel_rfl))⟩
 f24:=⟨Tryz.f203.name,by decide,Tryz.func203.trans (congrArg aj (by kernel_rfl))⟩
 f25:=⟨Tryz.f204.name,by decide,Tryz.func204.trans (congrArg aj (by kernel_rfl))⟩
 f26:=⟨Tryz.f205.name,by decide,Tryz.func205.trans (congrArg aj (by kernel_rfl))⟩
 f27:=⟨Tryz.f206.name,by decide,Tryz.func206.trans (congrArg aj (by kernel_rfl))⟩
 f28:=Tryz.func197.trans (congrArg aj (by kernel_rfl))
 f29:=Tryz.func198.trans (congrArg aj (by kernel_rfl))
 f46:=⟨Tryz.f215.name,by decide,Tryz.func215.trans (congrArg aj (by kernel_rfl))⟩
 f47:=Tryz.func211.trans (congrArg aj (by kernel_rfl))
 f48:=Tryz.func212.trans (congrArg aj (by kernel_rfl))
 f49:=⟨Tryz.f216.name,by decide,Tryz.func216.trans (congrArg aj (by kernel_rfl))⟩
 f50:=⟨Tryz.f217.name,by decide,Tryz.func217.trans (congrArg aj (by kernel_rfl))⟩
 f57:=⟨Tryz.f219.name,by decide,Tryz.func219.trans (congrArg aj (by kernel_rfl))⟩
 t0:=Tryz.underlying0
 a0:=Tryz.isAgg0
 z0:=Tryz.sizeOf0
 v0:=Tryz.zeroValue0
 t3:=Tryz.underlying3
 a3:=Tryz.isAgg3
 z3:=Tryz.sizeOf3
 v3:=Tryz.zeroValue3
 t4:=Tryz.underlying4
 a4:=Tryz.isAgg4
 z4:=Tryz.sizeOf4
 v4:=Tryz.zeroValue4
 t5:=Tryz.underlying5
 a5:=Tryz.isAgg5
 z5:=Tryz.sizeOf5
 v5:=Tryz.zeroValue5
 t9:=Tryz.underlying9
 a9:=Tryz.isAgg9
 z9:=Tryz.sizeOf9
 v9:=Tryz.zeroValue9
 t22:=Tryz.underlying273
 a22:=Tryz.isAgg273
 z22:=Tryz.sizeOf273
 v22:=Tryz.zeroValue273
 t25:=Tryz.underlying321
 a25:=Tryz.isAgg321
 z25:=Tryz.sizeOf321
 v25:=Tryz.zeroValue321
 t39:=Tryz.underlying281
 a39:=Tryz.isAgg281
 z39:=Tryz.sizeOf281
 v39:=Tryz.zeroValue281
 t45:=Tryz.underlying353
 a45:=Tryz.isAgg353
 z45:=Tryz.sizeOf353
 v45:=Tryz.zeroValue353
 t46:=Tryz.underlying354
 a46:=Tryz.isAgg354
 z46:=Tryz.sizeOf354
 v46:=Tryz.zeroValue354
 t50:=Tryz.underlying178
 a50:=Tryz.isAgg178
 z50:=Tryz.sizeOf178
 v50:=Tryz.zeroValue178
 t53:=Tryz.underlying360
 a53:=Tryz.isAgg360
 z53:=Tryz.sizeOf360
 v53:=Tryz.zeroValue360
 t55:=Tryz.underlying114
 a55:=Tryz.isAgg114
 z55:=Tryz.sizeOf114
 v55:=Tryz.zeroValue114
 t66:=Tryz.underlying369
 a66:=Tryz.isAgg369
 z66:=Tryz.sizeOf369
 v66:=Tryz.zeroValue369
 t70:=Tryz.underlying149
 a70:=Tryz.isAgg149
 z70:=Tryz.sizeOf149
 v70:=Tryz.zeroValue149
 t76:=Tryz.underlying376
 a76:=Tryz.isAgg376
 z76:=Tryz.sizeOf376
 v76:=Tryz.zeroValue376
 t77:=Tryz.underlying377
 a77:=Tryz.isAgg377
 z77:=Tryz.sizeOf377
 v77:=Tryz.zeroValue377}
end bZ
namespace bZ
open Go.RowKit cK dS bJ Go.Sort
theorem QQ(w:World)(n g:Nat)(d:Array Value)(os:Array Obj){k:Nat}(hk:k<w.heap.size)(hg:k≠g):(grow (putRow id (Go.Sort.ahead w n) g 0 d) os).heap[k]?=w.heap[k]?:=by
 rw[heap_grow_old _ _ (by rw[size_putRow];exact hk)];show(w.heap.modify g _)[k]?=w.heap[k]?
 rw[En,if_neg (λh=>hg h.symm)]
theorem ZB{B:bL}{w:World}{e:TypeId}{g cap m size:Nat}{xs:List Value}(hm:Mem B [aZ e size (ap (aj ⟨g,0,ak⟩) m cap) m xs] w)(d:Array Value)(hd:d.size=m*size)(n:Nat)(os:Array Obj):
 Mem B [aZ e size (ap (aj ⟨g,0,ak⟩) m cap) m d.toList] (grow (putRow id (Go.Sort.ahead w n) g 0 d) os):=by
 have ho:w.ownsRow 0 e size (ap (aj ⟨g,0,ak⟩) m cap) m xs:=hm.get (i:=0) I;obtain⟨hl,hr⟩:=ho;rcases hr with⟨h,_⟩|⟨g2,Qs,jZ,hv,_,hg,hc,hx,hs,ht⟩
 ·cases h
 cases hv
 have MP:B.may g:=(hm.owns.all 0 _ I).2 g (.inl I);have hgw:g<w.heap.size:=(jx.1 hg).1;have Zh:(grow (putRow id (Go.Sort.ahead w n) g 0 d) os).heap[g]?=aj (.cells (putCells id 0 d jZ) e (0,0)):=by
  rw[heap_grow_old _ _ (by rw[size_putRow];exact hgw)];show(w.heap.modify g (onCells (putCells id 0 d)))[g]?=_
  rw[En,if_pos I,hg];rfl
 have hle:m*size<=cap*size:=sR _ hc;refine⟨⟨hm.low.os,hm.low.tape,hm.low.output,?_,λk hk hx=>?_⟩,ez.one ⟨?_,.inr ⟨g,cap,_,rfl,bH _,Zh,hc,hx,?_,?_⟩⟩ λk hk=>?_⟩
 ·rw[size_grow,size_putRow];exact fI hm.low.size (Nat.le_add_right _ _)
 ·have hkg:k≠g:=λe=>by
   subst e;rcases MP with h|h
   omega;exact hx h
  rw[QQ w n g d os (iO hk hm.low.size) hkg];exact hm.low.block k hk hx
 ·rw[mf,hd]
 ·unfold putCells;rw[Array.size_mapIdx];exact hs
 ·apply mi
  intro j;rw[rl]
  by_cases hj:j<m*size
  ·have hjc:j<jZ.size:=by omega
   rw[if_pos hj,rh,rh];unfold putCells;rw[Array.getElem?_mapIdx,yz hjc,Option.map_some,if_pos ⟨bH _,by omega⟩,Zp,getElem!_pos d j J,yz (by omega:j<d.size)];rfl
  rw[if_neg hj,rh,Array.getElem?_eq_none J]
 ·rcases hk with h|h
  simp only[aZ,Value.ownBlock,dh]at h;subst h;exact MP;exact h.elim
theorem afB:SWO (ltOf MD):=⟨S_,λ_ _ _ h1 h2=>afp h1 h2,λx y z h1 h2=>by
 have h1:Qh x y=false:=h1;have h2:Qh y z=false:=h2;show Qh x z=aE
 rw[Qi]at*;omega⟩
theorem Tm(l:List bJ.Item):(flatK jm 3 l.toArray).toList=l.flatMap jm:=by
 have hL:(l.flatMap jm).length=l.length*3:=lV mb l;apply mi;intro t
 by_cases ht:t<l.length*3
 ·have hd:t/3<l.length:=by omega
  have h1:=get_flatK jm 3 l.toArray t (by simpa using ht);rw[getElem!_pos (flatK jm 3 l.toArray) t (by simpa using ht),getElem!_pos l.toArray (t/3) (by simpa using hd)]at h1;have h2:=uX (c:=3) (l.map jm) (λx hx=>by obtain⟨y,_,rfl⟩:=eT.1 hx;exact mb y) (t/3) (t %3) (by simpa using hd) (A3 _ akh);rw[show t/3*3+t %3=t by omega,ta]at h2;rw[rh,yz (by simpa using ht),h1];show _=(l.map jm).flatten[t]?
  rw[h2];have h3:t %3<(jm l[t/3]).length:=by rw[mb];exact A3 _ akh
  rw[bK h3];simp only[List.getElem_toArray];rw[getElem!_pos (jm l[t/3]) (t %3) h3]
 rw[k7 (by rw[mf,size_flatK];simp;omega),k7 J]
theorem QR{w:World}{e:TypeId}{g cap m size:Nat}{xs:List Value}(ho:w.ownsRow 0 e size (ap (aj ⟨g,0,ak⟩) m cap) m xs)(d:Array Value)(hd:d.toList=xs):Holds id w g 0 d/\g<w.heap.size:=by
 obtain⟨hl,hr⟩:=ho;rcases hr with⟨h,_⟩|⟨g2,Qs,jZ,hv,_,hg,hc,hx,hs,ht⟩
 cases h
 cases hv
 refine⟨λj hj=>?_,(jx.1 hg).1⟩;have hle:m*size<=cap*size:=sR _ hc;have hj2:j<xs.length:=by rw[<-hd];simpa using hj
 have hcj:jZ[j]?=aj d[j]:=by
  have:=congrArg (λl=>l[j]?) ht;rw[rl,if_pos J,rh,<-hd,rh,yz hj]at this;exact this
 refine⟨?_,?_⟩;rw[cell_of_row w g (0+j) _ _ _ hg,cX,hcj,getElem!_pos d j hj];rfl;unfold World.frozen?;rw[hg];simp
def acF:Prop:=∀(x y:bJ.Item) (w:World),Calls aD 161 #[aQ (jm x).toArray,aQ (jm y).toArray] w λe w'=>e= .returned (av az (MD x y))/\∃q os',w'=grow (w.drewN q) os'
theorem acG(aiX:acF)(v:Value)(l:List bJ.Item)(w:World)(B:bL)(hm:Mem B [aZ 278 3 v l.length (l.flatMap jm)] w)(hl:l.length<4611686018427387904):
 Calls aD 160 #[v,.func (.func 161) #[] #[]] w (da ⟨λ(_:Unit)=>True,λ_=> .tuple #[],λ_=>[aZ 278 3 v l.length ((vW l).flatMap jm)]⟩ B):=by
 have ho:w.ownsRow 0 278 3 v l.length (l.flatMap jm):=hm.get (i:=0) I;have C_:=ho;rcases ho.2 with⟨rfl,h0⟩|⟨g,cap,jZ,rfl,_,hg,hc,hx,hs,ht⟩
 ·obtain rfl:l=[]:=List.length_eq_zero_iff.1 h0
  refine(AnyF.slices_SortFunc_none ZA ak 0 _ w).mono λe w' ⟨he,hw⟩=>⟨(),trivial,he,?_⟩;rw[hw];exact(by simpa[vW]using hm)
 ·obtain⟨h1,h2⟩:=QR C_ (flatK jm 3 l.toArray) (Tm l)
  have aiY:CmpLays aD 161 #[] jm 3 MD g 0 l.toArray.size w:=λm os dk _ x y=>by
   have h:=aiX x y (sortWorldK jm 3 w g 0 m dk os)
   simpa using h
  have h:=AnyQ.slices_SortFunc_total ZA 3 Tryz.isAgg278 Tryz.sizeOf278 jm mb (λx v hv=>by simp only[jm,dC,fH,or_false]at hv;rcases hv with rfl|rfl|rfl<;>rfl) MD afB 161 #[] g 0 cap l.toArray w aI.en aiY h1 h2 (by simpa using hl) Vf;have hz:l.toArray.size=l.length:=by simp
  rw[hz]at h;refine h.mono λe w' ⟨he,n,os,hw⟩=>⟨(),trivial,he,?_⟩;have hlen:(vW l).length=l.length:=MF l;have hq:=ZB hm (flatK jm 3 (vW l).toArray) (by rw[size_flatK];simp[hlen]) n os;rw[Tm]at hq;rw[hw];exact hq
end bZ
namespace bZ
open Go.RowKit cK dS aU dL dP bJ cD
def ZC(B:bL)(v:Value)(n:Nat)(xs:List Value):Prop:=
 ∃base cap,v=ap base n cap/\n<=cap/\cap<=maxLen/\(0<n->∃b off,base=aj ⟨b,off,ak⟩/\Bt B b/\Rd B.w b off xs)
theorem Tn{l:List aU.Prod}{w0:World}{W:bL}{vb:Nat->Value}{k dn:Nat}{x:Option Nat}{bb:Option Addr}{cc m:Nat}(ho:qx w0 W)(hv:Vl (λq=>q<w0.heap.size) w0 vb l)(hk:k<=l.length)(hx:x.isSome=decide (k=l.length))(hb:aco vb k x=ap bb m cc)(hd:dn<(fR l (k:Int)).length):
 ∃b off,bb=aj ⟨b,off,ak⟩/\∀(L:List b9) (i:Nat),L[i]?=aj (Br x)->∀j u,(eC (fR l (k:Int))[dn])[j]?=aj u->At W L ⟨b,off+dn*2+j,ak⟩ u:=by
 cases x with
 |some g=>
  have hk:k=l.length:=by simpa using hx
  subst hk;have e:fR l (l.length:Int)=[(2,0)]:=by unfold fR;rw[if_pos I]
  have hb:ap (aj ⟨g,0,ak⟩) 1 1=ap bb m cc:=hb
  cases hb
  refine⟨g,0,rfl,λL i hi j u hj=>?_⟩;have hd0:dn=0:=by rw[e]at hd;simpa using hd
  subst hd0;simp only[e,List.getElem_cons_zero]at hj;rw[show 0+0*2+j=j by omega];exact aH hi (by simpa[eC]using hj)
 | none=>
  have lO:k<l.length:=by
   have:¬k=l.length:=by simpa using hx
   omega
  have e:fR l (k:Int)=(dc l (k:Int)).2:=by unfold fR;rw[if_neg J]
  have hs:=(hv k lO).flat (f:=eC) akh;have hb:vb k=ap bb m cc:=hb;rw[hb]at hs;obtain⟨base,cap,h1,_,_,h3⟩:=hs
  cases h1
  have Pm:dn<(dc l (k:Int)).2.length:=by rw[<-e];exact hd
  obtain⟨b,off,rfl,hr⟩:=h3 J;refine⟨b,off,rfl,λL i _ j u hj=>?_⟩;simp only[e]at hj;exact uT (W:=W) (L:=L) E4 (off:=off) (λq y hq=>iX ho (hr q y hq)) Pm j u hj
theorem VF(g:ep){it:bJ.Item}(h:it.2.2.toNat<64):vX (kG g) it<18446744073709551616:=by
 have h1:kG g it.1 it.2.1<18446744073709551616:=Tc akh;unfold vX;split;exact Nat.or_lt_two_pow (n:=64) (Nat.xor_lt_two_pow (n:=64) h1 akh) (Er akh h);exact h1
theorem yS{i bits:Nat}{out:List bJ.Item}:∀k,(fK i bits out k).length<=out.length+k
 |0=>bz _
 |k+1=>by
  rw[fK];have:=yS (i:=i) (bits:=bits) (out:=out) k;have h2:(more (fK i bits out k) ((i:Int),0,(k:Int))).length<=(fK i bits out k).length+1:=by unfold more;split<;>simp
  split<;>omega
theorem Fe{l:List aU.Prod}{T:Nat}{N:Int}{bits:Nat}{out:List bJ.Item}:∀i,(fL l T N bits out i).length<=out.length+i*(T+1)
 |0=>by rw[Nat.zero_mul];exact bz _
 |i+1=>by
  rw[fL,Nat.succ_mul];have:=Fe (l:=l) (T:=T) (N:=N) (bits:=bits) (out:=out) i;have h2:=yS (i:=i) (bits:=bits) (out:=fL l T N bits out i) (T+1);split<;>omega
theorem Dl{L:List b9}{is:List Nat}{o:b9}(h:o∈is.filterMap λi=>L[i]?):o∈L:=by
 obtain⟨i,_,hi⟩:=Qz.1 h;exact mh hi
def opL(g:ep)(bp:Option Addr)(cp go gm:Nat)(f:RK->Option Value)(c:Nat):List b9:=[aP go (Ce g.aT g.bC (ap bp g.aF.length cp) gm).toArray 314,fq jt gm f c]
theorem Ff{κ:Type}[DecidableEq κ]:∀(l D:List κ),(dR D l).length<=D.length+l.length
 |[],D=>by simp[dR]
 |k::r,D=>by
  rw[dR];have:=Ff r (if k∈D then D else D++[k]);have h2:(if k∈D then D else D++[k]).length<=D.length+1:=by split<;>simp
  rw[db];omega
theorem ZD{l:List aU.Prod}{T:Nat}{x:bJ.Item}(h:eG l T x)(hl:l.length<=40)(hw:∀q∈l,q.2.length<=8)(hT:T<=30):JY.ok x:=by
 obtain⟨a1,a2,a3,a4,a5,a6⟩:=h;have:=nc (l:=l) (p:=x.1) hw;exact⟨⟨by omega,by omega⟩,⟨by omega,by omega⟩,by omega,by omega⟩
def wo(g:ep)(T:Nat)(l0:List bJ.Item)(bp:Option Addr)(cp go gm c:Nat):Spec ((RK->Option Value)×Nat×Value):=
 ⟨λx=>ko (kG g) x.1/\x.2.1<=c+12000,λx=>x.2.2,λx=>opL g bp cp go gm x.1 x.2.1++[aZ 278 3 x.2.2 (km g.aF T (kG g) l0).length ((km g.aF T (kG g) l0).flatMap jm)]⟩
theorem ahk{i j:Nat}(hi:i<=1000)(hj:j<=1000):JY.ok ((i:Int),0,(j:Int)):=by
 show(-9223372036854775808<=(i:Int)/\(i:Int)<=9223372036854775807)/\(-9223372036854775808<=(0:Int)/\(0:Int)<=9223372036854775807)/\(-9223372036854775808<=(j:Int)/\(j:Int)<=9223372036854775807)
 omega
theorem Il(a c:Int)(w:World):(df 278 #[(0,av az a),(2,av az c)]).run aD w= .ok (aQ #[av az a,av az 0,av az c]) w:=by kernel_rfl
attribute [local irreducible] Op.shift Go.bits in
theorem wq(g:ep)(hg:cz g=0)(bp:Option Addr)(cp:Nat)(vb:Nat->Value)(w0:World)(hG:kK (λq=>q<w0.heap.size) w0 (dM g.aT g.bC (ap bp g.aF.length cp)) g)(AM:Vl (λq=>q<w0.heap.size) w0 vb g.aF)(oT:0<g.aF.length->∃b off,bp=aj ⟨b,off,ak⟩/\∀i,i<g.aF.length->Rd w0 b (off+i*2) [av az (dc g.aF (i:Int)).1,vb i])
 (go gm c:Nat) (f:RK->Option Value) (T:Nat) (Kc:g.aT=(T:Int)) (hT:T<=30) (l0:List bJ.Item) (vl:Value) (h0:∀x∈l0,eG g.aF T x) (hl0:l0.length<=20000) (hc:ko (kG g) f) (hcc:c<=900000000000000) (w:World) (B:bL) (ho:qx w0 B) (hvl:ZC B vl l0.length (l0.flatMap jm))
 (hm:Mem B (opL g bp cp go gm f c) w):
 Calls aD 129 #[aJ (aj ⟨go,0,ak⟩),vl] w (da (wo g T l0 bp cp go gm c) B):=by
 obtain⟨-,-,-,-,Ci,hgb⟩:=cV hg;have Im:∀q∈g.aF,q.2.length<=8:=λq hq=>(hgb q hq).1;have M4:=λg5 VG g6 b v cn out it hit hp hb hn w' B' rX=>M3 g5 VG g6 b v cn out it hit hp hb hn w' B' rX;unfold opL at hm;obtain⟨bl,cl,rfl,pf,zw,J2⟩:=hvl;unfold maxLen at zw;refine dB hm (args:=[aJ (aj ⟨go,0,ak⟩),ap bl l0.length cl]) (n:=117) Tryz.func129 I I I ?_
 try refine GA ?_
 refine ab0 JY (z:=av az 0) I λVG=>?_;refine zL ?_
 try refine GA ?_
 refine a8 I λg5=>?_;refine zL ?_;refine bV (i:=3) I I I I I I ?_;refine zL ?_
 try refine GA ?_
 refine a8 I λg6=>?_;refine zL ?_
 repeat(first|refine GA ?_|refine gV (w7 I I) ?_)
 conv=>arg 7;simp only[zA,zB,zC,zD,zE,zF,zG,zH,zI,cI,ret,id_eq]
 refine m_ (aZ 278 3 (ap ak 0 0) 0 []) (λk hk=>hk.elim (λh=>by cases h) id) (λw=>⟨by decide,.inl ⟨rfl,rfl⟩⟩) ?_;refine rb [0,1,3,2,4,5] ?_
 conv=>arg 7;simp only[zA,zB,zC,zD,zE,zF,zG,zH,zI,cI,ret,id_eq]
 refine d_ (ι:=Nat×Value×(bJ.Item->Nat)) (λ(j,_,cn)=>j<=l0.length/\sd cn (dR [] (l0.take j)) (2*j)) (λ(j,_,_)=>[(0,aJ (aj ⟨go,0,ak⟩)),(6,aJ (aj ⟨g6,0,ak⟩)),(7,.func (.func 157) #[] #[aJ (aj ⟨g5,0,ak⟩),aJ (aj ⟨g6,0,ak⟩)]),(18,ap bl l0.length cl),(19,av az (l0.length:Int)),(20,av az (j:Int))])
  (λ(j,v,cn)=>[aP go (Ce g.aT g.bC (ap bp g.aF.length cp) gm).toArray 314,fq jt gm f c]++G2 g5 VG g6 (2*j) v cn (dR [] (l0.take j))) (λ(j,_,_)=>l0.length-j) (0,ap ak 0 0,λ_=>0) ⟨bH _,⟨λx=>by simp[dR],λx=>bH _⟩⟩ ?_
 rintro⟨j,v,cn⟩ ⟨j1,j2⟩;dsimp only at j1 j2⊢
 by_cases c1:j<l0.length
 ·obtain⟨b,off,rfl,GY,OO⟩:=J2 J
  have dy:=λL=>uT (W:=B) (L:=L) mb (off:=off) (λq u hq=>tj GY OO q u hq) c1;have hx0:=h0 l0[j] (b_ c1);have hxo:=ZD hx0 Ci Im hT;have LD:(dR [] (l0.take j)).length<=j:=fI (Ff _ _) (by rw[gY,iN];omega);have wg:more (dR [] (l0.take j)) l0[j]=dR [] (l0.take (j+1)):=by rw[gX c1,lu]
  have G3:=j2.put l0[j];rw[wg]at G3;have M4:=λw' B' rX=>M4 g5 VG g6 (2*j) v cn (dR [] (l0.take j)) l0[j] hxo j2 J J w' B' rX;rw[wg]at M4;generalize dR [] (l0.take j)=out at*;generalize hoq:dR [] (l0.take (j+1))=ahl at*;generalize l0[j]=x at*
  repeat(first|refine GA ?_|refine gV (aY bM.eq aK.ty I I c1) ?_|refine gV (bm aK.ty I (mb x) (dy _)) ?_)
  refine a8 I λg9=>?_;refine zL ?_;refine ij 6 (cs':=(jm x).toArray) ?_;refine zL ?_
  repeat(first|refine GA ?_|refine gV (aO (i:=6) aK.ty I I I) ?_)
  refine bx [2,3,4,5] [0,1,6] akh I I (CJ aI.en I I) (λw hm hb=>M4 w _ hb) I I I ?_;intro v' _;refine zL ?_
  try refine GA ?_
  refine dm [0,1,3,4,5,6] ?_;exact bT (j+1,v',By cn x) ⟨by show j+1<=l0.length;omega,by show sd _ (dR [] (l0.take (j+1))) _;rw[hoq];exact G3⟩ (by show l0.length-(j+1)<l0.length-j;omega) (hl:=by dsimp only;rw[hoq];rfl)
 ·obtain rfl:j=l0.length:=by omega
  rw[pY]at j2;have tW:(dR [] l0).length<=20000:=fI (Ff _ _) (by rw[gY];omega);clear J2
  try refine GA ?_
  conv=>arg 7;simp only[zA,zB,zC,zD,zE,zF,zG,zH,zI,cI,ret,id_eq,pY,G2,jf,eI]
  refine d_ (ι:=Nat×List bJ.Item×(RK->Option Value)×Nat×Value×(bJ.Item->Nat)×Nat) (λ(n,out,f',c',_,cn',b)=>WkI g.aF T (kG g) l0 n out/\tX g.aF T (kG g) (12000-n) n out=tX g.aF T (kG g) 12000 0 (dR [] l0)/\ko (kG g) f'/\c'<=c+n/\sd cn' out b/\b<=40000+2480*n)
   (λ(n,_,_,_,_,_,_)=>[(0,aJ (aj ⟨go,0,ak⟩)),(6,aJ (aj ⟨g6,0,ak⟩)),(7,.func (.func 157) #[] #[aJ (aj ⟨g5,0,ak⟩),aJ (aj ⟨g6,0,ak⟩)]),(10,av az (n:Int))])
   (λ(_,out,f',c',v',cn',b)=>[aP go (Ce g.aT g.bC (ap bp g.aF.length cp) gm).toArray 314,fq jt gm f' c',aP g5 #[.map (aj VG)] 316,pG JY VG (av az 0) (Fc cn') b,aP g6 #[v'] 273,aZ 278 3 v' out.length (out.flatMap jm)]) (λ(n,_)=>12000-n) (0,dR [] l0,f,c,v,cn,2*l0.length) ⟨EW l0,rfl,hc,bz _,j2,by omega⟩ ?_
  rintro⟨n,out,f',c',v',cn',b⟩ ⟨i1,i2,i3,i4,i5,i6⟩;dsimp only at i1 i2 i3 i4 i5 i6⊢;have QT:=Bq Im Ci hT i1.nd λx hx=>Ab h0 (i1.cl x hx);refine iR (i:=5) I fF λfJ=>?_;obtain⟨bv,cv,rfl,-,EH⟩:=fJ
  by_cases c2:n<out.length
  ·obtain⟨gz,rfl⟩:=EH J
   have jW:=i1.cl out[n] (b_ c2);have hxr:=Ab h0 jW;have dy:=λ(L:List b9) (i:Nat) (hL:L[i]?=aj (aZ 278 3 (ap (aj ⟨gz,0,ak⟩) out.length cv) out.length (out.flatMap jm)))=>rP (W:=B) mb hL c2;have hwx:tX g.aF T (kG g) (12000-(n+1)) (n+1) (vY g.aF T (kG g) out[n] out)=tX g.aF T (kG g) 12000 0 (dR [] l0):=by
    rw[<-i2,show 12000-n=(12000-(n+1))+1 by omega,tX,if_pos c2,cB,bK c2];rfl
   have To:=Ta i1 c2;clear i2 jW;generalize hxx:out[n]=x at*;obtain⟨p,d,lo⟩:=x;have afC:=hxr;obtain⟨r1,r2,r3,r4,r5,r6⟩:=afC;dsimp only at r1 r2 r3 r4 r5 r6;obtain⟨k,rfl⟩:=iw r1;obtain⟨dn,rfl⟩:=iw r3;obtain⟨ln,rfl⟩:=iw r5;have hk:k<=g.aF.length:=by omega
   have H':=λw' (rX:Mem B [] w')=>tf g.aT g.bC bp cp g.aF vb w0 w' B k hk ho rX (λi hi=>let ⟨b,c,h,_⟩:=AM i hi;⟨b,_,c,h⟩) oT
   repeat(first|refine GC ?_|refine gV (aB (v:=ap (aj ⟨gz,0,ak⟩) out.length cv) aK.ty I (aH (i:=4) I I)) ?_|refine gV (fg (i:=5) bM.eq I I) ?_|refine GB ?_)
   refine dT ([aP go (Ce g.aT g.bC (ap bp g.aF.length cp) gm).toArray 314,aP g6 #[ap (aj ⟨gz,0,ak⟩) out.length cv] 273,aZ 278 3 (ap (aj ⟨gz,0,ak⟩) out.length cv) out.length (out.flatMap jm)]) (.calm 0 (.calm 1 (.calm 2 (.calm 3 (.calm 4 (.calm 5 (.calm 6 (.calm 7 (.calm 8 (.one 9 (.calm 10 (.done)))))))))))) (bX [0,4,5]) ?_
   repeat(first|refine GW ?_|(refine GN ?_;first|refine QW (bm aK.ty I (cs:=[av az g.aT,av az g.bC,ap bp g.aF.length cp]) I (λj v h=>aH (i:=0) I (JZ h))) ?_|refine QW (aB (v:=ap (aj ⟨gz,0,ak⟩) out.length cv) aK.ty I (aH (i:=1) I I)) ?_|refine QW (aY bM.eq aK.ty I I c2) ?_|refine QW (aB (v:=av az (k:Int)) aK.ty I (dy _ 2 I 0 _ I)) ?_))
   refine aL I ?_;refine aV (fB aI.en I I I) (λw hm=>H' _ (hm.pick [] akh I)) I I I ?_;rintro xb hxb
   conv=>arg 8;simp only[zJ,cI,ret,id_eq,Af]
   conv=>arg 7;simp only[Af]
   obtain⟨bb,cc,hbv,hlc,-⟩:=Ah (W:=B) (i:=6) (L:=[aP go (Ce g.aT g.bC (ap bp g.aF.length cp) gm).toArray 314,fq jt gm f' c',aP g5 #[.map (aj VG)] 316,pG JY VG (av az 0) (Fc cn') b,aP g6 #[ap (aj ⟨gz,0,ak⟩) out.length cv] 273,aZ 278 3 (ap (aj ⟨gz,0,ak⟩) out.length cv) out.length (out.flatMap jm),Br xb]) ho AM hk hxb rfl;have sa:=λ(L:List b9) (i:Nat) (hi:L[i]?=aj (Br xb))=>(Ah (W:=B) (L:=L) ho AM hk hxb hi);rw[hbv]at sa⊢;have hb8:=nc (l:=g.aF) (p:=(k:Int)) Im;refine aM (bX [0,4,5]) ?_
   try refine GW ?_
   clear H'
   by_cases c3:dn=(fR g.aF (k:Int)).length
   ·repeat(first|refine GC ?_|refine gV (aB (v:=ap (aj ⟨gz,0,ak⟩) out.length cv) aK.ty I (aH (i:=4) I I)) ?_|refine gV (aY bM.eq aK.ty I I c2) ?_|refine gV (aB (v:=av az (dn:Int)) aK.ty I (dy _ 5 I 1 _ I)) ?_|refine gV (cZ (b:=aC) I I (decide_eq_true J)) ?_|refine GB ?_)
    have M5:vY g.aF T (kG g) ((k:Int),(dn:Int),(ln:Int)) out=out:=by
     unfold vY qV;dsimp only;rw[dF,k7 J]
    rw[M5]at To hwx;refine dm [0,1,2,3,4,5] ?_;exact bT (n+1,out,f',c',ap (aj ⟨gz,0,ak⟩) out.length cv,cn',b) ⟨To,hwx,i3,by show c'<=c+(n+1);omega,i5,by show b<=40000+2480*(n+1);omega⟩ (by show 12000-(n+1)<12000-n;omega)
   have hlt:dn<(fR g.aF (k:Int)).length:=by omega
   obtain⟨b2,o2,rfl,hba⟩:=Tn ho AM hk hxb hbv hlt;have wg:qV g.aF ((k:Int),(dn:Int),(ln:Int))=aj (fR g.aF (k:Int))[dn]:=by
    unfold qV;dsimp only;rw[dF,bK hlt]
   generalize hyy:(fR g.aF (k:Int))[dn]=y at*;obtain⟨yk,yn⟩:=y
   by_cases c4:yk=2
   ·subst c4
    have M5:vY g.aF T (kG g) ((k:Int),(dn:Int),(ln:Int)) out=fL g.aF T yn (vX (kG g) ((k:Int),(dn:Int),(ln:Int))) out g.aF.length:=by
     unfold vY;rw[wg];dsimp only;rw[if_pos I]
    rw[M5]at To hwx
    repeat(first|refine GC ?_|refine gV (aB (v:=ap (aj ⟨gz,0,ak⟩) out.length cv) aK.ty I (aH (i:=4) I I)) ?_|refine gV (aY bM.eq aK.ty I I c2) ?_|refine gV (aY bM.eq aK.ty I I hlt) ?_|refine gV (aB (v:=av az (dn:Int)) aK.ty I (dy _ 5 I 1 _ I)) ?_|refine gV (cZ (b:=aE) I I (decide_eq_false J)) ?_|refine gV (aB (v:=av az 2) aK.ty I (hba _ 6 I 0 _ I)) ?_|refine gV (dl (b:=aE) I I (decide_eq_false (λh=>h I))) ?_|refine gV (bm (cs:=jm ((k:Int),(dn:Int),(ln:Int))) aK.ty I I (dy _ 5 I)) ?_|refine GB ?_)
    refine bx [0,1] [2,3,4,5,6] akh I I (fB aI.en I I I) (λw hm hb=>MN g hg bp cp vb w0 hG AM oT go gm c' f' ((k:Int),(dn:Int),(ln:Int)) T hT hxr (by dsimp only;rw[dF];exact hlt) i3 J w _ (ho.on hm λo h=>Dl h) hb) I I I ?_;rintro⟨f2,M6⟩ ⟨WK,afD⟩;dsimp only at WK afD;refine zL ?_;have ajT:=VF g (it:=((k:Int),(dn:Int),(ln:Int))) (by show((ln:Int)).toNat<64;omega);generalize vX (kG g) ((k:Int),(dn:Int),(ln:Int))=bits at*
    repeat(first|refine GA ?_|refine gV (aB (v:=ap bp g.aF.length cp) aK.ty I (aH (i:=5) I I)) ?_)
    refine rb [5,6,0,1,2,3,4] ?_
    conv=>arg 7;simp only[zA,zB,zC,zD,zE,zF,zG,zH,zI,cI,ret,id_eq]
    refine d_ (ι:=Nat×Value×(bJ.Item->Nat)×Nat) (λ(i,_,cn2,b3)=>i<=g.aF.length/\sd cn2 (fL g.aF T yn bits out i) b3/\b3<=b+62*i)
     (λ(i,_,_,_)=>[(0,aJ (aj ⟨go,0,ak⟩)),(6,aJ (aj ⟨g6,0,ak⟩)),(7,.func (.func 157) #[] #[aJ (aj ⟨g5,0,ak⟩),aJ (aj ⟨g6,0,ak⟩)]),(10,av az (n:Int)),(11,ap (aj ⟨b2,o2,ak⟩) (fR g.aF (k:Int)).length cc),(12,ik bits),(74,ap bp g.aF.length cp),(75,av az (g.aF.length:Int)),(76,av az (i:Int))])
     (λ(i,v2,cn2,b3)=>[aP go (Ce g.aT g.bC (ap bp g.aF.length cp) gm).toArray 314,fq jt gm f2 M6,aP g5 #[.map (aj VG)] 316,pG JY VG (av az 0) (Fc cn2) b3,aP g6 #[v2] 273,aZ 278 3 v2 (fL g.aF T yn bits out i).length ((fL g.aF T yn bits out i).flatMap jm),Br xb]) (λ(i,_)=>g.aF.length-i) (0,ap (aj ⟨gz,0,ak⟩) out.length cv,cn',b) ⟨bH _,i5,by omega⟩ ?_
    rintro⟨i,v2,cn2,b3⟩ ⟨p1,p2,p3⟩;dsimp only at p1 p2 p3⊢
    by_cases c5:i<g.aF.length
    ·obtain⟨E,hE⟩:=v8 (l:=g.aF) (T:=T) yn bits out i
     have LD:=Fe (l:=g.aF) (T:=T) (N:=yn) (bits:=bits) (out:=out) i;have G4:fL g.aF T yn bits out (i+1)=if(dc g.aF (i:Int)).1=yn then fK i bits (fL g.aF T yn bits out i) (T+1)else fL g.aF T yn bits out i:=rfl
     have ajU:i*(T+1)<=40*31:=Nat.mul_le_mul J J;generalize hou:fL g.aF T yn bits out i=ou at*;have hno:n<ou.length:=by rw[hE,bI];omega
     have hox:ou[n]=((k:Int),(dn:Int),(ln:Int)):=by
      subst hE;rw[List.getElem_append_left c2];exact hxx
     refine iR (i:=5) I fF λfJ=>?_;obtain⟨bv2,cv2,rfl,-,aiZ⟩:=fJ;obtain⟨gz2,rfl⟩:=aiZ J;have rm:=λ(L:List b9) (i:Nat) (hL:L[i]?=aj (aZ 278 3 (ap (aj ⟨gz2,0,ak⟩) ou.length cv2) ou.length (ou.flatMap jm)))=>rP (W:=B) mb hL hno;rw[hox]at rm;obtain⟨pb,po,rfl,hpr⟩:=oT J;have hpi:=hpr i c5;have hvo:(vb i).oneCell'=true:=ack (AM i c5);generalize hhd:(dc g.aF (i:Int)).1=hd at*;generalize vb i=vbi at hpi hvo
     repeat(first|refine GA ?_|refine gV (aY bM.eq aK.ty I I c5) ?_|refine gV (bm aK.ty I (cs:=[av az hd,vbi]) I (λj v h=>iX ho (hpi j v h))) ?_)
     refine a8 I λg14=>?_;refine zL ?_
     try refine GA ?_
     refine aX (i:=7) (cs':=#[av az hd,vbi]) I I I I (by simp only[cY,c_,hvo];rfl) I ?_;refine zL ?_
     try refine GA ?_
     refine dT ([aP g14 #[av az hd,vbi] 140,aP g6 #[ap (aj ⟨gz2,0,ak⟩) ou.length cv2] 273,aZ 278 3 (ap (aj ⟨gz2,0,ak⟩) ou.length cv2) ou.length (ou.flatMap jm),Br xb]) (.calm 0 (.calm 1 (.calm 2 (.calm 3 (.calm 4 (.calm 5 (.calm 6 (.calm 7 (.calm 8 (.calm 9 (.calm 10 (.calm 11 (.done))))))))))))) (bX [7,4,5,6]) ?_
     by_cases c6:hd=yn
     ·rw[if_pos c6]at G4
      repeat(first|(refine GN ?_;first|refine QW QP ?_|refine QW (aB (v:=av az hd) aK.ty I (aH (i:=0) I I)) ?_|refine QW (aB (v:=ap (aj ⟨gz2,0,ak⟩) ou.length cv2) aK.ty I (aH (i:=1) I I)) ?_|refine QW (aY bM.eq aK.ty I I hno) ?_|refine QW (aB (v:=av az (dn:Int)) aK.ty I (rm _ 2 I 1 _ I)) ?_|refine QW (aY bM.eq aK.ty I I hlt) ?_|refine QW (aB (v:=av az yn) aK.ty I (hba _ 3 I 1 _ I)) ?_|refine QW (dl (b:=aE) I I (decide_eq_false (λh=>h c6))) ?_|refine GX ?_)|refine GW ?_)
      repeat(first|refine GC ?_|refine gV (aB (v:=av az g.aT) aK.ty I (aH (i:=0) I I)) ?_|refine gV (dW (r:=((T+1:Nat):Int)) I I J J J) ?_|refine GB ?_)
      refine rb [0,1,2,3,4,5,6] ?_
      conv=>arg 7;simp only[zA,zB,zC,zD,zE,zF,zG,zH,zI,cI,ret,id_eq]
      refine d_ (ι:=Nat×Value×(bJ.Item->Nat)×Nat) (λ(j,_,cn3,b4)=>j<=T+1/\sd cn3 (fK i bits ou j) b4/\b4<=b3+2*j)
       (λ(j,_,_,_)=>[(0,aJ (aj ⟨go,0,ak⟩)),(6,aJ (aj ⟨g6,0,ak⟩)),(7,.func (.func 157) #[] #[aJ (aj ⟨g5,0,ak⟩),aJ (aj ⟨g6,0,ak⟩)]),(10,av az (n:Int)),(11,ap (aj ⟨b2,o2,ak⟩) (fR g.aF (k:Int)).length cc),(12,ik bits),(13,av az (i:Int)),(74,ap (aj ⟨pb,po,ak⟩) g.aF.length cp),(75,av az (g.aF.length:Int)),(76,av az (i:Int)),(98,av az ((T+1:Nat):Int)),(99,av az (j:Int))])
       (λ(j,v3,cn3,b4)=>[aP go (Ce g.aT g.bC (ap (aj ⟨pb,po,ak⟩) g.aF.length cp) gm).toArray 314,fq jt gm f2 M6,aP g5 #[.map (aj VG)] 316,pG JY VG (av az 0) (Fc cn3) b4,aP g6 #[v3] 273,aZ 278 3 v3 (fK i bits ou j).length ((fK i bits ou j).flatMap jm),Br xb]) (λ(j,_)=>T+1-j) (0,ap (aj ⟨gz2,0,ak⟩) ou.length cv2,cn2,b3) ⟨bH _,p2,by omega⟩ ?_
      rintro⟨j,v3,cn3,b4⟩ ⟨s1,s2,s3⟩;dsimp only at s1 s2 s3⊢
      by_cases c7:j<T+1
      ·have ajV:=yS (i:=i) (bits:=bits) (out:=ou) j
       have VH:fK i bits ou (j+1)=if bits.testBit j=aC then more (fK i bits ou j) ((i:Int),0,(j:Int))else fK i bits ou j:=rfl
       have G3:=s2.put ((i:Int),0,(j:Int));have hdv:bits/2^j<=bits:=Es _ _;have ha1:=afu (y:=bits/2^j) J;have xt:∀w,(iM .shr .u64 (bits:Int) .i64 (j:Int)).run aD w= .ok (.int .u64 ((bits/2^j:Nat):Int)) w:=λw=>Zf bits j 64 .u64 .i64 I J w;have H':=Ag bits j;generalize hol:fK i bits ou j=ol at*;generalize bits/2^j=D1 at*
       by_cases c8:bits.testBit j=aC
       ·rw[if_pos c8]at VH
        have GY:D1 %2=1:=by rw[c8]at H';simpa using H'
        repeat(first|refine GC ?_|refine gV (pB I I xt) ?_|refine gV (nK I I ha1) ?_|refine gV (cZ (b:=aC) I I (decide_eq_true J)) ?_|refine gV (bD I (Il _ _)) ?_|refine GB ?_)
        refine bx [2,3,4,5] [0,1,6] akh I I (CJ aI.en I I) (λw hm hb=>M4 g5 VG g6 b4 v3 cn3 ol ((i:Int),0,(j:Int)) (ahk J J) s2 J J w _ hb) I I I ?_;intro v4 _
        conv=>arg 8;simp only[zJ,cI,ret,id_eq,G2]
        try refine GA ?_
        refine dm [0,1,3,4,5,6,2] ?_;exact bT (j+1,v4,By cn3 ((i:Int),0,(j:Int)),b4+2) ⟨by show j+1<=T+1;omega,by show sd _ (fK i bits ou (j+1)) _;rw[VH];exact G3,by show b4+2<=b3+2*(j+1);omega⟩ (by show T+1-(j+1)<T+1-j;omega) (hl:=by dsimp only;rw[VH];rfl)
       rw[if_neg c8]at VH;have GY:¬D1 %2=1:=by rw[wk.2 c8]at H';simpa using H'
       repeat(first|refine GC ?_|refine gV (pB I I xt) ?_|refine gV (nK I I ha1) ?_|refine gV (cZ (b:=aE) I I (decide_eq_false J)) ?_|refine GB ?_)
       exact bT (j+1,v3,cn3,b4) ⟨by show j+1<=T+1;omega,by show sd _ (fK i bits ou (j+1)) _;rw[VH];exact s2,by show b4<=b3+2*(j+1);omega⟩ (by show T+1-(j+1)<T+1-j;omega) (hl:=by dsimp only;rw[VH])
      obtain rfl:j=T+1:=by omega
      try refine GA ?_
      exact bT (i+1,v3,cn3,b4) ⟨by show i+1<=g.aF.length;omega,by show sd cn3 (fL g.aF T yn bits out (i+1)) b4;rw[G4];exact s2,by show b4<=b+62*(i+1);omega⟩ (by show g.aF.length-(i+1)<g.aF.length-i;omega) (hl:=by dsimp only;rw[G4])
     rw[if_neg c6]at G4
     repeat(first|(refine GN ?_;first|refine QW QP ?_|refine QW (aB (v:=av az hd) aK.ty I (aH (i:=0) I I)) ?_|refine QW (aB (v:=ap (aj ⟨gz2,0,ak⟩) ou.length cv2) aK.ty I (aH (i:=1) I I)) ?_|refine QW (aY bM.eq aK.ty I I hno) ?_|refine QW (aB (v:=av az (dn:Int)) aK.ty I (rm _ 2 I 1 _ I)) ?_|refine QW (aY bM.eq aK.ty I I hlt) ?_|refine QW (aB (v:=av az yn) aK.ty I (hba _ 3 I 1 _ I)) ?_|refine QW (dl (b:=aC) I I (decide_eq_true c6)) ?_|refine GX ?_)|refine GW ?_)
     try refine GA ?_
     refine dm [0,1,2,3,4,5,6] ?_;exact bT (i+1,ap (aj ⟨gz2,0,ak⟩) ou.length cv2,cn2,b3) ⟨by show i+1<=g.aF.length;omega,by show sd cn2 (fL g.aF T yn bits out (i+1)) b3;rw[G4];exact p2,by show b3<=b+62*(i+1);omega⟩ (by show g.aF.length-(i+1)<g.aF.length-i;omega) (hl:=by dsimp only;rw[G4];rfl)
    obtain rfl:i=g.aF.length:=by omega
    try refine GA ?_
    refine dm [0,1,2,3,4,5] ?_;exact bT (n+1,fL g.aF T yn bits out g.aF.length,f2,M6,v2,cn2,b3) ⟨To,hwx,WK,by show M6<=c+(n+1);omega,p2,by show b3<=40000+2480*(n+1);omega⟩ (by show 12000-(n+1)<12000-n;omega)
   repeat(first|refine GC ?_|refine gV (aB (v:=ap (aj ⟨gz,0,ak⟩) out.length cv) aK.ty I (aH (i:=4) I I)) ?_|refine gV (aY bM.eq aK.ty I I c2) ?_|refine gV (aY bM.eq aK.ty I I hlt) ?_|refine gV (aB (v:=av az (dn:Int)) aK.ty I (dy _ 5 I 1 _ I)) ?_|refine gV (cZ (b:=aE) I I (decide_eq_false J)) ?_|refine gV (aB (v:=av az yk) aK.ty I (hba _ 6 I 0 _ I)) ?_|refine gV (dl (b:=aC) I I (decide_eq_true c4)) ?_|refine GB ?_)
   have M5:vY g.aF T (kG g) ((k:Int),(dn:Int),(ln:Int)) out=out:=by
    unfold vY;rw[wg];dsimp only;rw[if_neg c4]
   rw[M5]at To hwx;refine dm [0,1,2,3,4,5] ?_;exact bT (n+1,out,f',c',ap (aj ⟨gz,0,ak⟩) out.length cv,cn',b) ⟨To,hwx,i3,by show c'<=c+(n+1);omega,i5,by show b<=40000+2480*(n+1);omega⟩ (by show 12000-(n+1)<12000-n;omega)
  have hn:n=out.length:=by have:=i1.le;omega
  have hR:tX g.aF T (kG g) 12000 0 (dR [] l0)=out:=by
   rw[<-i2,show 12000-n=(11999-n)+1 by omega,tX,if_neg c2]
  have hcI:km g.aF T (kG g) l0=vW out:=by unfold km;rw[hR]
  repeat(first|refine GA ?_|refine gV (aB (v:=ap bv out.length cv) aK.ty I (aH (i:=4) I I)) ?_)
  refine bx [5] [0,1,2,3,4] akh I I (fB aI.en I I I) (λw hm hb=>acG acq (ap bv out.length cv) out w _ hb J) I I I ?_;intro _ _;refine zL ?_
  repeat(first|refine GA ?_|refine gV (aB (v:=ap bv out.length cv) aK.ty I (aH (i:=4) I I)) ?_)
  exact cO I I λw hm=>hm.cC (S:=wo g T l0 bp cp go gm c) (f',c',ap bv out.length cv) ⟨i3,by show c'<=c+12000;omega⟩ [0,1,5] akh (by unfold wo opL;dsimp only;rw[hcI,MF];rfl)
end bZ
namespace bZ
open Go.RowKit cK dS aU dL dP bJ cD
theorem ZC.row{W:bL}{L Lx:List b9}{w:World}(hm:Mem W L w){i n size:Nat}{e:TypeId}{v:Value}{xs:List Value}(hi:L[i]?=aj (aZ e size v n xs))(is:List Nat)(hL:Lx=is.filterMap λi=>L[i]?)(hni:i∉is):ZC (bL.on w Lx) v n xs:=by
 have hh:(aZ e size v n xs).holds w:=hm.get hi;obtain⟨base,cap,rfl,h1,h2,h3⟩:=Sl.dD hh;refine⟨base,cap,rfl,h1,h2,λhn=>?_⟩;obtain⟨b,off,rfl,hr⟩:=h3 hn;have hf:(aZ e size (ap (aj ⟨b,off,ak⟩) n cap) n xs).e_ b:=by
  rcases(show w.ownsRow 0 e size _ n xs from hh).2 with⟨hv,_⟩|⟨g,cp,jZ,hv,_⟩
  cases hv
  cases hv;exact .inl I
 refine⟨b,off,rfl,⟨(aZ e size _ n xs).lt w hh b hf,?_⟩,hr⟩;rintro⟨o,ho,hfo⟩;subst hL;obtain⟨j,hj,Sx⟩:=Qz.1 ho;exact hm.owns.apart i j _ _ (λh=>hni (h▸hj)) hi Sx b hf hfo
theorem ZC.at{B:bL}{L:List b9}{α:Type}{f:α->List Value}{c:Nat}(hc:∀a,(f a).length=c){base:Option Addr}{cap n:Nat}{l:List α}(h:ZC B (ap base n cap) n (l.flatMap f))(hn:0<n):∃b off,base=aj ⟨b,off,ak⟩/\∀(k:Nat) (hk:k<l.length) (j:Nat) (u:Value),(f l[k])[j]?=aj u->At B L ⟨b,off+k*c+j,ak⟩ u:=by
 obtain⟨M7,A9,h0,h1,h2,h3⟩:=h
 cases h0
 obtain⟨b,off,rfl,ho,hr⟩:=h3 hn;exact⟨b,off,rfl,λk hk j u hj=>uT (W:=B) (L:=L) hc (off:=off) (λq y hq=>tj ho hr q y hq) hk j u hj⟩
theorem VI{l:List aU.Prod}{s:List bJ.Item}{x:dr}{k:Nat}(h:k<s.length):ng l (s.take (k+1)) x=if qV l s[k]=aj x then ng l (s.take k) x++[acn s[k]]else ng l (s.take k) x:=by
 unfold ng;rw[gX h,List.filter_append,e7]
 by_cases c:qV l s[k]=aj x
 rw[if_pos c,List.filter_cons_of_pos (by simpa using c)];rfl;rw[if_neg c,List.filter_cons_of_neg (by simpa using c)];simp
theorem M8{l:List aU.Prod}{s:List bJ.Item}{x:dr}:(ng l s x).length<=s.length:=by
 unfold ng;rw[dA];exact List.length_filter_le _ _
theorem Kd(g:ep)(hg:cz g=0)(bp:Option Addr)(cp:Nat)(vb:Nat->Value)(w0:World)(hG:kK (λq=>q<w0.heap.size) w0 (dM g.aT g.bC (ap bp g.aF.length cp)) g)(AM:Vl (λq=>q<w0.heap.size) w0 vb g.aF)(oT:0<g.aF.length->∃b off,bp=aj ⟨b,off,ak⟩/\∀i,i<g.aF.length->Rd w0 b (off+i*2) [av az (dc g.aF (i:Int)).1,vb i])
 (go gm c:Nat) (f:RK->Option Value) (T:Nat) (Kc:g.aT=(T:Int)) (hT:T<=30) (s:List bJ.Item) (x:dr) (vl:Value) (h0:∀it∈s,eG g.aF T it) (hl0:s.length<=20000) (hc:ko (kG g) f) (hcc:c<=900000000000000) (w:World) (B:bL) (ho:qx w0 B) (hvl:ZC B vl s.length (s.flatMap jm))
 (hm:Mem B (opL g bp cp go gm f c) w):
 Calls aD 131 #[aJ (aj ⟨go,0,ak⟩),vl,aQ (eC x).toArray] w (da (wo g T (ng g.aF s x) bp cp go gm c) B):=by
 have jW:=λv h2 h3 w' B' LN wZ rX=>wq g hg bp cp vb w0 hG AM oT go gm c f T Kc hT (ng g.aF s x) v h2 h3 hc hcc w' B' LN wZ rX;have hol:=M8 (l:=g.aF) (s:=s) (x:=x);have Lt:=lz (l:=g.aF) (T:=T) (x:=x) h0;obtain⟨bl,cl,rfl,pf,zw,J2⟩:=id hvl;clear J2;unfold maxLen at zw;unfold opL at hm;refine dB hm (args:=[aJ (aj ⟨go,0,ak⟩),ap bl s.length cl,aQ (eC x).toArray]) (n:=50) Tryz.func131 I I I ?_;refine bW (bB (bP I I I λg5=>?_));refine zL ?_
 try refine GA ?_
 refine jd 278 3 ?_
 conv=>arg 7;simp only[zA,zB,zC,zD,zE,zF,zG,zH,zI,cI,ret,id_eq]
 refine d_ (ι:=Nat×Value) (λ(k,_)=>k<=s.length) (λ(k,v)=>[(0,aJ (aj ⟨go,0,ak⟩)),(5,aJ (aj ⟨g5,0,ak⟩)),(7,v),(11,ap bl s.length cl),(12,av az s.length),(13,av az (k:Int))])
  (λ(k,v)=>[aP go (Ce g.aT g.bC (ap bp g.aF.length cp) gm).toArray 314,fq jt gm f c,aP g5 (eC x).toArray 148,aZ 278 3 v (ng g.aF (s.take k) x).length ((ng g.aF (s.take k) x).flatMap jm)]) (λ(k,_)=>s.length-k) (0,ap ak 0 0) (bH _) ?_
 rintro⟨k,v⟩ i1;dsimp only at i1⊢
 by_cases c1:k<s.length
 ·obtain⟨b,off,rfl,dy⟩:=hvl.at (L:=[]) mb J
  have E6:∀(L:List b9) (j:Nat) (u:Value),(jm s[k])[j]?=aj u->At B L ⟨b,off+k*3+j,ak⟩ u:=λL=>by
   obtain⟨b',zO,he,h⟩:=hvl.at (L:=L) mb J
   cases he
   exact h k c1
  clear dy;have hxr:=h0 s[k] (b_ c1);have wg:=VI (l:=g.aF) (x:=x) c1;have xJ:(ng g.aF (s.take k) x).length<=20000:=fI M8 (by rw[iN];omega);generalize ng g.aF (s.take k) x=ov at*;generalize G4:ng g.aF (s.take (k+1)) x=ov' at*;clear jW Lt hol;generalize s[k]=it at*;obtain⟨p,d,lo⟩:=it;have afC:=hxr;obtain⟨r1,r2,r3,r4,r5,r6⟩:=afC;dsimp only at r1 r2 r3 r4 r5 r6;obtain⟨kn,rfl⟩:=iw r1;obtain⟨dn,rfl⟩:=iw r3;obtain⟨ln,rfl⟩:=iw r5;have hk:kn<=g.aF.length:=by omega
  have H':=λw' (rX:Mem B [] w')=>tf g.aT g.bC bp cp g.aF vb w0 w' B kn hk ho rX (λi hi=>let ⟨b,c,h,_⟩:=AM i hi;⟨b,_,c,h⟩) oT;have Im:∀q∈g.aF,q.2.length<=8:=λq hq=>((cV hg).2.2.2.2.2 q hq).1;have hb8:=nc (l:=g.aF) (p:=(kn:Int)) Im
  repeat(first|refine GA ?_|refine gV (aY bM.eq aK.ty I I c1) ?_|refine gV (bm (cs:=jm ((kn:Int),(dn:Int),(ln:Int))) aK.ty I I (E6 _)) ?_)
  refine a8 I λg9=>?_;refine zL ?_;refine ij 4 (cs':=(jm ((kn:Int),(dn:Int),(ln:Int))).toArray) ?_;refine zL ?_
  try refine GA ?_
  refine dT ([aP go (Ce g.aT g.bC (ap bp g.aF.length cp) gm).toArray 314,aP g9 (jm ((kn:Int),(dn:Int),(ln:Int))).toArray 278]) (.calm 0 (.calm 1 (.calm 2 (.calm 3 (.calm 4 (.calm 5 (.one 6 (.calm 7 (.done))))))))) (bX [0,4]) ?_
  repeat(first|refine GW ?_|(refine GN ?_;first|refine QW (bm aK.ty I (cs:=[av az g.aT,av az g.bC,ap bp g.aF.length cp]) I (λj v h=>aH (i:=0) I (JZ h))) ?_|refine QW (aB (v:=av az (kn:Int)) aK.ty I (aH (i:=1) I I)) ?_))
  refine aL I ?_;refine aV (fB aI.en I I I) (λw hm=>H' _ (hm.pick [] akh I)) I I I ?_;rintro xb hxb
  conv=>arg 8;simp only[zJ,cI,ret,id_eq,Af]
  conv=>arg 7;simp only[Af]
  obtain⟨bb,cc,hbv,hlc,-⟩:=Ah (W:=B) (i:=5) (L:=[aP go (Ce g.aT g.bC (ap bp g.aF.length cp) gm).toArray 314,fq jt gm f c,aP g5 (eC x).toArray 148,aZ 278 3 v ov.length (ov.flatMap jm),aP g9 (jm ((kn:Int),(dn:Int),(ln:Int))).toArray 278,Br xb]) ho AM hk hxb rfl;rw[hbv];refine aM (bX [0,4]) ?_
  try refine GW ?_
  clear H'
  by_cases c2:dn<(fR g.aF (kn:Int)).length
  ·obtain⟨b2,o2,rfl,hba⟩:=Tn ho AM hk hxb hbv c2
   have hns:qV g.aF ((kn:Int),(dn:Int),(ln:Int))=aj (fR g.aF (kn:Int))[dn]:=by
    unfold qV;dsimp only;rw[dF,bK c2]
   have Hw:=λw=>YO (fR g.aF (kn:Int))[dn] x w;generalize (fR g.aF (kn:Int))[dn]=y at*;rw[hns]at wg
   try refine GA ?_
   refine dT ([aP g5 (eC x).toArray 148,aP g9 (jm ((kn:Int),(dn:Int),(ln:Int))).toArray 278,Br xb]) (.calm 0 (.calm 1 (.calm 2 (.calm 3 (.calm 4 (.calm 5 (.calm 6 (.calm 7 (.calm 8 (.calm 9 (.calm 10 (.calm 11 (.calm 12 (.calm 13 (.done))))))))))))))) (bX [2,4,5]) ?_
   by_cases c3:y=x
   ·subst c3
    rw[if_pos I]at wg;rw[decide_eq_true I]at Hw
    repeat(first|(refine GN ?_;first|refine QW QP ?_|refine QW (aB (v:=av az (dn:Int)) aK.ty I (aH (i:=1) I I)) ?_|refine QW (aY bM.eq aK.ty I I c2) ?_|refine QW (bm (cs:=eC y) aK.ty I I (hba _ 2 I)) ?_|refine QW (aO (i:=0) aK.ty I I I) ?_|refine QW (D6 I I (by kernel_rfl) Hw) ?_|refine GX ?_)|refine GW ?_)
    repeat(first|refine GA ?_|refine gV (aB (v:=av az (dn:Int)) aK.ty I (aH (i:=4) I I)) ?_)
    refine bV (i:=4) I I I I I I ?_;refine zL ?_
    repeat(first|refine GA ?_|refine gV (aO (i:=4) aK.ty I I I) ?_)
    refine jO (i:=3) I I I I I I I (λz h=>by cases h;rfl) J J I λz v'=>?_;refine zL ?_
    try refine GA ?_
    refine dm [0,1,2,3] ?_;exact bT (k+1,v') (by show k+1<=s.length;omega) (by show s.length-(k+1)<s.length-k;omega) (hl:=by dsimp only;rw[G4,wg,bI,fV];rfl)
   rw[if_neg (λh=>c3 (ra h))]at wg;rw[decide_eq_false c3]at Hw
   repeat(first|(refine GN ?_;first|refine QW QP ?_|refine QW (aB (v:=av az (dn:Int)) aK.ty I (aH (i:=1) I I)) ?_|refine QW (aY bM.eq aK.ty I I c2) ?_|refine QW (bm (cs:=eC y) aK.ty I I (hba _ 2 I)) ?_|refine QW (aO (i:=0) aK.ty I I I) ?_|refine QW (D6 I I (by kernel_rfl) Hw) ?_|refine GX ?_)|refine GW ?_)
   try refine GA ?_
   refine dm [0,1,2,3] ?_;exact bT (k+1,v) (by show k+1<=s.length;omega) (by show s.length-(k+1)<s.length-k;omega) (hl:=by dsimp only;rw[G4,wg];rfl)
  have hns:qV g.aF ((kn:Int),(dn:Int),(ln:Int))=none:=by
   unfold qV;dsimp only;rw[dF,k7 J]
  rw[hns,if_neg (λh=>by cases h)]at wg
  try refine GA ?_
  refine dT ([aP g5 (eC x).toArray 148,aP g9 (jm ((kn:Int),(dn:Int),(ln:Int))).toArray 278,Br xb]) (.calm 0 (.calm 1 (.calm 2 (.calm 3 (.calm 4 (.calm 5 (.calm 6 (.calm 7 (.calm 8 (.calm 9 (.calm 10 (.calm 11 (.calm 12 (.calm 13 (.done))))))))))))))) (bX [2,4,5]) ?_
  repeat(first|refine GW ?_|(refine GN ?_;first|refine QW (aB (v:=av az (dn:Int)) aK.ty I (aH (i:=1) I I)) ?_))
  try refine GA ?_
  refine dm [0,1,2,3] ?_;exact bT (k+1,v) (by show k+1<=s.length;omega) (by show s.length-(k+1)<s.length-k;omega) (hl:=by dsimp only;rw[G4,wg];rfl)
 ·obtain rfl:k=s.length:=by omega
  rw[pY]
  try refine GA ?_
  refine bx [0,1] [2,3] akh I I (fB aI.en I I I) (λw hm hb=>jW v Lt J w _ (ho.on hm λo h=>Dl h) (ZC.row hm (i:=3) I [0,1] I akh) hb) I I I ?_;rintro⟨f2,c2,v2⟩ ⟨WK,afD⟩
  conv=>arg 8;simp only[zJ,cI,ret,id_eq,wo,opL]
  conv=>arg 7;simp only[wo]
  try refine GA ?_
  exact cO I I λw hm=>hm.cC (S:=wo g T (ng g.aF s x) bp cp go gm c) (f2,c2,v2) ⟨WK,afD⟩ [2,3,4] akh I
end bZ
namespace bZ
open Go.RowKit cK dS aU dL dP bJ cD
def jT(g:ep):List (List Int)×List (List bJ.Item)×Int:=if cz g≠0 then([],[],cz g)else match allI g.aF g.aT.toNat g.bC.toNat (kG g)with
 |some (Nx,S)=>(Nx,S,0)
 |none=>([],[],8)
def acH(g:ep):Spec (Value×Value×List Value×(Nat->Prop)×List Value×(Nat->Prop)):=⟨λ_=>True,λx=> .tuple #[aQ #[x.1,x.2.1],av az (jT g).2.2],λx=>[aZ 273 1 x.1 (jT g).2.1.length x.2.2.1,eh (bO J_) x.2.2.2.1 (x.2.2.1.map λv=>[v]) (jT g).2.1,aZ 26 1 x.2.1 (jT g).1.length x.2.2.2.2.1,eh (bO fP) x.2.2.2.2.2 (x.2.2.2.2.1.map λv=>[v]) (jT g).1]⟩
theorem M9(w:World):(df 203 (#[]:Array (Nat×Value))).run aD w= .ok (aQ #[ap ak 0 0,ap ak 0 0]) w:=by kernel_rfl
theorem wt{l:List aU.Prod}{T:Nat}{s:List bJ.Item}(hw:∀q∈l,q.2.length<=8)(hl:l.length<=40)(hT:T<=30)(h:∀it∈s,eG l T it):xd s:=λit hit=>by
 obtain⟨a1,a2,a3,a4,a5,a6⟩:=h it hit;have:=nc (l:=l) (p:=it.1) hw;omega
theorem ZC.els{W:bL}{L Lx:List b9}{w:World}(hm:Mem W L w){i n:Nat}{F:Nat->Prop}{xe:List Value}{S:List (List bJ.Item)}(hi:L[i]?=aj (eh (bO J_) F (xe.map λv=>[v]) S))(is:List Nat)(hL:Lx=is.filterMap λi=>L[i]?)(hni:i∉is){s:List bJ.Item}(hs:S[n]?=aj s){v:Value}(hv:xe[n]?=aj v):ZC (bL.on w Lx) v s.length (s.flatMap jm):=by
 obtain⟨hn,rfl⟩:=dg.1 hs;obtain⟨⟨h1,h2⟩,h3⟩:=hm.get hi;have hnv:n<xe.length:=(dg.1 hv).1;obtain⟨v',e,hs⟩:=h2 n hn (by rw[dA];exact hnv);rw[ta]at e;obtain rfl:v=v':=by
  have:=(dg.1 hv).2;rw[this]at e;exact(Zo e).1
 obtain⟨base,cap,rfl,a1,a2,a3⟩:=hs;refine⟨base,cap,rfl,a1,a2,λh0=>?_⟩;obtain⟨b,off,rfl,hF,_⟩:=a3 h0;have tW:=ky.flat (f:=jm) (c:=3) (hc:=λ_=>rfl) (p:=λ_=>True) (F:=F) akh (⟨aj ⟨b,off,ak⟩,cap,rfl,a1,a2,a3⟩:ky J_ F w _ S[n]);obtain⟨M7,A9,e',_,_,q⟩:=tW;obtain⟨b',zO,e2,hr⟩:=q h0
 cases e'
 cases e2
 refine⟨b,off,rfl,⟨h3 b hF,?_⟩,hr⟩;rintro⟨o,ho,hfo⟩;subst hL;obtain⟨j,hj,Sx⟩:=Qz.1 ho;exact hm.owns.apart i j _ _ (λh=>hni (h▸hj)) hi Sx b (.inr hF) hfo
theorem ZE{a b c k:Nat}(h1:a<=b+12000)(h2:b<=c+12000*k):a<=c+12000*(k+1):=by rw[Nat.mul_succ,<-k9];exact fI h1 (Nat.add_le_add_right h2 _)
theorem Fg:∀(l:List Value),(l.map λv=>[v]).flatten=l
 |[]=>rfl
 |v::l=>by rw[gv,List.flatten_cons,Fg l];rfl
theorem Cj{w:World}{v:Value}{l:List Int}(hp:∀x∈l,cK.dU x)(h:(aZ 3 1 v l.length (l.map (av .i64))).holds w):(bO fP).is (λk=>v.ownBlock=aj k) w [v] l:=
 ⟨v,rfl,ky.of_flat (by have:=Sl.dD h;rwa [show l.map (av .i64)=l.flatMap (λn=>[av .i64 n])by rw[List.map_eq_flatMap]]at this) hp (λ_ h=>h) (λa n cp hv=>by rw[hv];rfl)⟩
theorem VJ(v:Value)(g:ep)(w:World)(hG:kK (λk=>k<w.heap.size) w v g):
 Calls aD 86 #[v] w (bY (acH g) w):=by
 have hG0:=hG;have jw:=λw' (hg:Gr w w')=>kj v g w' (hG.gr hg);obtain⟨vp,rfl,hp,ht,hn⟩:=hG;obtain⟨vb,bp,cp,rfl,-,-,AM,oT⟩:=Zc hp;have CI:=J0 g.aT g.bC (ap bp g.aF.length cp);have C8:=M9;have hO:jT g=if cz g≠0 then([],[],cz g)else match allI g.aF g.aT.toNat g.bC.toNat (kG g)with
  |some (Nx,S)=>(Nx,S,0)
  |none=>([],[],8):=rfl
 unfold acH;refine enter (args:=[dM g.aT g.bC (ap bp g.aF.length cp)]) (n:=81) Tryz.func86 I I I ?_;refine bW (bB (bP I I I λg1=>?_));refine zL ?_
 try refine GA ?_
 refine a8 I λg2=>?_;refine zL ?_
 repeat(first|refine GA ?_|refine gV (aO (i:=0) aK.ty I I I) ?_)
 refine aV (i_ aI.en I I) (λw hm=>jw w hm.below) I I I ?_;intro _ _;refine zL ?_
 by_cases c0:cz g=0
 ·rw[if_neg (by rw[c0];simp)]at hO
  rw[c0];obtain⟨hT1,hT2,hN1,Yc,Ci,hgb⟩:=cV c0;have Im:∀q∈g.aF,q.2.length<=8:=λq hq=>(hgb q hq).1;obtain⟨T,Kc⟩:∃T:Nat,g.aT=(T:Int):=⟨g.aT.toNat,by omega⟩;obtain⟨N,hNn⟩:∃N:Nat,g.bC=(N:Int):=⟨g.bC.toNat,by omega⟩;rw[show g.aT.toNat=T by omega,show g.bC.toNat=N by omega]at hO;have hT:T<=30:=by omega
  have ahm:0<g.aF.length->∃b off,bp=aj ⟨b,off,ak⟩/\∀i,i<g.aF.length->Rd w b (off+i*2) [av az (dc g.aF (i:Int)).1,vb i]:=λh=>let ⟨b,off,h1,_,h3⟩:=oT h;⟨b,off,h1,λi hi=>(h3 i hi).1⟩
  have jW:=λgo gm l0 vl h1 h2 w' B' LN wZ rX=>wq g c0 bp cp vb w hG0 AM ahm go gm 0 (λ_=>ak) T Kc hT l0 vl h1 h2 (λx v h=>by cases h) J w' B' LN wZ rX;have hst:=λgo gm c f s x vl h1 h2 h3 h4 w' B' LN wZ rX=>Kd g c0 bp cp vb w hG0 AM ahm go gm c f T Kc hT s x vl h1 h2 h3 h4 w' B' LN wZ rX;have Lv:=GZ T N J J (ap bp g.aF.length cp)
  repeat(first|refine GA ?_|refine gV (aO (i:=0) aK.ty I I I) ?_)
  refine aV (i_ aI.en I I) (λw hm=>CI w) I I I ?_;rintro⟨go,gm⟩ _
  conv=>arg 8;simp only[zJ,cI,ret,id_eq,acr]
  conv=>arg 7;simp only[acr]
  try refine GA ?_
  refine Bg (K:=iC) I λgq=>?_;refine zL ?_
  try refine GA ?_
  refine a8 I λg6=>?_;refine zL ?_;refine bV (i:=5) I I I I I I ?_;refine zL ?_
  try refine GA ?_
  refine a8 I λg7=>?_;refine zL ?_
  repeat(first|refine GA ?_|refine gV (w7 I I) ?_|refine gV (aB (v:=ap bp g.aF.length cp) aK.ty I (aH (i:=0) I I)) ?_|refine gV (aB (v:=av az g.aT) aK.ty I (aH (i:=0) I I)) ?_|refine gV (bD I (Il _ _)) ?_)
  refine fN (cs:=(jm ((g.aF.length:Int),0,g.aT)).toArray) I I I I I λg33=>?_;refine zL ?_;refine zr (i:=7) (m:=1) 3 I I akh ?_;refine zL ?_;have WL:∀x∈[(((g.aF.length:Int),0,g.aT):bJ.Item)],eG g.aF T x:=by rw[Kc];exact iI Ci hT
  try refine GA ?_
  refine bx [3,2] [0,1,4,5,6] akh I I (fB aI.en I I I) (λw' hm hb=>jW go gm [((g.aF.length:Int),0,g.aT)] _ WL (by simp) w' _ ((qx.self w).on hm λo h=>Dl h) (ZC.row hm (i:=7) I [3,2] I akh) hb) I I I ?_;rintro⟨f2,c2,v2⟩ ⟨WK,zw⟩
  conv=>arg 8;simp only[zJ,cI,ret,id_eq,wo,opL]
  conv=>arg 7;simp only[wo]
  have yx:km g.aF T (kG g) [((g.aF.length:Int),0,g.aT)]=nT g.aF T (kG g):=by rw[Kc];rfl
  rw[yx];have afE:∀it∈nT g.aF T (kG g),eG g.aF T it:=jq Im Ci hT (iI Ci hT);have ahn:=v_ (lk:=kG g) Im Ci hT (l0:=[((g.aF.length:Int),0,(T:Int))]) (iI Ci hT);have aho:(nT g.aF T (kG g)).length<=11439:=te Im Ci hT (iI Ci hT);dsimp only at WK zw;refine wY 273 1 ?_;refine LX (eh (bO J_) (λ_=>False) [] []) (λk hk=>hk.elim (λh=>by cases h) id) (λw=>jI) ?_;refine zL ?_;have hsm:=wt Im Ci hT afE;have xt:jC [] (nT g.aF T (kG g))=(0,[nT g.aF T (kG g)]):=if_neg (by simp)
  try refine GA ?_
  refine bx [3,2,4,8,9,7] [0,1,5,6] akh I I (CJ aI.en I I) (λw' hm hb=>Cf g6 gq g7 (ap ak 0 0) (ap ak 0 0) [] (λ_=>False) [] v2 (nT g.aF T (kG g)) (λt h=>by cases h) hsm (by simp) J w' _ hb) I I I ?_;rintro⟨vS,xe,F⟩ _
  conv=>arg 8;simp only[zJ,cI,ret,id_eq,stL]
  rw[xt];dsimp only;refine wY 26 1 ?_;refine LX (eh (bO fP) (λ_=>False) [] []) (λk hk=>hk.elim (λh=>by cases h) id) (λw=>jI) ?_;refine zL ?_
  try refine GA ?_
  refine d_ (ι:=Nat×List (List bJ.Item)×List (List Int)×(RK->Option Value)×Nat×Value×Value×List Value×(Nat->Prop)×List Value×(Nat->Prop))
   (λ(n,S,Nx,f,c,_,_,_,_,_,_)=>n<=S.length/\Nx.length=n/\JX g.aF T (kG g) S/\S.length<=200/\xI g.aF T N (kG g) (202-n) n Nx S=allI g.aF T N (kG g)/\ko (kG g) f/\c<=12000+1200000*n/\∀t∈S,t.length<=11439)
   (λ(n,_,_,_,_,_,_,_,_,_,_)=>[(1,aJ (aj ⟨g1,0,ak⟩)),(2,aJ (aj ⟨g2,0,ak⟩)),(5,aJ (aj ⟨go,0,ak⟩)),(7,aJ (aj ⟨g7,0,ak⟩)),(8,.func (.func 127) #[] #[aJ (aj ⟨g6,0,ak⟩),aJ (aj ⟨g7,0,ak⟩)]),(9,av az (n:Int))])
   (λ(_,S,Nx,f,c,vS,vN,xe,F,Ck,G)=>[aP g1 (dM g.aT g.bC (ap bp g.aF.length cp)).cells 33,aP g2 #[ap ak 0 0,ap ak 0 0] 203,aP go (Ce g.aT g.bC (ap bp g.aF.length cp) gm).toArray 314,fq jt gm f c,aP g6 #[.map (aj gq)] 175,fq iC gq (kR (S.map iJ)) S.length,aP g7 #[vS,vN] 203,aZ 273 1 vS S.length xe,eh (bO J_) F (xe.map λv=>[v]) S,aZ 26 1 vN Nx.length Ck,eh (bO fP) G (Ck.map λv=>[v]) Nx]) (λ(n,_,_,_,_,_,_,_,_,_,_)=>202-n)
   (0,[nT g.aF T (kG g)],[],f2,c2,vS,ap ak 0 0,xe,F,[],λ_=>False) ⟨bH _,rfl,⟨by simp,λs hs=>by rw[dO.1 hs];exact afE,λs hs=>by rw[dO.1 hs];exact ahn⟩,by simp,rfl,WK,by omega,λt ht=>by rw[dO.1 ht];exact aho⟩ ?_
  clear jW afE ahn aho hsm xt WK zw WL yx CI jw;rintro⟨n,S,Nx,f,c,vS,vN,xe,F,Ck,G⟩ ⟨i1,i2,i3,i4,i5,i6,i7,i8⟩;dsimp only at i1 i2 i3 i4 i5 i6 i7 i8⊢;refine iR (i:=7) I fF λfJ=>?_;obtain⟨aS,cS,rfl,-,haS⟩:=fJ
  by_cases c1:n<S.length
  ·rw[show 202-n=(201-n)+1 by omega,xI,if_pos c1]at i5
   have hgd:S.getD n []=S[n]:=by rw[cB,bK c1];rfl
   rw[hgd]at i5;have WL:=i3.right S[n] (b_ c1);have hsn:S[n]?=aj S[n]:=bK c1;generalize Py:S[n]=s0 at*;have hyl:(nh T N).length=T+N:=Ad T N;rw[<-Kc,<-hNn]at Lv;generalize nh T N=ys at*
   repeat(first|refine GA ?_|refine gV (aB (v:=ap aS S.length cS) aK.ty I (aH (i:=6) I I)) ?_|refine gV (aO (i:=0) aK.ty I I I) ?_)
   refine aV (i_ aI.en I I) (λw hm=>Lv w) I I I ?_;intro vy _
   conv=>arg 8;simp only[zJ,cI,ret,id_eq,cI]
   conv=>arg 7;simp only[cI]
   refine jJ (i:=11) I fF λfJ=>?_;obtain⟨ay,cy,rfl,-,hay⟩:=fJ
   try refine GA ?_
   refine jd 3 1 ?_
   conv=>arg 7;simp only[zA,zB,zC,zD,zE,zF,zG,zH,zI,cI,ret,id_eq]
   refine d_ (ι:=Nat×List Int×List (List bJ.Item)×(RK->Option Value)×Nat×Value×List Value×(Nat->Prop)×Value)
    (λ(k,nx,S',f',c',_,_,_,_)=>k<=ys.length/\(∃E,S'=S++E)/\JX g.aF T (kG g) S'/\S'.length<=200/\Ac g.aF T (kG g) s0 (ys.drop k) nx S'=Ac g.aF T (kG g) s0 ys [] S/\ko (kG g) f'/\c'<=c+12000*k/\nx.length=k/\(∀y∈nx,cK.dU y)/\∀t∈S',t.length<=11439)
    (λ(k,_,_,_,_,_,_,_,vx)=>[(1,aJ (aj ⟨g1,0,ak⟩)),(2,aJ (aj ⟨g2,0,ak⟩)),(5,aJ (aj ⟨go,0,ak⟩)),(7,aJ (aj ⟨g7,0,ak⟩)),(8,.func (.func 127) #[] #[aJ (aj ⟨g6,0,ak⟩),aJ (aj ⟨g7,0,ak⟩)]),(9,av az (n:Int)),(10,vx),(44,ap ay ys.length cy),(45,av az (ys.length:Int)),(46,av az (k:Int))])
    (λ(_,nx,S',f',c',vS',CR,F',vx)=>[aP g1 (dM g.aT g.bC (ap bp g.aF.length cp)).cells 33,aP g2 #[ap ak 0 0,ap ak 0 0] 203,aP go (Ce g.aT g.bC (ap bp g.aF.length cp) gm).toArray 314,fq jt gm f' c',aP g6 #[.map (aj gq)] 175,fq iC gq (kR (S'.map iJ)) S'.length,aP g7 #[vS',vN] 203,aZ 273 1 vS' S'.length CR,eh (bO J_) F' (CR.map λv=>[v]) S',aZ 26 1 vN Nx.length Ck,eh (bO fP) G (Ck.map λv=>[v]) Nx,aZ 148 2 (ap ay ys.length cy) ys.length (ys.flatMap eC),aZ 3 1 vx nx.length (nx.map (av .i64))]) (λ(k,_,_,_,_,_,_,_,_)=>ys.length-k)
    (0,[],S,f,c,ap aS S.length cS,xe,F,ap ak 0 0) ⟨bH _,⟨[],(du _).symm⟩,i3,i4,rfl,i6,by omega,rfl,(λy hy=>by cases hy),i8⟩ ?_
   clear Lv;rintro⟨k,nx,S',f',c',vS',CR,F',vx⟩ ⟨j1,⟨E,hE⟩,j3,j4,j5,j6,j7,j8,j9,j10⟩;dsimp only at j1 hE j3 j4 j5 j6 j7 j8 j9 j10⊢
   by_cases c2:k<ys.length
   ·have hn':n<S'.length:=by rw[hE,bI];omega
    have ahp:S'[n]?=aj s0:=by rw[hE,List.getElem?_append_left c1];exact hsn
    refine iR (i:=7) I fF λfJ=>?_;obtain⟨aS',cS',rfl,-,ai0⟩:=fJ;obtain⟨gS',rfl⟩:=ai0 J;refine iR (i:=8) I (λw h=>h.1.1) λhvl=>?_;rw[dA]at hvl;have hvn:CR[0+n]?=aj (CR[n]' J):=by rw[cX];exact bK _
    have ahq:CR[n]?=aj (CR[n]' J):=bK _;generalize CR[n]' J=vn at hvn ahq;obtain⟨gy,rfl⟩:=hay J;have dy:=λ(L:List b9) (i:Nat) (hL:L[i]?=aj (aZ 148 2 (ap (aj ⟨gy,0,ak⟩) ys.length cy) ys.length (ys.flatMap eC)))=>rP (W:=(w:bL)) E4 hL c2;rw[eZ c2,Ac]at j5;generalize ys[k]=x at*;have sa:s0.length<=11439:=j10 s0 (mh ahp)
    repeat(first|refine GA ?_|refine gV (aY bM.eq aK.ty I I c2) ?_|refine gV (bm (cs:=eC x) aK.ty I I (dy _ 11 I)) ?_)
    refine a8 I λg12=>?_;refine zL ?_;refine ij 13 (cs':=(eC x).toArray) ?_;refine zL ?_
    try refine GA ?_
    refine dT ([aP g7 #[ap (aj ⟨gS',0,ak⟩) S'.length cS',vN] 203,aZ 273 1 (ap (aj ⟨gS',0,ak⟩) S'.length cS') S'.length CR,aP g12 (eC x).toArray 148]) (.calm 0 (.calm 1 (.calm 2 (.calm 3 (.calm 4 (.calm 5 (.calm 6 (.one 7 (.calm 8 (.done)))))))))) (bX [6,7,13]) ?_
    repeat(first|refine GW ?_|(refine GN ?_;first|refine QW (aB (v:=ap (aj ⟨gS',0,ak⟩) S'.length cS') aK.ty I (aH (i:=0) I I)) ?_|refine QW (bU bM.eq aK.ty I I hn') ?_|refine QW (aB (v:=vn) aK.ty I (jh (i:=1) I hvn)) ?_|refine QW (aO (i:=2) aK.ty I I I) ?_))
    refine aL I ?_;refine bx [2,3] [0,1,4,5,6,7,8,9,10,11,12,13] akh I I (sV aI.en I I I I) (λw' hm hb=>hst go gm c' f' s0 x vn WL J j6 J w' _ ((qx.self w).on hm λo h=>Dl h) (ZC.els hm (i:=8) I [2,3] I akh ahp ahq) hb) I I I ?_;rintro⟨f2,M6,v2⟩ ⟨WK,zw⟩;dsimp only at WK zw
    conv=>arg 8;simp only[zJ,cI,ret,id_eq,wo,opL]
    conv=>arg 7;simp only[wo]
    rw[show km g.aF T (kG g) (ng g.aF s0 x)=jr g.aF T (kG g) s0 x from I];refine aM (bX [4,5,11]) ?_
    try refine GW ?_
    try refine GA ?_
    refine jJ (i:=14) I fF λfJ=>?_;obtain⟨a2,cv2,rfl,-,ha2⟩:=fJ;obtain⟨hlE,hlC,hlS⟩:=H9 (lk:=kG g) Im Ci hT j3 WL x;have hcc:M6<=c+12000*(k+1):=ZE zw j7;have ai1:∀it∈jr g.aF T (kG g) s0 x,eG g.aF T it:=jq Im Ci hT (lz WL);have ai2:(jr g.aF T (kG g) s0 x).length<=11439:=te Im Ci hT (lz WL)
    by_cases c3:jr g.aF T (kG g) s0 x=[]
    ·have hcell:qW g.aF T (kG g) s0 x S'=(-1,S'):=if_pos c3
     rw[hcell,if_neg (by show ¬200<S'.length;omega)]at j5;dsimp only at j5;have hl0:(jr g.aF T (kG g) s0 x).length=0:=by rw[c3];rfl
     repeat(first|refine GA ?_|refine gV (aB (v:=ap (aj ⟨gS',0,ak⟩) S'.length cS') aK.ty I (aH (i:=4) I I)) ?_)
     refine ku (i:=10) I I I I I I (λz h=>by cases h;rfl) J J I λz vx'=>?_;refine zL ?_
     try refine GA ?_
     refine dm [0,1,12,13,2,3,4,5,6,7,8,9,10] ?_;exact bT (k+1,nx++[-1],S',f2,M6,ap (aj ⟨gS',0,ak⟩) S'.length cS',CR,F',vx') ⟨by show k+1<=ys.length;omega,⟨E,hE⟩,j3,j4,j5,WK,hcc,by show(nx++[-1]).length=k+1;rw[bI,j8];rfl,λy hy=>(fx.1 hy).elim (j9 y) λh=>by rw[dO.1 h];exact⟨by omega,by omega⟩,j10⟩ (by show ys.length-(k+1)<ys.length-k;omega) (hl:=by dsimp only;rw[bI,e7];rfl)
    have hcell:qW g.aF T (kG g) s0 x S'=(((jC S' (jr g.aF T (kG g) s0 x)).1:Int),(jC S' (jr g.aF T (kG g) s0 x)).2):=if_neg c3;have hsm:=wt Im Ci hT ai1;have hSm:∀t∈S',xd t:=λt ht=>wt Im Ci hT (j3.right t ht);have An:0<(jr g.aF T (kG g) s0 x).length:=List.length_pos_iff.2 c3;have hq:(jC S' (jr g.aF T (kG g) s0 x)).1<=S'.length:=by
     unfold jC;split
     ·rename_i hm;exact Nat.le_of_lt (pH hm)
     exact bz _
    rw[hcell]at j5 hlE hlC hlS;dsimp only at j5 hlE hlC hlS
    try refine GA ?_
    refine bx [2,3,4,5,6,14] [0,1,7,8,9,10,11,12,13] akh I I (CJ aI.en I I) (λw' hm hb=>Cf g6 gq g7 (ap (aj ⟨gS',0,ak⟩) S'.length cS') vN CR F' S' _ (jr g.aF T (kG g) s0 x) hSm hsm J J w' _ hb) I I I ?_;rintro⟨vS2,ai3,F2⟩ _
    conv=>arg 8;simp only[zJ,cI,ret,id_eq,stL]
    have Fh:∀t∈(jC S' (jr g.aF T (kG g) s0 x)).2,t.length<=11439:=by
     unfold jC;split;exact j10;intro t ht;rcases fx.1 ht with h|h
     exact j10 t h;rw[dO.1 h];exact ai2
    generalize jC S' (jr g.aF T (kG g) s0 x)=R at*;obtain⟨q,S2⟩:=R;dsimp only at j5 hlE hlC hlS hq Fh⊢;refine jJ (i:=12) I fF λfJ=>?_;obtain⟨aS2,cS2,rfl,-,ajW⟩:=fJ;obtain⟨E2,hE2⟩:=hlE
    by_cases c4:200<S2.length
    ·rw[if_pos c4]at j5
     rw[<-j5]at i5
     repeat(first|refine GC ?_|refine gV (aB (v:=ap aS2 S2.length cS2) aK.ty I (aH (i:=11) I I)) ?_|refine gV (ea (b:=aC) I I (decide_eq_true J)) ?_|refine gV (bD I C8) ?_|refine GB ?_)
     have hOn:jT g=([],[],8):=by rw[hO,<-i5]
     rw[hOn];refine ij 1 ?_;refine zL ?_
     try refine GA ?_
     refine dN 273 1 (qM (eh (bO J_) (λ_=>False) [] []) (λk hk=>hk.elim (λh=>by cases h) id) (λw=>jI) (dN 26 1 (qM (eh (bO fP) (λ_=>False) [] []) (λk hk=>hk.elim (λh=>by cases h) id) (λw=>jI) ?_)));exact eJ (i:=1) I I I I I λw hm=>hm.meets (S:=⟨λ(_:Value×Value×List Value×(Nat->Prop)×List Value×(Nat->Prop))=>True,λx=> .tuple #[aQ #[x.1,x.2.1],av az 8],λx=>[aZ 273 1 x.1 0 x.2.2.1,eh (bO J_) x.2.2.2.1 (x.2.2.1.map λv=>[v]) [],aZ 26 1 x.2.1 0 x.2.2.2.2.1,eh (bO fP) x.2.2.2.2.2 (x.2.2.2.2.1.map λv=>[v]) []]⟩) (ap ak 0 0,ap ak 0 0,[],λ_=>False,[],λ_=>False) trivial [14,15,16,17] akh I
    rw[if_neg c4]at j5
    repeat(first|refine GC ?_|refine gV (aB (v:=ap aS2 S2.length cS2) aK.ty I (aH (i:=11) I I)) ?_|refine gV (ea (b:=aE) I I (decide_eq_false J)) ?_|refine GB ?_)
    refine ku (i:=5) I I I I I I (λz h=>by cases h;rfl) J J I λz vx'=>?_;refine zL ?_
    try refine GA ?_
    refine dm [0,1,7,8,9,10,11,12,13,2,3,4,5] ?_;exact bT (k+1,nx++[(q:Int)],S2,f2,M6,ap aS2 S2.length cS2,ai3,F2,vx') ⟨by show k+1<=ys.length;omega,⟨E++E2,by rw[hE2,hE,dZ]⟩,hlS,by show S2.length<=200;omega,j5,WK,hcc,by show(nx++[(q:Int)]).length=k+1;rw[bI,j8];rfl,λy hy=>(fx.1 hy).elim (j9 y) λh=>by rw[dO.1 h];exact⟨by omega,by omega⟩,λt ht=>Fh t ht⟩ (by show ys.length-(k+1)<ys.length-k;omega) (hl:=by dsimp only;rw[bI,e7];rfl)
   obtain rfl:k=ys.length:=by omega
   rw[pX (bz _),Ac]at j5;rw[<-j5]at i5;dsimp only at i5
   repeat(first|refine GA ?_|refine gV (aB (v:=vN) aK.ty I (aH (i:=6) I I)) ?_)
   refine aW (i:=12) I λPB HJ=>?_;refine ku (i:=9) I I PB HJ I I (λz h=>by cases h;rfl) J J I λz vN'=>?_;refine zL ?_;refine pF (eh (bO fP) (λk=>G k\/vx.ownBlock=aj k) ((Ck.map λv=>[v])++[[vx]]) (Nx++[nx])) 12 10 [0,1,2,3,4,5,6,7,8,9] akh I I I (λk hk=>hk.elim (λh=>by cases h) λh=>h.elim (λh=> .inr (.inr h)) λh=> .inl (.inl h)) (λw hr he=>mZ he (Cj j9 hr) (Ak hr)) ?_;refine zL ?_
   try refine GA ?_
   refine aW (i:=9) I λlD me=>bV (i:=6) I I I lD me I ?_;refine zL ?_
   try refine GA ?_
   exact bT (n+1,S',Nx++[nx],f',c',vS',vN',CR,F',Ck++[vx],λk=>G k\/vx.ownBlock=aj k) ⟨by show n+1<=S'.length;rw[hE,bI];omega,by show(Nx++[nx]).length=n+1;rw[bI,i2];rfl,j3,j4,by show xI g.aF T N (kG g) (202-(n+1)) (n+1) (Nx++[nx]) S'=_;rw[show 202-(n+1)=201-n by omega];exact i5,j6,by dsimp only;omega,j10⟩ (by show 202-(n+1)<202-n;omega) (hl:=by dsimp only;rw[bI,e7];rfl)
  have hA:allI g.aF T N (kG g)=aj (Nx,S):=by rw[<-i5,show 202-n=(201-n)+1 by omega,xI,if_neg c1]
  rw[hA]at hO;have hO:jT g=(Nx,S,0):=hO;rw[hO];refine iR (i:=9) I fF λfJ=>?_;obtain⟨aN,cN,rfl,-⟩:=fJ
  repeat(first|refine GA ?_|refine gV (aB (v:=ap aS S.length cS) aK.ty I (aH (i:=6) I I)) ?_|refine gV (aO (i:=6) aK.ty I I I) ?_)
  refine ij 1 (cs':=#[ap aS S.length cS,ap aN Nx.length cN]) ?_;refine zL ?_
  try refine GA ?_
  exact eJ (i:=1) I I I I I λw hm=>hm.meets (S:=⟨λ(_:Value×Value×List Value×(Nat->Prop)×List Value×(Nat->Prop))=>True,λx=> .tuple #[aQ #[x.1,x.2.1],av az 0],λx=>[aZ 273 1 x.1 S.length x.2.2.1,eh (bO J_) x.2.2.2.1 (x.2.2.1.map λv=>[v]) S,aZ 26 1 x.2.1 Nx.length x.2.2.2.2.1,eh (bO fP) x.2.2.2.2.2 (x.2.2.2.2.1.map λv=>[v]) Nx]⟩) (ap aS S.length cS,ap aN Nx.length cN,xe,F,Ck,G) trivial [7,8,9,10] akh I
 ·rw[if_pos c0]at hO
  rw[hO]
  repeat(first|refine GC ?_|refine gV (dl (b:=aC) I I (decide_eq_true c0)) ?_|refine gV (bD I C8) ?_|refine GB ?_)
  refine ij 1 ?_;refine zL ?_
  try refine GA ?_
  refine dN 273 1 (qM (eh (bO J_) (λ_=>False) [] []) (λk hk=>hk.elim (λh=>by cases h) id) (λw=>jI) (dN 26 1 (qM (eh (bO fP) (λ_=>False) [] []) (λk hk=>hk.elim (λh=>by cases h) id) (λw=>jI) ?_)));exact eJ (i:=1) I I I I I λw hm=>hm.meets (S:=⟨λ(_:Value×Value×List Value×(Nat->Prop)×List Value×(Nat->Prop))=>True,λx=> .tuple #[aQ #[x.1,x.2.1],av az (cz g)],λx=>[aZ 273 1 x.1 0 x.2.2.1,eh (bO J_) x.2.2.2.1 (x.2.2.1.map λv=>[v]) [],aZ 26 1 x.2.1 0 x.2.2.2.2.1,eh (bO fP) x.2.2.2.2.2 (x.2.2.2.2.1.map λv=>[v]) []]⟩) (ap ak 0 0,ap ak 0 0,[],λ_=>False,[],λ_=>False) trivial [2,3,4,5] akh I
end bZ
namespace bJ
open aU dL cD
section
variable{l:List aU.Prod}{T N:Nat}{lk:Int->Int->Nat}{Nx:List (List Int)}{S:List (List Item)}
theorem M_{P:List Item->Prop}(hP:∀s x,(∀it∈s,eG l T it)->P s->P (jr l T lk s x)){s:List Item}(hs:∀it∈s,eG l T it)(h0:P s):∀(xs:List dr) (nx:List Int) (S:List (List Item)) (Zb:List Int) (S':List (List Item)),(∀s∈S,P s)->Ac l T lk s xs nx S=aj (Zb,S')->∀s∈S',P s
 | [],nx,S,Zb,S',hS,h=>by
  simp only[Ac,dh,fX]at h;obtain⟨_,rfl⟩:=h;exact hS
 | x::xs,nx,S,Zb,S',hS,h=>by
  rw[Ac]at h
  by_cases c:200<(qW l T lk s x S).2.length
  rw[if_pos c]at h;cases h;rw[if_neg c]at h;refine M_ hP hs h0 xs _ _ Zb S' ?_ h;intro s' wZ;unfold qW at wZ;split at wZ;exact hS s' wZ;unfold jC at wZ;dsimp only at wZ;split at wZ;exact hS s' wZ;rcases fx.1 wZ with h'|h'
  exact hS s' h';rw[dO.1 h'];exact hP s x hs h0
theorem Fi{P:List Item->Prop}(hw:∀q∈l,q.2.length<=8)(hl:l.length<=40)(hT:T<=30)(hP:∀s x,(∀it∈s,eG l T it)->P s->P (jr l T lk s x)):∀(f n:Nat) (Nx:List (List Int)) (S:List (List Item)) (Nx':List (List Int)) (S':List (List Item)),(∀s∈S,P s/\∀it∈s,eG l T it)->xI l T N lk f n Nx S=aj (Nx',S')->∀s∈S',P s
 |0,_,_,_,_,_,_,h=>by cases h
 | f + 1,n,Nx,S,Nx',S',hS,h=>by
  rw[xI]at h
  by_cases c:n<S.length
  ·rw[if_pos c]at h
   have yP:S.getD n []=S[n]:=by rw[cB,bK c];rfl
   have hn:=hS _ (b_ c);rw[<-yP]at hn
   cases e:Ac l T lk (S.getD n []) (nh T N) [] S with
   |none=>rw[e]at h;cases h
   | some r=>
    obtain⟨nx,S1⟩:=r;rw[e]at h;dsimp only at h;have hQ:∀s x,(∀it∈s,eG l T it)->(P s/\∀it∈s,eG l T it)->P (jr l T lk s x)/\∀it∈jr l T lk s x,eG l T it:=λs x h1 h2=>⟨hP s x h1 h2.1,jq hw hl hT (lz h1)⟩;exact Fi hw hl hT hP f (n+1) _ S1 Nx' S' (M_ hQ hn.2 hn (nh T N) [] S nx S1 hS e) h
  rw[if_neg c]at h;simp only[dh,fX]at h;obtain⟨_,rfl⟩:=h;exact λs hs=>(hS s hs).1
theorem acI(hw:∀q∈l,q.2.length<=8)(hl:l.length<=40)(hT:T<=30)(h:allI l T N lk=aj (Nx,S)):∀q,q<S.length->∀it∈S.getD q [],it.1=(l.length:Int)->it.2.2=(T:Int):=by
 have Py:∀it∈nT l T lk,eG l T it:=jq hw hl hT (iI hl hT);have M5:∀{it2 it:Item},JW l T lk it2 it->it.1<(l.length:Int):=λ{it2 it} h=>by
  obtain⟨_,i,k,_,h2,_,_,_,rfl⟩:=h;show(i:Int)<_
  omega
 have:=Fi (P:=λs=>∀it∈s,it.1=(l.length:Int)->it.2.2=(T:Int)) (N:=N) hw hl hT (λs x hs hP it hit h1=>by
  have hm:=(iv (lk:=lk) hw hl hT (lz (x:=x) hs) (x:=it)).1 hit
  cases hm with
  |base hb=>
   obtain⟨it',h2,h3,rfl⟩:=MG.1 hb;exact hP it' h2 h1
  |step _ h2=>have:=M5 h2;omega) 202 0 [] [nT l T lk] Nx S (λs hs=>by
   rw[dO.1 hs];refine⟨λit hit h1=>?_,Py⟩;have hm:=(iv (lk:=lk) hw hl hT (iI hl hT) (x:=it)).1 hit
   cases hm with
   |base hb=>rw[dO.1 hb]
   |step _ h2=>have:=M5 h2;omega) h
 intro q hq it hit h1;have yP:S.getD q []=S[q]:=by rw[cB,bK hq];rfl
 rw[yP]at hit;exact this _ (b_ hq) it hit h1
theorem acJ(hw:∀q∈l,q.2.length<=8)(hl:l.length<=40)(hT:T<=30)(h:allI l T N lk=aj (Nx,S)):∀s∈S,s.length<=11439:=
 Fi (P:=λs=>s.length<=11439) (N:=N) hw hl hT (λs x hs _=>te hw hl hT (lz hs)) 202 0 [] [nT l T lk] Nx S (λs hs=>by
  rw[dO.1 hs];exact⟨te hw hl hT (iI hl hT),jq hw hl hT (iI hl hT)⟩) h
end
end bJ
namespace bZ
open Go.RowKit cK dS aU dL dP bJ cD
theorem Tp{g:ep}(h:(jT g).2.2=0):cz g=0/\allI g.aF g.aT.toNat g.bC.toNat (kG g)=aj ((jT g).1,(jT g).2.1):=by
 unfold jT at h⊢
 by_cases c:cz g=0
 ·rw[if_neg (by rw[c];simp)]at h⊢
  refine⟨c,?_⟩
  cases e:allI g.aF g.aT.toNat g.bC.toNat (kG g)with
  |none=>rw[e]at h;cases h
  |some r=>rfl
 rw[if_pos c]at h;exact absurd h c
theorem acK{g:ep}(h:(jT g).2.2≠0):(jT g).2.1=[]/\(jT g).1=[]:=by
 unfold jT at h⊢
 by_cases c:cz g=0
 ·rw[if_neg (by rw[c];simp)]at h⊢
  cases e:allI g.aF g.aT.toNat g.bC.toNat (kG g)with
  |none=>exact⟨rfl,rfl⟩
  |some r=>rw[e]at h;exact absurd I h
 rw[if_pos c];exact⟨rfl,rfl⟩
end bZ
namespace bZ
open Go.RowKit cK dS
def WrI(p:Nat->Nat->Prop)(v:Value):Prop:=v=ap ak 0 0\/∃g n cap,v=ap (aj ⟨g,0,ak⟩) n cap/\n<=cap/\cap<=9223372036854775807/\p g cap
theorem WrI.imp{p q:Nat->Nat->Prop}{v:Value}(h:WrI p v)(hpq:∀g cap,p g cap->q g cap):WrI q v:=
 h.elim .inl λ⟨g,n,cap,h1,h2,h3,h4⟩=> .inr ⟨g,n,cap,h1,h2,h3,hpq _ _ h4⟩
section
variable(e:TypeId)(sz:Nat)
def wrP(F:Nat->Prop)(w:World)(g cap:Nat):Prop:=F g/\∃cs:Array Value,w.heap[g]?=aj (.cells cs e (0,0))/\cs.size=cap*sz
variable{e sz}in
theorem wrP.stay{F:Nat->Prop}{w w':World}{g cap:Nat}(h:wrP e sz F w g cap)(hk:w'.heap[g]?=w.heap[g]?):wrP e sz F w' g cap:=
 let ⟨h1,cs,h2,h3⟩:=h;⟨h1,cs,by rw[hk];exact h2,h3⟩
def xy(F:Nat->Prop)(vs:List Value):b9 where
 A5:=ak
 more:=F
 holds:=λw=>(∀v∈vs,WrI (wrP e sz F w) v)/\∀k,F k->k<w.heap.size
 lt:=λw h k hk=>h.2 k (hk.elim (λh=>by cases h) id)
 stay:=λw w' h hs hb=>⟨λv hv=>(h.1 v hv).imp λg cap hp=>hp.stay (hb g (.inr hp.1)),λk hk=>iO (h.2 k hk) hs⟩
def wrX(F:Nat->Prop)(vs:List Value)(g c:Nat):b9 where
 A5:=ak
 more:=λk=>F k/\k≠g
 holds:=λw=>(F g/\∀v∈vs,WrI (λg' cap=>(g'=g/\cap*sz=c)\/(g'≠g/\wrP e sz F w g' cap)) v)/\∀k,F k->k≠g->k<w.heap.size
 lt:=λw h k hk=>by
  rcases hk with hk|hk
  cases hk
  exact h.2 k hk.1 hk.2
 stay:=λw w' h hs hb=>⟨⟨h.1.1,λv hv=>(h.1.2 v hv).imp λg' cap hp=>hp.imp id λ⟨a,b⟩=>⟨a,b.stay (hb g' (.inr ⟨b.1,a⟩))⟩⟩,λk hk lO=>iO (h.2 k hk lO) hs⟩
end
section
variable{e:TypeId}{sz:Nat}
theorem ZF(w:World):(xy e sz (λ_=>False) []).holds w:=⟨λv hv=>by simp at hv,λ_ h=>h.elim⟩
theorem QU{v:Value}{n:Nat}{xs:List Value}{w:World}(hr:(aZ e sz v n xs).holds w):WrI (wrP e sz (λk=>v.ownBlock=aj k) w) v:=by
 have h1:w.ownsRow 0 e sz v n xs:=hr;rcases h1.2 with⟨hv,h0⟩|⟨g,cap,cs,hv,hb,hg,ON,LJ,hcs,pq⟩
 exact .inl hv;exact .inr ⟨g,_,cap,hv,ON,by unfold maxLen at LJ;omega,by rw[hv];rfl,cs,hg,hcs⟩
variable{P:Program}{n:Nat}{W:bL}{fr:Fr}{L:List b9}{Q:Exit->Act->World->Prop}{ops:Array Oper}{rest:List Oper}{d:Nat}
theorem Mem.afF{w:World}{i:Nat}{F:Nat->Prop}{vs:List Value}{v:Value}(h:Mem W L w)(hi:L[i]?=aj (xy e sz F vs))(hv:v∈vs):v=ap ak 0 0\/∃g m cap cs,v=ap (aj ⟨g,0,ak⟩) m cap/\m<=cap/\cap<=9223372036854775807/\cs.size=cap*sz/\Mem W (L.set i (wrX e sz F vs g (cap*sz))++[aP g cs e]) w:=by
 have h1:(xy e sz F vs).holds w:=h.get hi;rcases h1.1 v hv with hv0|⟨g,m,cap,hv0,hm,hc,hF,cs,hg,hsz⟩
 exact .inl hv0;refine .inr ⟨g,m,cap,cs,hv0,hm,hc,by omega,?_⟩;have hr:Mem W (L.set i (wrX e sz F vs g (cap*sz))) w:=by
  refine h.qN (wrX e sz F vs g (cap*sz)) hi (λw' hw=>?_) λk hk=>hk.elim (λh=>by cases h) λh=> .inr h.1;subst hv0;have JA:=hw.1 _ hv;rcases JA with JA|⟨g0,m0,ajX,JA,_,_,_,cs0,hg0,ajY⟩
  cases JA
  cases JA
  refine⟨⟨hF,λu hu=>(hw.1 u hu).imp λg' A9 hp=>?_⟩,λk hk _=>hw.2 k hk⟩
  by_cases e:g'=g
  ·subst e
   obtain⟨_,cs',uf,wZ⟩:=hp;rw[hg0]at uf
   cases uf
   exact .inl ⟨rfl,by omega⟩
  exact .inr ⟨e,hp⟩
 have hoq:=h.owns.all i _ hi;have hlen:i<L.length:=(dg.1 hi).1;refine⟨h.low,ez.both hr.owns (ez.one hg λk hk=>hoq.2 k (.inr (by
  rcases hk with hk|hk
  simp only[aP,dh]at hk;subst hk;exact hF;exact hk.elim))) λa b oa ob ha hb k hk lO=>?_⟩
 match b,hb with
 | 0,hb=>
  simp only[List.getElem?_cons_zero,dh]at hb;subst hb;have hkg:k=g:=by
   rcases lO with lO|lO
   simp only[aP,dh]at lO;exact lO.symm;exact lO.elim
  by_cases e:i=a
  ·subst e
   rw[List.getElem?_set_self hlen]at ha;simp only[dh]at ha;subst ha;rcases hk with hk|hk
   cases hk
   exact hk.2 hkg
  rw[List.getElem?_set_ne e]at ha;exact h.owns.apart a i oa _ (Ne.symm e) ha hi k hk (.inr (by subst hkg;exact hF))
 |b+1,hb=>simp at hb
theorem xf{i:Nat}{F:Nat->Prop}{vs:List Value}{v:Value}(hi:L[i]?=aj (xy e sz F vs))(hv:v∈vs)(h0:v=ap ak 0 0->TL P n W ops Q rest fr L)
 (h:∀g m cap cs,v=ap (aj ⟨g,0,ak⟩) m cap->m<=cap->cap<=9223372036854775807->cs.size=cap*sz->TL P n W ops Q rest fr (L.set i (wrX e sz F vs g (cap*sz))++[aP g cs e])):TL P n W ops Q rest fr L:=⟨λa w hr hm=>by
 rcases hm.afF hi hv with a1|⟨g,m,cap,cs,a1,a2,a3,a4,a5⟩
 ·exact(h0 a1).go a w hr hm
 ·exact(h g m cap cs a1 a2 a3 a4).go a w hr a5⟩
theorem Fj{F:Nat->Prop}{vs:List Value}{g c:Nat}{cs:Array Value}{w:World}(h:(wrX e sz F vs g c).holds w)(hb:(aP g cs e).holds w)(hs:cs.size=c):(xy e sz F vs).holds w:=by
 refine⟨λv hv=>(h.1.2 v hv).imp λg' cap hp=>?_,λk hk=>?_⟩
 ·rcases hp with⟨rfl,hc⟩|⟨_,hp⟩
  exact⟨h.1.1,cs,hb,by omega⟩;exact hp
 by_cases q:k=g
 subst q;exact(jx.1 (show w.heap[k]?=aj (.cells cs e (0,0))from hb)).1;exact h.2 k hk q
theorem Fk{F:Nat->Prop}{vs:List Value}{g c:Nat}{cs:Array Value}(k:Nat)(h:(xy e sz F vs).e_ k):(wrX e sz F vs g c).e_ k\/(aP g cs e).e_ k:=by
 rcases h with h|h
 cases h
 by_cases q:k=g
 subst q;exact .inr (.inl I);exact .inl (.inr ⟨h,q⟩)
end
end bZ
namespace bZ
open Go.RowKit cK dS
theorem kC(a:Int):(cK.dQ a).length=1:=rfl
end bZ
namespace bZ
open Go.RowKit cK dS
theorem CS(v:Value)(l:List Int)(w:World)(hs:Sl w v l.length (l.flatMap cK.dQ))(hl:l.length*8<=140737488355328):
 Calls aD 97 #[v] w (bY (cI 3 1 l.length (l.flatMap cK.dQ) id) w):=by
 obtain⟨base,cap,rfl,lW,jS,eP⟩:=hs;unfold maxLen at jS;refine enter (args:=[ap base l.length cap]) (n:=8) Tryz.func97 I I I ?_;have sa:∀w',Gr w w'->Sl w' (ap base l.length cap) l.length (l.flatMap cK.dQ):=λw' hg=>Sl.gr ⟨base,cap,rfl,lW,jS,eP⟩ hg;clear eP
 cases base with
 | none=>
  repeat(first|refine GC ?_|refine gV (kx bM.eq I I I) ?_|refine GB ?_)
  have h0:l=[]:=by
   cases l with
   |nil=>rfl
   |cons x l=>obtain⟨_,_,h,_,_,h2⟩:=sa w (Gr.refl w);simp only[kH]at h;obtain⟨rfl,_⟩:=h;obtain⟨b,off,h,_⟩:=h2 (by simp);cases h
  subst h0;refine dN 3 1 ?_;exact cO I I λw hm=>hm.meets (S:=cI 3 1 0 [] id) _ trivial [0] akh I
 |some p=>
  repeat(first|refine GC ?_|refine gV (kx bM.eq I I I) ?_|refine GB ?_)
  refine w6 I λg=>?_
  try refine GA ?_
  refine eM (i:=0) I (λw' hm=>sa w' hm.below) I I (lV kC l) (S5 l) J J I λv'=>?_;rw[eI]
  try refine GA ?_
  refine cO I I λw hm=>?_;exact hm.meets (S:=cI 3 1 l.length (l.flatMap cK.dQ) id) v' trivial [0] akh (by simp[cI])
end bZ
namespace bZ
open Go.RowKit cK dS
def boC(b:Bool):List Value:=[.bool b]
theorem Tq(a:Bool):(boC a).length=1:=rfl
end bZ
namespace bZ
open Go.RowKit cK dS de eE
theorem acL{F:Nat->Prop}{w:World}{cs:List Value}{l:List Int}(h:(bO fP).is F w cs l):∃v,cs=[v]/\Sl w v l.length (l.flatMap cK.dQ):=by
 obtain⟨v,h1,h2⟩:=h;exact⟨v,h1,h2.flat akh⟩
theorem tp{w w':World}{v:Value}{l:List (List Int)}(h:ky (bO fP) (qy w) w v l)(hg:Gr w w'):ky (bO fP) (qy w') w' v l:=
 (h.stay λk hk=>hg.block k hk).mono λ_ hk=>iO hk hg.size
def G5(w:World)(v:Value)(m:MS):Prop:=
 ∃ vc vr vf vfol vl ve,v=aQ #[vc,vr,vf,vfol,vl,ve]/\Sl w vc m.ps.a_.length (m.ps.a_.flatMap ed)/\Sl w vr m.ps.rules.length (m.ps.rules.flatMap cK.dQ)/\Sl w vf m.first.length (m.first.flatMap cK.dQ)/\
  ky (bO fP) (qy w) w vfol m.ps.follow/\Sl w vl m.ps.last.length (m.ps.last.flatMap boC)/\Sl w ve m.empty.length (m.empty.flatMap boC)
theorem G5.gr{w w':World}{v:Value}{m:MS}(h:G5 w v m)(hg:Gr w w'):G5 w' v m:=by
 obtain⟨vc,vr,vf,vfol,vl,ve,h0,h1,h2,h3,h4,h5,h6⟩:=h;exact⟨vc,vr,vf,vfol,vl,ve,h0,h1.gr hg,h2.gr hg,h3.gr hg,tp h4 hg,h5.gr hg,h6.gr hg⟩
end bZ
namespace bZ
open Go.RowKit cK dS de gd eE
theorem Na(l:List Bool):l.flatMap boC=l.map fT:=Bx l
theorem acM{w:World}{x:PIx}{m:MS}(hl:x.vs.length=m.ps.follow.length)(h0:(aZ 116 4 x.vc m.ps.a_.length (m.ps.a_.flatMap ed)).holds w)(h1:(gJ x.vr m.ps.rules).holds w)(h2:(gJ x.vf m.first).holds w)(h3:(yQ x.vfol x.vs).holds w)(h4:(wj x.F x.vs m.ps.follow).holds w)
 (h5:(aZ 4 1 x.vl m.ps.last.length (m.ps.last.map fT)).holds w) (h6:(aZ 4 1 x.ve m.empty.length (m.empty.map fT)).holds w):G5 w (.agg (QE x)) m:=by
 refine⟨_,_,_,_,_,_,rfl,Sl.dD h0,?_,?_,acw h3 h4 hl,?_,?_⟩
 ·rw[sc];exact Sl.dD h1
 ·rw[sc];exact Sl.dD h2
 ·rw[Na];exact Sl.dD h5
 ·rw[Na];exact Sl.dD h6
theorem Mem.ai4{w:World}{B:bL}{L:List b9}{x:PIx}{m:MS}(i:Nat)(hm:Mem B L w)(hl:x.vs.length=m.ps.follow.length)(h:QD x m=[i,i+1,i+2,i+3,i+4,i+5,i+6].filterMap λj=>L[j]?)(hlen:i+6<L.length):G5 w (.agg (QE x)) m:=by
 have g:∀j,j<7->∃o,L[i+j]?=aj o/\(QD x m)[j]?=aj o:=by
  intro j hj;have e:∀k,k<7->∃o,L[i+k]?=aj o:=λk hk=>⟨_,bK J⟩;rw[h];obtain⟨o0,e0⟩:∃o,L[i]?=aj o:=e 0 J;obtain⟨o1,e1⟩:=e 1 J;obtain⟨o2,e2⟩:=e 2 J;obtain⟨o3,e3⟩:=e 3 J;obtain⟨o4,e4⟩:=e 4 J;obtain⟨o5,e5⟩:=e 5 J;obtain⟨o6,e6⟩:=e 6 J;simp only[List.filterMap_cons,e0,e1,e2,e3,e4,e5,e6,List.filterMap_nil]
  match j,hj with
  |0,_=>exact⟨_,e0,rfl⟩
  |1,_=>exact⟨_,e1,rfl⟩
  |2,_=>exact⟨_,e2,rfl⟩
  |3,_=>exact⟨_,e3,rfl⟩
  |4,_=>exact⟨_,e4,rfl⟩
  |5,_=>exact⟨_,e5,rfl⟩
  |6,_=>exact⟨_,e6,rfl⟩
 have k:∀j o,j<7->(QD x m)[j]?=aj o->o.holds w:=λj o hj ho=>by
  obtain⟨o',h1,h2⟩:=g j hj;rw[h2]at ho
  cases ho
  exact hm.get h1
 exact acM hl (k 0 _ J I) (k 1 _ J I) (k 2 _ J I) (k 3 _ J I) (k 4 _ J I) (k 5 _ J I) (k 6 _ J I)
end bZ
namespace eE
open de gd
structure Ke(m:MS):Prop where
 ok:QC m
 rules:∀r∈m.ps.rules,0<=r/\r<m.empty.length
 we:m.ps.a_.length<=200
 some:0<m.empty.length
 rv:m.empty.length<=20
theorem nV(bQ:Int):∀(e:Re) (p:PS),(∀r∈p.rules,0<=r/\r<=bQ)->0<=bQ->∀r∈(cP bQ e p).2.rules,0<=r/\r<=bQ
 | .empty,p,h,_=>h
 | .none,p,h,_=>h
 | .byte c,p,h,h0=>λr hr=>by
  have hr:r∈p.rules++[bQ]:=hr;rcases fx.1 hr with hr|hr
  exact h r hr;rw[dO.1 hr];omega
 | .star a,p,h,h0=>nV bQ a p h h0
 | .Js a b,p,h,h0=>nV bQ b _ (nV bQ a p h h0) h0
 | .Jr a b,p,h,h0=>nV bQ b _ (nV bQ a p h h0) h0
theorem Kf:∀(es:List Re) (i:Nat) (m m':MS),QC m->m.empty.length=i->(∀r∈m.ps.rules,0<=r/\r<i)->m.ps.a_.length<=200->l_ i m es=(0,m')->QC m'/\m'.empty.length=i+es.length/\(∀r∈m'.ps.rules,0<=r/\r<(i+es.length:Nat))/\m'.ps.a_.length<=200
 | [],i,m,m',h1,h2,h3,h4,h=>by
  cases h
  exact⟨h1,h2,λr hr=>by have:=h3 r hr;simpa using this,h4⟩
 | e ::r,i,m,m',h1,h2,h3,h4,h=>by
  rw[l_]at h;split at h
  cases h
  rename_i c
  have:=Kf r (i+1) (xL i m e) m' (Tj i h1 e).1 (by show(m.empty++[_]).length=_;simp[h2]) (λx hx=>by
   have:=nV i e m.ps (λr hr=>by have:=h3 r hr;omega) J x hx;omega) J h
  rw[db];rw[show i+(r.length+1)=i+1+r.length by omega];exact this
theorem Dm{es:List Re}{m:MS}(h0:0<es.length)(h20:es.length<=20)(h:l_ 0 .zero es=(0,m)):Ke m:=by
 obtain⟨h1,h2,h3,h4⟩:=Kf es 0 .zero m J8 rfl (λr hr=>by cases hr) (bH _) h;rw[cX]at h2 h3;exact⟨h1,λr hr=>by have:=h3 r hr;omega,h4,by omega,by omega⟩
end eE
namespace bZ
open Go.RowKit cK dS de gd eE
theorem Cm(v:Value)(l:List Int)(n:Nat)(w:World)(hv:Sl w v l.length (l.flatMap cK.dQ))(h:Ie n l):
 Calls aD 150 #[v,av az (n:Int)] w (bY (ret (.bool aC)) w):=by
 obtain⟨base,cap,rfl,lW,jS,eP⟩:=hv;unfold maxLen at jS;refine enter (args:=[ap base l.length cap,av az (n:Int)]) (n:=35) Tryz.func150 I I I ?_
 try refine GA ?_
 refine d_ (ι:=Nat) (λk=>k<=l.length) (λk=>[(0,ap base l.length cap),(1,av az (n:Int)),(7,ap base l.length cap),(8,av az l.length),(9,av az (k:Int))]) (λ_=>[]) (λk=>l.length-k) 0 (bH _) ?_;intro k h1
 by_cases c2:k<l.length
 ·obtain⟨b,off,rfl,hr⟩:=eP J
  have dy:=ib (L:=([]:List b9)) kC hr c2 0 _ I;have hx:=h.2 _ (b_ c2)
  by_cases c3:0<k
  ·have hp:=List.pairwise_iff_getElem.1 h.1 (k-1) k J c2 J
   have rm:=ib (L:=([]:List b9)) kC hr (k:=k-1) J 0 _ I;generalize l[k]=x at*;generalize l[k-1]' J=y at*
   repeat(first|refine GC ?_|refine gV (aY bM.eq aK.ty I I c2) ?_|refine gV (aB (v:=av az x) aK.ty I dy) ?_|refine gV (dq (b:=aE) I I (decide_eq_false J)) ?_|refine gV (aY (j:=k-1) bM.eq aK.ty I I J) ?_|refine gV (aB (v:=av az y) aK.ty I rm) ?_|refine gV (ff (b:=aE) I I (decide_eq_false J)) ?_|refine gV (ea (b:=aC) I I (decide_eq_true J)) ?_|refine gV (eL (r:=((k-1:Nat):Int)) I I J J J) ?_|refine gV (A7 (b:=aE) I I (decide_eq_false J)) ?_|refine GB ?_)
   exact bT (k+1) J (by show l.length-(k+1)<l.length-k;omega)
  generalize l[k]=x at*
  repeat(first|refine GC ?_|refine gV (aY bM.eq aK.ty I I c2) ?_|refine gV (aB (v:=av az x) aK.ty I dy) ?_|refine gV (dq (b:=aE) I I (decide_eq_false J)) ?_|refine gV (ff (b:=aE) I I (decide_eq_false J)) ?_|refine gV (ea (b:=aE) I I (decide_eq_false J)) ?_|refine GB ?_)
  exact bT (k+1) J (by show l.length-(k+1)<l.length-k;omega)
 ·try refine GA ?_
  exact eH
theorem Bz{w:World}{b off:Nat}{l:List (List Int)}{F:Nat->Prop}(hr:∀i (h:i<l.length),∃cs,(bO fP).is F w cs l[i]/\Rd w b (off+i*(bO fP).c) cs){k:Nat}(hk:k<l.length):∃u,Sl w u l[k].length (l[k].flatMap cK.dQ)/\Rd w b (off+k*1) [u]:=by
 obtain⟨cs,h1,h2⟩:=hr k hk;obtain⟨u,rfl,h3⟩:=acL h1;exact⟨u,h3,h2⟩
theorem Fl(v:Value)(m:MS)(w:World)(hp:G5 w v m)(h:Ke m):
 Calls aD 114 #[v] w (bY (ret (av az 0)) w):=by
 obtain⟨vc,vr,vf,vfol,vl,ve,rfl,h1,h2,h3,h4,h5,h6⟩:=hp;have hmR:=h.rules;have hmf:=h.we;have hms:=h.some;have sU:=h.rv;have l1:=h.ok.ps.rules;have l2:=h.ok.ps.follow;have l3:=h.ok.ps.last;have q1:=λw' (hg:Gr w w')=>Cm vf m.first m.ps.a_.length w' (h3.gr hg) h.ok.first;have Tr:=h.ok.ps.ris;clear h h3;obtain⟨⟨cl,rul,ny,la⟩,fi,em⟩:=m;dsimp only at*;rw[l1]at h2;obtain⟨ac,cc,rfl,_⟩:=h1;obtain⟨ar,cr,rfl,hcr,hmr,hrr⟩:=h2;obtain⟨afo,cfo,rfl,hcf,ajZ,hrf⟩:=h4;obtain⟨al,cl2,rfl,_⟩:=h5;obtain⟨ae,ce,rfl,_⟩:=h6;rw[l2]at hcf;unfold maxLen at*;have q1':=q1;clear q1;generalize hn:cl.length=n at*;refine enter (args:=[aQ #[ap ac n cc,ap ar n cr,vf,ap afo ny.length cfo,ap al la.length cl2,ap ae em.length ce]]) (n:=80) Tryz.func114 I I I ?_;refine bW (bB (bP I I I λg1=>?_));refine zL ?_
 repeat(first|refine GC ?_|refine gV (aB (v:=ap ac n cc) aK.ty I (aH (i:=0) I I)) ?_|refine gV (aB (v:=ap ar n cr) aK.ty I (aH (i:=0) I I)) ?_|refine gV (aB (v:=ap afo ny.length cfo) aK.ty I (aH (i:=0) I I)) ?_|refine gV (aB (v:=ap al la.length cl2) aK.ty I (aH (i:=0) I I)) ?_|refine gV (aB (v:=ap ae em.length ce) aK.ty I (aH (i:=0) I I)) ?_|refine gV (aB (v:=vf) aK.ty I (aH (i:=0) I I)) ?_|refine gV (dl (b:=aE) I I (decide_eq_false J)) ?_|refine gV (ea (b:=aE) I I (decide_eq_false J)) ?_|refine gV (cZ (b:=aE) I I (decide_eq_false J)) ?_|refine GB ?_)
 refine mV (fB aI.en I I I) (λw hm=>q1' _ hm.below) I I I I I ?_;intro _ _;refine zL ?_;clear q1'
 try refine GA ?_
 refine d_ (ι:=Nat) (λk=>k<=n) (λk=>[(1,aJ (aj ⟨g1,0,ak⟩)),(3,av az (n:Int)),(46,av az (n:Int)),(47,av az (k:Int))]) (λ_=>[aP g1 #[ap ac n cc,ap ar n cr,vf,ap afo ny.length cfo,ap al la.length cl2,ap ae em.length ce] 181]) (λk=>n-k) 0 (bH _) ?_;intro k hk
 by_cases c1:k<n
 ·obtain⟨br,QX,rfl,eP⟩:=hrr J
  obtain⟨bf,acN,rfl,_,VK⟩:=hrf J;obtain⟨u,hu,hd⟩:=Bz VK (show k<ny.length by omega);have afG:=λ(L:List b9)=>ib (L:=L) kC eP (show k<rul.length by omega) 0 _ I;have afH:=λ(L:List b9)=>jc (L:=L) hd (j:=0) (v:=u) I;have hx:=hmR _ (b_ (show k<rul.length by omega));have q:=λw' (hg:Gr w w')=>Cm u ny[k] n w' (hu.gr hg) (Tr _ (b_ _));clear hrr hrf eP VK hd hu;generalize rul[k]=x at*
  try refine GA ?_
  refine dT ([aP g1 #[ap ac n cc,ap (aj ⟨br,QX,ak⟩) n cr,vf,ap (aj ⟨bf,acN,ak⟩) ny.length cfo,ap al la.length cl2,ap ae em.length ce] 181]) (.calm 0 (.calm 1 (.calm 2 (.calm 3 (.calm 4 (.calm 5 (.calm 6 (.calm 7 (.calm 8 (.calm 9 (.calm 10 (.calm 11 (.calm 12 (.calm 13 (.calm 14 (.calm 15 (.calm 16 (.calm 17 (.calm 18 (.calm 19 (.calm 20 (.calm 21 (.calm 22 (.calm 23 (.one 24 (.calm 25 (.calm 26 (.done)))))))))))))))))))))))))))) (bX [0]) ?_
  repeat(first|(refine GN ?_;first|refine QW QP ?_|refine QW (aB (v:=ap (aj ⟨br,QX,ak⟩) n cr) aK.ty I (aH (i:=0) I I)) ?_|refine QW (aY bM.eq aK.ty I I c1) ?_|refine QW (aB (v:=av az x) aK.ty I (afG _)) ?_|refine QW (dq (b:=aE) I I (decide_eq_false J)) ?_|refine QW (aB (v:=ap ae em.length ce) aK.ty I (aH (i:=0) I I)) ?_|refine QW (aB (v:=ap (aj ⟨bf,acN,ak⟩) ny.length cfo) aK.ty I (aH (i:=0) I I)) ?_|refine QW (aY (j:=k) bM.eq aK.ty I I J) ?_|refine QW (aB (v:=u) aK.ty I (afH _)) ?_|refine QW (ff (b:=aE) I I (decide_eq_false J)) ?_|refine GX ?_)|refine GW ?_)
  refine aL I (C9 I I I (aV (fB aI.en I I I) (λw hm=>q w hm.below) I I I λ_ _=>(aM (bX [0]) ?_)))
  try refine GW ?_
  try refine GA ?_
  refine dm [0] ?_;exact bT (k+1) J (by show n-(k+1)<n-k;omega)
 ·repeat(first|refine GC ?_|refine gV (ea (b:=aE) I I (decide_eq_false J)) ?_|refine GB ?_)
  exact eH
end bZ
namespace eO
open aU dL f_ dP yJ CL
inductive TD where
 |sym (x:dr)
 |close (p:Int)
def bR:List TD->List dr->Nat->List TD×List dr×Nat×Bool
 |[],out,a=>([],out,a,aC)
 | .sym x::r,out,a=>(.sym x::r,out,a,aC)
 | .close p::r,out,a=>if a+1<=2000 then bR r (out++[(3,p)]) (a+1)else(r,out++[(3,p)],a+1,aE)
def opened(l:List aU.Prod)(p:Int)(r:List TD):List TD:=(dc l p).2.map .sym++ .close p::r
def fS(l:List aU.Prod)(nx:Int->Int):Nat->List TD->List dr->Nat->List TD×List dr×Nat×Int
 |0,st,out,a=>(st,out,a,14)
 | f +1,st,out,a=>
  if(bR st out a).2.2.2=aE then((bR st out a).1,(bR st out a).2.1,(bR st out a).2.2.1,14)else
  match(bR st out a).1 with
  | .sym x::r=>
   if x.1=1 then((bR st out a).1,(bR st out a).2.1,(bR st out a).2.2.1,0)
   else if nx x.2<0 then((bR st out a).1,(bR st out a).2.1,(bR st out a).2.2.1,13)
   else if(bR st out a).2.2.1+1<=2000/\(opened l (nx x.2) r).length<=60 then fS l nx f (opened l (nx x.2) r) ((bR st out a).2.1++[(1,nx x.2)]) ((bR st out a).2.2.1+1)
   else(opened l (nx x.2) r,(bR st out a).2.1++[(1,nx x.2)],(bR st out a).2.2.1+1,14)
  |_=>((bR st out a).1,(bR st out a).2.1,(bR st out a).2.2.1,0)
def kD(l:List aU.Prod)(nx:Int->Int)(st:List TD)(seen:Nat)(t:Int):Int×List TD×List dr:=
 match fS l nx 2001 st [] 0 with
 | (st1,ig,a1,e)=>
  if e≠0 then(e,[],[])else
  match st1 with
  | .sym x::r=>if x.2≠t then(13,[],[])else if a1+1<=2000/\(bR r (ig++[(2,(seen:Int))]) (a1+1)).2.2.2=aC then(0,(bR r (ig++[(2,(seen:Int))]) (a1+1)).1,(bR r (ig++[(2,(seen:Int))]) (a1+1)).2.1)else(14,[],[])
  |_=>(13,[],[])
def iF(l:List aU.Prod)(nx:Int->Int)(st:List TD):Int×List dr:=
 match fS l nx 2001 st [] 0 with
 |(st1,ig,_,e)=>if e≠0 then(e,[])else match st1 with|[]=>(0,ig)|_=>(13,[])
section
variable{l:List aU.Prod}{C:Int->Nat->Int->Prop}
theorem yT:∀{st:List TD} {out:List dr} {a:Nat},(bR st out a).2.2.2=aC->(bR st out a).1=[]\/∃x r,(bR st out a).1= .sym x::r
 |[],out,a,_=> .inl I
 | .sym x::r,out,a,_=> .inr ⟨x,r,rfl⟩
 | .close p::r,out,a,h=>by
  unfold bR at h⊢;split
  ·rename_i c;rw[if_pos c]at h;exact yT h
  simp_all
theorem tr:∀{st:List TD} {out:List dr} {a:Nat},(bR st out a).1.length<=st.length/\a<=(bR st out a).2.2.1/\((bR st out a).2.2.2=aC->a<=2000->(bR st out a).2.2.1<=2000)/\(bR st out a).2.1.length+a=out.length+(bR st out a).2.2.1
 |[],out,a=>⟨bz _,bz _,λ_ h=>h,rfl⟩
 | .sym x::r,out,a=>⟨bz _,bz _,λ_ h=>h,rfl⟩
 | .close p::r,out,a=>by
  unfold bR;split
  ·obtain⟨h1,h2,h3,h4⟩:=@tr r (out++[(3,p)]) (a+1)
   grind
  grind
def ry(g:ep):TD->Prop
 | .sym x=>right g.aT g.bC x=aC
 | .close p=>0<=p/\p<(g.aF.length:Int)
theorem se{g:ep}:∀{st:List TD} {out:List dr} {a:Nat},(∀d∈st,ry g d)->∀d∈(bR st out a).1,ry g d
 |[],out,a,h=>h
 | .sym x::r,out,a,h=>h
 | .close p::r,out,a,h=>by
  unfold bR;split;exact se λd hd=>h d (jR _ hd);exact λd hd=>h d (jR _ hd)
theorem BA{g:ep}(hg:cz g=0){p:Int}(h0:0<=p)(h1:p<(g.aF.length:Int)){r:List TD}(h:∀d∈r,ry g d):∀d∈opened g.aF p r,ry g d:=by
 intro d hd;unfold opened at hd;rw[fx]at hd;rcases hd with hd|hd
 ·obtain⟨x,hx,rfl⟩:=eT.1 hd
  exact((cV hg).2.2.2.2.2 _ (yG h0 h1)).2.2.2 x hx
 rcases dC.1 hd with rfl|hd
 exact⟨h0,h1⟩;exact h d hd
def acO(l:List aU.Prod)(nx:Int->Int):Prop:=∀n,0<=nx n->nx n<(l.length:Int)/\((0<=n)->(dc l (nx n)).1=n)
theorem wu{nx:Int->Int}:∀{f:Nat} {st:List TD} {out:List dr} {a:Nat},(fS l nx f st out a).2.2.2=0\/(fS l nx f st out a).2.2.2=13\/(fS l nx f st out a).2.2.2=14
 |0,st,out,a=> .inr (.inr I)
 | f +1,st,out,a=>by
  unfold fS;split;exact .inr (.inr I);split
  ·split
   simp;split;exact .inr (.inl I);split;exact wu;exact .inr (.inr I)
  simp
theorem yU{nx:Int->Int}{f:Nat}{st:List TD}{out:List dr}{a:Nat}{R:List TD×List dr×Nat×Int}(h:fS l nx (f+1) st out a=R):
    ((bR st out a).2.2.2=aE/\R.2.2.2=14)\/((bR st out a).2.2.2=aC/\
      (((bR st out a).1=[]/\R=([],(bR st out a).2.1,(bR st out a).2.2.1,0))\/
       ∃ x r,(bR st out a).1= .sym x::r/\((x.1=1/\R=(.sym x::r,(bR st out a).2.1,(bR st out a).2.2.1,0))\/(x.1≠1/\nx x.2<0/\R.2.2.2=13)\/
         (x.1≠1/\0<=nx x.2/\((((bR st out a).2.2.1+1<=2000/\(opened l (nx x.2) r).length<=60)/\fS l nx f (opened l (nx x.2) r) ((bR st out a).2.1++[(1,nx x.2)]) ((bR st out a).2.2.1+1)=R)\/R.2.2.2=14))))):=by
  unfold fS at h
  cases hc:(bR st out a).2.2.2 with
  |false=>grind
  | true=>
    rw[hc,if_neg (by simp)]at h;refine .inr ⟨rfl,?_⟩;rcases yT hc with he|⟨x,r,he⟩
    simp_all
    grind
theorem ww{nx:Int->Int}:∀{f:Nat} {st:List TD} {out:List dr} {a:Nat} {R:List TD×List dr×Nat×Int},fS l nx f st out a=R->R.2.2.2=0->R.1=[]\/∃x r,R.1= .sym x::r/\x.1=1
 |0,st,out,a,R,h,h0=>by subst h;cases h0
 |f+1,st,out,a,R,h,h0=>by
  rcases yU h with⟨_,e⟩|⟨_,⟨_,rfl⟩|⟨x,r,_,⟨c,rfl⟩|⟨_,_,e⟩|⟨_,_,⟨_,e⟩|e⟩⟩⟩
  omega;exact .inl I;exact .inr ⟨x,r,rfl,c⟩;omega;exact ww e h0;omega
theorem Kg{g:ep}(hg:cz g=0){nx:Int->Int}(hn:acO g.aF nx):∀{f:Nat} {st:List TD} {out:List dr} {a:Nat} {R:List TD×List dr×Nat×Int},fS g.aF nx f st out a=R->R.2.2.2=0->(∀d∈st,ry g d)->∀d∈R.1,ry g d
 |0,st,out,a,R,h,h0,_=>by subst h;cases h0
 | f +1,st,out,a,R,h,h0,hs=>by
  have hc:=se (out:=out) (a:=a) hs;rcases yU h with⟨_,e⟩|⟨_,⟨_,rfl⟩|⟨x,r,e1,⟨c,rfl⟩|⟨_,_,e⟩|⟨_,c,⟨_,e⟩|e⟩⟩⟩
  omega;exact λd hd=>nomatch hd;rw[e1]at hc;exact hc;omega
  ·rw[e1]at hc
   exact Kg hg hn e h0 (BA hg c (hn _ c).1 λd hd=>hc d (jR _ hd))
  omega
theorem Ao{nx:Int->Int}:∀{f:Nat} {st:List TD} {out:List dr} {a:Nat} {R:List TD×List dr×Nat×Int},fS l nx f st out a=R->R.2.2.2=0->st.length<=60->a<=2000->R.1.length<=60/\R.2.2.1<=2000/\R.2.1.length+a=out.length+R.2.2.1/\a<=R.2.2.1
 |0,st,out,a,R,h,h0,_,_=>by subst h;cases h0
 | f +1,st,out,a,R,h,h0,h1,h2=>by
  obtain⟨z1,z2,z3,z4⟩:=@tr st out a;rcases yU h with⟨_,e⟩|⟨ec,⟨_,rfl⟩|⟨x,r,e1,⟨c,rfl⟩|⟨_,_,e⟩|⟨_,c,⟨cc,e⟩|e⟩⟩⟩
  omega
  simp_all
  grind
  omega
  ·obtain⟨y1,y2,y3,y4⟩:=Ao e h0 cc.2 cc.1
   grind
  omega
theorem yV{nx:Int->Int}{st:List TD}{seen:Nat}{t:Int}{R:Int×List TD×List dr}(h:kD l nx st seen t=R):
 (R.1=13\/R.1=14)/\R.2=([],[])\/∃x r ig a1,fS l nx 2001 st [] 0=(.sym x::r,ig,a1,0)/\x.1=1/\x.2=t/\a1+1<=2000/\(bR r (ig++[(2,(seen:Int))]) (a1+1)).2.2.2=aC/\
  R=(0,(bR r (ig++[(2,(seen:Int))]) (a1+1)).1,(bR r (ig++[(2,(seen:Int))]) (a1+1)).2.1):=by
 unfold kD at h
 cases hd:fS l nx 2001 st [] 0 with
 |mk st1 R1=>
 obtain⟨ig,a1,e⟩:=R1;rw[hd]at h;dsimp only at h;have he:=@wu l nx 2001 st [] 0;rw[hd]at he;dsimp only at he
 by_cases c0:e=0
 ·subst c0
  rw[if_neg (by simp)]at h;rcases ww hd rfl with e1|⟨x,r,e1,e2⟩
  grind;dsimp only at e1;subst e1;dsimp only at h
  by_cases c1:x.2≠t
  rw[if_pos c1]at h;subst h;exact .inl ⟨.inl I,rfl⟩;rw[if_neg c1]at h;split at h
  ·rename_i c2
   subst h;exact .inr ⟨x,r,ig,a1,rfl,e2,by simpa using c1,c2.1,c2.2,rfl⟩
  subst h;exact .inl ⟨.inr I,rfl⟩
 grind
theorem acP{g:ep}(hg:cz g=0){nx:Int->Int}(hn:acO g.aF nx){st:List TD}{seen:Nat}{t:Int}{R:Int×List TD×List dr}(h:kD g.aF nx st seen t=R)(h0:R.1=0)(hs:∀d∈st,ry g d)(hl:st.length<=60):(∀d∈R.2.1,ry g d)/\R.2.1.length<=60/\R.2.2.length<=2000:=by
 rcases yV h with⟨e|e,_⟩|⟨x,r,ig,a1,hd,_,_,h4,h5,rfl⟩
 omega;omega;have y1:=Kg hg hn hd I hs;obtain⟨y2,y3,y4,y5⟩:=Ao hd rfl hl J;obtain⟨z1,z2,z3,z4⟩:=@tr r (ig++[(2,(seen:Int))]) (a1+1);dsimp only at y1 y2 y3 y4 y5⊢;simp only[bI,db,gY]at z4 y2 y4;have:=z3 h5 J;exact⟨se λd hd=>y1 d (jR _ hd),by omega,by omega⟩
theorem Io{nx:Int->Int}{st:List TD}{R:Int×List dr}(h:iF l nx st=R):((R.1=13\/R.1=14)/\R.2=[])\/∃a1,fS l nx 2001 st [] 0=([],R.2,a1,0)/\R.1=0:=by
 unfold iF at h
 cases hd:fS l nx 2001 st [] 0 with
 |mk st1 R1=>
 obtain⟨ig,a1,e⟩:=R1;rw[hd]at h;dsimp only at h;have he:=@wu l nx 2001 st [] 0;rw[hd]at he;dsimp only at he
 by_cases c0:e=0
 ·subst c0
  rw[if_neg (by simp)]at h;rcases ww hd rfl with e1|⟨x,r,e1,e2⟩
  dsimp only at e1;subst e1;subst h;exact .inr ⟨a1,rfl,rfl⟩;dsimp only at e1;subst e1;subst h;exact .inl ⟨.inl I,rfl⟩
 rw[if_pos c0]at h;subst h;exact .inl ⟨by rcases he with h|h|h;exact absurd h c0;exact .inl h;exact .inr h,rfl⟩
end
end eO
namespace bZ
open Go.RowKit cK dS aU dL eO
def tdB:TD->Bool| .sym _=>aE| .close _=>aC
def tdN:TD->Int| .sym _=>0| .close p=>p
def tdX:TD->dr| .sym x=>x| .close _=>(0,0)
def xN(d:TD):List Value:=[.bool (tdB d),av az (tdN d),av az (tdX d).1,av az (tdX d).2]
theorem Kh(d:TD):(xN d).length=4:=rfl
theorem Ki(l:List TD):∀u∈l.flatMap xN,u.oneCell'=true:=by
 intro u hu;obtain⟨d,_,h⟩:=vj.1 hu;simp only[xN,dC,fH,or_false]at h;rcases h with rfl|rfl|rfl|rfl<;>rfl
def Lw(d:TD):Value:=aQ (xN d).toArray
theorem Ip(x:dr)(w:World):(df 231 #[(2,aQ (eC x).toArray)]).run aD w= .ok (Lw (.sym x)) w:=by
 unfold Lw xN eC tdB tdN tdX;go_simp
theorem VL(p:Int)(w:World):(df 231 #[(0,.bool aC),(1,av az p)]).run aD w= .ok (Lw (.close p)) w:=by
 unfold Lw xN tdB tdN tdX;go_simp
def t_(vt:Value)(seen over:Int)(done:Bool):Value:=aQ #[vt,av az seen,av az over,.bool done]
def Nb(t n:Int)(vp vt vo:Value)(dK:Nat):Array Value:=#[av az t,av az n,vp,vt,vo,av az (dK:Int)]
abbrev yW(gw:Nat)(t n:Int)(vp vt vo:Value)(dK:Nat):b9:=aP gw (Nb t n vp vt vo dK) 329
abbrev xz(vt:Value)(st:List TD):b9:=aZ 231 4 vt st.length (st.reverse.flatMap xN)
abbrev jY(vo:Value)(l:List dr):b9:=aZ 55 2 vo l.length (l.flatMap eC)
theorem BB(k n:Int)(w:World):(df 55 #[(0,av az k),(1,av az n)]).run aD w= .ok (aQ (eC (k,n)).toArray) w:=by
 unfold eC;go_simp
theorem Ts{P:Program}{n:Nat}{W:bL}{fr:Fr}{L:List b9}{dst:Option Tmp}{t ty:TypeId}{pos:String}{after:Array Edge}{guard:Option (Nat×Bool)}{x:Operand}{f:Nat}{v u:Value}(hx:ev fr x=aj v)(h:∀w,(Zk t v f).run P w= .ok u w):RR P n W ⟨dst,.field t x f,ty,pos,after,guard⟩ fr L u:= .mk λa w hr _=>by
 simp[execOp,hr.ev hx,h]
theorem VM(d:TD)(w:World):(Zk 231 (Lw d) 1).run aD w= .ok (av az (tdN d)) w:=by
 unfold Lw xN;kernel_rfl
end bZ
namespace bZ
open Go.RowKit cK dS aU dL eO
attribute [local irreducible] Instr.build in
theorem BC(gw:Nat)(t n:Int)(vp vt vo:Value)(out:List dr)(dK:Nat)(kd m:Int)(w:World)(B:bL)(h1:out.length<=100000)(h2:dK<=100000)(hm:Mem B [yW gw t n vp vt vo dK,jY vo out] w):
 Calls aD 168 #[aJ (aj ⟨gw,0,ak⟩),av az kd,av az m] w (da ⟨λ(_:Value)=>True,λ_=> .bool (decide (((dK+1:Nat):Int)<=2000)),λFm=>[yW gw t n vp vt Fm (dK+1),jY Fm (out++[(kd,m)])]⟩ B):=by
 refine dB hm (args:=[aJ (aj ⟨gw,0,ak⟩),av az kd,av az m]) (n:=31) Tryz.func168 I I I ?_;refine aec (i:=1) I λlD me=>?_
 repeat(first|refine GC ?_|refine gV (aB aK.ty I (aH (i:=0) I I)) ?_|refine gV (dW (r:=((dK+1:Nat):Int)) I I J J J) ?_|refine GB ?_)
 refine bV (i:=0) I I I I I I ?_;rw[show(Nb t n vp vt vo dK).setIfInBounds (0+5) (av az ((dK+1:Nat):Int))=Nb t n vp vt vo (dK+1)from I];refine zL ?_
 repeat(first|refine GA ?_|refine gV (aB aK.ty I (aH (i:=0) I I)) ?_|refine gV (bD I (BB _ _)) ?_)
 refine jO (i:=1) I I I I I I I (λz h=>by cases h;rfl) J J I λz' v'=>?_;refine zL ?_;refine aW (i:=1) I λlD me=>?_
 try refine GA ?_
 refine bV (i:=0) I I I lD me I ?_;rw[show(Nb t n vp vt vo (dK+1)).setIfInBounds (0+4) v'=Nb t n vp vt v' (dK+1)from I];refine zL ?_
 repeat(first|refine GC ?_|refine gV (aB (v:=av az ((dK+1:Nat):Int)) aK.ty I (aH (i:=0) I I)) ?_|refine gV (A7 I I I) ?_|refine GB ?_)
 exact cO I I λw hm=>hm.cC (S:=⟨λ(_:Value)=>True,λ_=> .bool (decide (((dK+1:Nat):Int)<=2000)),λFm=>[yW gw t n vp vt Fm (dK+1),jY Fm (out++[(kd,m)])]⟩) v' trivial [0,1] akh (by simp[yW,jY])
theorem Cn{B:bL}{L:List b9}{i g cap:Nat}{d:TD}{r:List TD}(hi:L[i]?=aj (xz (ap (aj ⟨g,0,ak⟩) (r.length+1) cap) (d::r)))(j:Nat)(u:Value)(hu:(xN d)[j]?=aj u):At B L ⟨g,0+r.length*4+j,ak⟩ u:=
 rP Kh hi (k:=r.length) (by simp) j u (by simpa using hu)
theorem Tt{d:TD}{r:List TD}{g cap:Nat}{w:World}(h:(xz (ap (aj ⟨g,0,ak⟩) (r.length+1) cap) (d::r)).holds w):(xz (ap (aj ⟨g,0,ak⟩) r.length cap) r).holds w:=by
 obtain⟨h1,h2⟩:=h;refine⟨by rw[lV Kh];simp,?_⟩;rcases h2 with⟨h2,_⟩|⟨g',A9,jZ,e,h3,h4,h5,h6,h7,h8⟩
 cases h2
 cases e
 refine .inr ⟨g,cap,jZ,rfl,h3,h4,by simp at h5;omega,h6,h7,?_⟩;have:(jZ.toList.take ((d::r).length*4)).take (r.length*4)=((d::r).reverse.flatMap xN).take (r.length*4):=by rw[h8]
 rw[List.take_take,Nat.min_eq_left (by simp;omega),List.reverse_cons,fV,List.take_left' (by rw[lV Kh];simp)]at this;exact this
attribute [local irreducible] Instr.build in
theorem BD(gw:Nat)(t n:Int)(vp vt vo:Value)(d:TD)(r:List TD)(dK:Nat)(w:World)(B:bL)(h1:r.length<=100000)(hm:Mem B [yW gw t n vp vt vo dK,xz vt (d::r)] w):
 Calls aD 167 #[aJ (aj ⟨gw,0,ak⟩)] w (da ⟨λ(_:Value)=>True,λ_=>Lw d,λo_=>[yW gw t n vp o_ vo dK,xz o_ r]⟩ B):=by
 refine dB hm (args:=[aJ (aj ⟨gw,0,ak⟩)]) (n:=31) Tryz.func167 I I I ?_;refine yw (i:=1) I (by simp) λg cap hv q1 q2=>?_;subst hv;simp only[db]at*;refine bW (bB (a8 I λg2=>?_));refine zL ?_
 try refine GA ?_
 refine dT ([yW gw t n vp (ap (aj ⟨g,0,ak⟩) (r.length+1) cap) vo dK,xz (ap (aj ⟨g,0,ak⟩) (r.length+1) cap) (d::r)]) (.calm 0 (.calm 1 (.calm 2 (.calm 3 (.calm 4 (.calm 5 (.calm 6 (.calm 7 (.calm 8 (.calm 9 (.calm 10 (.calm 11 (.one 12 (.one 13 (.done))))))))))))))) (bX [0,1]) ?_
 repeat(first|(refine GN ?_;first|refine QW QP ?_|refine QW (aB (v:=ap (aj ⟨g,0,ak⟩) (r.length+1) cap) aK.ty I (aH (i:=0) I I)) ?_|refine QW (eL (r:=(r.length:Int)) I I J J J) ?_|refine QW (aY (j:=r.length) bM.eq aK.ty I I J) ?_|refine QW (bm aK.ty I I (Cn (i:=1) I)) ?_|refine GX ?_)|refine GW ?_)
 refine aL I (a8 I λg3=>?_);refine aM (bX [0,1]) ?_;refine aL I (aX (i:=3) (cs':=(xN d).toArray) I I I I I I (aM (bX [0,1]) ?_))
 try refine GW ?_
 try refine GA ?_
 refine dT ([]) (.calm 0 (.calm 1 (.calm 2 (.calm 3 (.calm 5 (.calm 6 (.calm 7 (.two 4 (.one 8 (.calm 9 (.calm 10 (.calm 11 (.calm 12 (.calm 13 (.one 14 (.done)))))))) 8 (.calm 9 (.calm 10 (.one 4 (.calm 11 (.calm 12 (.calm 13 (.one 14 (.done)))))))))))))))) (bX []) ?_
 try refine GW ?_
 refine eK I I ?_ ?_
 ·refine dx (aB (v:=ap (aj ⟨g,0,ak⟩) (r.length+1) cap) aK.ty I (aH (i:=0) I I)) I I I (aM (bX []) ?_)
  refine aL I (dx (aB (v:=ap (aj ⟨g,0,ak⟩) (r.length+1) cap) aK.ty I (aH (i:=0) I I)) I I I (aM (bX []) ?_))
  repeat(first|(refine GN ?_;first|refine QW QP ?_|refine QW (eL (r:=(r.length:Int)) I I J J J) ?_|refine QW (rU (j:=r.length) bM.eq aK.ty I I J) ?_|refine GX ?_)|refine GW ?_)
  refine aL I (bV (i:=0) I I I I I I (aM (bX []) ?_));rw[show(Nb t n vp (ap (aj ⟨g,0,ak⟩) (r.length+1) cap) vo dK).setIfInBounds (0+3) (ap (aj ⟨g,0,ak⟩) r.length cap)=Nb t n vp (ap (aj ⟨g,0,ak⟩) r.length cap) vo dK from I]
  try refine GW ?_
  repeat(first|refine GA ?_|refine gV (aO (i:=3) aK.ty I I I) ?_)
  refine ij 2 (cs':=(xN d).toArray) ?_;refine zL ?_
  try refine GA ?_
  refine o7 (i:=1) (xz (ap (aj ⟨g,0,ak⟩) r.length cap) r) I (λw h=>Tt h) (λk hk=>hk) ?_;exact fZ (i:=2) I I I I λw hm=>hm.cC (S:=⟨λ(_:Value)=>True,λ_=>Lw d,λo_=>[yW gw t n vp o_ vo dK,xz o_ r]⟩) (ap (aj ⟨g,0,ak⟩) r.length cap) trivial [0,1] akh I
 ·refine dx (aB (v:=ap (aj ⟨g,0,ak⟩) (r.length+1) cap) aK.ty I (aH (i:=0) I I)) I I I (aM (bX []) ?_)
  repeat(first|(refine GN ?_;first|refine QW QP ?_|refine QW (eL (r:=(r.length:Int)) I I J J J) ?_|refine GX ?_)|refine GW ?_)
  refine aL I (dx (aB (v:=ap (aj ⟨g,0,ak⟩) (r.length+1) cap) aK.ty I (aH (i:=0) I I)) I I I (aM (bX []) ?_))
  repeat(first|(refine GN ?_;first|refine QW QP ?_|refine QW (rU (j:=r.length) bM.eq aK.ty I I J) ?_|refine GX ?_)|refine GW ?_)
  refine aL I (bV (i:=0) I I I I I I (aM (bX []) ?_));rw[show(Nb t n vp (ap (aj ⟨g,0,ak⟩) (r.length+1) cap) vo dK).setIfInBounds (0+3) (ap (aj ⟨g,0,ak⟩) r.length cap)=Nb t n vp (ap (aj ⟨g,0,ak⟩) r.length cap) vo dK from I]
  try refine GW ?_
  repeat(first|refine GA ?_|refine gV (aO (i:=3) aK.ty I I I) ?_)
  refine ij 2 (cs':=(xN d).toArray) ?_;refine zL ?_
  try refine GA ?_
  refine o7 (i:=1) (xz (ap (aj ⟨g,0,ak⟩) r.length cap) r) I (λw h=>Tt h) (λk hk=>hk) ?_;exact fZ (i:=2) I I I I λw hm=>hm.cC (S:=⟨λ(_:Value)=>True,λ_=>Lw d,λo_=>[yW gw t n vp o_ vo dK,xz o_ r]⟩) (ap (aj ⟨g,0,ak⟩) r.length cap) trivial [0,1] akh I
theorem QY(out:List dr)(a:Nat):bR [] out a=([],out,a,aC):=rfl
theorem Q0(x:dr)(r:List TD)(out:List dr)(a:Nat):bR (.sym x::r) out a=(.sym x::r,out,a,aC):=rfl
theorem Q1(p:Int)(r:List TD)(out:List dr){a:Nat}(h:a+1<=2000):bR (.close p::r) out a=bR r (out++[(3,p)]) (a+1):=by rw[bR,if_pos h]
theorem VN(p:Int)(r:List TD)(out:List dr){a:Nat}(h:¬a+1<=2000):bR (.close p::r) out a=(r,out++[(3,p)],a+1,aE):=by rw[bR,if_neg h]
def clS(gw:Nat)(t n:Int)(vp:Value)(c:List TD×List dr×Nat×Bool):Spec (Value×Value):=⟨λ_=>True,λ_=> .bool c.2.2.2,λx=>[yW gw t n vp x.1 x.2 c.2.2.1,xz x.1 c.1,jY x.2 c.2.1]⟩
theorem sf(gw:Nat)(t n:Int)(vp ZG ZH:Value)(WM:List TD)(wx:List dr)(Iq:Nat)(w:World)(B:bL)(h1:WM.length<=100000)(h2:Iq<=2000)(h3:wx.length=Iq)(hm:Mem B [yW gw t n vp ZG ZH Iq,xz ZG WM,jY ZH wx] w):
 Calls aD 169 #[aJ (aj ⟨gw,0,ak⟩)] w (da (clS gw t n vp (bR WM wx Iq)) B):=by
 refine dB hm (args:=[aJ (aj ⟨gw,0,ak⟩)]) (n:=30) Tryz.func169 I I I ?_;clear hm
 try refine GA ?_
 generalize hC:bR WM wx Iq=C;refine d_ (ι:=List TD×List dr×Nat×Value×Value) (λ(st,out,dK,_,_)=>bR st out dK=C/\st.length<=100000/\dK<=2000/\out.length=dK) (λ_=>[(0,aJ (aj ⟨gw,0,ak⟩))]) (λ(st,out,dK,vt,vo)=>[yW gw t n vp vt vo dK,xz vt st,jY vo out]) (λ(st,_,_,_,_)=>st.length) (WM,wx,Iq,ZG,ZH) ⟨hC,h1,h2,h3⟩ ?_;clear h1 h2 h3 hC;rintro⟨st,out,dK,vt,vo⟩ ⟨hC,h1,h2,h3⟩;dsimp only at hC h1 h2 h3⊢
 cases st with
 | nil=>
  rw[QY]at hC;subst hC
  (repeat refine bW ?_)
  refine dT ([yW gw t n vp vt vo dK,xz vt []]) (.calm 0 (.calm 1 (.calm 2 (.calm 3 (.calm 4 (.calm 5 (.calm 6 (.calm 7 (.calm 8 (.calm 9 (.calm 10 (.calm 11 (.calm 12 (.calm 13 (.calm 14 (.calm 15 (.calm 16 (.calm 17 (.calm 18 (.calm 19 (.calm 20 (.done)))))))))))))))))))))) (bX [0,1]) ?_
  repeat(first|(refine GN ?_;first|refine QW QP ?_|refine QW (aB (v:=vt) aK.ty I (aH (i:=0) I I)) ?_|refine QW (fg (i:=1) bM.eq I I) ?_|refine QW (ea (b:=aE) I I I) ?_|refine GX ?_)|refine GW ?_)
  try refine GA ?_
  exact cO I I λw hm=>hm.cC (S:=clS gw t n vp ([],out,dK,aC)) (vt,vo) trivial [0,1,2] akh I
 | cons d r=>
  simp only[db]at h1;refine yw (i:=1) I (by simp) λg cap hv q1 q2=>?_;subst hv;simp only[db]at*
  cases d with
  | sym x=>
   rw[Q0]at hC;subst hC
   (repeat refine bW ?_)
   refine dT ([yW gw t n vp (ap (aj ⟨g,0,ak⟩) (r.length+1) cap) vo dK,xz (ap (aj ⟨g,0,ak⟩) (r.length+1) cap) (.sym x::r)]) (.calm 0 (.calm 1 (.calm 2 (.calm 3 (.calm 4 (.calm 5 (.calm 6 (.calm 7 (.calm 8 (.calm 9 (.calm 10 (.calm 11 (.calm 12 (.calm 13 (.calm 14 (.calm 15 (.calm 16 (.calm 17 (.calm 18 (.calm 19 (.calm 20 (.done)))))))))))))))))))))) (bX [0,1]) ?_
   repeat(first|(refine GN ?_;first|refine QW QP ?_|refine QW (aB (v:=ap (aj ⟨g,0,ak⟩) (r.length+1) cap) aK.ty I (aH (i:=0) I I)) ?_|refine QW (aB (v:= .bool aE) aK.ty I (Cn (i:=1) I 0 _ I)) ?_|refine QW (eL (r:=(r.length:Int)) I I J J J) ?_|refine QW (aY (j:=r.length) bM.eq aK.ty I I J) ?_|refine GX ?_)|refine GW ?_)
   try refine GA ?_
   exact cO I I λw hm=>hm.cC (S:=clS gw t n vp (.sym x::r,out,dK,aC)) (_,vo) trivial [0,1,2] akh I
  | close p=>
   (repeat refine bW ?_)
   refine dT ([yW gw t n vp (ap (aj ⟨g,0,ak⟩) (r.length+1) cap) vo dK,xz (ap (aj ⟨g,0,ak⟩) (r.length+1) cap) (.close p::r)]) (.calm 0 (.calm 1 (.calm 2 (.calm 3 (.calm 4 (.calm 5 (.calm 6 (.calm 7 (.calm 8 (.calm 9 (.calm 10 (.calm 11 (.calm 12 (.calm 13 (.calm 14 (.calm 15 (.calm 16 (.calm 17 (.calm 18 (.calm 19 (.calm 20 (.done)))))))))))))))))))))) (bX [0,1]) ?_
   repeat(first|(refine GN ?_;first|refine QW QP ?_|refine QW (aB (v:=ap (aj ⟨g,0,ak⟩) (r.length+1) cap) aK.ty I (aH (i:=0) I I)) ?_|refine QW (aB (v:= .bool aC) aK.ty I (Cn (i:=1) I 0 _ I)) ?_|refine QW (eL (r:=(r.length:Int)) I I J J J) ?_|refine QW (aY (j:=r.length) bM.eq aK.ty I I J) ?_|refine GX ?_)|refine GW ?_)
   try refine GA ?_
   refine bx [0,1] [2] akh I I (i_ aI.en I I) (λw hm hb=>BD gw t n vp _ vo (.close p) r dK w _ J hb) I I I ?_;intro o_ _;refine zL ?_;dsimp only
   repeat(first|refine GA ?_|refine gV (Ts I (VM (.close p))) ?_)
   refine bx [1,0] [2] akh I I (sV aI.en I I I I) (λw hm hb=>BC gw t n vp o_ vo out dK 3 p w _ J J hb) I I I ?_;intro Fm _;refine zL ?_;dsimp only
   by_cases c:dK+1<=2000
   ·rw[Q1 p r out c]at hC
    rw[decide_eq_true (show((dK+1:Nat):Int)<=2000 by omega)]
    try refine GA ?_
    refine dm [1,0,2] ?_;exact bT (r,out++[(3,p)],dK+1,o_,Fm) ⟨hC,(by show r.length<=100000;omega),c,by simp[h3]⟩ (by show r.length<r.length+1;omega)
   rw[VN p r out c]at hC;subst hC;rw[decide_eq_false (show ¬((dK+1:Nat):Int)<=2000 by omega)]
   try refine GA ?_
   exact cO I I λw hm=>hm.cC (S:=clS gw t n vp (r,out++[(3,p)],dK+1,aE)) (o_,Fm) trivial [1,0,2] akh I
theorem Kj(r:List TD)(d:TD):(r.reverse.flatMap xN)++xN d=(d::r).reverse.flatMap xN:=by simp
def stO(p:Nat)(r:List TD)(body:List dr)(j:Nat):List TD:=(body.drop (body.length-j)).map .sym++ .close (p:Int)::r
theorem ahr(p:Nat)(r:List TD)(body:List dr):stO p r body 0= .close (p:Int)::r:=by unfold stO;rw[Zp,yR];rfl
theorem acQ(p:Nat)(r:List TD)(body:List dr):stO p r body body.length=body.map .sym++ .close (p:Int)::r:=by unfold stO;rw[pK,tk]
theorem ZI(p:Nat)(r:List TD){body:List dr}{k:Nat}(hk:k<body.length):stO p r body (body.length-k)= .sym body[k]::stO p r body (body.length-k-1):=by
 unfold stO;rw[show body.length-(body.length-k)=k by omega,show body.length-(body.length-k-1)=k+1 by omega,eZ hk];rfl
def opS(gw:Nat)(t n:Int)(vp:Value)(st:List TD)(out:List dr)(dK:Nat):Spec (Value×Value):=⟨λ_=>True,λ_=> .bool (decide (dK<=2000/\st.length<=60)),λx=>[yW gw t n vp x.1 x.2 dK,xz x.1 st,jY x.2 out]⟩
attribute [local irreducible] Instr.build in
theorem Q2(w0:World)(gw:Nat)(t n:Int)(vp:Value)(aF:List aU.Prod)(hG:ky oR (λk=>k<w0.heap.size) w0 vp aF)(hlen:aF.length<=100000)(p:Nat)(hp:p<aF.length)(h8:aF[p].2.length<=8)(vt vo:Value)(d:TD)(r:List TD)(out:List dr)(dK:Nat)(w:World)(B:bL)(h1:r.length<=100)(h2:dK<=2000)(h3:out.length=dK)(ho:qx w0 B)(hm:Mem B [yW gw t n vp vt vo dK,xz vt (d::r),jY vo out] w):
 Calls aD 184 #[aJ (aj ⟨gw,0,ak⟩),av az (p:Int)] w (da (opS gw t n vp (opened aF p r) (out++[(1,(p:Int))]) (dK+1)) B):=by
 obtain⟨bp,cp,rfl,JN,GI,oT⟩:=hG;unfold maxLen at GI;obtain⟨b,off,rfl,_,hr⟩:=oT J;obtain⟨bb,cb,y1,y2,y3⟩:=ma hr hp;have Tu:opened aF (p:Int) r=aF[p].2.map .sym++ .close (p:Int)::r:=by unfold opened dc;rw[dF,cB,bK hp];rfl
 rw[Tu];clear Tu oT hr;have J7:∀(L:List b9),At B L ⟨b,off+p*2+1,ak⟩ (.slice bb aF[p].2.length cb):=λL=>iX ho (y1 1 _ I);have tW:=y3.flat akh;generalize aF[p].2=body at*;clear y1 y2 y3;obtain⟨b2,cb2,he,hb4,hb5,hb6⟩:=tW;simp only[kH,true_and]at he;obtain⟨rfl,rfl⟩:=he;refine dB hm (args:=[aJ (aj ⟨gw,0,ak⟩),av az (p:Int)]) (n:=61) Tryz.func184 I I I ?_;clear hm
 try refine GA ?_
 refine bx [0,1] [2] akh I I (i_ aI.en I I) (λw hm hb=>BD gw t n _ vt vo d r dK w _ J hb) I I I ?_;intro ZJ _;refine zL ?_;dsimp only;refine aW (i:=2) I λlD me=>?_
 repeat(first|refine GA ?_|refine gV (aB aK.ty I (aH (i:=1) I I)) ?_|refine gV (bD I (VL _)) ?_)
 refine jO (i:=2) I I I I I I I (λz h=>by cases h;rfl) J J I λz' Tv=>?_;refine zL ?_;refine aW (i:=2) I λlD me=>?_
 try refine GA ?_
 refine bV (i:=1) I I I lD me I ?_;rw[show(Nb t n (ap (aj ⟨b,off,ak⟩) aF.length cp) ZJ vo dK).setIfInBounds (0+3) Tv=Nb t n (ap (aj ⟨b,off,ak⟩) aF.length cp) Tv vo dK from I];refine zL ?_
 repeat(first|refine GC ?_|refine gV (aB (v:=ap (aj ⟨b,off,ak⟩) aF.length cp) aK.ty I (aH (i:=1) I I)) ?_|refine gV (aY bM.eq aK.ty I I hp) ?_|refine gV (aB aK.ty I (J7 _)) ?_|refine gV (eL (r:=(body.length:Int)-1) I I J J I) ?_|refine GB ?_)
 rw[Kj r (.close (p:Int))];refine mq (ι:=Nat×Value) (λ(j,_)=>j<=body.length) (λ(j,_)=>[(0,aJ (aj ⟨gw,0,ak⟩)),(1,av az (p:Int)),(5,ap bb body.length cb),(6,av az (((body.length-j:Nat):Int)-1))])
  (λ(j,vt)=>[jY vo out,yW gw t n (ap (aj ⟨b,off,ak⟩) aF.length cp) vt vo dK,aZ 231 4 vt (r.length+1+j) ((stO p r body j).reverse.flatMap xN)]) (λ(j,_)=>body.length-j) (0,Tv) (bH _) (by repeat' (first|exact cT|refine cJ I ?_)) (by dsimp only;rw[ahr]) ?_
 rintro⟨j,Tw⟩ hj;dsimp only at hj⊢
 by_cases c:j<body.length
 ·obtain⟨b4,aj0,rfl,hr4⟩:=hb6 J
  have hk:body.length-1-j<body.length:=by omega
  have U9:=λL=>uT (W:=B) (L:=L) (f:=eC) (c:=2) (λ_=>rfl) (λq x hq=>iX ho (hr4 q x hq)) hk;have hst:=ZI p r hk;rw[show body.length-(body.length-1-j)=j+1 by omega,Nat.add_sub_cancel]at hst;rw[show(((body.length-j:Nat):Int)-1)=((body.length-1-j:Nat):Int)by omega];generalize body[body.length-1-j]=x at*;obtain⟨xq,xm⟩:=x;refine aec (i:=2) I λlD me=>?_
  repeat(first|refine GC ?_|refine gV (ff (b:=aC) I I (decide_eq_true J)) ?_|refine GB ?_)
  refine dT ([]) (.calm 0 (.calm 1 (.calm 2 (.calm 3 (.calm 5 (.calm 6 (.calm 7 (.calm 8 (.calm 9 (.two 4 (.one 10 (.one 11 (.calm 12 (.calm 13 (.one 14 (.done)))))) 10 (.one 4 (.one 11 (.calm 12 (.calm 13 (.one 14 (.done)))))))))))))))) (bX []) ?_
  repeat(first|refine GW ?_|(refine GN ?_;first|refine QW (aY (j:=body.length-1-j) bM.eq aK.ty I I hk) ?_|refine QW (bm aK.ty I I (U9 _)) ?_|refine QW (bD I (Ip (xq,xm))) ?_))
  refine eK I I ?_ ?_
  ·refine dx (aB (v:=Tw) aK.ty I (aH (i:=1) I I)) I I I (aM (bX []) ?_)
   refine aL I (fD (cs:=(xN (.sym (xq,xm))).toArray) [Lw (.sym (xq,xm))] I I I (by intro v hv;simp at hv;subst hv;rfl) I I I λg46=>(aM (bX []) ?_));refine aL I (eM (i:=2) (k:=1) (ys:=xN (.sym (xq,xm))) I (lq (i:=3) I (λj u h=>by simpa using h) (bz 1) akh) I I I (λu hu=>Ki [.sym (xq,xm)] u (by simpa using hu)) J J I λv'=>(aM (bX []) ?_))
   try refine GW ?_
   refine aL I (aW (i:=2) I λlD me=>bV (i:=1) I I I lD me I (aM (bX []) ?_));rw[show(Nb t n (ap (aj ⟨b,off,ak⟩) aF.length cp) Tw vo dK).setIfInBounds (0+3) v'=Nb t n (ap (aj ⟨b,off,ak⟩) aF.length cp) v' vo dK from I]
   try refine GW ?_
   repeat(first|refine GC ?_|refine gV (eL (r:=((body.length-(j+1):Nat):Int)-1) I I J J J) ?_|refine GB ?_)
   refine dm [0,1,2] ?_;exact bT (j+1,v') (by show j+1<=body.length;omega) (by show body.length-(j+1)<body.length-j;omega) (hl:=by dsimp only;rw[hst,<-Kj];rfl)
  refine fD (cs:=(xN (.sym (xq,xm))).toArray) [Lw (.sym (xq,xm))] I I I (by intro v hv;simp at hv;subst hv;rfl) I I I λg46=>(aM (bX []) ?_);refine aL I (dx (aB (v:=Tw) aK.ty I (aH (i:=1) I I)) I I I (aM (bX []) ?_));refine aL I (eM (i:=2) (k:=1) (ys:=xN (.sym (xq,xm))) I (lq (i:=3) I (λj u h=>by simpa using h) (bz 1) akh) I I I (λu hu=>Ki [.sym (xq,xm)] u (by simpa using hu)) J J I λv'=>(aM (bX []) ?_))
  try refine GW ?_
  refine aL I (aW (i:=2) I λlD me=>bV (i:=1) I I I lD me I (aM (bX []) ?_));rw[show(Nb t n (ap (aj ⟨b,off,ak⟩) aF.length cp) Tw vo dK).setIfInBounds (0+3) v'=Nb t n (ap (aj ⟨b,off,ak⟩) aF.length cp) v' vo dK from I]
  try refine GW ?_
  repeat(first|refine GC ?_|refine gV (eL (r:=((body.length-(j+1):Nat):Int)-1) I I J J J) ?_|refine GB ?_)
  refine dm [0,1,2] ?_;exact bT (j+1,v') (by show j+1<=body.length;omega) (by show body.length-(j+1)<body.length-j;omega) (hl:=by dsimp only;rw[hst,<-Kj];rfl)
 ·obtain rfl:j=body.length:=by omega
  rw[acQ];have Fh:(body.map TD.sym++ .close (p:Int)::r).length=r.length+1+body.length:=by simp;omega
  repeat(first|refine GC ?_|refine gV (ff (b:=aE) I I (decide_eq_false J)) ?_|refine GB ?_)
  refine bx [1,0] [2] akh I I (sV aI.en I I I I) (λw hm hb=>BC gw t n _ Tw vo out dK 1 (p:Int) w _ J J hb) I I I ?_;intro Fm _;refine zL ?_;dsimp only;have fin:∀(x:Bool),x=decide (dK+1<=2000/\(body.map TD.sym++ .close (p:Int)::r).length<=60)->(fT x)=(opS gw t n (ap (aj ⟨b,off,ak⟩) aF.length cp) (body.map .sym++ .close (p:Int)::r) (out++[(1,(p:Int))]) (dK+1)).val (Tw,Fm):=λx h=>by rw[h];rfl
  rw[Fh]at fin
  by_cases c2:dK+1<=2000
  ·rw[decide_eq_true (show((dK+1:Nat):Int)<=2000 by omega)]
   by_cases c3:r.length+1+body.length<=60
   ·repeat(first|refine GC ?_|refine gV (aB (v:=Tw) aK.ty I (aH (i:=1) I I)) ?_|refine gV (fg (i:=0) bM.eq I I) ?_|refine gV (A7 (b:=aC) I I (decide_eq_true J)) ?_|refine GB ?_)
    refine cO I I λw hm=>?_;rw[fin aC (by simp[c2,c3])];exact hm.cC (S:=opS gw t n (ap (aj ⟨b,off,ak⟩) aF.length cp) (body.map .sym++ .close (p:Int)::r) (out++[(1,(p:Int))]) (dK+1)) (Tw,Fm) trivial [1,0,2] akh (by rw[<-Fh];rfl)
   repeat(first|refine GC ?_|refine gV (aB (v:=Tw) aK.ty I (aH (i:=1) I I)) ?_|refine gV (fg (i:=0) bM.eq I I) ?_|refine gV (A7 (b:=aE) I I (decide_eq_false J)) ?_|refine GB ?_)
   refine cO I I λw hm=>?_;rw[fin aE (by simp[c3])];exact hm.cC (S:=opS gw t n (ap (aj ⟨b,off,ak⟩) aF.length cp) (body.map .sym++ .close (p:Int)::r) (out++[(1,(p:Int))]) (dK+1)) (Tw,Fm) trivial [1,0,2] akh (by rw[<-Fh];rfl)
  rw[decide_eq_false (show ¬((dK+1:Nat):Int)<=2000 by omega)]
  try refine GA ?_
  refine cO I I λw hm=>?_;rw[fin aE (by simp[c2])];exact hm.cC (S:=opS gw t n (ap (aj ⟨b,off,ak⟩) aF.length cp) (body.map .sym++ .close (p:Int)::r) (out++[(1,(p:Int))]) (dK+1)) (Tw,Fm) trivial [1,0,2] akh (by rw[<-Fh];rfl)
end bZ
namespace bZ
open Go.RowKit cK dS eO
theorem Tz(a:eO.TD):(xN a).length=4:=rfl
theorem yX(v:Value)(l:List eO.TD)(w:World)(hs:Sl w v l.length (l.flatMap xN))(pP:FuncId)(first cp:Array Value)(p:eO.TD->Bool)(Bm:Enters aD pP)
 (hp:∀a∈l,∀w',Gr w w'->Calls aD pP (first++#[(aQ (xN a).toArray)]++cp) w' (bY (ret (.bool (p a))) w')):
 Calls aD 208 #[v,.func (.func pP) first cp] w (bY (ret (av az (rQ p l))) w):=by
 obtain⟨base,cap,rfl,lW,jS,eP⟩:=hs;unfold maxLen at jS;refine enter (args:=[ap base l.length cap,.func (.func pP) first cp]) (n:=19) Tryz.func208 I I I ?_
 refine GA ?_
 refine d_ (ι:=Nat) (λk=>k<=l.length/\∀j (hj:j<l.length),j<k->p l[j]=aE) (λk=>[(0,ap base l.length cap),(1,.func (.func pP) first cp),(7,av az l.length),(8,av az (k:Int))]) (λ_=>[]) (λk=>l.length-k) 0 ⟨by omega,λj hj h=>by omega⟩ ?_;rintro k ⟨h1,h2⟩
 by_cases c2:k<l.length
 ·obtain⟨b,off,rfl,hr⟩:=eP J
  have dy:=ib (L:=([]:List b9)) Tz hr c2;have jW:=hp l[k] (b_ c2)
  by_cases c3:p l[k]=aC
  ·rw[rR c2 c3 h2]
   rw[c3]at jW
   repeat(first|refine GA ?_|refine gV (aY bM.eq aK.ty I I c2) ?_|refine gV (bm aK.ty I I dy) ?_)
   refine aV (CJ Bm I I) (λw hm=>jW w hm.below) I I I ?_;intro _ _
   refine GA ?_
   exact eH
  have OP:p l[k]=false:=by simp_all
  rw[OP]at jW
  repeat(first|refine GA ?_|refine gV (aY bM.eq aK.ty I I c2) ?_|refine gV (bm aK.ty I I dy) ?_)
  refine aV (CJ Bm I I) (λw hm=>jW w hm.below) I I I ?_;intro _ _
  refine GA ?_
  exact bT (k+1) ⟨by omega,λj hj h=>if e:j<k then h2 j hj e else(by grind)⟩ J
 ·rw[rS λj hj=>h2 j hj J]
  refine GA ?_
  exact eH
theorem uh(v:Value)(l:List eO.TD)(w:World)(hs:Sl w v l.length (l.flatMap xN))(pP:FuncId)(first cp:Array Value)(p:eO.TD->Bool)(Bm:Enters aD pP)
 (hp:∀a∈l,∀w',Gr w w'->Calls aD pP (first++#[(aQ (xN a).toArray)]++cp) w' (bY (ret (.bool (p a))) w')):
 Calls aD 180 #[v,.func (.func pP) first cp] w (bY (ret (.bool (l.any p))) w):=by
 refine enter (args:=[v,.func (.func pP) first cp]) (n:=9) Tryz.func180 I I I ?_;have hh:=λw' (hg:Gr w w')=>yX v l w' (hs.gr hg) pP first cp p Bm λa ha Gz uf=>hp a ha Gz (hg.trans uf);have hr:=pE p l;rw[<-uU p l];generalize rQ p l=r at*
 refine GA ?_
 refine aV (fB aI.en I I I) (λw hm=>hh _ hm.below) I I I ?_;intro _ _
 repeat(first|refine GC ?_|refine gV (ff I I I) ?_|refine GB ?_)
 exact eH
theorem Fo(v:Value)(l:List eO.TD)(w:World)(hs:Sl w v l.length (l.flatMap xN))(hl:l.length*40<=140737488355328):
 Calls aD 183 #[v] w (bY (cI 231 4 l.length (l.flatMap xN) id) w):=by
 obtain⟨base,cap,rfl,lW,jS,eP⟩:=hs;unfold maxLen at jS;refine enter (args:=[ap base l.length cap]) (n:=8) Tryz.func183 I I I ?_;have sa:∀w',Gr w w'->Sl w' (ap base l.length cap) l.length (l.flatMap xN):=λw' hg=>Sl.gr ⟨base,cap,rfl,lW,jS,eP⟩ hg
 cases base with
 | none=>
  repeat(first|refine GC ?_|refine gV (kx bM.eq I I I) ?_|refine GB ?_)
  have h0:l=[]:=by
   simp_all
  subst h0;exact dN 231 4<|cO I I λw hm=>hm.meets (S:=cI 231 4 0 [] id) _ trivial [0] akh I
 |some p=>
  repeat(first|refine GC ?_|refine gV (kx bM.eq I I I) ?_|refine GB ?_)
  refine w6 I λg=>?_
  refine GA ?_
  refine eM (i:=0) I (λw' hm=>sa w' hm.below) I I (lV Tz l) (Ki l) J J I λv'=>?_;rw[eI]
  refine GA ?_
  refine cO I I λw hm=>?_;exact hm.meets (S:=cI 231 4 l.length (l.flatMap xN) id) v' trivial [0] akh (by simp[cI])
end bZ
namespace bJ
open aU dL f_ dP cD
open CL (z_)
section
variable{l:List aU.Prod}{T N:Nat}{lk:Int->Int->Nat}{Nx:List (List Int)}{S:List (List Item)}{w:List Int}
variable{E R M:List Bool}{F W:List Nat}
theorem Nc(hI:Vk l T N lk S.length Nx S){q:Nat}(hq:q<S.length):∀it∈S.getD q [],eG l T it:=by
 have yP:S.getD q []=S[q]:=by rw[cB,bK hq];rfl
 rw[yP];exact hI.ss.right _ (b_ hq)
end
end bJ
namespace bJ
open aU dL f_ dP cD yJ
open CL (z_)
section
variable{l:List aU.Prod}{T N:Nat}{lk:Int->Int->Nat}{Nx:List (List Int)}{S:List (List Item)}
inductive Stk(l:List aU.Prod)(T N:Nat)(lk:Int->Int->Nat)(S:List (List Item)):List Nat->List (dr×Tree)->Nat->Prop
 |start:Stk l T N lk S [0] [] 0
 |push {q s:Nat} {σ:List Nat} {ts:List (dr×Tree)} {a:Nat} {x:dr} {t:Tree} (h:Stk l T N lk S (q::σ) ts a) (hs:s<S.length) (hx:S.getD s []=jr l T lk (S.getD q []) x) (hne:jr l T lk (S.getD q []) x≠[]) (ht:HX l t x a):Stk l T N lk S (s::q::σ) ((x,t)::ts) (a+leaves t)
theorem Stk.len{σ:List Nat}{ts:List (dr×Tree)}{a:Nat}(h:Stk l T N lk S σ ts a):σ.length=ts.length+1:=by
 induction h with
 |start=>rfl
 |push _ _ _ _ _ ih=>rw[db,ih,db]
section
end
end
end bJ
namespace yJ
open aU dL f_ dP
def Nd(o:dr->Nat->Nat->Nat)(x:dr)(o8:Nat)(A:Nat->Bool):Nat->Nat->Bool
 |0,_=>aE
 |k+1,b=>Nd o x o8 A k b||(A (o8+k)&&decide (o8+k<=b)&&decide (0<o x (o8+k) b))
def ZK(p:Nat->Bool)(o8:Nat):Nat->Bool
 |0=>aE
 |k+1=>ZK p o8 k||p (o8+k)
def acR(o:dr->Nat->Nat->Nat)(O:Nat->Nat->Bool)(n o8:Nat):List dr->(Nat->Bool)->Bool
 |[],A=>A n
 |x::r,A=>if A n=aC then aC else if x.1=2/\ZK (λa=>A a&&O x.2.toNat a) o8 (n+1-o8)=aC then aC else acR o O n o8 r (Nd o x o8 A (n+1-o8))
def Kk(o:dr->Nat->Nat->Nat)(O:Nat->Nat->Bool)(M:List Bool)(n o8:Nat)(l:List dr):Bool:=if pR M l aC=aC then acR o O n o8 l (λb=>decide (b=o8))else aE
section
variable{o:dr->Nat->Nat->Nat}{x:dr}{o8:Nat}{A:Nat->Bool}
theorem Ir{b:Nat}:∀{k:Nat},Nd o x o8 A k b=aC↔∃i,i<k/\A (o8+i)=aC/\o8+i<=b/\0<o x (o8+i) b
 |0=>by simp[Nd]
 | k +1=>by
  rw[Nd,nL,Ir,eX,eX,decide_eq_true_iff,decide_eq_true_iff]
  constructor
  ·rintro(⟨i,h1,h2⟩|⟨⟨h1,h2⟩,h3⟩)
   exact⟨i,by omega,h2⟩;exact⟨k,by omega,h1,h2,h3⟩
  rintro⟨i,h1,h2,h3,h4⟩
  by_cases e:i=k
  subst e;exact .inr ⟨⟨h2,h3⟩,h4⟩;exact .inl ⟨i,by omega,h2,h3,h4⟩
theorem Nf{p:Nat->Bool}:∀{k:Nat},ZK p o8 k=aC↔∃i,i<k/\p (o8+i)=aC
 |0=>by simp[ZK]
 | k +1=>by
  rw[ZK,nL,Nf]
  constructor
  ·rintro(⟨i,h1,h2⟩|h1)
   exact⟨i,by omega,h2⟩;exact⟨k,by omega,h1⟩
  rintro⟨i,h1,h2⟩
  by_cases e:i=k
  subst e;exact .inr h2;exact .inl ⟨i,by omega,h2⟩
end
section
variable{w:List Int}{l:List aU.Prod}{n:Nat}{c:qS}{O:Nat->Nat->Bool}
theorem Fp:∀(b:List dr),(∀x∈b,∃ws,GS l x ws)->∃ws,rZ l b ws
 |[],_=>⟨[],.nil⟩
 |x::r,h=>by
  obtain⟨u,h1⟩:=h x (by simp);obtain⟨s,h2⟩:=Fp r λy hy=>h y (by simp[hy]);exact⟨u++s,.cons h1 h2⟩
theorem ZL{a b:Nat}(h:a<=b):cut w a b++w.drop b=w.drop a:=by
 unfold cut;have e3:w.drop b=(w.drop a).drop (b-a):=by rw[List.drop_drop,show a+(b-a)=b by omega]
 rw[e3,yd]
theorem Fq(hc:Lfp w l n c)(hs:pQ n l)(hO:∀(k:Nat) a,O k a=aC->a<=w.length->∃v,GS l (2,(k:Int)) (w.drop a++v)){o8:Nat}(hf:o8<=w.length):∀(body:List dr) (A:Nat->Bool) (pre:List dr),(∀x∈body,(x.1=1\/(x.1=2/\0<=x.2/\x.2<(n:Int)))/\∃ws,GS l x ws)->(∀b,o8<=b->b<=w.length->A b=aC->rZ l pre (cut w o8 b))->acR (nt c w) O w.length o8 body A=aC->∃v,rZ l (pre++body) (w.drop o8++v)
 | [],A,pre,_,hA,h=>by
  have:=hA w.length hf (bz _) h;rw[S3 I]at this;exact⟨[],by rw[du,du];exact this⟩
 | x ::r,A,pre,hx,hA,h=>by
  rw[acR]at h;split at h
  ·rename_i h1
   have h2:=hA w.length hf (bz _) h1;rw[S3 I]at h2;obtain⟨ws,h3⟩:=Fp (x::r) λy hy=>(hx y hy).2;exact⟨ws,h2.U7 h3⟩
  split at h
  ·rename_i h1
   obtain⟨h1,h2⟩:=h1;obtain⟨i,h3,h4⟩:=Nf.1 h2;rw[eX]at h4;have hk:=((hx x (by simp)).1.resolve_left J).2;obtain⟨v,h5⟩:=hO _ _ h4.2 J;obtain⟨x1,x2⟩:=x;dsimp only at h1 hk h5;subst h1;rw[vh hk.1]at h5;obtain⟨ws,h6⟩:=Fp r λy hy=>(hx y (by simp[hy])).2;refine⟨v++ws,?_⟩;have h7:=(hA (o8+i) J J h4.1).U7 (rZ.cons h5 h6);rw[dZ (w.drop (o8+i)),<-dZ (cut w o8 (o8+i)),ZL J]at h7;exact h7
  obtain⟨v,h1⟩:=Fq hc hs hO hf r _ (pre++[x]) (λy hy=>hx y (by simp[hy])) (λb GY OO hb=>by
   obtain⟨i,h3,h4,h5,h6⟩:=Ir.1 hb;rw[<-zZ (by omega:o8<=o8+i) h5];exact(hA _ J J h4).U7 (Y0 (P_ hc hs (hx x (by simp)).1 h5 OO h6))) h
  exact⟨v,by rw[dZ]at h1;exact h1⟩
theorem Kl{M:List Bool}(hM:∀i:Nat,M.getD i aE=aC->∃ws,GS l (2,(i:Int)) ws)(hc:Lfp w l n c)(hs:pQ n l)(hO:∀(k:Nat) a,O k a=aC->a<=w.length->∃v,GS l (2,(k:Int)) (w.drop a++v)){o8:Nat}(hf:o8<=w.length){body:List dr}(hx:∀x∈body,x.1=1\/(x.1=2/\0<=x.2/\x.2<(n:Int)))(h:Kk (nt c w) O M w.length o8 body=aC):∃v,rZ l body (w.drop o8++v):=by
 unfold Kk at h;split at h
 ·rename_i hm
  refine Fq hc hs hO hf body _ [] (λx hb=>⟨hx x hb,?_⟩) (λb _ _ hb=>?_) h
  ·unfold pR at hm
   have:=uE.1 hm x hb;rcases hx x hb with c1|⟨c1,c2,_⟩
   exact⟨_,.ED c1⟩;rw[if_neg J,if_pos c1]at this;obtain⟨ws,hw⟩:=hM _ this;obtain⟨x1,x2⟩:=x;dsimp only at c1 c2 hw;subst c1;rw[vh c2]at hw;exact⟨ws,hw⟩
  have:b=o8:=by simpa using hb
  subst this;rw[Mt];exact .nil
 cases h
end
end yJ
namespace aU
abbrev Tx:=List UInt8
def dec(n:Nat):Tx:=if n<10 then [fY (48+n)]else [fY (48+n/10),fY (48+n %10)]
def xA(c:UInt8):Tx->Tx×Tx×Bool
 |[]=>([],[],aE)
 |b::r=>if b=c then([],r,aC)else(b::(xA c r).1,(xA c r).2.1,(xA c r).2.2)
def ZM(x:dr):Tx:=32::(if x.1=1 then 116 else 110)::dec x.2.toNat
theorem acS(n:Nat):0<(dec n).length/\(dec n).length<=2:=by unfold dec;split<;>simp
theorem zZ{c:UInt8}:∀{a:Tx} (b:Tx),(∀x∈a,x≠c)->xA c (a++c::b)=(a,b,aC)
 |[],b,_=>by rw[eI,xA,if_pos I]
 |x::a,b,h=>by
  rw[jf,xA,if_neg (h x (ia ..)),zZ b λy hy=>h y (jR _ hy)]
theorem ZN{c:UInt8}:∀{s:Tx},(xA c s).2.2=aC->s=(xA c s).1++c::(xA c s).2.1
 |[],h=>by cases h
 | b::r,h=>by
  rw[xA]at h⊢;split at h
  ·rename_i e;rw[if_pos e,e];rfl
  rename_i e
  rw[if_neg e];show b::r=b::((xA c r).1++c::(xA c r).2.1)
  rw[<-ZN (s:=r) h]
theorem S4{c:UInt8}{s:Tx}(h:(xA c s).2.2=aC):(xA c s).1.length+(xA c s).2.1.length+1=s.length:=by
 have:=congrArg List.length (ZN h);rw[bI,db]at this;omega
theorem acT(x:dr):0<(ZM x).length/\(ZM x).length<=4:=by have:=acS x.2.toNat;unfold ZM;simp;omega
theorem Ad:∀l:List dr,l.length<=(l.flatMap ZM).length/\(l.flatMap ZM).length<=4*l.length
 |[]=>⟨bz _,bz _⟩
 |x::l=>by
  have h1:=acT x;have h2:=Ad l;rw[mg,bI,db];omega
end aU
namespace hY
open de gd
open aU (xA zZ)
abbrev Bs:=List UInt8
abbrev Wd:=Bs×Rx
abbrev Rl:=Bs×List Bs
structure Sp where
 words:List Wd
 rules:List Rl
def xO(b:UInt8):Bool:=decide (97<=b.toNat)&&decide (b.toNat<=122)
def tu(s:Bs):Bool:=decide (s≠[])&&decide (s.length<=12)&&s.all xO
def l4:List Wd->List Bs->Int×List Bs
 |[],of=>(0,of)
 |w::r,of=>if w.1≠[]/\tu w.1=aE then(1,of)else if bZ.Yb w.2≠0 then(bZ.Yb w.2,of)else if w.1∈of then(11,of)else l4 r (if w.1=[]then of else of++[w.1])
def rz:List Rl->List Bs->Int
 |[],_=>0
 |r::l,of=>if tu r.1=aE then 1 else if r.1∈of then 11 else rz l of
def BE(of hd:List Bs)(l:List Bs):Bool:=l.all λx=>decide (x∈of)||decide (x∈hd)
def sg(of hd:List Bs)(l:List Rl):Bool:=l.all λr=>BE of hd r.2
def qd(s:Sp):Int:=
 if 60<s.words.length\/60<s.words.length+s.rules.length then 2
 else if(l4 s.words []).1≠0 then(l4 s.words []).1
 else if rz s.rules (l4 s.words []).2≠0 then rz s.rules (l4 s.words []).2
 else if sg (l4 s.words []).2 (s.rules.map (·.1)) s.rules=aC then 0 else 11
end hY
namespace bZ
open Go.RowKit cK dS de gd hY
def Ap:w8 Wd:=X9 UK yv
def Is:w8 Rl:=X9 UK (bO UK)
def bsC(s:Bs):List Value:=[str s]
theorem TA(s:Bs):(bsC s).length=1:=rfl
def TB(F:Nat->Prop)(w:World)(v:Value)(s:Sp):Prop:=∃vw vr,v=aQ #[vw,vr]/\ky Ap F w vw s.words/\ky Is F w vr s.rules
theorem ZO{α:Type}{s:w8 α}{w w':World}{v:Value}{l:List α}(h:ky s (qy w) w v l)(hg:Gr w w'):ky s (qy w') w' v l:=
 (h.stay λk hk=>hg.block k hk).mono λ_ hk=>iO hk hg.size
theorem TB.gr{w w':World}{v:Value}{s:Sp}(h:TB (qy w) w v s)(hg:Gr w w'):TB (qy w') w' v s:=by
 obtain⟨vw,vr,h1,h2,h3⟩:=h;exact⟨vw,vr,h1,ZO h2 hg,ZO h3 hg⟩
def zk(n:Bs)(k:Int)(c:C4)(v:Value):List Value:=str n::mQ k c v
theorem Q3{n:Bs}{k:Int}{c:C4}{vk:Value}{j:Nat}{v:Value}(h:(mQ k c vk)[j]?=aj v):(zk n k c vk).toArray[0+1+j]?=aj v:=by
 rw[List.getElem?_toArray,cX,Nat.add_comm];exact h
theorem TC{F:Nat->Prop}{w:World}{b off:Nat}{l:List Wd}(h:∀i (h:i<l.length),∃cs,Ap.is F w cs l[i]/\Rd w b (off+i*Ap.c) cs){k:Nat}(hk:k<l.length):
 ∃base cap,Rd w b (off+k*7) (zk l[k].1 l[k].2.kind l[k].2.uQ (.slice base l[k].2.kids.length cap))/\oJ F w (re l[k].2.kind l[k].2.uQ (.slice base l[k].2.kids.length cap)) l[k].2/\l[k].1.length<=9223372036854775807:=by
 obtain⟨cs,⟨c1,c2,rfl,⟨rfl,h1⟩,h2⟩,h3⟩:=h k hk;have h2:kQ F w c2 l[k].2:=h2;have h4:=h2.r;obtain⟨vk,e,-,hs⟩:=h4;obtain⟨base,cap,rfl,-⟩:=hs;have e2:c2=mQ l[k].2.kind l[k].2.uQ (.slice base l[k].2.kids.length cap):=by
  unfold re at e;simp only[ly]at e
  simpa using congrArg Array.toList e
 subst e2;exact⟨base,cap,h3,h2.r,h1⟩
theorem Dn{F:Nat->Prop}{w:World}{b off:Nat}{l:List Rl}(h:∀i (h:i<l.length),∃cs,Is.is F w cs l[i]/\Rd w b (off+i*Is.c) cs){k:Nat}(hk:k<l.length):
 ∃base cap,Rd w b (off+k*2) [str l[k].1,.slice base l[k].2.length cap]/\ky UK F w (.slice base l[k].2.length cap) l[k].2/\l[k].1.length<=9223372036854775807:=by
 obtain⟨cs,⟨c1,c2,rfl,⟨rfl,h1⟩,v,rfl,hs⟩,h3⟩:=h k hk;have Py:=hs;obtain⟨base,cap,rfl,-⟩:=hs;exact⟨base,cap,h3,Py,h1⟩
theorem VO{b:UInt8}{r:Bs}:(b::r).all xO=(xO b&&r.all xO):=rfl
theorem It{b:UInt8}:xO b=aC↔¬((b.toNat:Int)<97)/\¬((b.toNat:Int)>122):=by
 unfold xO;simp only[eX,decide_eq_true_eq];omega
theorem Co(s:Bs)(w:World):Calls aD 74 #[str s] w (bY (ret (.bool (tu s))) w):=by
 refine enter (args:=[str s]) (n:=27) Tryz.func74 I I I ?_
 try refine GA ?_
 by_cases c0:s=[]
 ·subst c0
  repeat(first|refine GC ?_|refine gV (pC (b:=aC) I I I) ?_|refine GB ?_)
  exact dH I I I
 by_cases c1:12<s.length
 ·repeat(first|refine GC ?_|refine gV (pC (b:=aE) I I (decide_eq_false c0)) ?_|refine GB ?_)
  exact dH I I (by unfold tu;rw[decide_eq_false (show ¬s.length<=12 by omega)];simp)
 have hB:tu s=s.all xO:=by unfold tu;rw[decide_eq_true c0,decide_eq_true (show s.length<=12 by omega)];rfl
 repeat(first|refine GC ?_|refine gV (pC (b:=aE) I I (decide_eq_false c0)) ?_|refine GB ?_)
 refine d_ (ι:=Nat) (λk=>k<=s.length/\(s.drop k).all xO=s.all xO) (λk=>[(0,str s),(12,av az s.length),(13,av az (k:Int))]) (λ_=>[]) (λk=>s.length-k) 0 ⟨bH _,rfl⟩ ?_;rintro k ⟨i1,i2⟩
 by_cases c2:k<s.length
 ·rw[eZ c2,VO]at i2
  have hk:=bK c2;rw[hB];generalize s[k]=b at*
  cases hb:xO b with
  | true=>
   obtain⟨b1,b2⟩:=It.1 hb;rw[hb,Bool.true_and]at i2
   repeat(first|refine GA ?_|refine gV (wX (b:=b) bM.eq I I J hk) ?_)
   exact bT (k+1) ⟨by omega,i2⟩ (by show s.length-(k+1)<s.length-k;omega)
  | false=>
   rw[hb,Bool.false_and]at i2;rw[<-i2]
   by_cases b1:(b.toNat:Int)<97
   ·repeat(first|refine GA ?_|refine gV (wX (b:=b) bM.eq I I J hk) ?_)
    exact dH I I I
   have b2:(b.toNat:Int)>122:=by
    by_cases b2:(b.toNat:Int)>122
    exact b2;rw[It.2 ⟨b1,b2⟩]at hb;cases hb
   repeat(first|refine GA ?_|refine gV (wX (b:=b) bM.eq I I J hk) ?_)
   exact dH I I I
 have e:k=s.length:=by omega
 subst e;rw[yR]at i2;rw[hB,<-i2]
 try refine GA ?_
 exact dH I I I
def KeysOf(m:Bs->Option Value)(of:List Bs):Prop:=∀y,(m y).isSome=decide (y∈of)
theorem sh{m:Bs->Option Value}{of:List Bs}{y:Bs}{v:Value}(h:KeysOf m of)(e:m y=aj v):y∈of:=by
 have:=h y;rw[e]at this;exact of_decide_eq_true this.symm
theorem si{m:Bs->Option Value}{of:List Bs}{y:Bs}(h:KeysOf m of)(e:m y=ak):y∉of:=by
 have:=h y;rw[e]at this;exact of_decide_eq_false this.symm
theorem Ng{m:Bs->Option Value}{of:List Bs}{x:Bs}{v:Value}(h:KeysOf m of):KeysOf (λy=>if y=x then aj v else m y) (of++[x]):=λy=>by
 by_cases e:y=x
 subst e;simp;dsimp only;rw[if_neg e,h y];simp[e]
theorem il(w:World):(zeroValue 3).run aD w= .ok (av az 0) w:=by kernel_rfl
def tv(gm:Nat)(r:Int×List Bs):Spec ((Bs->Option Value)×Nat):=⟨λx=>KeysOf x.1 r.2/\x.2<=60,λ_=>av az r.1,λx=>[fq iC gm x.1 x.2]⟩
theorem Nh(vw vr:Value)(l:List Wd)(gm:Nat)(w0:World)(hw:ky Ap (qy w0) w0 vw l)(hl:l.length<=60)(w:World)(B:bL)(ho:qx w0 B)(hm:Mem B [fq iC gm (λ_=>ak) 0] w):
 Calls aD 73 #[aQ #[vw,vr],.map (aj gm)] w (da (tv gm (l4 l [])) B):=by
 obtain⟨bw,cw,rfl,-,-,eP⟩:=hw;have hnm:=λs w=>Co s w;refine dB hm (args:=[aQ #[ap bw l.length cw,vr],.map (aj gm)]) (n:=49) Tryz.func73 I I I ?_;refine bW (bB (bP I I I λg2=>?_));refine zL ?_
 repeat(first|refine GA ?_|refine gV (aB (v:=ap bw l.length cw) aK.ty I (aH (i:=1) I I)) ?_)
 refine rb [0] ?_;generalize jX:l4 l []=fin;refine d_ (ι:=Nat×List Bs×(Bs->Option Value)×Nat) (λ(k,of,m,n)=>k<=l.length/\n<=k/\KeysOf m of/\l4 (l.drop k) of=fin) (λ(k,_,_,_)=>[(1,.map (aj gm)),(11,ap bw l.length cw),(12,av az l.length),(13,av az (k:Int))]) (λ(_,_,m,n)=>[fq iC gm m n]) (λ(k,_)=>l.length-k) (0,[],λ_=>ak,0) ⟨bH _,bz _,λy=>rfl,jX⟩ ?_;clear hm jX;rintro⟨k,of,m,n⟩ ⟨i1,i2,i3,i4⟩;dsimp only at i1 i2 i3 i4⊢
 by_cases c1:k<l.length
 ·obtain⟨b,off,rfl,_,hr⟩:=eP J
  obtain⟨bk,ck,q1,q2,q3⟩:=TC hr c1;rw[eZ c1,l4]at i4;have dy:∀(L:List b9) (j:Nat) (u:Value),(zk l[k].1 l[k].2.kind l[k].2.uQ (.slice bk l[k].2.kids.length ck))[j]?=aj u->At B L ⟨b,off+k*7+j,ak⟩ u:=λL j u hj=>iX ho (q1 j u hj);have jw:=λw' (hg:Gr w0 w')=>uY _ _ w' (q2.gr hg);clear hr eP q1 q2;generalize l[k]=wd at*;obtain⟨nm,r⟩:=wd;dsimp only at*;generalize Yb r=er at*;generalize r.kind=rk at*;generalize r.uQ=rc at*;generalize r.kids.length=rn at*
  repeat(first|refine GA ?_|refine gV (aY bM.eq aK.ty I I c1) ?_|refine gV (bm (cs:=zk nm rk rc (ap bk rn ck)) aK.ty I I (dy _)) ?_)
  clear dy;refine a8 I λg6=>?_;refine zL ?_
  try refine GA ?_
  refine ij 1 (cs':=(zk nm rk rc (ap bk rn ck)).toArray) ?_;refine zL ?_
  repeat(first|refine GA ?_|refine gV (aB (v:=str nm) aK.ty I (aH (i:=1) I I)) ?_)
  by_cases e0:nm=[]
  ·subst e0
   rw[if_neg (λh=>h.1 I)]at i4
   repeat(first|refine GC ?_|refine gV (lh (b:=aE) I I I) ?_|refine gV (bm (cs:=mQ rk rc (ap bk rn ck)) aK.ty I I (λj v hj=>aH (i:=1) I (Q3 hj))) ?_|refine GB ?_)
   refine aV (i_ aI.en I I) (λw hm=>jw _ (ho.mem hm)) I I I ?_;intro _ _;refine zL ?_
   by_cases e1:er=0
   ·subst e1
    rw[if_neg (by simp)]at i4
    repeat(first|refine GA ?_|refine gV (aB (v:=str []) aK.ty I (aH (i:=1) I I)) ?_)
    cases Cg:m []with
    | some v=>
     have GF:=sh i3 Cg;rw[if_pos GF]at i4
     repeat(first|refine GA ?_|refine gV (aB (v:=str []) aK.ty I (aH (i:=1) I I)) ?_|refine gV (kh iC (x:=([]:Bs)) bM.eq il (i:=0) I I I q3 Cg) ?_)
     subst i4;exact cO I I λw hm=>hm.cC (S:=tv gm _) (m,n) ⟨i3,by show n<=60;omega⟩ [0] akh I
    | none=>
     have GF:=si i3 Cg;rw[if_neg GF,if_pos I]at i4
     repeat(first|refine GC ?_|refine gV (aB (v:=str []) aK.ty I (aH (i:=1) I I)) ?_|refine gV (ki iC (x:=([]:Bs)) bM.eq il (i:=0) I I I q3 Cg) ?_|refine gV (lh (b:=aE) I I I) ?_|refine GB ?_)
     refine dm [0] ?_;exact bT (k+1,of,m,n) ⟨by omega,by show n<=k+1;omega,i3,i4⟩ (by show l.length-(k+1)<l.length-k;omega)
   rw[if_pos e1]at i4
   repeat(first|refine GC ?_|refine gV (dl (b:=aC) I I (decide_eq_true e1)) ?_|refine GB ?_)
   subst i4;exact cO I I λw hm=>hm.cC (S:=tv gm _) (m,n) ⟨i3,by show n<=60;omega⟩ [0] akh I
  repeat(first|refine GC ?_|refine gV (lh (b:=aC) I I (decide_eq_true e0)) ?_|refine gV (aB (v:=str nm) aK.ty I (aH (i:=1) I I)) ?_|refine GB ?_)
  refine mV (i_ aI.en I I) (λw hm=>hnm nm w) I I I I I ?_;intro _ _;refine zL ?_
  cases hb:tu nm with
  | false=>
   rw[if_pos ⟨e0,hb⟩]at i4
   try refine GA ?_
   subst i4;exact cO I I λw hm=>hm.cC (S:=tv gm _) (m,n) ⟨i3,by show n<=60;omega⟩ [0] akh I
  | true=>
   rw[if_neg (λh=>by rw[hb]at h;cases h.2)]at i4
   repeat(first|refine GA ?_|refine gV (bm (cs:=mQ rk rc (ap bk rn ck)) aK.ty I I (λj v hj=>aH (i:=1) I (Q3 hj))) ?_)
   refine aV (i_ aI.en I I) (λw hm=>jw _ (ho.mem hm)) I I I ?_;intro _ _;refine zL ?_
   by_cases e1:er=0
   ·subst e1
    rw[if_neg (by simp)]at i4
    repeat(first|refine GA ?_|refine gV (aB (v:=str nm) aK.ty I (aH (i:=1) I I)) ?_)
    cases Cg:m nm with
    | some v=>
     have GF:=sh i3 Cg;rw[if_pos GF]at i4
     repeat(first|refine GA ?_|refine gV (aB (v:=str nm) aK.ty I (aH (i:=1) I I)) ?_|refine gV (kh iC (x:=nm) bM.eq il (i:=0) I I I q3 Cg) ?_)
     subst i4;exact cO I I λw hm=>hm.cC (S:=tv gm _) (m,n) ⟨i3,by show n<=60;omega⟩ [0] akh I
    | none=>
     have GF:=si i3 Cg;rw[if_neg GF,if_neg e0]at i4
     repeat(first|refine GC ?_|refine gV (aB (v:=str nm) aK.ty I (aH (i:=1) I I)) ?_|refine gV (ki iC (x:=nm) bM.eq il (i:=0) I I I q3 Cg) ?_|refine gV (lh (b:=aC) I I (decide_eq_true e0)) ?_|refine GB ?_)
     refine mI (i:=0) (x:=nm) (v:=av az (k:Int)) iC bM.eq I I I I q3 J ?_;refine zL ?_
     try refine GA ?_
     refine dm [0] ?_;exact jH (k+1,of++[nm],_,_) ⟨by omega,by rw[Cg];show n+1<=k+1;omega,Ng i3,i4⟩ (by show l.length-(k+1)<l.length-k;omega) (by repeat' (first|exact cT|refine cJ I ?_)) I
   rw[if_pos e1]at i4
   repeat(first|refine GC ?_|refine gV (dl (b:=aC) I I (decide_eq_true e1)) ?_|refine GB ?_)
   subst i4;exact cO I I λw hm=>hm.cC (S:=tv gm _) (m,n) ⟨i3,by show n<=60;omega⟩ [0] akh I
 ·obtain rfl:k=l.length:=by omega
  rw[yR]at i4
  try refine GA ?_
  subst i4;exact cO I I λw hm=>hm.cC (S:=tv gm _) (m,n) ⟨i3,by show n<=60;omega⟩ [0] akh I
end bZ
namespace bZ
open Go.RowKit cK dS de gd hY Go.ChangeShapes Go.WideShapes Go.ChangeAt
set_option maxRecDepth 100000
theorem Fs{α:Type}{s:w8 α}{is:List Value->α->Prop}{w:World}{v:Value}{l:List α}(h:UG w is s.c v l)(hi:∀cs a,is cs a->s.is (qy w) w cs a)(h0:0<s.c):ky s (qy w) w v l:=by
 obtain⟨base,cap,h1,h2,h3,h4⟩:=h;refine⟨base,cap,h1,h2,h3,λhl=>?_⟩;obtain⟨b,off,h5,h6⟩:=h4 hl;refine⟨b,off,h5,?_,λi qw=>let ⟨cs,h7,h8⟩:=h6 i qw;⟨cs,hi _ _ h7,h8⟩⟩;obtain⟨cs,h7,h8⟩:=h6 0 hl;have hlen:=s.len (hi _ _ h7);have hc:=h8 0 (cs[0]' J) (bK J);exact oF w _ hc
theorem Ni{H:Type}{M:Msr aD H}{enc0:TypeId×Value->H}{W:World}:lp M enc0 W 122 (λcs x=>Ap.is (qy W) W cs x):=λfuel cs x h hm=>by
 obtain⟨hl,SQ⟩:=A_ Tryz.underlying122 h hm;have hl7:cs.length=7:=hl;obtain⟨n,⟨e0,n1⟩,-⟩:=SQ 0 _ rfl (yp Tryz.underlying9);obtain⟨r,h1⟩:=SQ 1 _ rfl (λfuel=>Eu (M:=M) (enc0:=enc0) (W:=W) fuel fuel (bz _))
 replace e0:(cs.drop 0).take 1=[str n]:=e0
 replace h1:kQ (qy W) W ((cs.drop 1).take 6) r:=h1
 refine⟨(n,r),[str n],(cs.drop 1).take 6,?_,⟨rfl,n1⟩,h1⟩;rw[<-e0];have e:(cs.drop 1).take 6=cs.drop 1:=fU (by rw[List.length_drop];omega);rw[e,tk,yd]
theorem Nj{H:Type}{M:Msr aD H}{enc0:TypeId×Value->H}{W:World}:lp M enc0 W 124 (λcs x=>Is.is (qy W) W cs x/\M.lim 9 x.2.length):=λfuel cs x h hm=>by
 obtain⟨hl,SQ⟩:=A_ Tryz.underlying124 h hm;have HJ:cs.length=2:=hl;obtain⟨n,⟨e0,n1⟩,-⟩:=SQ 0 _ rfl (yp Tryz.underlying9);obtain⟨l,⟨v,e1,hs⟩,Ec⟩:=SQ 1 _ rfl (s8 (c:=1) Tryz.underlying90 (by kernel_rfl) akh (yp Tryz.underlying9) λcs a h=>by rw[h.1.1];rfl)
 replace e0:(cs.drop 0).take 1=[str n]:=e0
 replace e1:(cs.drop 1).take 1=[v]:=e1
 refine⟨(n,l),⟨[str n],[v],?_,⟨rfl,n1⟩,v,rfl,Fs (s:=UK) hs (λcs a h=>⟨h.1.1,h.1.2⟩) akh⟩,Ec⟩
 match cs,HJ with
 |[x,y],_=>
  simp only[Bv,tk,sQ,uG,gU,and_true]at e0 e1;subst e0 e1;rfl
theorem Nk{H:Type}{M:Msr aD H}{enc0:TypeId×Value->H}{W:World}:lp M enc0 W 25 (λcs s=>TB (qy W) W (aQ cs.toArray) s/\∀r∈s.rules,M.lim 9 r.2.length):=λfuel cs x h hm=>by
 obtain⟨hl,SQ⟩:=A_ Tryz.underlying25 h hm;have HJ:cs.length=2:=hl;obtain⟨ws,⟨vw,e0,h0⟩,-⟩:=SQ 0 _ rfl (s8 (c:=7) Tryz.underlying22 (by kernel_rfl) akh Ni λcs a h=>Ap.len h);obtain⟨rs,⟨vr,e1,h1⟩,-⟩:=SQ 1 _ rfl (s8 (c:=2) Tryz.underlying23 (by kernel_rfl) akh Nj λcs a h=>Is.len h.1)
 replace e0:(cs.drop 0).take 1=[vw]:=e0
 replace e1:(cs.drop 1).take 1=[vr]:=e1
 refine⟨⟨ws,rs⟩,⟨vw,vr,?_,Fs (s:=Ap) h0 (λcs a h=>h) akh,Fs (s:=Is) h1 (λcs a h=>h.1) akh⟩,λr hr=>?_⟩
 ·match cs,HJ with
  |[x,y],_=>
   simp only[Bv,tk,sQ,uG,gU,and_true]at e0 e1;subst e0 e1;rfl
 obtain⟨i,hi,rfl⟩:=iB.1 hr;have hi:i<rs.length:=hi;obtain⟨base,cap,_,_,_,h4⟩:=h1;obtain⟨b,off,_,h6⟩:=h4 J;obtain⟨cs,h7,_⟩:=h6 i hi;exact h7.2
end bZ
namespace bZ
open Go.RowKit cK dS de gd hY Go.ChangeShapes Go.WideShapes Go.ChangeAt
set_option maxRecDepth 100000
theorem Q4{H:Type}{enc0:TypeId×Value->H}{W:World}{base:Nat}{v:Value}{d:DataW H}{ps:List MemPlace}(hv:Value.okWide aD W .any base 25 v)(h:DataW.Trod enc0 aD W 0 (λ_=>aC) aC 25 v d ps){ts:List TypeId}{ds:List (DataW H)}(hsz:(DataW.weightsEach aD ts ds).all (· <=reachBytes)=aC)(j:Nat)(hj:ts[j]?=aj 25)(hd:ds[j]?=aj d):
 ∃s:Sp,TB (qy W) W v s/\∀r∈s.rules,r.2.length*16<=140737488351232:=by
 obtain⟨cs,s,rfl,h1,h2⟩:=X5 (M:=SK aD H) Tryz.underlying25 hv h Nk (LW hsz j hj hd);rw[Array.toArray_toList]at h1;exact⟨s,h1,h2⟩
end bZ
namespace yJ
open aU dL f_ dP bZ
def Q5(O:Nat->Nat->Bool)(h a:Nat):Nat->Nat->Bool:=λi j=>if i=h/\j=a then aC else O i j
def fal(N m:Nat)(O:Nat->Nat->Bool):Nat:=fa (λi=>fa (λj=>if O i j=aC then 0 else 1) m) N
def ZP(l:List aU.Prod)(w:List Int)(O:Nat->Nat->Bool):Prop:=∀(k:Nat) a,O k a=aC->a<=w.length->∃v,GS l (2,(k:Int)) (w.drop a++v)
theorem Km{f f':Nat->Nat}:∀{k i:Nat},i<k->(∀j,j<k->f j<=f' j)->f i<f' i->fa f k<fa f' k
 | k +1,i,hi,h,hl=>by
  rw[fa,fa]
  by_cases e:i=k
  ·subst e
   have:=Bp (f:=f) (f':=f') i λj hj=>h j J;omega
  have:=Km (f:=f) (f':=f') (k:=k) (i:=i) J (λj hj=>h j J) hl;have:=h k J;omega
theorem acU{N m h a:Nat}{O:Nat->Nat->Bool}(hh:h<N)(ha:a<m)(ho:O h a=aE):fal N m (Q5 O h a)<fal N m O:=by
 have hle:∀i j,(if Q5 O h a i j=aC then 0 else 1)<=(if O i j=aC then 0 else 1):=λi j=>by
  unfold Q5
  by_cases e:i=h/\j=a
  rw[if_pos e,if_pos I];exact bH _;rw[if_neg e];exact bz _
 unfold fal;refine Km hh (λi _=>Bp m λj _=>hle i j) (Km ha (λj _=>hle h j) ?_);have e1:Q5 O h a h a=true:=by unfold Q5;rw[if_pos ⟨rfl,rfl⟩]
 rw[e1,ho];decide
structure Nl(l:List aU.Prod)(w:List Int)(o:dr->Nat->Nat->Nat)(M:List Bool)(N:Nat)(O O':Nat->Nat->Bool)(more:Bool)(i a:Nat):Prop where
 sound:ZP l w O'
 less:more=aC->fal N (w.length+1) O'<fal N (w.length+1) O
 still:more=aE->O'=O/\∀q a',(q<i\/(q=i/\a'<a))->∀h:q<l.length,a'<=w.length->Kk o O M w.length a' l[q].2=aC->O l[q].1.toNat a'=aC
section
variable{l:List aU.Prod}{w:List Int}{n:Nat}{c:qS}{M:List Bool}{O O':Nat->Nat->Bool}{more:Bool}{i a:Nat}
theorem Nl.start(h:ZP l w O)(o:dr->Nat->Nat->Nat)(N:Nat):Nl l w o M N O O aE 0 0:=⟨h,λh=>by(cases h),λ_=>⟨rfl,λq a' h=>by omega⟩⟩
theorem Nl.set(hM:∀i:Nat,M.getD i aE=aC->∃ws,GS l (2,(i:Int)) ws)(hc:Lfp w l n c)(hs:pQ n l){N:Nat}(h:Nl l w (nt c w) M N O O' more i a)(hi:i<l.length)(ha:a<=w.length)(hN:l[i].1.toNat<N)(h0:O' l[i].1.toNat a=aE)(h1:Kk (nt c w) O' M w.length a l[i].2=aC):Nl l w (nt c w) M N O (Q5 O' l[i].1.toNat a) aC i (a+1):=by
 obtain⟨s1,s2,s3⟩:=hs _ (b_ hi);refine⟨λk b hk hb=>?_,λ_=>?_,λe=>by cases e⟩
 ·unfold Q5 at hk
  by_cases e:k=l[i].1.toNat/\b=a
  ·obtain⟨rfl,rfl⟩:=e
   obtain⟨v,hv⟩:=Kl hM hc hs h.sound ha (λx hx=>(s3 x hx)) h1;exact⟨v,.non (by show(2:Int)≠1;decide) (b_ hi) (by show l[i].1=((l[i].1.toNat:Nat):Int);omega) hv⟩
  rw[if_neg e]at hk;exact h.sound k b hk hb
 have:=acU (N:=N) (m:=w.length+1) hN (by omega:a<w.length+1) h0
 cases hm:more
 ·obtain⟨rfl,_⟩:=h.still hm
  exact this
 have:=h.less hm;omega
end
theorem ZQ{n:Nat}{l:List aU.Prod}(hf:EK n l)(hs:pQ n l):EJ (Mr l) (λs=>YY n s/\yK l s) (B8 n):=
 ⟨λs wZ=>⟨(EM hf).keep s wZ.1,z8 hs l (λ_ h=>h) _ wZ.2⟩,λs wZ=>(EM hf).dec s wZ.1⟩
theorem ZR{g:ep}{n:Nat}(jw:cz g=0)(hn:g.bC=n):YY n (xw n g.aF)/\yK g.aF (xw n g.aF):=by
 have hf:=zX jw hn;have hs:=U5 jw hn;have hz:∀i:Nat,(cL n aE).getD i aE=false:=λi=>by
  rw[cB,List.getElem?_replicate];split<;>rfl
 have h0:yK g.aF ⟨cL n aE,(cL n aE).set 0 aC,cL n aE,aE⟩:=
  ⟨λi h=>(by have h:(cL n aE).getD i aE=true:=h;rw[hz i]at h;cases h),λi h=>(by have h:(cL n aE).getD i aE=true:=h;rw[hz i]at h;cases h)⟩
 obtain⟨s',h1,h2,h3⟩:=zW (ZQ hf hs) _ ⟨cL n aE,(cL n aE).set 0 aC,cL n aE,aE⟩ ⟨⟨by simp,by simp,by simp⟩,h0⟩ (bz _);have e:xw n g.aF=ie g.aF ⟨s'.E,s'.R,s'.M,aE⟩:=h3;rw[e];exact(ZQ hf hs).keep s' h1
end yJ
namespace bZ
open Go.RowKit cK dS
theorem ZS(a:Int):(cK.dQ a).length=1:=rfl
theorem xB(v:Value)(l:List Int)(w:World)(hs:Sl w v l.length (l.flatMap cK.dQ))(pP:FuncId)(first cp:Array Value)(p:Int->Bool)(Bm:Enters aD pP)
 (hp:∀a∈l,∀w',Gr w w'->Calls aD pP (first++#[((cK.dQ a).headD undef)]++cp) w' (bY (ret (.bool (p a))) w')):
 Calls aD 209 #[v,.func (.func pP) first cp] w (bY (ret (av az (rQ p l))) w):=by
 obtain⟨base,cap,rfl,lW,jS,eP⟩:=hs;unfold maxLen at jS;refine enter (args:=[ap base l.length cap,.func (.func pP) first cp]) (n:=19) Tryz.func209 I I I ?_
 repeat(first|refine qv I (qp I) I I ?_|refine jg ?_|refine bW ?_|refine bB ?_|refine OM I ?_|refine LL I ?_|refine nJ ?_|refine mT ?_|refine zl ?_|refine lG ?_|refine jA ?_|refine kP ?_|refine ke ?_|refine jL ?_|refine jM ?_|refine iQ ?_|refine jn I ?_|refine qv I (xr bM.eq I) I I ?_|refine qv I (dq I I (qT J)) I I ?_|refine qv I (dq I I (qF J)) I I ?_|refine qv I (dW I I J J I) I I ?_)
 refine d_ (ι:=Nat) (λk=>k<=l.length/\∀j (hj:j<l.length),j<k->p l[j]=aE) (λk=>[(0,ap base l.length cap),(1,.func (.func pP) first cp),(7,av az l.length),(8,av az (k:Int))]) (λ_=>[]) (λk=>l.length-k) 0 ⟨by omega,λj hj h=>by omega⟩ ?_;rintro k ⟨h1,h2⟩
 by_cases c2:k<l.length
 ·obtain⟨b,off,rfl,hr⟩:=eP J
  have dy:=ib (L:=([]:List b9)) ZS hr c2;have jW:=hp l[k] (b_ c2)
  by_cases c3:p l[k]=aC
  ·rw[rR c2 c3 h2]
   rw[c3]at jW;clear hp h2 eP
   repeat(first|refine qv I (qp I) I I ?_|refine jg ?_|refine bW ?_|refine bB ?_|refine OM I ?_|refine LL I ?_|refine nJ ?_|refine mT ?_|refine zl ?_|refine lG ?_|refine jA ?_|refine kP ?_|refine ke ?_|refine jL ?_|refine jM ?_|refine iQ ?_|refine jn I ?_|refine qv I (aY bM.eq aK.ty I I c2) I I ?_|refine qv I (aB aK.ty I (dy 0 _ I)) I I ?_|refine qv I (xr bM.eq I) I I ?_|refine qv I (dq I I (qT J)) I I ?_|refine qv I (dq I I (qF J)) I I ?_|refine qv I (dW I I J J I) I I ?_)
   refine aV (CJ Bm I I) (λw hm=>jW w hm.below) I I I ?_;intro _ _
   repeat(first|refine qv I (qp I) I I ?_|refine jg ?_|refine bW ?_|refine bB ?_|refine OM I ?_|refine LL I ?_|refine nJ ?_|refine mT ?_|refine zl ?_|refine lG ?_|refine jA ?_|refine kP ?_|refine ke ?_|refine jL ?_|refine jM ?_|refine iQ ?_|refine jn I ?_|refine qv I (xr bM.eq I) I I ?_|refine qv I (dq I I (qT J)) I I ?_|refine qv I (dq I I (qF J)) I I ?_|refine qv I (dW I I J J I) I I ?_)
   exact eH
  have OP:p l[k]=false:=by simpa using c3
  rw[OP]at jW;clear hp eP c3
  repeat(first|refine qv I (qp I) I I ?_|refine jg ?_|refine bW ?_|refine bB ?_|refine OM I ?_|refine LL I ?_|refine nJ ?_|refine mT ?_|refine zl ?_|refine lG ?_|refine jA ?_|refine kP ?_|refine ke ?_|refine jL ?_|refine jM ?_|refine iQ ?_|refine jn I ?_|refine qv I (aY bM.eq aK.ty I I c2) I I ?_|refine qv I (aB aK.ty I (dy 0 _ I)) I I ?_|refine qv I (xr bM.eq I) I I ?_|refine qv I (dq I I (qT J)) I I ?_|refine qv I (dq I I (qF J)) I I ?_|refine qv I (dW I I J J I) I I ?_)
  refine aV (CJ Bm I I) (λw hm=>jW w hm.below) I I I ?_;intro _ _
  repeat(first|refine qv I (qp I) I I ?_|refine jg ?_|refine bW ?_|refine bB ?_|refine OM I ?_|refine LL I ?_|refine nJ ?_|refine mT ?_|refine zl ?_|refine lG ?_|refine jA ?_|refine kP ?_|refine ke ?_|refine jL ?_|refine jM ?_|refine iQ ?_|refine jn I ?_|refine qv I (xr bM.eq I) I I ?_|refine qv I (dq I I (qT J)) I I ?_|refine qv I (dq I I (qF J)) I I ?_|refine qv I (dW I I J J I) I I ?_)
  exact bT (k+1) ⟨by omega,λj hj h=>if e:j<k then h2 j hj e else(by obtain rfl:j=k:=J;exact OP)⟩ (by show l.length-(k+1)<l.length-k;omega)
 ·rw[rS λj hj=>h2 j hj J]
  clear hp h2 eP
  repeat(first|refine qv I (qp I) I I ?_|refine jg ?_|refine bW ?_|refine bB ?_|refine OM I ?_|refine LL I ?_|refine nJ ?_|refine mT ?_|refine zl ?_|refine lG ?_|refine jA ?_|refine kP ?_|refine ke ?_|refine jL ?_|refine jM ?_|refine iQ ?_|refine jn I ?_|refine qv I (xr bM.eq I) I I ?_|refine qv I (dq I I (qT J)) I I ?_|refine qv I (dq I I (qF J)) I I ?_|refine qv I (dW I I J J I) I I ?_)
  exact eH
theorem tw(v:Value)(l:List Int)(w:World)(hs:Sl w v l.length (l.flatMap cK.dQ))(pP:FuncId)(first cp:Array Value)(p:Int->Bool)(Bm:Enters aD pP)
 (hp:∀a∈l,∀w',Gr w w'->Calls aD pP (first++#[((cK.dQ a).headD undef)]++cp) w' (bY (ret (.bool (p a))) w')):
 Calls aD 185 #[v,.func (.func pP) first cp] w (bY (ret (.bool (l.any p))) w):=by
 refine enter (args:=[v,.func (.func pP) first cp]) (n:=9) Tryz.func185 I I I ?_;have hh:=λw' (hg:Gr w w')=>xB v l w' (hs.gr hg) pP first cp p Bm λa ha Gz uf=>hp a ha Gz (hg.trans uf);have hr:=pE p l;rw[<-uU p l];generalize rQ p l=r at*
 repeat(first|refine qv I (qp I) I I ?_|refine jg ?_|refine bW ?_|refine bB ?_|refine zl ?_|refine jA ?_|refine ke ?_|refine qv I (ff I I (qT J)) I I ?_|refine qv I (ff I I (qF J)) I I ?_)
 refine aV (fB aI.en I I I) (λw hm=>hh _ hm.below) I I I ?_;intro _ _
 repeat(first|refine qv I (qp I) I I ?_|refine jg ?_|refine bW ?_|refine bB ?_|refine zl ?_|refine jA ?_|refine ke ?_|refine qv I (ff I I I) I I ?_|refine qv I (ff I I (qT J)) I I ?_|refine qv I (ff I I (qF J)) I I ?_)
 exact eH
end bZ
namespace bZ
open Go.RowKit cK dS de gd eE
theorem Q6{α:Type}{f:α->List Value}{c:Nat}{W0:World}{W:bL}{L:List b9}{b off:Nat}{l:List α}(hc:∀a,(f a).length=c)(ho:qx W0 W)(h:Rd W0 b off (l.flatMap f)){k:Nat}(hk:k<l.length)(j:Nat)(u:Value)(hj:(f l[k])[j]?=aj u):At W L ⟨b,off+k*c+j,ak⟩ u:=by
 have hjc:j<c:=by rw[<-hc l[k]];exact(dg.1 hj).1
 rw[k9];exact SN ho h _ u (by rw[uS hc l k j hk hjc];exact hj)
end bZ
namespace gK
abbrev Ev:=Int×Int
def qG(x:Ev):Bool:=decide (x.1<1)||decide (4<x.1)||decide (x.2<0)||decide (1099511627776<x.2)
end gK
namespace gK
def cz(wait:List Ev)(c g:Int):Int:=if 4200<wait.length then 2 else if c<0 then 1 else if 1073741824<c then 1 else if g<0 then 1 else if 1099511627776<g then 1 else if wait.any qG=aC then 1 else 0
theorem cV{wait:List Ev}{c g:Int}(h:cz wait c g=0):wait.length<=4200/\0<=c/\c<=1073741824/\0<=g/\g<=1099511627776/\wait.any qG=false:=by
 unfold cz at h;split at h;· simp at h
 split at h;· simp at h
 split at h;· simp at h
 split at h;· simp at h
 split at h;· simp at h
 split at h;· simp at h
 rename_i a b c d e f
 exact⟨by omega,by omega,by omega,by omega,by omega,by simpa using f⟩
def G6(wait:List Ev)(c g:Int)(l:List Ev):Int:=if cz wait c g≠0 then cz wait c g else if l.any qG=aC then 1 else if 4200<wait.length+l.length then 18 else 0
def Kn(wait:List Ev)(c g:Int)(l:List Ev):List Ev:=if G6 wait c g l=0 then wait++l else wait
theorem acV{wait:List Ev}{c g:Int}{l:List Ev}(h:G6 wait c g l=0):cz wait c g=0/\l.any qG=aE/\wait.length+l.length<=4200:=by
 unfold G6 at h;split at h;contradiction;split at h;simp at h;split at h;simp at h
 rename_i a b d
 exact⟨by simpa using a,by simpa using b,by omega⟩
def oM(wait:List Ev)(c g n:Int):Int:=if cz wait c g≠0 then cz wait c g else if n<1 then 1 else if 1073741824<n then 1 else 0
def yY(wait:List Ev)(c g n:Int):Int:=if oM wait c g n=0 then min (c+n) 1073741824 else c
theorem VP{wait:List Ev}{c g n:Int}(h:oM wait c g n=0):cz wait c g=0/\1<=n/\n<=1073741824:=by
 unfold oM at h;split at h;contradiction;split at h;simp at h;split at h;simp at h
 rename_i a b d
 exact⟨by simpa using a,by omega,by omega⟩
def Iu(wait:List Ev)(c g n:Int):Int:=if cz wait c g≠0 then cz wait c g else if n<0 then 1 else 0
def takeN(wait:List Ev)(c n:Int):Nat:=(min n (min c wait.length)).toNat
end gK
namespace bZ
open Go.RowKit cK dS de
theorem ZT{j:Nat}(hj:j<64):2^j<18446744073709551616:=by
 have:=Er (a:=2) akh hj
 rwa [show(2:Nat)^64=18446744073709551616 from I]at this
theorem ai5{P:Program}(j:Nat)(hj:j<64)(w:World):(iM .shl .u64 1 .i64 (j:Int)).run P w= .ok (.int .u64 ((2^j:Nat):Int)) w:=by
 have e:min j 64=j:=by omega
 have e2:(2:Int)^j=((2^j:Nat):Int):=by rw[Int.natCast_pow];rfl
 have e3:uA.wrap ((1:Int)*2^j)=((2^j:Nat):Int):=by
  have:=ZT hj;rw[e2,sN,Int.one_mul];generalize 2^j=y at*;omega
 have h0:¬((j:Int)<0):=by omega
 simp only[iM,if_neg h0,kX,dF,e,e3,Sem.run_pure]
theorem Nn:∀b:Nat,b<256->bits .and .i64 (b:Int) 63=((b %64:Nat):Int):=by decide+kernel
theorem ZU(c:C4)(i:Nat)(h:i<4):(ed c).toArray[i]?=aj (.int .u64 ((c.get i).toNat:Int)):=Ek c i h
theorem ZV(c:C4)(i:Nat)(h:i<4)(v:BitVec 64):(ed c).toArray.setIfInBounds i (.int .u64 (v.toNat:Int))=(ed (c.set i v)).toArray:=by
 match i,h with
 |0,_=>rfl
 |1,_=>rfl
 |2,_=>rfl
 |3,_=>rfl
attribute [local irreducible] Op.shift Go.bits in
theorem tA(c:C4)(b:Nat)(hb:b<256)(w:World):Calls aD 152 #[oY c,av az (b:Int)] w (bY (ret (.bool (c.mem b))) w):=by
 refine enter (args:=[aQ #[v64 c.a,v64 c.b,v64 c.c,v64 c.d],av az (b:Int)]) (n:=14) Tryz.func152 I I I ?_;refine bW (bB (bP I I I λg=>?_));have h1:b/64<4:=by omega
 have hc:(#[v64 c.a,v64 c.b,v64 c.c,v64 c.d]:Array Value)[0+b/64]?=aj (.int .u64 ((c.get (b/64)).toNat:Int)):=by rw[cX];exact Ek c _ h1
 have hx:=(c.get (b/64)).isLt;have xt:∀w,(iM .shr .i64 (b:Int) .u64 6).run aD w= .ok (av az ((b/64:Nat):Int)) w:=λw=>Yh b 6 64 .i64 .u64 I akh w;have WC:∀w,(iM .shr .u64 ((c.get (b/64)).toNat:Int) .i64 ((b %64:Nat):Int)).run aD w= .ok (.int .u64 (((c.get (b/64)).toNat/2^(b %64):Nat):Int)) w:=λw=>Yh _ (b %64) 64 .u64 .i64 I J w;have hm:c.mem b=decide ((c.get (b/64)).toNat/2^(b %64) %2=1):=by unfold C4.mem;rw[Nat.testBit_eq_decide_div_mod_eq]
 rw[hm];have hd:(c.get (b/64)).toNat/2^(b %64)<=(c.get (b/64)).toNat:=Es _ _;have qA:=Nn b hb;generalize (c.get (b/64)).toNat=x at*;generalize b %64=k at*;generalize b/64=i at*;generalize x/2^k=y at*;have ha:bits .and .u64 (y:Int) 1=((y %2:Nat):Int):=by
  have:=bits_and_u64_nat y 1 J akh;rw[Nat.and_one_is_mod]at this;exact this
 repeat(first|refine GC ?_|refine gV (pB I I xt) ?_|refine gV (iz bM.eq aK.ty I I h1) ?_|refine gV (aB aK.ty I (aH (i:=0) I hc)) ?_|refine gV (nK I I qA) ?_|refine gV (pB I I WC) ?_|refine gV (nK I I ha) ?_|refine gV (cZ I I I) ?_|refine GB ?_)
 exact dH I I (by congr 1;rw[decide_eq_decide];omega)
attribute [local irreducible] Op.shift Go.bits in
theorem tB(c:C4)(b:Nat)(hb:b<256)(g:Nat)(w:World)(B:bL)(hm:Mem B [aP g (ed c).toArray 303] w):
 Calls aD 154 #[aJ (aj ⟨g,0,ak⟩),av az (b:Int)] w (da ⟨λ(_:Unit)=>True,λ_=> .tuple #[],λ_=>[aP g (ed (c.bit b)).toArray 303]⟩ B):=by
 refine dB hm (args:=[aJ (aj ⟨g,0,ak⟩),av az (b:Int)]) (n:=16) Tryz.func154 I I I ?_;clear hm;have h1:b/64<4:=by omega
 have hc:(ed c).toArray[0+b/64]?=aj (.int .u64 ((c.get (b/64)).toNat:Int)):=by rw[cX];exact ZU c _ h1
 have xt:∀w,(iM .shr .i64 (b:Int) .u64 6).run aD w= .ok (av az ((b/64:Nat):Int)) w:=λw=>Yh b 6 64 .i64 .u64 I akh w;have qA:=Nn b hb;have Yd:=ai5 (P:=aD) (b %64) J;have rN:=ZV c (b/64) h1 (c.get (b/64)|||io 64 (2^(b %64)));have acW:c.bit b=c.set (b/64) (c.get (b/64)|||io 64 (2^(b %64))):=rfl;rw[<-acW]at rN;have Lt:bits .or .u64 ((c.get (b/64)).toNat:Int) ((2^(b %64):Nat):Int)=(((c.get (b/64))|||io 64 (2^(b %64))).toNat:Int):=by
  have hp:=ZT (j:=b %64) J;rw[bits_or_u64_nat _ _ (c.get (b/64)).isLt hp,BitVec.toNat_or,BitVec.toNat_ofNat,Nat.mod_eq_of_lt hp]
 have hm0:b %64<64:=by omega
 generalize c.get (b/64)|||io 64 (2^(b %64))=z at*
 generalize (c.get (b/64)).toNat=x at*;generalize 2^(b %64)=y at*;generalize b %64=k at*;generalize b/64=i at*;generalize c.bit b=c' at*;have hsz:Nat.blt (0+i) (ed c).toArray.size=true:=by rw[Nat.blt_eq];show 0+i<4;omega
 rw[<-cX i]at rN;refine dT ([]) (.calm 0 (.calm 1 (.calm 2 (.calm 3 (.calm 4 (.calm 6 (.calm 7 (.calm 8 (.calm 10 (.one 5 (.calm 9 (.calm 11 (.one 12 (.done)))))))))))))) (bX []) ?_
 repeat(first|refine GW ?_|(refine GN ?_;first|refine QW (pB I I xt) ?_|refine QW (iz bM.eq aK.ty I I h1) ?_|refine QW (nK I I qA) ?_|refine QW (DW I I Yd) ?_))
 refine aL I (dx (aB aK.ty I (aH (i:=0) I hc)) I I I (aM (bX []) ?_))
 repeat(first|refine GW ?_|(refine GN ?_;first|refine QW (zn I I Lt) ?_|refine QW (iz bM.eq aK.ty I I h1) ?_))
 refine aL I (bV (i:=0) I I I I I hsz (aM (bX []) ?_))
 try refine GW ?_
 try refine GA ?_
 exact jP I λw hm=>hm.cC (S:=⟨λ(_:Unit)=>True,λ_=> .tuple #[],λ_=>[aP g (ed c').toArray 303]⟩) () trivial [0] akh (by rw[<-rN];rfl)
end bZ
namespace nu
open de gd eE cD
def qe(c:C4)(l:List Int):C4:=l.foldl (λc x=>c.bit x.toNat) c
def nW(p:PS)(s:C4):Nat->C4
 |0=>C4.zero
 |i+1=>if s.mem i=aC then qe (nW p s i) (p.follow.getD i [])else nW p s i
def nw(m:MS)(S:List C4):Nat->C4
 |0=>qe C4.zero m.first
 |n+1=>nW m.ps (S.getD n C4.zero) m.ps.follow.length
def Ko(p:PS)(all:C4)(b:Nat):Nat->C4
 |0=>C4.zero
 |i+1=>if all.mem i=aC/\(p.a_.getD i C4.zero).mem b=aC then(Ko p all b i).bit i else Ko p all b i
def Kp(p:PS)(all:C4)(b:Nat):C4:=Ko p all b p.a_.length
def kU(p:PS)(s:C4):Nat->Int
 |0=> -1
 |i+1=>if s.mem i=aC/\p.last.getD i aE=aC/\(kU p s i<0\/p.rules.getD i 0<kU p s i)then p.rules.getD i 0 else kU p s i
def xC(p:PS)(s:C4):Int:=kU p s p.a_.length
structure DM where
 S:List C4
 tags:List Int
def ji(p:PS)(m:DM)(s:C4):Nat×DM:=if s∈m.S then(idx m.S s+1,m)else(m.S.length+1,⟨m.S++[s],m.tags++[xC p s]⟩)
def gi(p:PS)(all:C4)(b:Nat)(r:Row)(m:DM):Row×DM:=
 if Kp p all b=C4.zero then(if h:b<256 then r.set b (-1)else r,m)else(if h:b<256 then(r.set b (-1)).set b ((ji p m (Kp p all b)).1:Int)else r,(ji p m (Kp p all b)).2)
def nk(p:PS)(all:C4):Nat->Nat->Row->DM->Row×DM
 |0,_,r,m=>(r,m)
 |f+1,b,r,m=>if 200<(gi p all b r m).2.S.length+1 then gi p all b r m else nk p all f (b+1) (gi p all b r m).1 (gi p all b r m).2
def qH(m:MS)(n:Nat)(d:DM):Row×DM:=nk m.ps (nw m d.S n) 256 0 (eB 256 0) d
def tC(m:MS):Nat->Nat->List Row->DM->Option (List Row×DM)
 |0,_,_,_=>ak
 |f+1,n,R,d=>if n<d.S.length+1 then(if 200<(qH m n d).2.S.length+1 then ak else tC m f (n+1) (R++[(qH m n d).1]) (qH m n d).2)else aj (R,d)
def fz:List Bool->Int->Int
 |[],_=> -1
 |b::l,k=>if b=aC then k else fz l (k+1)
def wy(m:MS):Option (List Row×DM):=tC m 201 0 [] ⟨[],[fz m.empty 0]⟩
structure DOk(p:PS)(d:DM):Prop where
 nd:d.S.Nodup
 tags:d.tags.length=d.S.length+1
theorem No{p:PS}{d:DM}(h:DOk p d)(s:C4):DOk p (ji p d s).2/\d.S.length<=(ji p d s).2.S.length/\(ji p d s).2.S.length<=d.S.length+1/\0<(ji p d s).1/\(ji p d s).1<(ji p d s).2.S.length+1:=by
 unfold ji
 by_cases c:s∈d.S
 ·rw[if_pos c]
  have:=pH c;exact⟨h,bz _,Zq _,E9 _,by show idx d.S s+1<d.S.length+1;omega⟩
 rw[if_neg c];refine⟨⟨?_,?_⟩,?_,?_,E9 _,?_⟩
 ·show(d.S++[s]).Nodup
  rw[DN];exact⟨h.nd,by simp,λa ha b hb=>by rw[dO.1 hb];exact λe=>c (e▸ha)⟩
 ·show(d.tags++[_]).length=(d.S++[s]).length+1
  rw[bI,bI,h.tags];rfl
 show _<=(d.S++[s]).length;simp
 show(d.S++[s]).length<=_;simp
 show d.S.length+1<(d.S++[s]).length+1;simp
theorem acX{p:PS}{d:DM}(h:DOk p d)(all:C4)(b:Nat)(r:Row):DOk p (gi p all b r d).2/\d.S.length<=(gi p all b r d).2.S.length/\(gi p all b r d).2.S.length<=d.S.length+1:=by
 unfold gi;split;exact⟨h,bz _,Zq _⟩;obtain⟨h1,h2,h3,_⟩:=No h (Kp p all b);exact⟨h1,h2,h3⟩
theorem Np{p:PS}(all:C4):∀(f b:Nat) (r:Row) (d:DM),DOk p d->d.S.length+1<=200->DOk p (nk p all f b r d).2/\(nk p all f b r d).2.S.length+1<=201/\d.S.length<=(nk p all f b r d).2.S.length
 |0,_,_,d,h,hl=>⟨h,(by show d.S.length+1<=201;omega),bz _⟩
 | f+1,b,r,d,h,hl=>by
  obtain⟨h1,h2,h3⟩:=acX h all b r;rw[nk];split;exact⟨h1,by omega,h2⟩;obtain⟨q1,q2,q3⟩:=Np all f (b+1) (gi p all b r d).1 _ h1 J;exact⟨q1,q2,by omega⟩
theorem Nq(c:C4)(l:List Int){k:Nat}(hk:k<l.length):qe c (l.take (k+1))=(qe c (l.take k)).bit l[k].toNat:=by
 unfold qe;rw[gX hk,Zl];rfl
end nu
namespace bZ
open Go.RowKit cK dS de gd eE nu
def Ly(vc vr vf vfol vl ve vs num rows tags:Value):Array Value:=#[vc,vr,vf,vfol,vl,ve,vs,num,rows,tags]
def Q7(S:List C4):List Value:=(C4.zero::S).flatMap ed
theorem acY{w:World}{g:Nat}{cs:Array Value}{T:TypeId}(hg:w.heap[g]?=aj (.cells cs T (0,0)))(L:List b9){k:Nat}{v:Value}(hv:cs[k]?=aj v):At (w:bL) L ⟨g,k,ak⟩ v:=
 kJ (by rw[cell_of_row w g k cs T (0,0) hg];exact hv)
theorem G7(m:MS)(vc vr vf vfol vl ve vs num rows tags:Value)(S:List C4)(g n:Nat)(w:World)(hp:G5 w (aQ #[vc,vr,vf,vfol,vl,ve]) m)(h:Ke m)(hg:w.heap[g]?=aj (.cells (Ly vc vr vf vfol vl ve vs num rows tags) 254 (0,0)))
 (hs:Sl w vs (S.length+1) (Q7 S)) (hn:n<=S.length):
 Calls aD 151 #[aJ (aj ⟨g,0,ak⟩),av az (n:Int)] w (bY (ret (oY (nw m S n))) w):=by
 obtain⟨_,_,_,_,_,_,he,h1,h2,h3,h4,h5,h6⟩:=hp;simp only[ly,pI,gU,and_true]at he;obtain⟨rfl,rfl,rfl,rfl,rfl,rfl⟩:=he;have hmf:=h.we;have WG:=h.ok.first.2;have Tr:=h.ok.ps.ris;have tW:=h.ok.ps.follow;clear h h1 h2 h5 h6;obtain⟨af,cf,rfl,_,aj1,hrf⟩:=h3;obtain⟨ao,co,rfl,_,hmo,hro⟩:=h4;obtain⟨ab,cs,rfl,hcs,hms,hrs⟩:=hs;unfold maxLen at*;have hm:=λL k v hv=>acY (k:=k) (v:=v) hg L hv;refine enter (args:=[aJ (aj ⟨g,0,ak⟩),av az (n:Int)]) (n:=59) Tryz.func151 I I I ?_;refine bW (bB (a8 I λg4=>?_));refine zL ?_
 try refine GA ?_
 refine a8 I λg5=>?_;refine zL ?_
 by_cases c0:n=0
 ·subst c0
  repeat(first|refine GC ?_|refine gV (cZ (b:=aC) I I (decide_eq_true (by simp))) ?_|refine gV (aB (v:=ap af m.first.length cf) aK.ty I (hm _ 2 _ I)) ?_|refine GB ?_)
  refine d_ (ι:=Nat) (λk=>k<=m.first.length) (λk=>[(4,aJ (aj ⟨g4,0,ak⟩)),(5,aJ (aj ⟨g5,0,ak⟩)),(18,ap af m.first.length cf),(19,av az m.first.length),(20,av az (k:Int))])
   (λk=>[aP g4 (ed C4.zero).toArray 303,aP g5 (ed (qe C4.zero (m.first.take k))).toArray 303]) (λk=>m.first.length-k) 0 (bH _) ?_
  intro k hk
  by_cases c1:k<m.first.length
  ·have hx:=WG _ (b_ c1)
   have hst:=Nq C4.zero m.first c1;obtain⟨bf,acN,rfl,VK⟩:=hrf J;have dy:=λ(L:List b9)=>ib (L:=L) kC VK c1 0 _ I;generalize m.first[k]=x at*;generalize qe C4.zero (m.first.take k)=c at*;obtain⟨xn,rfl⟩:=iw hx.1;rw[dF]at hst
   repeat(first|refine GA ?_|refine gV (aY bM.eq aK.ty I I c1) ?_|refine gV (aB (v:=av az (xn:Int)) aK.ty I (dy _)) ?_)
   refine bx [1] [0] akh I I (fB aI.en I I I) (λw hm hb=>tB c xn J g5 w _ hb) I I I ?_;intro _ _;refine zL ?_
   try refine GA ?_
   exact bT (k+1) J (by show m.first.length-(k+1)<m.first.length-k;omega) (hl:=by rw[hst])
  obtain rfl:k=m.first.length:=by omega
  rw[fU (bz _)];unfold nw;generalize qe C4.zero m.first=c at*
  repeat(first|refine GA ?_|refine gV (aO (i:=1) aK.ty I I I) ?_)
  refine ij 0 (cs':=(ed c).toArray) ?_;refine zL ?_
  try refine GA ?_
  exact fZ (i:=0) I I I I λw hm=>hm.ret
 ·obtain⟨q,rfl⟩:∃q,n=q+1:=⟨n-1,by omega⟩
  obtain⟨bs,afI,rfl,ahs⟩:=hrs J;have afJ:=λ(L:List b9)=>ib (L:=L) (f:=ed) (c:=4) (λ_=>rfl) (show Rd w bs afI ((C4.zero::S).flatMap ed)from ahs) (k:=q+1) (by simp;omega);have hgd:S.getD q C4.zero=S[q]' J:=by rw[cB,bK J];rfl
  rw[show nw m S (q+1)=nW m.ps (S.getD q C4.zero) m.ps.follow.length from I,hgd];have afJ:∀(L:List b9) (j:Nat) (u:Value),(ed (S[q]' J))[j]?=aj u->At (w:bL) L ⟨bs,afI+(q+1)*4+j,ak⟩ u:=λL j u hj=>afJ L j u hj;clear hgd ahs hrs hrf WG;generalize S[q]' J=s at*
  repeat(first|refine GC ?_|refine gV (cZ (b:=aE) I I (decide_eq_false J)) ?_|refine gV (aB (v:=ap ao m.ps.follow.length co) aK.ty I (hm _ 3 _ I)) ?_|refine GB ?_)
  refine d_ (ι:=Nat) (λk=>k<=m.ps.follow.length) (λk=>[(0,aJ (aj ⟨g,0,ak⟩)),(1,av az ((q+1:Nat):Int)),(4,aJ (aj ⟨g4,0,ak⟩)),(5,aJ (aj ⟨g5,0,ak⟩)),(32,ap ao m.ps.follow.length co),(33,av az m.ps.follow.length),(34,av az (k:Int))])
   (λk=>[aP g4 (ed C4.zero).toArray 303,aP g5 (ed (nW m.ps s k)).toArray 303]) (λk=>m.ps.follow.length-k) 0 (bH _) ?_
  intro k hk
  by_cases c1:k<m.ps.follow.length
  ·obtain⟨bo,ai6,rfl,_,ai7⟩:=hro J
   obtain⟨u,hu,hd⟩:=Bz ai7 c1;have afH:=λ(L:List b9)=>jc (L:=L) hd (j:=0) (v:=u) I;have hrx:=(Tr _ (b_ c1)).2;have hgd:m.ps.follow.getD k []=m.ps.follow[k]:=by rw[cB,bK c1];rfl
   have hst:nW m.ps s (k+1)=if s.mem k=aC then qe (nW m.ps s k) m.ps.follow[k]else nW m.ps s k:=by rw[nW,hgd]
   clear hgd;obtain⟨au,cu,rfl,_,hmu,OT⟩:=hu;unfold maxLen at hmu;generalize m.ps.follow[k]=l at*;generalize nW m.ps s k=c at*
   repeat(first|refine GA ?_|refine gV (aY bM.eq aK.ty I I c1) ?_|refine gV (aB (v:=ap au l.length cu) aK.ty I (afH _)) ?_|refine gV (aB (v:=ap (aj ⟨bs,afI,ak⟩) (S.length+1) cs) aK.ty I (hm _ 6 _ I)) ?_|refine gV (aY (j:=q+1) bM.eq aK.ty I I J) ?_|refine gV (bm (cs:=ed s) aK.ty I I (afJ _)) ?_)
   have ZW:=λw=>tA s k J w;generalize hb:s.mem k=b at*;refine aV (fB aI.en I I I) (λw hm=>ZW w) I I I ?_;intro _ _;refine zL ?_
   by_cases c2:b=aC
   ·subst c2
    rw[if_pos I]at hst
    try refine GA ?_
    refine d_ (ι:=Nat) (λj=>j<=l.length) (λj=>[(0,aJ (aj ⟨g,0,ak⟩)),(1,av az ((q+1:Nat):Int)),(4,aJ (aj ⟨g4,0,ak⟩)),(5,aJ (aj ⟨g5,0,ak⟩)),(32,ap (aj ⟨bo,ai6,ak⟩) m.ps.follow.length co),(33,av az m.ps.follow.length),(34,av az (k:Int)),(48,ap au l.length cu),(49,av az l.length),(50,av az (j:Int))])
     (λj=>[aP g4 (ed C4.zero).toArray 303,aP g5 (ed (qe c (l.take j))).toArray 303]) (λj=>l.length-j) 0 (bH _) ?_
    intro j hj
    by_cases c3:j<l.length
    ·have hx:=hrx _ (b_ c3)
     have afK:=Nq c l c3;obtain⟨bf,acN,rfl,VK⟩:=OT J;have dy:=λ(L:List b9)=>ib (L:=L) kC VK c3 0 _ I;generalize l[j]=x at*;generalize qe c (l.take j)=c' at*;obtain⟨xn,rfl⟩:=iw hx.1;rw[dF]at afK
     repeat(first|refine GA ?_|refine gV (aY bM.eq aK.ty I I c3) ?_|refine gV (aB (v:=av az (xn:Int)) aK.ty I (dy _)) ?_)
     refine bx [1] [0] akh I I (fB aI.en I I I) (λw hm hb=>tB c' xn J g5 w _ hb) I I I ?_;intro _ _;refine zL ?_
     try refine GA ?_
     exact bT (j+1) J (by show l.length-(j+1)<l.length-j;omega) (hl:=by rw[afK])
    obtain rfl:j=l.length:=by omega
    rw[fU (bz _)]
    try refine GA ?_
    exact bT (k+1) J (by show m.ps.follow.length-(k+1)<m.ps.follow.length-k;omega) (hl:=by rw[hst])
   rw[if_neg c2]at hst;obtain rfl:=wk.2 c2
   try refine GA ?_
   exact bT (k+1) J (by show m.ps.follow.length-(k+1)<m.ps.follow.length-k;omega) (hl:=by rw[hst])
  obtain rfl:k=m.ps.follow.length:=by omega
  generalize nW m.ps s m.ps.follow.length=c at*
  repeat(first|refine GA ?_|refine gV (aO (i:=1) aK.ty I I I) ?_)
  refine ij 0 (cs':=(ed c).toArray) ?_;refine zL ?_
  try refine GA ?_
  exact fZ (i:=0) I I I I λw hm=>hm.ret
end bZ
namespace bZ
open Go.RowKit cK dS de gd eE nu cD
theorem acZ:laidOutB aD=true:=by kernel_rfl
theorem setRow:(303:TypeId)<aD.types.size:=of_decide_eq_true (by kernel_rfl)
theorem ac0:(match aD.underlying 303 with|some (.array _ _)|some (.struct _)=>aC|_=>aE)=true:=by kernel_rfl
theorem ac1(x:C4):∃l,keyOf aD 303 (oY x)=aj l:=by
 obtain⟨a,b,c,d⟩:=x;have e1:aD.keyType 303=true:=by kernel_rfl
 have e2:aD.cellsOf 303=4:=by kernel_rfl
 have e3:aD.cellsOf 114=1:=by kernel_rfl
 have e4:∃d,aD.types.size+1=d+2:=⟨aD.types.size-1,by have:0<aD.types.size:=Nat.lt_of_le_of_lt (bH 303) setRow;omega⟩;obtain⟨dd,e4⟩:=e4;have key:∀v:BitVec 64,aD.keyLits (dd+1) 114 [.int .u64 (gB v)]=aj [.int .u64 (gB v)]:=λv=>by
  have hw:(Lit.int .u64 (gB v)).wf=true:=by
   have h0:=ae0 v;have h1:=ae1 v;simp[Lit.wf,AV,AW,pt,kX,h0,h1]
  simp[sO,Tryz.underlying114,hw]
 have hl:aD.keyLits (dd+2) 303 [.int .u64 (gB a),.int .u64 (gB b),.int .u64 (gB c),.int .u64 (gB d)]=aj [.int .u64 (gB a),.int .u64 (gB b),.int .u64 (gB c),.int .u64 (gB d)]:=by
  unfold sO;simp[Tryz.underlying303,e2,e3,List.range_succ_eq_map,key]
 have hf:(oY ⟨a,b,c,d⟩).formed aD 303=true:=by simp[oY,Value.formed,Tryz.underlying303,e2]
 unfold keyOf;rw[Tryz.underlying303];refine⟨.string (keyBytes ([.int .u64 (gB a),.int .u64 (gB b),.int .u64 (gB c),.int .u64 (gB d)])),?_⟩;show(if(aD.keyType 303&&(oY ⟨a,b,c,d⟩).formed aD 303)=aC then(aD.keyLits (aD.types.size+1) 303 [.int .u64 (gB a),.int .u64 (gB b),.int .u64 (gB c),.int .u64 (gB d)]).map (λls=>Lit.string (keyBytes ls))else ak)=_
 rw[e1,hf,e4,hl];rfl
set_option maxRecDepth 100000 in
def Q8:yt aD 303 C4 where
 kv:=oY
 ok _:=True
 law:=deep_law_laid acZ (m:=2) J setRow (by kernel_rfl) ac0
 key x _:=ac1 x
 inj x y h:=by
  simp only[oY,ly,pI,gU,yA,true_and,and_true]at h;exact C4.ext' (oX h.1) (oX h.2.1) (oX h.2.2.1) (oX h.2.2.2)
theorem Nr(w:World):(zeroValue 3).run aD w= .ok (av az 0) w:=by kernel_rfl
def qf(D:List C4)(x:C4):Option Value:=if x∈D then aj (av az ((idx D x+1:Nat):Int))else ak
theorem Q9{D:List C4}{x:C4}(hn:x∉D):(λy=>if y=x then aj (av az ((D.length+1:Nat):Int))else qf D y)=qf (D++[x]):=by
 funext y
 unfold qf
 by_cases c:y=x
 ·subst c
  rw[if_pos I,if_pos (by simp)];have:=rW (D:=D) (k:=y);unfold more at this;rw[if_neg hn,if_neg hn]at this;rw[this]
 rw[if_neg c]
 by_cases c2:y∈D
 rw[if_pos c2,if_pos (uH _ c2),qP c2];rw[if_neg c2,if_neg (by simp[c,c2])]
theorem Ft:(λ(_:C4)=>(none:Option Value))=qf []:=by funext y;unfold qf;rw[if_neg (by simp)]
abbrev oU(vs:Value)(S:List C4):b9:=aZ 303 4 vs (S.length+1) (Q7 S)
abbrev tD(gm:Nat)(S:List C4):b9:=fq Q8 gm (qf S) S.length
def Lz(vc vr vf vfol vl ve rows:Value)(g gm:Nat)(vs vt:Value)(d:DM):List b9:=
 [aP g (Ly vc vr vf vfol vl ve vs (.map (aj gm)) rows vt) 254,oU vs d.S,tD gm d.S,gJ vt d.tags]
def ac2(p:PS)(vc vr vf vfol vl ve rows:Value)(g gm:Nat)(d:DM)(s:C4):Spec (Value×Value):=
 ⟨λ_=>True,λ_=>av az ((ji p d s).1:Int),λx=>Lz vc vr vf vfol vl ve rows g gm x.1 x.2 (ji p d s).2⟩
theorem ZX(v:Value)(l:List Int)(x:Int):gJ v (l++[x])=aZ 3 1 v (l.length+1) (l.map (av .i64)++[av az x]):=by
 unfold gJ;rw[bI,e7];rfl
theorem Iv(S:List C4)(s:C4):Q7 (S++[s])=Q7 S++ed s:=by
 unfold Q7;rw[<-jf,fV];simp
theorem TE(s:C4):∀u∈ed s,u.oneCell'=true:=by
 intro u h;simp only[ed,dC,fH,or_false]at h;rcases h with rfl|rfl|rfl|rfl<;>rfl
theorem ZY(p:PS)(s:C4)(i:Nat):kU p s (i+1)=if s.mem i=aC/\p.last.getD i aE=aC/\(kU p s i<0\/p.rules.getD i 0<kU p s i)then p.rules.getD i 0 else kU p s i:=rfl
theorem ZZ{S:List C4}{s:C4}{gm:Nat}(hn:s∉S):fq Q8 gm (λy=>if y=s then aj (av az ((S.length+1:Nat):Int))else qf S y) (if(qf S s).isSome then S.length else S.length+1)=tD gm (S++[s]):=by
 rw[Q9 hn,show qf S s=ak from if_neg hn];unfold tD;rw[bI];rfl
attribute [local irreducible] Op.shift Go.bits in
theorem Fu(m:MS)(vc vr vf vfol vl ve rows:Value)(d:DM)(s:C4)(g gm:Nat)(vs vt:Value)(w0:World)(hp:G5 w0 (aQ #[vc,vr,vf,vfol,vl,ve]) m)(h:Ke m)(hd:d.S.length<=100000)(hdt:d.tags.length<=100001)(w:World)(B:bL)(ho:qx w0 B)
 (hm:Mem B (Lz vc vr vf vfol vl ve rows g gm vs vt d) w):
 Calls aD 155 #[aJ (aj ⟨g,0,ak⟩),oY s] w (da (ac2 m.ps vc vr vf vfol vl ve rows g gm d s) B):=by
 obtain⟨_,_,_,_,_,_,he,h1,h2,h3,h4,h5,h6⟩:=hp;simp only[ly,pI,gU,and_true]at he;obtain⟨rfl,rfl,rfl,rfl,rfl,rfl⟩:=he;have hmf:=h.we;have Pp:=h.ok.ps.rules;have UJ:=h.ok.ps.last;have hmr:=h.rules;clear h h3 h4 h6;obtain⟨ac,cc,rfl,-⟩:=h1;obtain⟨ar,cr,rfl,-,aj2,hrr⟩:=h2;obtain⟨al,cl,rfl,-,aj3,J2⟩:=h5;unfold Lz at hm;unfold ac2;obtain⟨S,tags⟩:=d;obtain⟨p,fi,em⟩:=m;dsimp only at*;refine dB hm (args:=[aJ (aj ⟨g,0,ak⟩),oY s]) (n:=105) Tryz.func155 I I I ?_;clear hm;refine bW (bB (bP I I I λg3=>?_));refine zL ?_
 by_cases c1:s∈S
 ·have hst:ji p ⟨S,tags⟩ s=(idx S s+1,⟨S,tags⟩):=if_pos c1
  have Lu:qf S s=aj (av az ((idx S s+1:Nat):Int)):=if_pos c1;rw[hst]
  try refine GA ?_
  refine dT ([aP g (Ly (ap ac p.a_.length cc) (ap ar p.rules.length cr) vf vfol (ap al p.last.length cl) ve vs (.map (aj gm)) rows vt) 254,tD gm S,aP g3 (ed s).toArray 303]) (.calm 0 (.calm 1 (.calm 2 (.calm 3 (.calm 4 (.calm 5 (.calm 6 (.calm 7 (.calm 8 (.calm 9 (.calm 10 (.done)))))))))))) (bX [0,2,4]) ?_
  repeat(first|refine GW ?_|(refine GN ?_;first|refine QW (aB (v:= .map (aj gm)) aK.ty I (aH (i:=0) I I)) ?_|refine QW (aO (i:=2) aK.ty I I I) ?_|refine QW (kh Q8 (x:=s) bM.eq Nr (i:=1) I I I trivial Lu) ?_))
  try refine GA ?_
  refine dm [0,1,2,3] ?_;exact cO I I λw hm=>hm.cC (S:=⟨λ(_:Value×Value)=>True,λ_=>av az ((idx S s+1:Nat):Int),λx=>Lz (ap ac p.a_.length cc) (ap ar p.rules.length cr) vf vfol (ap al p.last.length cl) ve rows g gm x.1 x.2 ⟨S,tags⟩⟩) (vs,vt) trivial [0,1,2,3] akh I
 ·have hst:ji p ⟨S,tags⟩ s=(S.length+1,⟨S++[s],tags++[xC p s]⟩):=if_neg c1
  have Lu:qf S s=none:=if_neg c1;rw[hst];refine jJ (i:=1) I fF λfJ=>?_;obtain⟨ab,cs,rfl,hmS,-⟩:=fJ
  try refine GA ?_
  refine dT ([aP g (Ly (ap ac p.a_.length cc) (ap ar p.rules.length cr) vf vfol (ap al p.last.length cl) ve (ap ab (S.length+1) cs) (.map (aj gm)) rows vt) 254,tD gm S,aP g3 (ed s).toArray 303]) (.calm 0 (.calm 1 (.calm 2 (.calm 3 (.calm 4 (.calm 5 (.calm 6 (.calm 7 (.calm 8 (.calm 9 (.calm 10 (.done)))))))))))) (bX [0,2,4]) ?_
  repeat(first|refine GW ?_|(refine GN ?_;first|refine QW (aB (v:= .map (aj gm)) aK.ty I (aH (i:=0) I I)) ?_|refine QW (aO (i:=2) aK.ty I I I) ?_|refine QW (ki Q8 (x:=s) bM.eq Nr (i:=1) I I I trivial Lu) ?_))
  try refine GA ?_
  (repeat refine bW ?_)
  refine lU (ι:=Unit) (λ_=>True) (λ_=>[(0,aJ (aj ⟨g,0,ak⟩)),(3,aJ (aj ⟨g3,0,ak⟩))]) (λ_=>[aP g (Ly (ap ac p.a_.length cc) (ap ar p.rules.length cr) vf vfol (ap al p.last.length cl) ve (ap ab (S.length+1) cs) (.map (aj gm)) rows vt) 254,oU (ap ab (S.length+1) cs) S,tD gm (S++[s]),gJ vt tags,aP g3 (ed s).toArray 303]) ?_ ?_
  ·refine dT ([aP g (Ly (ap ac p.a_.length cc) (ap ar p.rules.length cr) vf vfol (ap al p.last.length cl) ve (ap ab (S.length+1) cs) (.map (aj gm)) rows vt) 254,aP g3 (ed s).toArray 303]) (.calm 0 (.calm 1 (.calm 2 (.calm 3 (.calm 4 (.calm 5 (.calm 6 (.calm 7 (.calm 8 (.calm 9 (.one 10 (.done)))))))))))) (bX [0,4]) ?_
   repeat(first|refine GW ?_|(refine GN ?_;first|refine QW (aB (v:= .map (aj gm)) aK.ty I (aH (i:=0) I I)) ?_|refine QW (aO (i:=1) aK.ty I I I) ?_|refine QW (aB (v:=ap ab (S.length+1) cs) aK.ty I (aH (i:=0) I I)) ?_))
   refine aL I (mI Q8 (i:=2) (x:=s) bM.eq I I I I trivial J (aM (bX [0,4]) ?_))
   try refine GW ?_
   exact ee () trivial (by repeat' (first|exact cT|refine cJ I ?_)) (by rw[<-ZZ c1];rfl)
  intro _ _
  (repeat refine bW ?_)
  refine lU (ι:=Value) (λ_=>True) (λ_=>[(0,aJ (aj ⟨g,0,ak⟩)),(3,aJ (aj ⟨g3,0,ak⟩))]) (λpW=>[aP g (Ly (ap ac p.a_.length cc) (ap ar p.rules.length cr) vf vfol (ap al p.last.length cl) ve pW (.map (aj gm)) rows vt) 254,oU pW (S++[s]),tD gm (S++[s]),gJ vt tags,aP g3 (ed s).toArray 303]) ?_ ?_
  ·refine dT ([aP g3 (ed s).toArray 303]) (.calm 0 (.calm 1 (.calm 2 (.calm 3 (.calm 5 (.two 4 (.one 6 (.one 7 (.calm 8 (.calm 9 (.one 10 (.done)))))) 6 (.one 4 (.one 7 (.calm 8 (.calm 9 (.one 10 (.done)))))))))))) (bX [4]) ?_
   repeat(first|refine GW ?_|(refine GN ?_;first|refine QW (aO (i:=0) aK.ty I I I) ?_))
   refine eK I I ?_ ?_
   ·refine dx (aB (v:=ap ab (S.length+1) cs) aK.ty I (aH (i:=0) I I)) I I I (aM (bX [4]) ?_)
    refine aL I (fD (cs:=(ed s).toArray) [oY s] I I I (by intro v hv;simp at hv;subst hv;rfl) I I I λg36=>(aM (bX [4]) ?_));refine aL I (eM (i:=1) (e:=303) (size:=4) (bytes:=32) (m:=S.length+1) (xs:=Q7 S) (k:=1) (ys:=ed s) I (lq (i:=5) I (λj u h=>by simpa using h) (bz 1) akh) I I I (λu hu=>TE s u hu) J J I λpW=>(aM (bX [4]) ?_))
    try refine GW ?_
    refine aL I (aW (i:=1) I λlD me=>bV (i:=0) I I I lD me I (aM (bX [4]) ?_))
    try refine GW ?_
    refine dm [0,1,2,3,4] ?_;exact ee pW trivial (by repeat' (first|exact cT|refine cJ I ?_)) (by unfold oU;rw[Iv,bI];rfl)
   refine fD (cs:=(ed s).toArray) [oY s] I I I (by intro v hv;simp at hv;subst hv;rfl) I I I λg36=>(aM (bX [4]) ?_);refine aL I (dx (aB (v:=ap ab (S.length+1) cs) aK.ty I (aH (i:=0) I I)) I I I (aM (bX [4]) ?_));refine aL I (eM (i:=1) (e:=303) (size:=4) (bytes:=32) (m:=S.length+1) (xs:=Q7 S) (k:=1) (ys:=ed s) I (lq (i:=5) I (λj u h=>by simpa using h) (bz 1) akh) I I I (λu hu=>TE s u hu) J J I λpW=>(aM (bX [4]) ?_))
   try refine GW ?_
   refine aL I (aW (i:=1) I λlD me=>bV (i:=0) I I I lD me I (aM (bX [4]) ?_))
   try refine GW ?_
   refine dm [0,1,2,3,4] ?_;exact ee pW trivial (by repeat' (first|exact cT|refine cJ I ?_)) (by unfold oU;rw[Iv,bI];rfl)
  clear hmS;intro pW _;refine iR (i:=1) I fF λfJ=>?_;obtain⟨ab',cs',rfl,hmS,-⟩:=fJ
  repeat(first|refine GA ?_|refine gV (aB (v:=ap ac p.a_.length cc) aK.ty I (aH (i:=0) I I)) ?_)
  refine d_ (ι:=Nat×Int) (λ(k,t)=>k<=p.a_.length/\t=kU p s k) (λ(k,t)=>[(0,aJ (aj ⟨g,0,ak⟩)),(3,aJ (aj ⟨g3,0,ak⟩)),(7,av az t),(45,av az p.a_.length),(46,av az (k:Int))])
   (λ_=>[aP g (Ly (ap ac p.a_.length cc) (ap ar p.rules.length cr) vf vfol (ap al p.last.length cl) ve (ap ab' ((S++[s]).length+1) cs') (.map (aj gm)) rows vt) 254,oU (ap ab' ((S++[s]).length+1) cs') (S++[s]),tD gm (S++[s]),gJ vt tags,aP g3 (ed s).toArray 303]) (λ(k,_)=>p.a_.length-k) (0,-1) ⟨bH _,rfl⟩ ?_
  rintro⟨k,t⟩ ⟨hk,ht⟩;dsimp only at hk ht⊢
  by_cases q1:k<p.a_.length
  ·have hst:=ZY p s k
   have hkr:k<p.rules.length:=by omega
   have hkl:k<p.last.length:=by omega
   rw[cB (l:=p.rules),bK hkr,kL,cB (l:=p.last),bK hkl,kL]at hst;obtain⟨br,QX,rfl,aht⟩:=hrr J;obtain⟨bl,Z0,rfl,ahu⟩:=J2 J;have afG:=λ(L:List b9)=>Q6 (L:=L) kC ho aht hkr 0 _ I;have ai8:=λ(L:List b9)=>Q6 (L:=L) Tq ho ahu hkl 0 _ I;have hr0:=(hmr _ (b_ hkr)).1;have ZW:=λw=>tA s k J w;clear aht ahu hrr J2 hmr;generalize p.rules[k]=r at*;generalize p.last[k]=lb at*;generalize s.mem k=b at*;rw[<-ht]at hst;clear ht;have Z1:∀(L:List b9),At B L ⟨br,QX+k*1+0,ak⟩ (av az r):=afG;have TF:∀(L:List b9),At B L ⟨bl,Z0+k*1+0,ak⟩ (.bool lb):=ai8
   repeat(first|refine GA ?_|refine gV (aO (i:=4) aK.ty I I I) ?_)
   refine aV (fB aI.en I I I) (λw hm=>ZW w) I I I ?_;intro _ _;refine zL ?_;have skip:∀(_:¬(b=aC/\lb=aC/\(t<0\/r<t))),kU p s (k+1)=t:=λh=>by rw[hst,if_neg h]
   have take:b=aC/\lb=aC/\(t<0\/r<t)->kU p s (k+1)=r:=λh=>by rw[hst,if_pos h]
   clear hst
   by_cases q2:b=aC
   ·subst q2
    by_cases q3:lb=aC
    ·subst q3
     by_cases q4:t<0
     ·have e:=(take ⟨rfl,rfl,.inl q4⟩).symm
      repeat(first|refine GC ?_|refine gV (aB (v:=ap (aj ⟨bl,Z0,ak⟩) p.last.length cl) aK.ty I (aH (i:=0) I I)) ?_|refine gV (aY bM.eq aK.ty I I hkl) ?_|refine gV (aB (v:= .bool aC) aK.ty I (TF _)) ?_|refine gV (dq (b:=aC) I I (decide_eq_true q4)) ?_|refine gV (aB (v:=ap (aj ⟨br,QX,ak⟩) p.rules.length cr) aK.ty I (aH (i:=0) I I)) ?_|refine gV (aY bM.eq aK.ty I I hkr) ?_|refine gV (aB (v:=av az r) aK.ty I (Z1 _)) ?_|refine GB ?_)
      exact bT (k+1,r) ⟨by omega,e⟩ (by show p.a_.length-(k+1)<p.a_.length-k;omega)
     by_cases q5:r<t
     ·have e:=(take ⟨rfl,rfl,.inr q5⟩).symm
      repeat(first|refine GC ?_|refine gV (aB (v:=ap (aj ⟨bl,Z0,ak⟩) p.last.length cl) aK.ty I (aH (i:=0) I I)) ?_|refine gV (aY bM.eq aK.ty I I hkl) ?_|refine gV (aB (v:= .bool aC) aK.ty I (TF _)) ?_|refine gV (dq (b:=aE) I I (decide_eq_false q4)) ?_|refine gV (aB (v:=ap (aj ⟨br,QX,ak⟩) p.rules.length cr) aK.ty I (aH (i:=0) I I)) ?_|refine gV (aY bM.eq aK.ty I I hkr) ?_|refine gV (aB (v:=av az r) aK.ty I (Z1 _)) ?_|refine gV (dq (b:=aC) I I (decide_eq_true q5)) ?_|refine GB ?_)
      exact bT (k+1,r) ⟨by omega,e⟩ (by show p.a_.length-(k+1)<p.a_.length-k;omega)
     have e:=(skip (λh=>h.2.2.elim q4 q5)).symm
     repeat(first|refine GC ?_|refine gV (aB (v:=ap (aj ⟨bl,Z0,ak⟩) p.last.length cl) aK.ty I (aH (i:=0) I I)) ?_|refine gV (aY bM.eq aK.ty I I hkl) ?_|refine gV (aB (v:= .bool aC) aK.ty I (TF _)) ?_|refine gV (dq (b:=aE) I I (decide_eq_false q4)) ?_|refine gV (aB (v:=ap (aj ⟨br,QX,ak⟩) p.rules.length cr) aK.ty I (aH (i:=0) I I)) ?_|refine gV (aY bM.eq aK.ty I I hkr) ?_|refine gV (aB (v:=av az r) aK.ty I (Z1 _)) ?_|refine gV (dq (b:=aE) I I (decide_eq_false q5)) ?_|refine GB ?_)
     exact bT (k+1,t) ⟨by omega,e⟩ (by show p.a_.length-(k+1)<p.a_.length-k;omega)
    have e:=(skip (λh=>q3 h.2.1)).symm;obtain rfl:=wk.2 q3
    repeat(first|refine GA ?_|refine gV (aB (v:=ap (aj ⟨bl,Z0,ak⟩) p.last.length cl) aK.ty I (aH (i:=0) I I)) ?_|refine gV (aY bM.eq aK.ty I I hkl) ?_|refine gV (aB (v:= .bool aE) aK.ty I (TF _)) ?_)
    exact bT (k+1,t) ⟨by omega,e⟩ (by show p.a_.length-(k+1)<p.a_.length-k;omega)
   have e:=(skip (λh=>q2 h.1)).symm;obtain rfl:=wk.2 q2
   try refine GA ?_
   exact bT (k+1,t) ⟨by omega,e⟩ (by show p.a_.length-(k+1)<p.a_.length-k;omega)
  ·obtain rfl:k=p.a_.length:=by omega
   rw[show xC p s=t from ht.symm]at*
   repeat(first|refine GA ?_|refine gV (aB (v:=vt) aK.ty I (aH (i:=0) I I)) ?_)
   refine ku (i:=3) I I I I I I (λz h=>by cases h;rfl) J J I λz' o_=>?_;refine zL ?_
   try refine GA ?_
   refine aW (i:=3) I λlD me=>bV (i:=0) I I I lD me I ?_;refine zL ?_
   repeat(first|refine GC ?_|refine gV (aB (v:=ap ab' ((S++[s]).length+1) cs') aK.ty I (aH (i:=0) I I)) ?_|refine gV (eL (r:=((S.length+1:Nat):Int)) I I (by simp;omega) (by simp;omega) (by simp)) ?_|refine GB ?_)
   refine dm [0,1,2,3] ?_;exact cO I I λw hm=>hm.cC (S:=⟨λ(_:Value×Value)=>True,λ_=>av az ((S.length+1:Nat):Int),λx=>Lz (ap ac p.a_.length cc) (ap ar p.rules.length cr) vf vfol (ap al p.last.length cl) ve rows g gm x.1 x.2 ⟨S++[s],tags++[t]⟩⟩) (ap ab' ((S++[s]).length+1) cs',o_) trivial [0,1,2,3] akh (by unfold Lz;rw[<-ZX];rfl)
  done
end bZ
namespace bZ
open Go.RowKit cK dS zN cD
def eU(r:Row):List Value:=r.toList.map (.int .i16)
theorem dz(r:Row):(eU r).length=256:=by simp[eU]
theorem qh(r:Row){b:Nat}(hb:b<256):(eU r)[b]?=aj (.int .i16 r[b]):=by
 unfold eU;rw[fe,bK (by simpa using hb),nj];rfl
theorem row_one(l:List Row):∀u∈l.flatMap eU,u.oneCell'=true:=by
 intro u hu;obtain⟨x,_,h⟩:=vj.1 hu;obtain⟨n,_,rfl⟩:=eT.1 h;rfl
theorem sj(r:Row):(eU r).all Value.oneCell'=true:=uE.2 λu hu=>row_one [r] u (by simpa using hu)
def ja(vr vt:Value):Value:=aQ #[vr,vt]
def xD:Row:=eB 256 0
structure G8(w:World)(vr vt:Value)(R:List Row)(tags:List Int):Prop where
 hR:Sl w vr R.length (R.flatMap eU)
 hT:Sl w vt tags.length (tags.flatMap cK.dQ)
 rng:∀r∈R,∀x∈r.toList,-32768<=x/\x<=32767
 okT:∀x∈tags,cK.dU x
theorem G8.gr{w w':World}{vr vt:Value}{R:List Row}{tags:List Int}(h:G8 w vr vt R tags)(hg:Gr w w'):G8 w' vr vt R tags:=⟨h.hR.gr hg,h.hT.gr hg,h.rng,h.okT⟩
theorem G8.ahv{w:World}{vr vt:Value}{R:List Row}{tags:List Int}(h:G8 w vr vt R tags):Ma w (ja vr vt) (R.map QB) tags:=by
 refine⟨vr,vt,rfl,?_,?_,λr hr=>by obtain⟨x,_,rfl⟩:=eT.1 hr;simp⟩
 ·obtain⟨base,cap,h1,h2,h3,h4⟩:=h.hR
  refine⟨base,cap,by rw[dA];exact h1,by rw[dA];exact h2,h3,λh0=>?_⟩;rw[dA]at h0;obtain⟨b,off,h5,h6⟩:=h4 h0;refine⟨b,off,h5,λi hi=>?_⟩;have qw:i<R.length:=by simpa using hi
  refine⟨eU R[i],⟨by simp,by simp[eU],λx hx=>h.rng R[i] (b_ qw) x (by simpa using hx)⟩,λj u hj=>?_⟩;have hjl:j<256:=by have:=(dg.1 hj).1;rwa [dz]at this
  have:=h6 (i*256+j) u (by rw[uS dz R i j qw hjl];exact hj);rw[k9];exact this
 obtain⟨base,cap,h1,h2,h3,h4⟩:=h.hT;refine⟨base,cap,h1,h2,h3,λh0=>?_⟩;obtain⟨b,off,h5,h6⟩:=h4 h0;refine⟨b,off,h5,λi hi=>⟨[av az tags[i]],⟨rfl,h.okT _ (b_ hi)⟩,λj u hj=>?_⟩⟩;have hj0:j=0:=by have:=(dg.1 hj).1;simpa using this
 subst hj0;rw[k_,iu];refine h6 i u ?_;rw[show tags.flatMap cK.dQ=tags.map (.int .i64)from cK.ad9 tags,fe,bK hi];exact hj
def fA(R:List Row)(tags:List Int):vm:=⟨R.length,λi b=>(R.getD i xD).toList.getD b 0,λi=>tags.getD i 0⟩
def mw(R:List Row)(tags:List Int):Int:=Be (R.map QB) tags
theorem Iw(R:List Row){i:Nat}(hi:i<R.length):(R.map QB).getD i []=(R.getD i xD).toList:=by
 rw[cB,fe,cB,bK hi];rfl
theorem wz{R:List Row}{tags:List Int}(h:mw R tags=0):(fA R tags).Ok/\tags.length=R.length:=by
 obtain⟨h1,h2,h3,h4⟩:=YB h;rw[dA]at h1 h2 h3 h4;refine⟨⟨h2,h1,λi hi b hb=>?_,λi hi=>?_⟩,h3⟩
 ·have:=(h4 i hi).2.2
  rw[Iw R hi]at this;refine this _ ?_;show(R.getD i xD).toList.getD b 0∈_
  rw[cB (l:=(R.getD i xD).toList),bK (by simpa using hb)];exact b_ _
 have:=h4 i hi;exact⟨this.1,this.2.1⟩
theorem Kq{R:List Row}{tags:List Int}(h:(fA R tags).Ok)(hl:tags.length=R.length):mw R tags=0:=by
 have h1:R.length<=200:=h.le;have h2:0<R.length:=h.pos;unfold mw Be;rw[dA,if_neg J,if_neg J,if_neg];simp only[rj,List.mem_range,not_exists,not_and];intro i hi;have ht:=h.tags i hi;have hs:=h.step i hi;rw[Iw R hi];simp only[nO,nL,decide_eq_true_eq,rj,not_or,not_exists,not_and];refine⟨⟨?_,?_⟩,λt ht'=>?_⟩
 ·show ¬tags.getD i 0< -1
  have: -1<=tags.getD i 0:=ht.1;omega
 ·have:tags.getD i 0<20:=ht.2
  omega
 obtain⟨b,hb,rfl⟩:=iB.1 ht';have OJ:b<256:=by simpa using hb
 have:=hs b OJ;have e:(fA R tags).d i b=(R.getD i xD).toList[b]:=by
  show(R.getD i xD).toList.getD b 0=_
  rw[cB (l:=(R.getD i xD).toList),bK hb];rfl
 rw[e]at this;have e2:(fA R tags).n=R.length:=rfl;omega
def xC(R:List Row)(tags:List Int)(s:List UInt8):Int×Int:=if mw R tags=0 then(tg (fA R tags) (go (fA R tags) 0 s),0)else(0,mw R tags)
end bZ
end Go.Proofs.YtdmgcnggnejnnaaGreat

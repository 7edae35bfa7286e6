/- Part 5 of what SessionOnce needs: ClimbA, TdS, ClimbB, ClimbC, ClimbD, ClimbE, LexL, LexA, LexB, SmBk, LexN, LrM, LrN, LrP, LrT, SpecG, SpecV, SpecLst, AbcL, SpecOneL, IntS, BuA, BuB, WhL, FeedL, FeedP, GateL, GateM, SeL, SeP, BuC, Half, WhC, Ev, EvS, GateC, GateD, FeedA, FeedB, FeedC, SeM, SeN, Bun, Mk2, SeO. -/
import Derived.Test.YtaobbfedlnddcaaGreatMgD
namespace Go.Proofs.YtaobbfedlnddcaaGreat
set_option linter.unusedVariables false
set_option linter.unusedSimpArgs false
open _root_.And renaming intro->bX
open _root_.Array renaming getElem?_eq_some_iff->jm,length_toList->lG
open _root_.Bool renaming false->aE,true->aD,and_eq_true->fc,true_and->vC,or_eq_false_iff->Dx
open _root_.Classical renaming not_not->ZT
open _root_.False renaming elim->nV
open _root_.Go.BigFrame renaming execOp_builtin->lH,builtin_append->r9
open _root_.Go.Builtin renaming append_->tL,lenOf->zX,firstCells->C2
open _root_.Go.Instr renaming build->dh
open _root_.Go.IntKind renaming i64->az
open _root_.Go.Oper renaming wp->fR
open _root_.Go.Proofs.Tryz renaming prog->aB
open _root_.Go.Value renaming slice->ap,int->av,pointer->aJ,agg->aQ,oneCell'->eZ,ownBlock->sd,cells->sR
open _root_.Go.Value.slice renaming injEq->iX
open _root_.Int renaming toNat_natCast->dq,eq_ofNat_of_zero_le->h_,le_refl->lg,toNat_of_nonneg->um
open _root_.List renaming getElem?_eq_getElem->bD,getD_eq_getElem?_getD->b9,length_append->bI,getElem?_eq_some_iff->cX,getElem_mem->cD,length_cons->de,all_cons->cZ,drop_eq_getElem_cons->eN,mem_singleton->dR,all_nil->db,getElem?_append_left->eR,length_map->dF,size_toArray->dZ,mem_cons->dA,append_nil->dW,append_assoc->eD,getElem?_map->eS,nil_append->eu,flatMap_append->fC,getElem?_append_right->kF,getElem?_toArray->jn,mem_cons_self->gd,mem_append->fu,not_mem_nil->fv,mem_map->eX,drop_of_length_le->jo,mem_iff_getElem->hY,length_drop->jc,mem_cons_of_mem->kM,length_nil->ia,getElem?_eq_none->kG,eq_nil_of_length_eq_zero->se,cons_append->iY,length_take->iZ,length_singleton->lW,mem_of_getElem?->lP,getElem?_cons_zero->sf,take_length->mH,drop_zero->mC,drop_eq_nil_of_le->uo,any_eq_false->sX,drop_drop->qH,getElem?_take->qO,getElem?_of_mem->xr,length_reverse->J7,mem_of_mem_drop->AU,exists_cons_of_ne_nil->QE,length->yf,getElem?_take_of_lt->ZU,getD_cons_succ->ZV,getElem?_drop->ZW,mem_reverse->ZX,take_left->ZY,map_take->ZZ
open _root_.Nat renaming le_refl->bx,zero_le->bH,zero_add->cV,add_mul->jq,not_lt_zero->l5,lt_succ_self->nv,add_zero->jC,succ_mul->k7,sub_self->oa,succ_ne_zero->E9,add_sub_cancel->J8,le_add_right->Av,le_of_eq->Z0
open _root_.Option renaming some->aj,none->ak,getD_some->kp,map_some->Z1
open _root_.Option.some renaming injEq->df,inj->oQ
open _root_.Prod.mk renaming injEq->fD
open _root_.True renaming intro->bZ
open _root_.Vector renaming getElem_ofFn->kq
set_option maxHeartbeats 16000000
namespace cI
open Go.RowKit cU dS aT dP fh
attribute [local irreducible] Instr.build in
theorem Bb(gw:Nat)(t n:Int)(vp vt vo:Value)(out:List dy)(dI:Nat)(kd m:Int)(w:World)(B:bO)(h1:out.length<=100000)(h2:dI<=100000)(hm:Mem B [yb gw t n vp vt vo dI,kV vo out] w):
 Calls aB 121 #[aJ (aj ⟨gw,0,ak⟩),av az kd,av az m] w (cY ⟨λ(_:Value)=>True,λ_=> .bool (decide (((dI+1:Nat):Int)<=2000)),λE_=>[yb gw t n vp vt E_ (dI+1),kV E_ (out++[(kd,m)])]⟩ B):=by
 refine dm hm (args:=[aJ (aj ⟨gw,0,ak⟩),av az kd,av az m]) (n:=31) Tryz.func121 I I I ?_;refine ac6 (i:=1) I λkT lC=>?_
 repeat(first|refine GC ?_|refine gV (aC aK.ty I (aH (i:=0) I I)) ?_|refine gV (eT (r:=((dI+1:Nat):Int)) I I J J J) ?_|refine GB ?_)
 refine bU (i:=0) I I I I I I ?_;rw[show(LH t n vp vt vo dI).setIfInBounds (0+5) (av az ((dI+1:Nat):Int))=LH t n vp vt vo (dI+1)from I];refine zL ?_
 repeat(first|refine GA ?_|refine gV (aC aK.ty I (aH (i:=0) I I)) ?_|refine gV (bB I (AM _ _)) ?_)
 refine ju (i:=1) I I I I I I I (λz h=>by cases h;rfl) J J I λz' v'=>?_;refine zL ?_;refine aU (i:=1) I λkT lC=>?_
 try refine GA ?_
 refine bU (i:=0) I I I kT lC I ?_;rw[show(LH t n vp vt vo (dI+1)).setIfInBounds (0+4) v'=LH t n vp vt v' (dI+1)from I];refine zL ?_
 repeat(first|refine GC ?_|refine gV (aC (v:=av az ((dI+1:Nat):Int)) aK.ty I (aH (i:=0) I I)) ?_|refine gV (Aj I I I) ?_|refine GB ?_)
 exact cJ I I λw hm=>hm.bV (S:=⟨λ(_:Value)=>True,λ_=> .bool (decide (((dI+1:Nat):Int)<=2000)),λE_=>[yb gw t n vp vt E_ (dI+1),kV E_ (out++[(kd,m)])]⟩) v' trivial [0,1] aiT (by simp[yb,kV])
theorem BO{B:bO}{L:List cH}{i g cap:Nat}{d:TD}{r:List TD}(hi:L[i]?=aj (wN (ap (aj ⟨g,0,ak⟩) (r.length+1) cap) (d::r)))(j:Nat)(u:Value)(hu:(wV d)[j]?=aj u):At B L ⟨g,0+r.length*4+j,ak⟩ u:=
 rh I5 hi (k:=r.length) (by simp) j u (by simpa using hu)
theorem SA{d:TD}{r:List TD}{g cap:Nat}{w:World}(h:(wN (ap (aj ⟨g,0,ak⟩) (r.length+1) cap) (d::r)).holds w):(wN (ap (aj ⟨g,0,ak⟩) r.length cap) r).holds w:=by
 obtain⟨h1,h2⟩:=h;refine⟨by rw[k9 I5];simp,?_⟩;rcases h2 with⟨h2,_⟩|⟨g',FQ,jS,e,h3,h4,h5,h6,h7,h8⟩
 cases h2
 cases e
 refine .inr ⟨g,cap,jS,rfl,h3,h4,by simp at h5;omega,h6,h7,?_⟩;have:(jS.toList.take ((d::r).length*4)).take (r.length*4)=((d::r).reverse.flatMap wV).take (r.length*4):=by rw[h8]
 rw[List.take_take,Nat.min_eq_left (by simp;omega),List.reverse_cons,fC,List.take_left' (by rw[k9 I5];simp)]at this;exact this
attribute [local irreducible] Instr.build in
theorem Bc(gw:Nat)(t n:Int)(vp vt vo:Value)(d:TD)(r:List TD)(dI:Nat)(w:World)(B:bO)(h1:r.length<=100000)(hm:Mem B [yb gw t n vp vt vo dI,wN vt (d::r)] w):
 Calls aB 120 #[aJ (aj ⟨gw,0,ak⟩)] w (cY ⟨λ(_:Value)=>True,λ_=>KM d,λoD=>[yb gw t n vp oD vo dI,wN oD r]⟩ B):=by
 refine dm hm (args:=[aJ (aj ⟨gw,0,ak⟩)]) (n:=31) Tryz.func120 I I I ?_;refine xK (i:=1) I (by simp) λg cap hv q1 q2=>?_;subst hv;simp only[de]at*;refine cC (bz (aY I λg2=>?_));refine zL ?_
 try refine GA ?_
 refine dN ([yb gw t n vp (ap (aj ⟨g,0,ak⟩) (r.length+1) cap) vo dI,wN (ap (aj ⟨g,0,ak⟩) (r.length+1) cap) (d::r)]) (.calm 0 (.calm 1 (.calm 2 (.calm 3 (.calm 4 (.calm 5 (.calm 6 (.calm 7 (.calm 8 (.calm 9 (.calm 10 (.calm 11 (.one 12 (.one 13 (.done))))))))))))))) (bW [0,1]) ?_
 repeat(first|(refine GN ?_;first|refine QW QP ?_|refine QW (aC (v:=ap (aj ⟨g,0,ak⟩) (r.length+1) cap) aK.ty I (aH (i:=0) I I)) ?_|refine QW (eJ (r:=(r.length:Int)) I I J J J) ?_|refine QW (aX (j:=r.length) bM.eq aK.ty I I J) ?_|refine QW (a8 aK.ty I I (BO (i:=1) I)) ?_|refine GX ?_)|refine GW ?_)
 refine aL I (aY I λg3=>?_);refine aM (bW [0,1]) ?_;refine aL I (aW (i:=3) (cs':=(wV d).toArray) I I I I I I (aM (bW [0,1]) ?_))
 try refine GW ?_
 try refine GA ?_
 refine dN ([]) (.calm 0 (.calm 1 (.calm 2 (.calm 3 (.calm 5 (.calm 6 (.calm 7 (.two 4 (.one 8 (.calm 9 (.calm 10 (.calm 11 (.calm 12 (.calm 13 (.one 14 (.done)))))))) 8 (.calm 9 (.calm 10 (.one 4 (.calm 11 (.calm 12 (.calm 13 (.one 14 (.done)))))))))))))))) (bW []) ?_
 try refine GW ?_
 refine eG I I ?_ ?_
 ·refine dx (aC (v:=ap (aj ⟨g,0,ak⟩) (r.length+1) cap) aK.ty I (aH (i:=0) I I)) I I I (aM (bW []) ?_)
  refine aL I (dx (aC (v:=ap (aj ⟨g,0,ak⟩) (r.length+1) cap) aK.ty I (aH (i:=0) I I)) I I I (aM (bW []) ?_))
  repeat(first|(refine GN ?_;first|refine QW QP ?_|refine QW (eJ (r:=(r.length:Int)) I I J J J) ?_|refine QW (La (j:=r.length) bM.eq aK.ty I I J) ?_|refine GX ?_)|refine GW ?_)
  refine aL I (bU (i:=0) I I I I I I (aM (bW []) ?_));rw[show(LH t n vp (ap (aj ⟨g,0,ak⟩) (r.length+1) cap) vo dI).setIfInBounds (0+3) (ap (aj ⟨g,0,ak⟩) r.length cap)=LH t n vp (ap (aj ⟨g,0,ak⟩) r.length cap) vo dI from I]
  try refine GW ?_
  repeat(first|refine GA ?_|refine gV (aO (i:=3) aK.ty I I I) ?_)
  refine gC 2 (cs':=(wV d).toArray) ?_;refine zL ?_
  try refine GA ?_
  refine oz (i:=1) (wN (ap (aj ⟨g,0,ak⟩) r.length cap) r) I (λw h=>SA h) (λk hk=>hk) ?_;exact fL (i:=2) I I I I λw hm=>hm.bV (S:=⟨λ(_:Value)=>True,λ_=>KM d,λoD=>[yb gw t n vp oD vo dI,wN oD r]⟩) (ap (aj ⟨g,0,ak⟩) r.length cap) trivial [0,1] aiT I
 ·refine dx (aC (v:=ap (aj ⟨g,0,ak⟩) (r.length+1) cap) aK.ty I (aH (i:=0) I I)) I I I (aM (bW []) ?_)
  repeat(first|(refine GN ?_;first|refine QW QP ?_|refine QW (eJ (r:=(r.length:Int)) I I J J J) ?_|refine GX ?_)|refine GW ?_)
  refine aL I (dx (aC (v:=ap (aj ⟨g,0,ak⟩) (r.length+1) cap) aK.ty I (aH (i:=0) I I)) I I I (aM (bW []) ?_))
  repeat(first|(refine GN ?_;first|refine QW QP ?_|refine QW (La (j:=r.length) bM.eq aK.ty I I J) ?_|refine GX ?_)|refine GW ?_)
  refine aL I (bU (i:=0) I I I I I I (aM (bW []) ?_));rw[show(LH t n vp (ap (aj ⟨g,0,ak⟩) (r.length+1) cap) vo dI).setIfInBounds (0+3) (ap (aj ⟨g,0,ak⟩) r.length cap)=LH t n vp (ap (aj ⟨g,0,ak⟩) r.length cap) vo dI from I]
  try refine GW ?_
  repeat(first|refine GA ?_|refine gV (aO (i:=3) aK.ty I I I) ?_)
  refine gC 2 (cs':=(wV d).toArray) ?_;refine zL ?_
  try refine GA ?_
  refine oz (i:=1) (wN (ap (aj ⟨g,0,ak⟩) r.length cap) r) I (λw h=>SA h) (λk hk=>hk) ?_;exact fL (i:=2) I I I I λw hm=>hm.bV (S:=⟨λ(_:Value)=>True,λ_=>KM d,λoD=>[yb gw t n vp oD vo dI,wN oD r]⟩) (ap (aj ⟨g,0,ak⟩) r.length cap) trivial [0,1] aiT I
theorem QF(out:List dy)(a:Nat):bQ [] out a=([],out,a,aD):=rfl
theorem QG(x:dy)(r:List TD)(out:List dy)(a:Nat):bQ (.sym x::r) out a=(.sym x::r,out,a,aD):=rfl
theorem QH(p:Int)(r:List TD)(out:List dy){a:Nat}(h:a+1<=2000):bQ (.close p::r) out a=bQ r (out++[(3,p)]) (a+1):=by rw[bQ,if_pos h]
theorem U0(p:Int)(r:List TD)(out:List dy){a:Nat}(h:¬a+1<=2000):bQ (.close p::r) out a=(r,out++[(3,p)],a+1,aE):=by rw[bQ,if_neg h]
def clS(gw:Nat)(t n:Int)(vp:Value)(c:List TD×List dy×Nat×Bool):Spec (Value×Value):=⟨λ_=>True,λ_=> .bool c.2.2.2,λx=>[yb gw t n vp x.1 x.2 c.2.2.1,wN x.1 c.1,kV x.2 c.2.1]⟩
theorem rP(gw:Nat)(t n:Int)(vp Z2 Z3:Value)(VD:List TD)(vV:List dy)(HW:Nat)(w:World)(B:bO)(h1:VD.length<=100000)(h2:HW<=2000)(h3:vV.length=HW)(hm:Mem B [yb gw t n vp Z2 Z3 HW,wN Z2 VD,kV Z3 vV] w):
 Calls aB 122 #[aJ (aj ⟨gw,0,ak⟩)] w (cY (clS gw t n vp (bQ VD vV HW)) B):=by
 refine dm hm (args:=[aJ (aj ⟨gw,0,ak⟩)]) (n:=30) Tryz.func122 I I I ?_;clear hm
 try refine GA ?_
 generalize hC:bQ VD vV HW=C;refine ea (ι:=List TD×List dy×Nat×Value×Value) (λ(st,out,dI,_,_)=>bQ st out dI=C/\st.length<=100000/\dI<=2000/\out.length=dI) (λ_=>[(0,aJ (aj ⟨gw,0,ak⟩))]) (λ(st,out,dI,vt,vo)=>[yb gw t n vp vt vo dI,wN vt st,kV vo out]) (λ(st,_,_,_,_)=>st.length) (VD,vV,HW,Z2,Z3) ⟨hC,h1,h2,h3⟩ ?_;clear h1 h2 h3 hC;rintro⟨st,out,dI,vt,vo⟩ ⟨hC,h1,h2,h3⟩;dsimp only at hC h1 h2 h3⊢
 cases st with
 | nil=>
  rw[QF]at hC;subst hC
  (repeat refine cC ?_)
  refine dN ([yb gw t n vp vt vo dI,wN vt []]) (.calm 0 (.calm 1 (.calm 2 (.calm 3 (.calm 4 (.calm 5 (.calm 6 (.calm 7 (.calm 8 (.calm 9 (.calm 10 (.calm 11 (.calm 12 (.calm 13 (.calm 14 (.calm 15 (.calm 16 (.calm 17 (.calm 18 (.calm 19 (.calm 20 (.done)))))))))))))))))))))) (bW [0,1]) ?_
  repeat(first|(refine GN ?_;first|refine QW QP ?_|refine QW (aC (v:=vt) aK.ty I (aH (i:=0) I I)) ?_|refine QW (e8 (i:=1) bM.eq I I) ?_|refine QW (dT (b:=aE) I I I) ?_|refine GX ?_)|refine GW ?_)
  try refine GA ?_
  exact cJ I I λw hm=>hm.bV (S:=clS gw t n vp ([],out,dI,aD)) (vt,vo) trivial [0,1,2] aiT I
 | cons d r=>
  simp only[de]at h1;refine xK (i:=1) I (by simp) λg cap hv q1 q2=>?_;subst hv;simp only[de]at*
  cases d with
  | sym x=>
   rw[QG]at hC;subst hC
   (repeat refine cC ?_)
   refine dN ([yb gw t n vp (ap (aj ⟨g,0,ak⟩) (r.length+1) cap) vo dI,wN (ap (aj ⟨g,0,ak⟩) (r.length+1) cap) (.sym x::r)]) (.calm 0 (.calm 1 (.calm 2 (.calm 3 (.calm 4 (.calm 5 (.calm 6 (.calm 7 (.calm 8 (.calm 9 (.calm 10 (.calm 11 (.calm 12 (.calm 13 (.calm 14 (.calm 15 (.calm 16 (.calm 17 (.calm 18 (.calm 19 (.calm 20 (.done)))))))))))))))))))))) (bW [0,1]) ?_
   repeat(first|(refine GN ?_;first|refine QW QP ?_|refine QW (aC (v:=ap (aj ⟨g,0,ak⟩) (r.length+1) cap) aK.ty I (aH (i:=0) I I)) ?_|refine QW (aC (v:= .bool aE) aK.ty I (BO (i:=1) I 0 _ I)) ?_|refine QW (eJ (r:=(r.length:Int)) I I J J J) ?_|refine QW (aX (j:=r.length) bM.eq aK.ty I I J) ?_|refine GX ?_)|refine GW ?_)
   try refine GA ?_
   exact cJ I I λw hm=>hm.bV (S:=clS gw t n vp (.sym x::r,out,dI,aD)) (_,vo) trivial [0,1,2] aiT I
  | close p=>
   (repeat refine cC ?_)
   refine dN ([yb gw t n vp (ap (aj ⟨g,0,ak⟩) (r.length+1) cap) vo dI,wN (ap (aj ⟨g,0,ak⟩) (r.length+1) cap) (.close p::r)]) (.calm 0 (.calm 1 (.calm 2 (.calm 3 (.calm 4 (.calm 5 (.calm 6 (.calm 7 (.calm 8 (.calm 9 (.calm 10 (.calm 11 (.calm 12 (.calm 13 (.calm 14 (.calm 15 (.calm 16 (.calm 17 (.calm 18 (.calm 19 (.calm 20 (.done)))))))))))))))))))))) (bW [0,1]) ?_
   repeat(first|(refine GN ?_;first|refine QW QP ?_|refine QW (aC (v:=ap (aj ⟨g,0,ak⟩) (r.length+1) cap) aK.ty I (aH (i:=0) I I)) ?_|refine QW (aC (v:= .bool aD) aK.ty I (BO (i:=1) I 0 _ I)) ?_|refine QW (eJ (r:=(r.length:Int)) I I J J J) ?_|refine QW (aX (j:=r.length) bM.eq aK.ty I I J) ?_|refine GX ?_)|refine GW ?_)
   try refine GA ?_
   refine bm [0,1] [2] aiT I I (hZ aI.en I I) (λw hm hb=>Bc gw t n vp _ vo (.close p) r dI w _ J hb) I I I ?_;intro oD _;refine zL ?_;dsimp only
   repeat(first|refine GA ?_|refine gV (RI I (TY (.close p))) ?_)
   refine bm [1,0] [2] aiT I I (rX aI.en I I I I) (λw hm hb=>Bb gw t n vp oD vo out dI 3 p w _ J J hb) I I I ?_;intro E_ _;refine zL ?_;dsimp only
   by_cases c:dI+1<=2000
   ·rw[QH p r out c]at hC
    rw[decide_eq_true (show((dI+1:Nat):Int)<=2000 by omega)]
    try refine GA ?_
    refine dj [1,0,2] ?_;exact bY (r,out++[(3,p)],dI+1,oD,E_) ⟨hC,(by show r.length<=100000;omega),c,by simp[h3]⟩ (by show r.length<r.length+1;omega)
   rw[U0 p r out c]at hC;subst hC;rw[decide_eq_false (show ¬((dI+1:Nat):Int)<=2000 by omega)]
   try refine GA ?_
   exact cJ I I λw hm=>hm.bV (S:=clS gw t n vp (r,out++[(3,p)],dI+1,aE)) (oD,E_) trivial [1,0,2] aiT I
theorem J9(r:List TD)(d:TD):(r.reverse.flatMap wV)++wV d=(d::r).reverse.flatMap wV:=by simp
def stO(p:Nat)(r:List TD)(body:List dy)(j:Nat):List TD:=(body.drop (body.length-j)).map .sym++ .close (p:Int)::r
theorem agN(p:Nat)(r:List TD)(body:List dy):stO p r body 0= .close (p:Int)::r:=by unfold stO;rw[Nat.sub_zero,List.drop_length];rfl
theorem acr(p:Nat)(r:List TD)(body:List dy):stO p r body body.length=body.map .sym++ .close (p:Int)::r:=by unfold stO;rw[oa,mC]
theorem Z4(p:Nat)(r:List TD){body:List dy}{k:Nat}(hk:k<body.length):stO p r body (body.length-k)= .sym body[k]::stO p r body (body.length-k-1):=by
 unfold stO;rw[show body.length-(body.length-k)=k by omega,show body.length-(body.length-k-1)=k+1 by omega,eN hk];rfl
def opS(gw:Nat)(t n:Int)(vp:Value)(st:List TD)(out:List dy)(dI:Nat):Spec (Value×Value):=⟨λ_=>True,λ_=> .bool (decide (dI<=2000/\st.length<=60)),λx=>[yb gw t n vp x.1 x.2 dI,wN x.1 st,kV x.2 out]⟩
attribute [local irreducible] Instr.build in
theorem QI(w0:World)(gw:Nat)(t n:Int)(vp:Value)(aF:List aT.Prod)(hG:jW om (λk=>k<w0.heap.size) w0 vp aF)(hlen:aF.length<=100000)(p:Nat)(hp:p<aF.length)(h8:aF[p].2.length<=8)(vt vo:Value)(d:TD)(r:List TD)(out:List dy)(dI:Nat)(w:World)(B:bO)(h1:r.length<=100)(h2:dI<=2000)(h3:out.length=dI)(ho:pZ w0 B)(hm:Mem B [yb gw t n vp vt vo dI,wN vt (d::r),kV vo out] w):
 Calls aB 137 #[aJ (aj ⟨gw,0,ak⟩),av az (p:Int)] w (cY (opS gw t n vp (opened aF p r) (out++[(1,(p:Int))]) (dI+1)) B):=by
 obtain⟨bp,cp,rfl,IZ,FL,oo⟩:=hG;unfold maxLen at FL;obtain⟨b,off,rfl,_,hr⟩:=oo J;obtain⟨bb,cb,y1,y2,y3⟩:=lA hr hp;have SB:opened aF (p:Int) r=aF[p].2.map .sym++ .close (p:Int)::r:=by unfold opened dc;rw[dq,b9,bD hp];rfl
 rw[SB];clear SB oo hr;have Je:∀(L:List cH),At B L ⟨b,off+p*2+1,ak⟩ (.slice bb aF[p].2.length cb):=λL=>iC ho (y1 1 _ I);have wP:=y3.flat aiT;generalize aF[p].2=body at*;clear y1 y2 y3;obtain⟨b2,cb2,he,hb4,hb5,hb6⟩:=wP;simp only[iX,true_and]at he;obtain⟨rfl,rfl⟩:=he;refine dm hm (args:=[aJ (aj ⟨gw,0,ak⟩),av az (p:Int)]) (n:=61) Tryz.func137 I I I ?_;clear hm
 try refine GA ?_
 refine bm [0,1] [2] aiT I I (hZ aI.en I I) (λw hm hb=>Bc gw t n _ vt vo d r dI w _ J hb) I I I ?_;intro Z5 _;refine zL ?_;dsimp only;refine aU (i:=2) I λkT lC=>?_
 repeat(first|refine GA ?_|refine gV (aC aK.ty I (aH (i:=1) I I)) ?_|refine gV (bB I (TV _)) ?_)
 refine ju (i:=2) I I I I I I I (λz h=>by cases h;rfl) J J I λz' SC=>?_;refine zL ?_;refine aU (i:=2) I λkT lC=>?_
 try refine GA ?_
 refine bU (i:=1) I I I kT lC I ?_;rw[show(LH t n (ap (aj ⟨b,off,ak⟩) aF.length cp) Z5 vo dI).setIfInBounds (0+3) SC=LH t n (ap (aj ⟨b,off,ak⟩) aF.length cp) SC vo dI from I];refine zL ?_
 repeat(first|refine GC ?_|refine gV (aC (v:=ap (aj ⟨b,off,ak⟩) aF.length cp) aK.ty I (aH (i:=1) I I)) ?_|refine gV (aX bM.eq aK.ty I I hp) ?_|refine gV (aC aK.ty I (Je _)) ?_|refine gV (eJ (r:=(body.length:Int)-1) I I J J I) ?_|refine GB ?_)
 rw[J9 r (.close (p:Int))];refine nZ (ι:=Nat×Value) (λ(j,_)=>j<=body.length) (λ(j,_)=>[(0,aJ (aj ⟨gw,0,ak⟩)),(1,av az (p:Int)),(5,ap bb body.length cb),(6,av az (((body.length-j:Nat):Int)-1))])
  (λ(j,vt)=>[kV vo out,yb gw t n (ap (aj ⟨b,off,ak⟩) aF.length cp) vt vo dI,a_ 159 4 vt (r.length+1+j) ((stO p r body j).reverse.flatMap wV)]) (λ(j,_)=>body.length-j) (0,SC) (bH _) (by repeat' (first|exact bZ|refine bX I ?_)) (by dsimp only;rw[agN]) ?_
 rintro⟨j,SD⟩ hj;dsimp only at hj⊢
 by_cases c:j<body.length
 ·obtain⟨b4,aiO,rfl,hr4⟩:=hb6 J
  have hk:body.length-1-j<body.length:=by omega
  have Uf:=λL=>uf (W:=B) (L:=L) (f:=eA) (c:=2) (λ_=>rfl) (λq x hq=>iC ho (hr4 q x hq)) hk;have hst:=Z4 p r hk;rw[show body.length-(body.length-1-j)=j+1 by omega,J8]at hst;rw[show(((body.length-j:Nat):Int)-1)=((body.length-1-j:Nat):Int)by omega];generalize body[body.length-1-j]=x at*;obtain⟨xq,xm⟩:=x;refine ac6 (i:=2) I λkT lC=>?_
  repeat(first|refine GC ?_|refine gV (eU (b:=aD) I I (decide_eq_true J)) ?_|refine GB ?_)
  refine dN ([]) (.calm 0 (.calm 1 (.calm 2 (.calm 3 (.calm 5 (.calm 6 (.calm 7 (.calm 8 (.calm 9 (.two 4 (.one 10 (.one 11 (.calm 12 (.calm 13 (.one 14 (.done)))))) 10 (.one 4 (.one 11 (.calm 12 (.calm 13 (.one 14 (.done)))))))))))))))) (bW []) ?_
  repeat(first|refine GW ?_|(refine GN ?_;first|refine QW (aX (j:=body.length-1-j) bM.eq aK.ty I I hk) ?_|refine QW (a8 aK.ty I I (Uf _)) ?_|refine QW (bB I (Hi (xq,xm))) ?_))
  refine eG I I ?_ ?_
  ·refine dx (aC (v:=SD) aK.ty I (aH (i:=1) I I)) I I I (aM (bW []) ?_)
   refine aL I (fy (cs:=(wV (.sym (xq,xm))).toArray) [KM (.sym (xq,xm))] I I I (by intro v hv;simp at hv;subst hv;rfl) I I I λg46=>(aM (bW []) ?_));refine aL I (eK (i:=2) (k:=1) (ys:=wV (.sym (xq,xm))) I (k_ (i:=3) I (λj u h=>by simpa using h) (bx 1) aiT) I I I (λu hu=>I6 [.sym (xq,xm)] u (by simpa using hu)) J J I λv'=>(aM (bW []) ?_))
   try refine GW ?_
   refine aL I (aU (i:=2) I λkT lC=>bU (i:=1) I I I kT lC I (aM (bW []) ?_));rw[show(LH t n (ap (aj ⟨b,off,ak⟩) aF.length cp) SD vo dI).setIfInBounds (0+3) v'=LH t n (ap (aj ⟨b,off,ak⟩) aF.length cp) v' vo dI from I]
   try refine GW ?_
   repeat(first|refine GC ?_|refine gV (eJ (r:=((body.length-(j+1):Nat):Int)-1) I I J J J) ?_|refine GB ?_)
   refine dj [0,1,2] ?_;exact bY (j+1,v') (by show j+1<=body.length;omega) (by show body.length-(j+1)<body.length-j;omega) (hl:=by dsimp only;rw[hst,<-J9];rfl)
  refine fy (cs:=(wV (.sym (xq,xm))).toArray) [KM (.sym (xq,xm))] I I I (by intro v hv;simp at hv;subst hv;rfl) I I I λg46=>(aM (bW []) ?_);refine aL I (dx (aC (v:=SD) aK.ty I (aH (i:=1) I I)) I I I (aM (bW []) ?_));refine aL I (eK (i:=2) (k:=1) (ys:=wV (.sym (xq,xm))) I (k_ (i:=3) I (λj u h=>by simpa using h) (bx 1) aiT) I I I (λu hu=>I6 [.sym (xq,xm)] u (by simpa using hu)) J J I λv'=>(aM (bW []) ?_))
  try refine GW ?_
  refine aL I (aU (i:=2) I λkT lC=>bU (i:=1) I I I kT lC I (aM (bW []) ?_));rw[show(LH t n (ap (aj ⟨b,off,ak⟩) aF.length cp) SD vo dI).setIfInBounds (0+3) v'=LH t n (ap (aj ⟨b,off,ak⟩) aF.length cp) v' vo dI from I]
  try refine GW ?_
  repeat(first|refine GC ?_|refine gV (eJ (r:=((body.length-(j+1):Nat):Int)-1) I I J J J) ?_|refine GB ?_)
  refine dj [0,1,2] ?_;exact bY (j+1,v') (by show j+1<=body.length;omega) (by show body.length-(j+1)<body.length-j;omega) (hl:=by dsimp only;rw[hst,<-J9];rfl)
 ·obtain rfl:j=body.length:=by omega
  rw[acr];have EQ:(body.map TD.sym++ .close (p:Int)::r).length=r.length+1+body.length:=by simp;omega
  repeat(first|refine GC ?_|refine gV (eU (b:=aE) I I (decide_eq_false J)) ?_|refine GB ?_)
  refine bm [1,0] [2] aiT I I (rX aI.en I I I I) (λw hm hb=>Bb gw t n _ SD vo out dI 1 (p:Int) w _ J J hb) I I I ?_;intro E_ _;refine zL ?_;dsimp only;have fin:∀(x:Bool),x=decide (dI+1<=2000/\(body.map TD.sym++ .close (p:Int)::r).length<=60)->(Value.bool x)=(opS gw t n (ap (aj ⟨b,off,ak⟩) aF.length cp) (body.map .sym++ .close (p:Int)::r) (out++[(1,(p:Int))]) (dI+1)).val (SD,E_):=λx h=>by rw[h];rfl
  rw[EQ]at fin
  by_cases c2:dI+1<=2000
  ·rw[decide_eq_true (show((dI+1:Nat):Int)<=2000 by omega)]
   by_cases c3:r.length+1+body.length<=60
   ·repeat(first|refine GC ?_|refine gV (aC (v:=SD) aK.ty I (aH (i:=1) I I)) ?_|refine gV (e8 (i:=0) bM.eq I I) ?_|refine gV (Aj (b:=aD) I I (decide_eq_true J)) ?_|refine GB ?_)
    refine cJ I I λw hm=>?_;rw[fin aD (by simp[c2,c3])];exact hm.bV (S:=opS gw t n (ap (aj ⟨b,off,ak⟩) aF.length cp) (body.map .sym++ .close (p:Int)::r) (out++[(1,(p:Int))]) (dI+1)) (SD,E_) trivial [1,0,2] aiT (by rw[<-EQ];rfl)
   repeat(first|refine GC ?_|refine gV (aC (v:=SD) aK.ty I (aH (i:=1) I I)) ?_|refine gV (e8 (i:=0) bM.eq I I) ?_|refine gV (Aj (b:=aE) I I (decide_eq_false J)) ?_|refine GB ?_)
   refine cJ I I λw hm=>?_;rw[fin aE (by simp[c3])];exact hm.bV (S:=opS gw t n (ap (aj ⟨b,off,ak⟩) aF.length cp) (body.map .sym++ .close (p:Int)::r) (out++[(1,(p:Int))]) (dI+1)) (SD,E_) trivial [1,0,2] aiT (by rw[<-EQ];rfl)
  rw[decide_eq_false (show ¬((dI+1:Nat):Int)<=2000 by omega)]
  try refine GA ?_
  refine cJ I I λw hm=>?_;rw[fin aE (by simp[c2])];exact hm.bV (S:=opS gw t n (ap (aj ⟨b,off,ak⟩) aF.length cp) (body.map .sym++ .close (p:Int)::r) (out++[(1,(p:Int))]) (dI+1)) (SD,E_) trivial [1,0,2] aiT (by rw[<-EQ];rfl)
end cI
namespace cI
open Go.RowKit cU dS fh
theorem SE(a:fh.TD):(wV a).length=4:=rfl
theorem yu(v:Value)(l:List fh.TD)(w:World)(hs:Sl w v l.length (l.flatMap wV))(pw:FuncId)(first cp:Array Value)(p:fh.TD->Bool)(FK:Enters aB pw)
 (hp:∀a∈l,∀w',Gr w w'->Calls aB pw (first++#[(aQ (wV a).toArray)]++cp) w' (cB (ret (.bool (p a))) w')):
 Calls aB 161 #[v,.func (.func pw) first cp] w (cB (ret (av az (ri p l))) w):=by
 obtain⟨base,cap,rfl,ly,kl,eL⟩:=hs;unfold maxLen at kl;refine enter (args:=[ap base l.length cap,.func (.func pw) first cp]) (n:=19) Tryz.func161 I I I ?_
 refine GA ?_
 refine ea (ι:=Nat) (λk=>k<=l.length/\∀j (hj:j<l.length),j<k->p l[j]=aE) (λk=>[(0,ap base l.length cap),(1,.func (.func pw) first cp),(7,av az l.length),(8,av az (k:Int))]) (λ_=>[]) (λk=>l.length-k) 0 ⟨by omega,λj hj h=>by omega⟩ ?_;rintro k ⟨h1,h2⟩
 by_cases c2:k<l.length
 ·obtain⟨b,off,rfl,hr⟩:=eL J
  have du:=gO (L:=([]:List cH)) SE hr c2;have gL:=hp l[k] (cD c2)
  by_cases c3:p l[k]=aD
  ·rw[rj c2 c3 h2]
   rw[c3]at gL
   repeat(first|refine GA ?_|refine gV (aX bM.eq aK.ty I I c2) ?_|refine gV (a8 aK.ty I I du) ?_)
   refine aV (B3 FK I I) (λw hm=>gL w hm.below) I I I ?_;intro _ _
   refine GA ?_
   exact eM
  have NM:p l[k]=false:=by simp_all
  rw[NM]at gL
  repeat(first|refine GA ?_|refine gV (aX bM.eq aK.ty I I c2) ?_|refine gV (a8 aK.ty I I du) ?_)
  refine aV (B3 FK I I) (λw hm=>gL w hm.below) I I I ?_;intro _ _
  refine GA ?_
  exact bY (k+1) ⟨by omega,λj hj h=>if e:j<k then h2 j hj e else(by grind)⟩ J
 ·rw[rl λj hj=>h2 j hj J]
  refine GA ?_
  exact eM
theorem tC(v:Value)(l:List fh.TD)(w:World)(hs:Sl w v l.length (l.flatMap wV))(pw:FuncId)(first cp:Array Value)(p:fh.TD->Bool)(FK:Enters aB pw)
 (hp:∀a∈l,∀w',Gr w w'->Calls aB pw (first++#[(aQ (wV a).toArray)]++cp) w' (cB (ret (.bool (p a))) w')):
 Calls aB 133 #[v,.func (.func pw) first cp] w (cB (ret (.bool (l.any p))) w):=by
 refine enter (args:=[v,.func (.func pw) first cp]) (n:=9) Tryz.func133 I I I ?_;have hh:=λw' (hg:Gr w w')=>yu v l w' (hs.gr hg) pw first cp p FK λa ha Cr yW=>hp a ha Cr (hg.trans yW);have hr:=o_ p l;rw[<-uh p l];generalize ri p l=r at*
 refine GA ?_
 refine aV (fO aI.en I I I) (λw hm=>hh _ hm.below) I I I ?_;intro _ _
 repeat(first|refine GC ?_|refine gV (eU I I I) ?_|refine GB ?_)
 exact eM
theorem Fa(v:Value)(l:List fh.TD)(w:World)(hs:Sl w v l.length (l.flatMap wV))(hl:l.length*40<=140737488355328):
 Calls aB 136 #[v] w (cB (cK 159 4 l.length (l.flatMap wV) id) w):=by
 obtain⟨base,cap,rfl,ly,kl,eL⟩:=hs;unfold maxLen at kl;refine enter (args:=[ap base l.length cap]) (n:=8) Tryz.func136 I I I ?_;have ry:∀w',Gr w w'->Sl w' (ap base l.length cap) l.length (l.flatMap wV):=λw' hg=>Sl.gr ⟨base,cap,rfl,ly,kl,eL⟩ hg
 cases base with
 | none=>
  repeat(first|refine GC ?_|refine gV (jV bM.eq I I I) ?_|refine GB ?_)
  have h0:l=[]:=by
   simp_all
  subst h0;exact dK 159 4<|cJ I I λw hm=>hm.meets (S:=cK 159 4 0 [] id) _ trivial [0] aiT I
 |some p=>
  repeat(first|refine GC ?_|refine gV (jV bM.eq I I I) ?_|refine GB ?_)
  refine wq I λg=>?_
  refine GA ?_
  refine eK (i:=0) I (λw' hm=>ry w' hm.below) I I (k9 SE l) (I6 l) J J I λv'=>?_;rw[eu]
  refine GA ?_
  refine cJ I I λw hm=>?_;exact hm.meets (S:=cK 159 4 l.length (l.flatMap wV) id) v' trivial [0] aiT (by simp[cK])
end cI
namespace cI
open Go.RowKit cU dS aT dP fh
theorem QJ(w:World):(dh 156 (#[]:Array (Nat×Value))).run aB w= .ok (aQ (eA (0,0)).toArray) w:=by
 unfold eA;go_simp
set_option maxRecDepth 100000 in
theorem Gj(g:eb)(b:Option Addr)(cp:Nat)(d:TD)(w:World)(hd:qQ g d):Calls aB 135 #[dJ g.aR g.bC (ap b g.aF.length cp),KM d] w (cB (ret (.bool aD)) w):=by
 cases d with
 | close p=>
  obtain⟨h1,h2⟩:=hd;refine enter (args:=[dJ g.aR g.bC (ap b g.aF.length cp),KM (.close p)]) (n:=65) Tryz.func135 I I I<|cC (bz (bR I I I λg0=>bR I I I λg1=>?_))
  repeat(first|refine GC ?_|refine gV (aC (v:= .bool aD) aK.ty I (aH (i:=1) I I)) ?_|refine gV (aC (v:=av az p) aK.ty I (aH (i:=1) I I)) ?_|refine gV (aC aK.ty I (aH (i:=0) I I)) ?_|refine gV (a8 (cs:=eA (0,0)) aK.ty I I (λj v hj=>aH (i:=1) I (by match j,hj with|0,h=>exact h|1,h=>exact h))) ?_|refine gV (bB I (QJ)) ?_|refine gV (Di (b:=aD) I I (by kernel_rfl) (λw=>by rw[XT];rfl)) ?_|refine GB ?_)
  exact eM
 | sym x=>
  obtain⟨k,m⟩:=x;have hd:right g.aR g.bC (k,m)=true:=hd;unfold right at hd
  by_cases c1:k=1
  ·subst c1
   rw[if_pos I]at hd;simp only[fc,decide_eq_true_eq]at hd;refine enter (args:=[dJ g.aR g.bC (ap b g.aF.length cp),KM (.sym (1,m))]) (n:=65) Tryz.func135 I I I<|cC (bz (bR I I I λg0=>bR I I I λg1=>?_))
   repeat(first|refine GA ?_|refine gV (aC (v:= .bool aE) aK.ty I (aH (i:=1) I I)) ?_|refine gV (aC (v:=av az 1) aK.ty I (aH (i:=1) I I)) ?_|refine gV (aC (v:=av az 0) aK.ty I (aH (i:=1) I I)) ?_|refine gV (aC (v:=av az m) aK.ty I (aH (i:=1) I I)) ?_|refine gV (aC aK.ty I (aH (i:=0) I I)) ?_)
   exact eM
  rw[if_neg c1]at hd
  by_cases c2:k=2
  ·subst c2
   rw[if_pos I]at hd;simp only[fc,decide_eq_true_eq]at hd;refine enter (args:=[dJ g.aR g.bC (ap b g.aF.length cp),KM (.sym (2,m))]) (n:=65) Tryz.func135 I I I<|cC (bz (bR I I I λg0=>bR I I I λg1=>?_))
   repeat(first|refine GA ?_|refine gV (aC (v:= .bool aE) aK.ty I (aH (i:=1) I I)) ?_|refine gV (aC (v:=av az 2) aK.ty I (aH (i:=1) I I)) ?_|refine gV (aC (v:=av az 0) aK.ty I (aH (i:=1) I I)) ?_|refine gV (aC (v:=av az m) aK.ty I (aH (i:=1) I I)) ?_|refine gV (aC aK.ty I (aH (i:=0) I I)) ?_)
   exact eM
  simp_all
theorem Fb(g:eb)(b:Option Addr)(cp:Nat)(d:TD)(gg:Nat)(w:World)(hd:qQ g d)(hg:w.heap[gg]?=aj (.cells (dJ g.aR g.bC (ap b g.aF.length cp)).cells 34 (0,0))):
 Calls aB 134 #[KM d,aJ (aj ⟨gg,0,ak⟩)] w (cB (ret (.bool aE)) w):=by
 have hcell:∀(L:List cH) (j:Nat) (v:Value),([av az g.aR,av az g.bC,ap b g.aF.length cp]:List Value)[j]?=aj v->At w L ⟨gg,0+j,ak⟩ v:=λL j v hj=>kh (by
  rw[cell_of_row w gg (0+j) _ _ _ hg,cV];show(#[av az g.aR,av az g.bC,ap b g.aF.length cp]:Array Value)[j]?=aj v
  simp_all)
 have hr:=Gj g b cp d;refine enter (args:=[KM d,aJ (aj ⟨gg,0,ak⟩)]) (n:=8) Tryz.func134 I I I<|cC (bz (bR I I I λg0=>?_))
 repeat(first|refine GL ?_|refine gV (a8 aK.ty I I (hcell _)) ?_)
 refine aV (fO aI.en I I I) (λw hm=>hr w hd) I I I ?_;intro _ _
 refine GA ?_
 exact eM
abbrev TdR(w:World)(vt:Value)(st:List TD):Prop:=Sl w vt st.length (st.reverse.flatMap wV)
theorem rQ(v vr vt:Value)(g:eb)(ll:List (List Int))(st:List TD)(seen col:Int)(w:World)(h:kj (λk=>k<w.heap.size) w v g)(hr:zK w vr ll)(ht:TdR w vt st)(h0:E8 g ll=0)(hs:∀d∈st,qQ g d)(hl:st.length<=60)(h1:0<=seen)(h2:seen<=1099511627776)(h3:0<=col)(h4:col<=g.aR):
 Calls aB 116 #[v,vr,te vt seen 0 aE,av az col] w (cB (ret (av az 0)) w):=by
 have iW:=λw' (hg:Gr w w')=>w8 v vr g ll w' (h.gr hg) (hr.gr hg);rw[h0]at iW;obtain⟨vp,rfl,hp,_⟩:=h;obtain⟨bp,cp,rfl,_⟩:=hp;have KJ:=λw' (hg:Gr w w') gg (hb:w'.heap[gg]?=aj (.cells (dJ g.aR g.bC (ap bp g.aF.length cp)).cells 34 (0,0)))=>tC vt st.reverse w' (by rw[J7];exact ht.gr hg) 134 #[] #[aJ (aj ⟨gg,0,ak⟩)] (λ_=>aE) aI.en (λa ha Cr yW=>Fb g bp cp a gg Cr (hs a (ZX.1 ha)) (by rw[yW.block gg (jm.1 hb).1];exact hb));have E7:st.reverse.any (λ_=>aE)=false:=by simp
 rw[E7]at KJ;obtain⟨bt,ct,rfl,_⟩:=ht;refine enter (args:=[dJ g.aR g.bC (ap bp g.aF.length cp),vr,te (ap bt st.length ct) seen 0 aE,av az col]) (n:=54) Tryz.func116 I I I<|cC (bz (bR I I I λg0=>bR I I I λg1=>?_))
 refine GM ?_
 refine aV (fO aI.en I I I) (λw hm=>iW _ hm.below) I I I ?_;intro _ _;refine zL ?_
 repeat(first|refine GL ?_|refine gV (wu I I) ?_)
 refine aV (fO aI.en I I I) (λw hm=>KJ _ hm.below _ (hm.get (i:=0) I)) I I I ?_;intro _ _;refine zL ?_
 refine GM ?_
 exact eM
end cI
namespace cI
open Go.RowKit cU dS aT dP fh
def iH(ll:List (List Int))(col:Nat)(n:Int):Int:=(ll.getD n.toNat []).getD col (-1)
structure Fc(g:eb)(ll:List (List Int))(T N:Nat):Prop where
 aR:g.aR=T
 bC:g.bC=N
 len:ll.length=N
 row:∀r∈ll,r.length=T+1
 nx:∀col,aa_ g.aF (iH ll col)
theorem Z6{l:List aT.Prod}{nx:Int->Int}{f:Nat}{st:List TD}{out:List dy}{a:Nat}(h:(bQ st out a).2.2.2=aE):fH l nx (f+1) st out a=((bQ st out a).1,(bQ st out a).2.1,(bQ st out a).2.2.1,14):=by
 rw[fH,if_pos h]
theorem Z7{l:List aT.Prod}{nx:Int->Int}{f:Nat}{st:List TD}{out:List dy}{a:Nat}(h:(bQ st out a).2.2.2=aD)(h2:(bQ st out a).1=[]):fH l nx (f+1) st out a=([],(bQ st out a).2.1,(bQ st out a).2.2.1,0):=by
 rw[fH,if_neg (by simp[h])];simp only[h2]
theorem Z8{l:List aT.Prod}{nx:Int->Int}{f:Nat}{st:List TD}{out:List dy}{a:Nat}{x:dy}{r:List TD}(h:(bQ st out a).2.2.2=aD)(h2:(bQ st out a).1= .sym x::r):
 fH l nx (f+1) st out a=if x.1=1 then(.sym x::r,(bQ st out a).2.1,(bQ st out a).2.2.1,0)else if nx x.2<0 then(.sym x::r,(bQ st out a).2.1,(bQ st out a).2.2.1,13)
  else if(bQ st out a).2.2.1+1<=2000/\(opened l (nx x.2) r).length<=60 then fH l nx f (opened l (nx x.2) r) ((bQ st out a).2.1++[(1,nx x.2)]) ((bQ st out a).2.2.1+1)
  else(opened l (nx x.2) r,(bQ st out a).2.1++[(1,nx x.2)],(bQ st out a).2.2.1+1,14):=by
 rw[fH,if_neg (by simp[h])];simp only[h2]
def dwS(gw:Nat)(t n:Int)(vp:Value)(R:List TD×List dy×Nat×Int):Spec (Value×Value):=⟨λ_=>True,λ_=>av az R.2.2.2,λx=>[yb gw t n vp x.1 x.2 R.2.2.1,wN x.1 R.1,kV x.2 R.2.1]⟩
theorem BP(w0:World)(gw:Nat)(t n:Int)(vp vr:Value)(g:eb)(ll:List (List Int))(T N col:Nat)(hG:jW om (λk=>k<w0.heap.size) w0 vp g.aF)(hR:zK w0 vr ll)(hg:b_ g=0)(hT:Fc g ll T N)(aiP:col<=T)
 (Z2 Z3:Value) (VD:List TD) (w:World) (B:bO) (Vq:∀d∈VD,qQ g d) (hl0:VD.length<=60) (ho:pZ w0 B) (hm:Mem B [yb gw t n vp Z2 Z3 0,wN Z2 VD,kV Z3 []] w):
 Calls aB 119 #[aJ (aj ⟨gw,0,ak⟩),vr,av az (col:Int)] w (cY (dwS gw t n vp (fH g.aF (iH ll col) 2001 VD [] 0)) B):=by
 obtain⟨a1,a2,a3,a4,a5,a6⟩:=cP hg;have SB:=λp hp vt vo d r out dI w B h1 h2 h3 ho hm=>QI w0 gw t n vp g.aF hG J p hp (a6 _ (cD hp)).1 vt vo d r out dI w B h1 h2 h3 ho hm;have vd:=hT.nx col;obtain⟨br,cr,rfl,hr1,wk,DK⟩:=hR;unfold maxLen at wk;refine dm hm (args:=[aJ (aj ⟨gw,0,ak⟩),ap br ll.length cr,av az (col:Int)]) (n:=60) Tryz.func119 I I I ?_;clear hm
 try refine GA ?_
 generalize hD:fH g.aF (iH ll col) 2001 VD [] 0=D;refine ea (ι:=Nat×List TD×List dy×Nat×Value×Value) (λ(f,st,out,dI,_,_)=>fH g.aF (iH ll col) f st out dI=D/\2001<=f+dI/\st.length<=60/\dI<=2000/\out.length=dI/\∀d∈st,qQ g d) (λ_=>[(0,aJ (aj ⟨gw,0,ak⟩)),(1,ap br ll.length cr),(2,av az (col:Int))])
  (λ(_,st,out,dI,vt,vo)=>[yb gw t n vp vt vo dI,wN vt st,kV vo out]) (λ(f,_,_,_,_,_)=>f) (2001,VD,[],0,Z2,Z3) ⟨hD,by omega,hl0,by omega,rfl,Vq⟩ ?_
 clear hD Vq hl0;rintro⟨f,st,out,dI,vt,vo⟩ ⟨hD,h1,h2,h3,h4,h5⟩;dsimp only at hD h1 h2 h3 h4 h5⊢;obtain⟨f,rfl⟩:∃f',f=f'+1:=⟨f-1,by omega⟩
 try refine GA ?_
 refine bm [0,1,2] [] aiT I I (hZ aI.en I I) (λw hm hb=>rP gw t n vp vt vo st out dI w _ J h3 h4 hb) I I I ?_;obtain⟨z1,z2,z3,z4⟩:=@sC st out dI;have z5:=rv (out:=out) (a:=dI) h5;rintro⟨Z5,vo1⟩ _
 conv=>arg 8;simp only[zJ,cK,ret,id_eq,clS,eu]
 have hno:=@Z6 g.aF (iH ll col) f st out dI;have agO:=@Z7 g.aF (iH ll col) f st out dI;have agP:=λx r=>@Z8 g.aF (iH ll col) f st out dI x r;have agQ:=@x9 st out dI;generalize bQ st out dI=C at*;obtain⟨st1,gG,SF,ok⟩:=C;dsimp only at*
 cases ok with
 | false=>
  rw[hno I]at hD;subst hD
  try refine GA ?_
  exact cJ I I λw hm=>hm.bV (S:=dwS gw t n vp (st1,gG,SF,14)) (Z5,vo1) trivial [0,1,2] aiT I
 | true=>
  have zz3:=z3 I h3;clear z3;rcases agQ rfl with rfl|⟨x,r,rfl⟩
  ·rw[agO I I]at hD
   subst hD
   try refine GA ?_
   refine dN ([yb gw t n vp Z5 vo1 SF,wN Z5 []]) (.calm 0 (.calm 1 (.calm 2 (.calm 3 (.calm 4 (.calm 5 (.calm 6 (.calm 7 (.calm 8 (.calm 9 (.calm 10 (.calm 11 (.calm 12 (.calm 13 (.calm 14 (.calm 15 (.calm 16 (.calm 17 (.calm 18 (.calm 19 (.calm 20 (.calm 21 (.calm 22 (.done)))))))))))))))))))))))) (bW [0,1]) ?_
   repeat(first|(refine GN ?_;first|refine QW QP ?_|refine QW (aC (v:=Z5) aK.ty I (aH (i:=0) I I)) ?_|refine QW (e8 (i:=1) bM.eq I I) ?_|refine QW (dg (b:=aD) I I I) ?_|refine GX ?_)|refine GW ?_)
   try refine GA ?_
   exact cJ I I λw hm=>hm.bV (S:=dwS gw t n vp ([],gG,SF,0)) (Z5,vo1) trivial [0,1,2] aiT I
  have KS:=agP x r I I;simp only[de]at z1;have z6:right g.aR g.bC x=true:=z5 _ (gd ..);have z7:=λd hd=>z5 d (kM _ hd);clear hno agO agQ agP
  try refine GA ?_
  refine xK (i:=1) I (by simp) λgt ct hv q1 q2=>?_;subst hv;simp only[de]at*;obtain⟨k,m⟩:=x
  by_cases c1:k=1
  ·subst c1
   rw[if_pos I]at KS;rw[KS]at hD;subst hD;refine dN ([yb gw t n vp (ap (aj ⟨gt,0,ak⟩) (r.length+1) ct) vo1 SF,wN (ap (aj ⟨gt,0,ak⟩) (r.length+1) ct) (.sym (1,m)::r)]) (.calm 0 (.calm 1 (.calm 2 (.calm 3 (.calm 4 (.calm 5 (.calm 6 (.calm 7 (.calm 8 (.calm 9 (.calm 10 (.calm 11 (.calm 12 (.calm 13 (.calm 14 (.calm 15 (.calm 16 (.calm 17 (.calm 18 (.calm 19 (.calm 20 (.calm 21 (.calm 22 (.done)))))))))))))))))))))))) (bW [0,1]) ?_
   repeat(first|(refine GN ?_;first|refine QW QP ?_|refine QW (aC (v:=ap (aj ⟨gt,0,ak⟩) (r.length+1) ct) aK.ty I (aH (i:=0) I I)) ?_|refine QW (eJ (r:=(r.length:Int)) I I J J J) ?_|refine QW (aX (j:=r.length) bM.eq aK.ty I I J) ?_|refine QW (aC (v:=av az 1) aK.ty I (BO (i:=1) I 2 _ I)) ?_|refine QW (dg (b:=aE) I I (decide_eq_false J)) ?_|refine QW (dg (b:=aD) I I I) ?_|refine GX ?_)|refine GW ?_)
   try refine GA ?_
   exact cJ I I λw hm=>hm.bV (S:=dwS gw t n vp (.sym (1,m)::r,gG,SF,0)) (_,vo1) trivial [0,1,2] aiT I
  rw[if_neg c1]at KS;unfold right at z6;dsimp only at z6;rw[if_neg c1]at z6
  by_cases c2:k=2
  ·subst c2
   rw[if_pos I]at z6;simp only[fc,decide_eq_true_eq]at z6;obtain⟨q,rfl⟩:∃q:Nat,m=q:=⟨m.toNat,by omega⟩;have hq:q<ll.length:=by rw[hT.len];have:=hT.bC;omega
   obtain⟨b,off,rfl,_,eL⟩:=DK J;obtain⟨vi,y1,y2⟩:=Sz eL hq;have FM:=hT.row _ (cD hq);have agR:iH ll col (q:Int)=ll[q].getD col (-1):=by unfold iH;rw[dq,b9 (l:=ll),bD hq];rfl
   have lq:=vd (q:Int);rw[agR]at lq;dsimp only at KS;rw[agR]at KS;generalize ll[q]=row at*;obtain⟨bi,ci,rfl,w1,w2,w3⟩:=y2;obtain⟨b3,ab_,rfl,M6⟩:=w3 J;have hc:row[col]?=aj (row.getD col (-1)):=by rw[b9,bD J];rfl
   have Je:∀L,At B L ⟨b,off+q,ak⟩ (ap (aj ⟨b3,ab_,ak⟩) row.length ci):=λL=>iC ho y1;have tA:∀L,At B L ⟨b3,ab_+col,ak⟩ (av az (row.getD col (-1))):=λL=>iC ho (M6 col _ (by rw[eS,hc];rfl));clear eL y1 M6 w3 DK;generalize row.getD col (-1)=p at*;refine dN ([yb gw t n vp (ap (aj ⟨gt,0,ak⟩) (r.length+1) ct) vo1 SF,wN (ap (aj ⟨gt,0,ak⟩) (r.length+1) ct) (.sym (2,(q:Int))::r)]) (.calm 0 (.calm 1 (.calm 2 (.calm 3 (.calm 4 (.calm 5 (.calm 6 (.calm 7 (.calm 8 (.calm 9 (.calm 10 (.calm 11 (.calm 12 (.calm 13 (.calm 14 (.calm 15 (.calm 16 (.calm 17 (.calm 18 (.calm 19 (.calm 20 (.calm 21 (.calm 22 (.done)))))))))))))))))))))))) (bW [0,1]) ?_
   repeat(first|(refine GN ?_;first|refine QW QP ?_|refine QW (aC (v:=ap (aj ⟨gt,0,ak⟩) (r.length+1) ct) aK.ty I (aH (i:=0) I I)) ?_|refine QW (eJ (r:=(r.length:Int)) I I J J J) ?_|refine QW (aX (j:=r.length) bM.eq aK.ty I I J) ?_|refine QW (aC (v:=av az 2) aK.ty I (BO (i:=1) I 2 _ I)) ?_|refine QW (dg (b:=aE) I I (decide_eq_false J)) ?_|refine GX ?_)|refine GW ?_)
   try refine GA ?_
   refine dN ([yb gw t n vp (ap (aj ⟨gt,0,ak⟩) (r.length+1) ct) vo1 SF,wN (ap (aj ⟨gt,0,ak⟩) (r.length+1) ct) (.sym (2,(q:Int))::r)]) (.calm 0 (.calm 1 (.calm 2 (.calm 3 (.calm 4 (.calm 5 (.calm 6 (.calm 7 (.calm 8 (.calm 9 (.calm 10 (.calm 11 (.calm 12 (.calm 13 (.calm 14 (.calm 15 (.calm 16 (.calm 17 (.calm 18 (.calm 19 (.calm 20 (.done)))))))))))))))))))))) (bW [0,1]) ?_
   repeat(first|(refine GN ?_;first|refine QW QP ?_|refine QW (aC (v:=ap (aj ⟨gt,0,ak⟩) (r.length+1) ct) aK.ty I (aH (i:=0) I I)) ?_|refine QW (eJ (r:=(r.length:Int)) I I J J J) ?_|refine QW (aX (j:=r.length) bM.eq aK.ty I I J) ?_|refine QW (aC (v:=av az (q:Int)) aK.ty I (BO (i:=1) I 3 _ I)) ?_|refine QW (cz (j:=q) bM.eq aK.ty I I hq) ?_|refine QW (aC aK.ty I (Je _)) ?_|refine QW (cz (j:=col) bM.eq aK.ty I I J) ?_|refine QW (aC aK.ty I (tA _)) ?_|refine GX ?_)|refine GW ?_)
   by_cases c3:p<0
   ·rw[if_pos c3]at KS
    rw[KS]at hD;subst hD
    try refine GA ?_
    exact cJ I I λw hm=>hm.bV (S:=dwS gw t n vp (.sym (2,(q:Int))::r,gG,SF,13)) (_,vo1) trivial [0,1,2] aiT I
   rw[if_neg c3]at KS;obtain⟨pn,rfl⟩:∃pn:Nat,p=pn:=⟨p.toNat,by omega⟩;have hpn:pn<g.aF.length:=by have:=(lq J).1;omega
   have hop:=SB pn hpn;have hoo:=AL hg (p:=(pn:Int)) J J z7
   try refine GA ?_
   refine bm [0,1,2] [] aiT I I (fO aI.en I I I) (λw hm hb=>hop _ vo1 (.sym (2,(q:Int))) r gG SF w _ J zz3 J (ho.on hm λo h=>En h) hb) I I I ?_;rintro⟨SC,VE⟩ _
   conv=>arg 8;simp only[zJ,cK,ret,id_eq,opS,eu]
   conv=>arg 7;simp only[opS]
   have Ri:(opened g.aF (pn:Int) r).length=(opened g.aF (pn:Int) r).length:=rfl;generalize aen:opened g.aF (pn:Int) r=st2 at*
   by_cases c4:SF+1<=2000/\st2.length<=60
   ·rw[if_pos c4]at KS
    rw[KS]at hD;rw[decide_eq_true c4]
    try refine GA ?_
    refine dj [0,1,2] ?_;exact bY (f,st2,gG++[(1,(pn:Int))],SF+1,SC,VE) ⟨hD,(by show 2001<=f+(SF+1);omega),c4.2,c4.1,(by show(gG++[(1,(pn:Int))]).length=SF+1;simp;omega),hoo⟩ (by show f<f+1;omega)
   rw[if_neg c4]at KS;rw[KS]at hD;subst hD;rw[decide_eq_false c4]
   try refine GA ?_
   exact cJ I I λw hm=>hm.bV (S:=dwS gw t n vp (st2,gG++[(1,(pn:Int))],SF+1,14)) (SC,VE) trivial [0,1,2] aiT I
  rw[if_neg c2]at z6;cases z6
end cI
namespace cI
open Go.RowKit cU dS aT dP fh
theorem U1(w:World):(dh 156 #[(0,av az 2)]).run aB w= .ok (aQ (eA (2,0)).toArray) w:=by
 unfold eA;go_simp
theorem U2(g:Nat)(w:World):(dh 91 #[(0,ap (aj ⟨g,0,ak⟩) 1 1)]).run aB w= .ok (te (ap (aj ⟨g,0,ak⟩) 1 1) 0 0 aE) w:=by
 unfold te;go_simp
def CP:Spec Value:=⟨λ_=>True,λvt=>te vt 0 0 aE,λvt=>[wN vt [.sym (2,0)]]⟩
set_option maxRecDepth 100000 in
theorem Bd(w:World):Calls aB 27 #[] w (cB CP w):=by
 refine enter (args:=[]) (n:=5) Tryz.func27 I I I ?_;refine cC (bz (aY I λg2=>?_));refine zL ?_
 repeat(first|refine QZ ?_|refine QV (bB I U1) ?_|refine QV (bB I (Hi (2,0))) ?_)
 refine fy (cs:=(wV (.sym (2,0))).toArray) [KM (.sym (2,0))] I I I (by intro v hv;simp at hv;subst hv;rfl) I I I λg3=>?_;refine zL ?_
 repeat(first|refine QZ ?_|refine QV (bB I (U2 _)) ?_)
 refine gC 0 (cs':=#[ap (aj ⟨g3,0,ak⟩) 1 1,av az 0,av az 0,.bool aE]) ?_;refine zL ?_;refine yJ (i:=1) 4 I I J ?_;refine zL ?_
 try refine GA ?_
 exact fL (i:=0) I I I I λw hm=>hm.meets (S:=CP) (ap (aj ⟨g3,0,ak⟩) 1 1) trivial [1] aiT I
theorem Z9(t n:Int)(bp:Option Addr)(mp cp:Nat)(bt:Option Addr)(mt ct:Nat)(w:World):(dh 260 #[(0,dJ t n (ap bp mp cp)),(1,ap bt mt ct)]).run aB w= .ok (.agg (LH t n (ap bp mp cp) (ap bt mt ct) (ap ak 0 0) 0)) w:=by
 unfold dJ LH;go_simp
def J_(t n:Int)(vp:Value)(st:List TD):Spec (Nat×Value):=⟨λ_=>True,λx=>aJ (aj ⟨x.1,0,ak⟩),λx=>[yb x.1 t n vp x.2 (ap ak 0 0) 0,wN x.2 st]⟩
theorem BQ(t n:Int)(vp vt:Value)(st:List TD)(seen over:Int)(done:Bool)(w:World)(ht:TdR w vt st)(hl:st.length<=60)(hvp:∃b m c,vp=ap b m c):
 Calls aB 118 #[dJ t n vp,te vt seen over done] w (cB (J_ t n vp st) w):=by
 have gL:=λw' (hg:Gr w w')=>Fa vt st.reverse w' (by rw[J7];exact ht.gr hg) (by rw[J7];omega);rw[J7]at gL;obtain⟨bp,mp,cp,rfl⟩:=hvp;refine enter (args:=[dJ t n (ap bp mp cp),te vt seen over done]) (n:=11) Tryz.func118 I I I ?_;refine cC (bz (bR I I I λg0=>bR I I I λg1=>?_));refine zL ?_
 try refine GA ?_
 refine dN ([aP g0 (dJ t n (ap bp mp cp)).cells 34,aP g1 (te vt seen over done).cells 91]) (.calm 0 (.calm 1 (.calm 2 (.one 3 (.calm 4 (.one 5 (.calm 6 (.done)))))))) (λ_ h=>h) ?_
 repeat(first|refine GW ?_|(refine GN ?_;first|refine QW (aO (i:=0) aK.ty I I I) ?_|refine QW (aC (v:=vt) aK.ty I (aH (i:=1) I I)) ?_))
 refine aL I ?_;refine aV (hZ aI.en I I) (λw hm=>gL _ hm.below) I I I ?_;intro oD _;refine zL ?_;refine mz (i:=2) I λbt ct hv q1 q2=>?_;subst hv;refine aM (bW [0,1]) ?_
 repeat(first|refine GW ?_|(refine GN ?_;first|refine QW (bB I (Z9 _ _ _ _ _ _ _ _)) ?_))
 refine aL I (bR I I I λg2=>?_);refine zL ?_;refine aM (bW [0,1]) ?_
 try refine GW ?_
 try refine GA ?_
 exact cJ I I λw hm=>hm.meets (S:=J_ t n (ap bp mp cp) st) (g2,ap bt st.length ct) trivial [3,2] aiT I
theorem M7{l:List aT.Prod}{nx:Int->Int}{st:List TD}{seen:Nat}{t:Int}{st1:List TD}{gG:List dy}{a1:Nat}{e:Int}(hD:fH l nx 2001 st [] 0=(st1,gG,a1,e))(he:e≠0):jX l nx st seen t=(e,[],[]):=by
 unfold jX;rw[hD];dsimp only;rw[if_pos he]
theorem Z_{l:List aT.Prod}{nx:Int->Int}{st:List TD}{seen:Nat}{t:Int}{gG:List dy}{a1:Nat}(hD:fH l nx 2001 st [] 0=([],gG,a1,0)):jX l nx st seen t=(13,[],[]):=by
 unfold jX;rw[hD];dsimp only;rw[if_neg aiT]
theorem Z'{l:List aT.Prod}{nx:Int->Int}{st:List TD}{seen:Nat}{t:Int}{x:dy}{r:List TD}{gG:List dy}{a1:Nat}(hD:fH l nx 2001 st [] 0=(.sym x::r,gG,a1,0)):jX l nx st seen t=if x.2≠t then(13,[],[])else if a1+1<=2000/\(bQ r (gG++[(2,(seen:Int))]) (a1+1)).2.2.2=aD then(0,(bQ r (gG++[(2,(seen:Int))]) (a1+1)).1,(bQ r (gG++[(2,(seen:Int))]) (a1+1)).2.1)else(14,[],[]):=by
 unfold jX;rw[hD];dsimp only;rw[if_neg aiT]
theorem SG{l:List aT.Prod}{nx:Int->Int}{st:List TD}{st1:List TD}{gG:List dy}{a1:Nat}{e:Int}(hD:fH l nx 2001 st [] 0=(st1,gG,a1,e))(he:e≠0):jz l nx st=(e,[]):=by
 unfold jz;rw[hD];dsimp only;rw[if_pos he]
theorem acs{l:List aT.Prod}{nx:Int->Int}{st:List TD}{gG:List dy}{a1:Nat}(hD:fH l nx 2001 st [] 0=([],gG,a1,0)):jz l nx st=(0,gG):=by
 unfold jz;rw[hD];dsimp only;rw[if_neg aiT]
theorem acu{l:List aT.Prod}{nx:Int->Int}{st:List TD}{x:dy}{r:List TD}{gG:List dy}{a1:Nat}(hD:fH l nx 2001 st [] 0=(.sym x::r,gG,a1,0)):jz l nx st=(13,[]):=by
 unfold jz;rw[hD];dsimp only;rw[if_neg aiT]
def tk(seen:Int)(R:Int×List TD×List dy):Spec (Value×Value):=
 ⟨λ_=>True,λx=>if R.1=0 then .tuple #[te x.1 (seen+1) 0 aE,x.2,av az 0]else .tuple #[te (ap ak 0 0) seen R.1 aE,ap ak 0 0,av az R.1],λx=>if R.1=0 then [wN x.1 R.2.1,kV x.2 R.2.2]else []⟩
theorem kX(seen e:Int)(w:World):(dh 91 #[(1,av az seen),(2,av az e)]).run aB w= .ok (te (ap ak 0 0) seen e aE) w:=by
 unfold te;go_simp
theorem U3(b:Option Addr)(m c:Nat)(seen:Int)(w:World):(dh 91 #[(0,ap b m c),(1,av az seen)]).run aB w= .ok (te (ap b m c) seen 0 aE) w:=by
 unfold te;go_simp
theorem Ck(v vr vt:Value)(g:eb)(ll:List (List Int))(T N:Nat)(st:List TD)(seen t:Nat)(w:World)(h:kj (λk=>k<w.heap.size) w v g)(hr:zK w vr ll)(ht:TdR w vt st)(h0:E8 g ll=0)(hg:b_ g=0)(hT:Fc g ll T N)(hs:∀d∈st,qQ g d)(hl:st.length<=60)(h1:seen<=1000000)(h2:t<T):
 Calls aB 91 #[v,vr,te vt (seen:Int) 0 aE,av az (t:Int)] w (cB (tk (seen:Int) (jX g.aF (iH ll t) st seen (t:Int))) w):=by
 have iW:=λw' (yW:Gr w w')=>rQ v vr vt g ll st (seen:Int) (t:Int) w' (h.gr yW) (hr.gr yW) (ht.gr yW) h0 hs hl J J J (by have:=hT.aR;omega);have HX:=hT.aR;obtain⟨vp,rfl,hp,_⟩:=h;have B2:=λw' (yW:Gr w w')=>BQ g.aR g.bC vp vt st (seen:Int) 0 aE w' (ht.gr yW) hl (by obtain⟨b,c,e,_⟩:=hp;exact⟨b,_,c,e⟩);have hdw:=λgw Z2 Z3 w' B ho hm=>BP w gw g.aR g.bC vp vr g ll T N t hp hr hg hT J Z2 Z3 st w' B hs hl ho hm;have Rf:=λR=>@y_ g.aF (iH ll t) 2001 st [] 0 R;have hdt:=λR=>@uJ g.aF (iH ll t) 2001 st [] 0 R;have hde:=@uI g.aF (iH ll t) 2001 st [] 0;generalize hD:fH g.aF (iH ll t) 2001 st [] 0=D at*;obtain⟨st1,gG,a1,e⟩:=D;have Rf:=λh=>Rf _ I h hl J;have hdt:=λh=>hdt _ I h;dsimp only at*;refine enter (args:=[dJ g.aR g.bC vp,vr,te vt (seen:Int) 0 aE,av az (t:Int)]) (n:=96) Tryz.func91 I I I ?_;refine cC (bz (bR I I I λg0=>bR I I I λg1=>aY I λg2=>?_));refine zL ?_
 repeat(first|refine GA ?_|refine gV (aC (v:=av az g.aR) aK.ty I (aH (i:=0) I I)) ?_|refine gV (aO (i:=0) aK.ty I I I) ?_|refine gV (aO (i:=1) aK.ty I I I) ?_)
 refine aV (Ti aI.en I I I I I) (λw hm=>iW _ hm.below) I I I ?_;intro _ _;refine zL ?_
 repeat(first|refine GA ?_|refine gV (aO (i:=0) aK.ty I I I) ?_|refine gV (aO (i:=1) aK.ty I I I) ?_)
 refine aV (fO aI.en I I I) (λw hm=>B2 _ hm.below) I I I ?_;rintro⟨gw,Z5⟩ _
 conv=>arg 8;simp only[zJ,cK,ret,id_eq,J_]
 try refine GA ?_
 refine wm 168 2 ?_;refine zL ?_;refine bm [3,4,5] [0,1,2] aiT I I (rX aI.en I I I I) (λw' hm hb=>hdw gw Z5 _ w' _ ((pZ.self w).on hm λo h=>En h) hb) I I I ?_;rintro⟨SC,VE⟩ _
 conv=>arg 8;simp only[zJ,cK,ret,id_eq,dwS]
 conv=>arg 7;simp only[dwS]
 rcases hde with rfl|rfl|rfl
 ·obtain⟨hd1,hd2,hd3,hd4⟩:=Rf rfl
  rcases hdt rfl with rfl|⟨x,r,rfl,hx⟩
  ·rw[Z_ hD]
   try refine GA ?_
   refine dN ([yb gw g.aR g.bC vp SC VE a1,wN SC []]) (.calm 0 (.calm 1 (.calm 2 (.calm 3 (.calm 4 (.calm 5 (.calm 6 (.calm 7 (.calm 8 (.calm 9 (.calm 10 (.calm 11 (.calm 12 (.calm 13 (.calm 14 (.calm 15 (.calm 16 (.calm 17 (.calm 18 (.calm 19 (.calm 20 (.calm 21 (.calm 22 (.calm 23 (.calm 24 (.calm 25 (.calm 26 (.calm 27 (.done))))))))))))))))))))))))))))) (bW [3,4]) ?_
   repeat(first|(refine GN ?_;first|refine QW QP ?_|refine QW (aC (v:=SC) aK.ty I (aH (i:=0) I I)) ?_|refine QW (dg (b:=aD) I I I) ?_|refine QW (e8 (i:=1) bM.eq I I) ?_|refine GX ?_)|refine GW ?_)
   repeat(first|refine GA ?_|refine gV (aC (v:=av az (seen:Int)) aK.ty I (aH (i:=1) I I)) ?_|refine gV (bB I (kX _ _)) ?_)
   refine gC 2 (cs':=#[ap ak 0 0,av az (seen:Int),av az 13,.bool aE]) ?_;refine zL ?_
   try refine GA ?_
   exact fm (i:=2) I I I I I I λw hm=>hm.meets (S:=tk (seen:Int) (13,[],[])) (ap ak 0 0,ap ak 0 0) trivial [] aiT I
  rw[Z' hD];obtain⟨k,m⟩:=x;dsimp only at hx;subst hx;simp only[de]at hd1
  try refine GA ?_
  refine xK (i:=4) I (by simp) λgt ct hv q1 q2=>?_;subst hv;simp only[de]at*
  by_cases c1:m≠(t:Int)
  ·rw[if_pos c1]
   refine dN ([yb gw g.aR g.bC vp (ap (aj ⟨gt,0,ak⟩) (r.length+1) ct) VE a1,wN (ap (aj ⟨gt,0,ak⟩) (r.length+1) ct) (.sym (1,m)::r)]) (.calm 0 (.calm 1 (.calm 2 (.calm 3 (.calm 4 (.calm 5 (.calm 6 (.calm 7 (.calm 8 (.calm 9 (.calm 10 (.calm 11 (.calm 12 (.calm 13 (.calm 14 (.calm 15 (.calm 16 (.calm 17 (.calm 18 (.calm 19 (.calm 20 (.calm 21 (.calm 22 (.calm 23 (.calm 24 (.calm 25 (.calm 26 (.calm 27 (.done))))))))))))))))))))))))))))) (bW [3,4]) ?_
   repeat(first|(refine GN ?_;first|refine QW QP ?_|refine QW (aC (v:=ap (aj ⟨gt,0,ak⟩) (r.length+1) ct) aK.ty I (aH (i:=0) I I)) ?_|refine QW (dg (b:=aD) I I I) ?_|refine QW (dg (b:=aE) I I (decide_eq_false J)) ?_|refine QW (aC (v:=av az m) aK.ty I (BO (i:=1) I 3 _ I)) ?_|refine QW (dr (b:=aD) I I (decide_eq_true c1)) ?_|refine QW (eJ (r:=(r.length:Int)) I I J J J) ?_|refine QW (aX (j:=r.length) bM.eq aK.ty I I J) ?_|refine GX ?_)|refine GW ?_)
   repeat(first|refine GA ?_|refine gV (aC (v:=av az (seen:Int)) aK.ty I (aH (i:=1) I I)) ?_|refine gV (bB I (kX _ _)) ?_)
   refine gC 2 (cs':=#[ap ak 0 0,av az (seen:Int),av az 13,.bool aE]) ?_;refine zL ?_
   try refine GA ?_
   exact fm (i:=2) I I I I I I λw hm=>hm.meets (S:=tk (seen:Int) (13,[],[])) (ap ak 0 0,ap ak 0 0) trivial [] aiT I
  rw[if_neg c1];obtain rfl:m=(t:Int):=by simpa using c1
  refine dN ([yb gw g.aR g.bC vp (ap (aj ⟨gt,0,ak⟩) (r.length+1) ct) VE a1,wN (ap (aj ⟨gt,0,ak⟩) (r.length+1) ct) (.sym (1,(t:Int))::r)]) (.calm 0 (.calm 1 (.calm 2 (.calm 3 (.calm 4 (.calm 5 (.calm 6 (.calm 7 (.calm 8 (.calm 9 (.calm 10 (.calm 11 (.calm 12 (.calm 13 (.calm 14 (.calm 15 (.calm 16 (.calm 17 (.calm 18 (.calm 19 (.calm 20 (.calm 21 (.calm 22 (.calm 23 (.calm 24 (.calm 25 (.calm 26 (.calm 27 (.done))))))))))))))))))))))))))))) (bW [3,4]) ?_
  repeat(first|(refine GN ?_;first|refine QW QP ?_|refine QW (aC (v:=ap (aj ⟨gt,0,ak⟩) (r.length+1) ct) aK.ty I (aH (i:=0) I I)) ?_|refine QW (dg (b:=aD) I I I) ?_|refine QW (dg (b:=aE) I I (decide_eq_false J)) ?_|refine QW (aC (v:=av az (t:Int)) aK.ty I (BO (i:=1) I 3 _ I)) ?_|refine QW (dr (b:=aE) I I (decide_eq_false (by simp))) ?_|refine QW (eJ (r:=(r.length:Int)) I I J J J) ?_|refine QW (aX (j:=r.length) bM.eq aK.ty I I J) ?_|refine GX ?_)|refine GW ?_)
  repeat(first|refine GC ?_|refine gV (dg (b:=aD) I I I) ?_|refine GB ?_)
  refine bm [3,4] [0,1,2,5] aiT I I (hZ aI.en I I) (λw hm hb=>Bc gw g.aR g.bC vp _ VE (.sym (1,(t:Int))) r a1 w _ J hb) I I I ?_;intro SD _;refine zL ?_;dsimp only
  repeat(first|refine GA ?_|refine gV (aC (v:=av az (seen:Int)) aK.ty I (aH (i:=1) I I)) ?_)
  refine bm [4,3] [0,1,2,5] aiT I I (rX aI.en I I I I) (λw hm hb=>Bb gw g.aR g.bC vp SD VE gG a1 2 (seen:Int) w _ (by simp at hd3;omega) J hb) I I I ?_;intro vo3 _;refine zL ?_;dsimp only
  by_cases c2:a1+1<=2000
  ·rw[decide_eq_true (show((a1+1:Nat):Int)<=2000 by omega)]
   try refine GA ?_
   refine Cu I I I ?_;refine bm [4,3,5] [0,1,2] aiT I I (hZ aI.en I I) (λw hm hb=>rP gw g.aR g.bC vp SD vo3 r (gG++[(2,(seen:Int))]) (a1+1) w _ J c2 (by simp at hd3⊢;omega) hb) I I I ?_;rintro⟨vt4,vo4⟩ _
   conv=>arg 8;simp only[zJ,cK,ret,id_eq,clS]
   conv=>arg 7;simp only[clS]
   generalize bQ r (gG++[(2,(seen:Int))]) (a1+1)=C;obtain⟨st3,ah2,a3,ok⟩:=C;dsimp only
   cases ok with
   | true=>
    rw[if_pos ⟨c2,rfl⟩]
    repeat(first|refine GC ?_|refine gV (dg (b:=aD) I I I) ?_|refine GB ?_)
    refine IG (i:=4) I λbt ct' hv q3 q4=>?_;subst hv;refine dN ([yb gw g.aR g.bC vp (ap bt st3.length ct') vo4 a3,aP g1 (te vt (seen:Int) 0 aE).cells 91]) (.calm 0 (.calm 1 (.calm 2 (.calm 3 (.calm 4 (.calm 5 (.calm 6 (.calm 7 (.calm 8 (.calm 9 (.calm 10 (.calm 11 (.one 12 (.calm 13 (.calm 14 (.done)))))))))))))))) (bW [3,1]) ?_
    repeat(first|refine GW ?_|(refine GN ?_;first|refine QW (aC (v:=ap bt st3.length ct') aK.ty I (aH (i:=0) I I)) ?_|refine QW (aC (v:=av az (seen:Int)) aK.ty I (aH (i:=1) I I)) ?_|refine QW (aC (v:=vo4) aK.ty I (aH (i:=0) I I)) ?_|refine QW (bB I (U3 _ _ _ _)) ?_))
    refine aL I (aW (i:=2) (cs':=#[ap bt st3.length ct',av az ((seen:Int)+1),av az 0,.bool aE]) I I I I I I (aM (bW [3,1]) ?_))
    try refine GW ?_
    try refine GA ?_
    exact fm (i:=2) I I I I I I λw hm=>hm.meets (S:=tk (seen:Int) (0,st3,ah2)) (ap bt st3.length ct',vo4) trivial [4,5] aiT I
   | false=>
    rw[if_neg (by rintro⟨_,h⟩;cases h)]
    try refine GA ?_
    repeat(first|refine GA ?_|refine gV (aC (v:=av az (seen:Int)) aK.ty I (aH (i:=1) I I)) ?_|refine gV (bB I (kX _ _)) ?_)
    refine gC 2 (cs':=#[ap ak 0 0,av az (seen:Int),av az 14,.bool aE]) ?_;refine zL ?_
    try refine GA ?_
    exact fm (i:=2) I I I I I I λw hm=>hm.meets (S:=tk (seen:Int) (14,[],[])) (ap ak 0 0,ap ak 0 0) trivial [] aiT I
  rw[if_neg (by rintro⟨h,_⟩;exact c2 h)];rw[decide_eq_false (show ¬((a1+1:Nat):Int)<=2000 by omega)]
  try refine GA ?_
  repeat(first|refine GA ?_|refine gV (aC (v:=av az (seen:Int)) aK.ty I (aH (i:=1) I I)) ?_|refine gV (bB I (kX _ _)) ?_)
  refine gC 2 (cs':=#[ap ak 0 0,av az (seen:Int),av az 14,.bool aE]) ?_;refine zL ?_
  try refine GA ?_
  exact fm (i:=2) I I I I I I λw hm=>hm.meets (S:=tk (seen:Int) (14,[],[])) (ap ak 0 0,ap ak 0 0) trivial [] aiT I
 ·rw[M7 hD aiT]
  try refine GA ?_
  refine dN ([]) (.calm 0 (.calm 1 (.calm 2 (.calm 3 (.calm 4 (.calm 5 (.calm 6 (.calm 7 (.calm 8 (.calm 9 (.calm 10 (.calm 11 (.calm 12 (.calm 13 (.calm 14 (.calm 15 (.calm 16 (.calm 17 (.calm 18 (.calm 19 (.calm 20 (.calm 21 (.calm 22 (.calm 23 (.calm 24 (.calm 25 (.calm 26 (.calm 27 (.done))))))))))))))))))))))))))))) (bW []) ?_
  try refine GW ?_
  repeat(first|refine GA ?_|refine gV (aC (v:=av az (seen:Int)) aK.ty I (aH (i:=1) I I)) ?_|refine gV (bB I (kX _ _)) ?_)
  refine gC 2 (cs':=#[ap ak 0 0,av az (seen:Int),av az 13,.bool aE]) ?_;refine zL ?_
  try refine GA ?_
  exact fm (i:=2) I I I I I I λw hm=>hm.meets (S:=tk (seen:Int) (13,[],[])) (ap ak 0 0,ap ak 0 0) trivial [] aiT I
 ·rw[M7 hD aiT]
  try refine GA ?_
  refine dN ([]) (.calm 0 (.calm 1 (.calm 2 (.calm 3 (.calm 4 (.calm 5 (.calm 6 (.calm 7 (.calm 8 (.calm 9 (.calm 10 (.calm 11 (.calm 12 (.calm 13 (.calm 14 (.calm 15 (.calm 16 (.calm 17 (.calm 18 (.calm 19 (.calm 20 (.calm 21 (.calm 22 (.calm 23 (.calm 24 (.calm 25 (.calm 26 (.calm 27 (.done))))))))))))))))))))))))))))) (bW []) ?_
  try refine GW ?_
  repeat(first|refine GA ?_|refine gV (aC (v:=av az (seen:Int)) aK.ty I (aH (i:=1) I I)) ?_|refine gV (bB I (kX _ _)) ?_)
  refine gC 2 (cs':=#[ap ak 0 0,av az (seen:Int),av az 14,.bool aE]) ?_;refine zL ?_
  try refine GA ?_
  exact fm (i:=2) I I I I I I λw hm=>hm.meets (S:=tk (seen:Int) (14,[],[])) (ap ak 0 0,ap ak 0 0) trivial [] aiT I
def J'(seen:Int)(R:Int×List dy):Spec Value:=
 ⟨λ_=>True,λx=>if R.1=0 then .tuple #[te (ap ak 0 0) seen 0 aD,x,av az 0]else .tuple #[te (ap ak 0 0) seen R.1 aE,ap ak 0 0,av az R.1],λx=>if R.1=0 then [kV x R.2]else []⟩
theorem U4(seen:Int)(w:World):(dh 91 #[(1,av az seen),(3,.bool aD)]).run aB w= .ok (te (ap ak 0 0) seen 0 aD) w:=by
 unfold te;go_simp
theorem Fe(v vr vt:Value)(g:eb)(ll:List (List Int))(T N:Nat)(st:List TD)(seen:Nat)(w:World)(h:kj (λk=>k<w.heap.size) w v g)(hr:zK w vr ll)(ht:TdR w vt st)(h0:E8 g ll=0)(hg:b_ g=0)(hT:Fc g ll T N)(hs:∀d∈st,qQ g d)(hl:st.length<=60)(h1:seen<=1000000):
 Calls aB 97 #[v,vr,te vt (seen:Int) 0 aE] w (cB (J' (seen:Int) (jz g.aF (iH ll T) st)) w):=by
 have HX:=hT.aR;have iW:=λw' (yW:Gr w w')=>rQ v vr vt g ll st (seen:Int) g.aR w' (h.gr yW) (hr.gr yW) (ht.gr yW) h0 hs hl J J J J;obtain⟨vp,rfl,hp,_⟩:=h;have B2:=λw' (yW:Gr w w')=>BQ g.aR g.bC vp vt st (seen:Int) 0 aE w' (ht.gr yW) hl (by obtain⟨b,c,e,_⟩:=hp;exact⟨b,_,c,e⟩);have hdw:=λgw Z2 Z3 w' B ho hm=>BP w gw g.aR g.bC vp vr g ll T N T hp hr hg hT J Z2 Z3 st w' B hs hl ho hm;rw[<-HX]at hdw;have hdt:=λR=>@uJ g.aF (iH ll T) 2001 st [] 0 R;have hde:=@uI g.aF (iH ll T) 2001 st [] 0;generalize hD:fH g.aF (iH ll T) 2001 st [] 0=D at*;obtain⟨st1,gG,a1,e⟩:=D;have hdt:=λh=>hdt _ I h;dsimp only at*;refine enter (args:=[dJ g.aR g.bC vp,vr,te vt (seen:Int) 0 aE]) (n:=55) Tryz.func97 I I I ?_;refine cC (bz (bR I I I λg0=>bR I I I λg1=>aY I λg2=>?_));refine zL ?_
 repeat(first|refine GA ?_|refine gV (aC (v:=av az g.aR) aK.ty I (aH (i:=0) I I)) ?_|refine gV (aO (i:=0) aK.ty I I I) ?_|refine gV (aO (i:=1) aK.ty I I I) ?_)
 refine aV (Ti aI.en I I I I I) (λw hm=>iW _ hm.below) I I I ?_;intro _ _;refine zL ?_
 repeat(first|refine GA ?_|refine gV (aO (i:=0) aK.ty I I I) ?_|refine gV (aO (i:=1) aK.ty I I I) ?_)
 refine aV (fO aI.en I I I) (λw hm=>B2 _ hm.below) I I I ?_;rintro⟨gw,Z5⟩ _
 conv=>arg 8;simp only[zJ,cK,ret,id_eq,J_]
 repeat(first|refine GA ?_|refine gV (aC (v:=av az g.aR) aK.ty I (aH (i:=0) I I)) ?_)
 refine wm 168 2 ?_;refine zL ?_;refine bm [3,4,5] [0,1,2] aiT I I (rX aI.en I I I I) (λw' hm hb=>hdw gw Z5 _ w' _ ((pZ.self w).on hm λo h=>En h) hb) I I I ?_;rintro⟨SC,VE⟩ _
 conv=>arg 8;simp only[zJ,cK,ret,id_eq,dwS]
 conv=>arg 7;simp only[dwS]
 rcases hde with rfl|rfl|rfl
 ·rcases hdt rfl with rfl|⟨x,r,rfl,hx⟩
  ·rw[acs hD]
   repeat(first|refine GC ?_|refine gV (aC (v:=SC) aK.ty I (aH (i:=3) I I)) ?_|refine gV (dg (b:=aD) I I I) ?_|refine gV (e8 (i:=4) bM.eq I I) ?_|refine gV (dT (b:=aE) I I I) ?_|refine GB ?_)
   refine dN ([yb gw g.aR g.bC vp SC VE a1,aP g1 (te vt (seen:Int) 0 aE).cells 91]) (.calm 0 (.calm 1 (.calm 2 (.calm 3 (.calm 4 (.calm 5 (.calm 6 (.one 7 (.calm 8 (.calm 9 (.done))))))))))) (bW [3,1]) ?_
   repeat(first|refine GW ?_|(refine GN ?_;first|refine QW (aC (v:=av az (seen:Int)) aK.ty I (aH (i:=1) I I)) ?_|refine QW (aC (v:=VE) aK.ty I (aH (i:=0) I I)) ?_|refine QW (bB I (U4 _)) ?_))
   refine aL I (aW (i:=2) (cs':=#[ap ak 0 0,av az (seen:Int),av az 0,.bool aD]) I I I I I I (aM (bW [3,1]) ?_))
   try refine GW ?_
   try refine GA ?_
   exact fm (i:=2) I I I I I I λw hm=>hm.meets (S:=J' (seen:Int) (0,gG)) VE trivial [5] aiT I
  rw[acu hD]
  repeat(first|refine GC ?_|refine gV (aC (v:=SC) aK.ty I (aH (i:=3) I I)) ?_|refine gV (dg (b:=aD) I I I) ?_|refine gV (aC (v:=av az (seen:Int)) aK.ty I (aH (i:=1) I I)) ?_|refine gV (bB I (kX _ _)) ?_|refine gV (e8 (i:=4) bM.eq I I) ?_|refine gV (dT (b:=aD) I I (decide_eq_true (by rw[de];omega))) ?_|refine GB ?_)
  refine gC 2 (cs':=#[ap ak 0 0,av az (seen:Int),av az 13,.bool aE]) ?_;refine zL ?_
  try refine GA ?_
  exact fm (i:=2) I I I I I I λw hm=>hm.meets (S:=J' (seen:Int) (13,[])) (ap ak 0 0) trivial [] aiT I
 ·rw[SG hD aiT]
  repeat(first|refine GA ?_|refine gV (aC (v:=av az (seen:Int)) aK.ty I (aH (i:=1) I I)) ?_|refine gV (bB I (kX _ _)) ?_)
  refine gC 2 (cs':=#[ap ak 0 0,av az (seen:Int),av az 13,.bool aE]) ?_;refine zL ?_
  try refine GA ?_
  exact fm (i:=2) I I I I I I λw hm=>hm.meets (S:=J' (seen:Int) (13,[])) (ap ak 0 0) trivial [] aiT I
 ·rw[SG hD aiT]
  repeat(first|refine GA ?_|refine gV (aC (v:=av az (seen:Int)) aK.ty I (aH (i:=1) I I)) ?_|refine gV (bB I (kX _ _)) ?_)
  refine gC 2 (cs':=#[ap ak 0 0,av az (seen:Int),av az 14,.bool aE]) ?_;refine zL ?_
  try refine GA ?_
  exact fm (i:=2) I I I I I I λw hm=>hm.meets (S:=J' (seen:Int) (14,[])) (ap ak 0 0) trivial [] aiT I
end cI
namespace cI
open Go.RowKit cU dS aT dP fh B5 fM dL xZ
abbrev SH(g:eb)(T N:Nat):List (List Int):=lY N λn=>lY (T+1) (B5.rowAt g.aF (A6 N g.aF) T n)
theorem M8{α:Type}{len:Nat}{f:Nat->α}{d:α}(k:Nat):(lY len f).getD k d=if k<len then f k else d:=by
 rw[b9]
 by_cases h:k<len
 rw[uE _ h,if_pos h];rfl;rw[kG (by rw[iw];omega),if_neg h];rfl
theorem aeY{g:eb}{T N:Nat}(hT:g.aR=T)(hN:g.bC=N):Fc g (SH g T N) T N where
 aR:=hT
 bC:=hN
 len:=iw _ _
 row r hr:=by
  obtain⟨n,_,rfl⟩:=eX.1 hr;exact iw _ _
 nx col n h0:=by
  unfold iH at h0⊢;rw[M8]at h0⊢
  by_cases h:n.toNat<N
  ·rw[if_pos h]at h0⊢
   rw[M8]at h0⊢
   by_cases h2:col<T+1
   ·rw[if_pos h2]at h0⊢
    refine⟨(uH n.toNat col g.aF.length).2,λhn=>?_⟩;have:=x8 (may:=A6 N g.aF) (T:=T) n.toNat col g.aF.length (bx _) h0;unfold B5.rowAt;rw[this];omega
   rw[if_neg h2]at h0;omega
  rw[if_neg h]at h0;have:([]:List Int).getD col (-1)= -1:=rfl;omega
theorem HY{l:List aT.Prod}{n:Nat}:∀r:List Int,(∀p∈r,-1<=p/\p<(l.length:Int)/\(0<=p->(dc l p).1=(n:Int)))->sW l n r=0
 |[],_=>rfl
 |p::r,h=>by
  have hp:=h p (gd ..);rw[sW,if_neg J,if_neg J,if_neg (by rintro⟨h1,h2⟩;exact h2 (hp.2.2 h1))];exact HY r λp hp=>h p (kM _ hp)
theorem Ff{l:List aT.Prod}{t:Int}:∀(rows:List (List Int)) (n:Nat),(∀i (h:i<rows.length),(rows[i].length:Int)=t+1/\sW l (n+i) rows[i]=0)->qz l t n rows=0
 |[],_,_=>rfl
 | r ::rs,n,h=>by
  have h0:=h 0 (by simp);simp only[List.getElem_cons_zero,jC]at h0;rw[qz,if_neg (by simp[h0.1]),if_neg (by simp[h0.2])];exact Ff rs (n+1) λi hi=>by
   have:=h (i+1) (by simp;omega);simp only[List.getElem_cons_succ]at this;rw[show n+1+i=n+(i+1)by omega];exact this
theorem M9{g:eb}{T N:Nat}(hg:b_ g=0)(hT:g.aR=T)(hN:g.bC=N):E8 g (SH g T N)=0:=by
 unfold E8;rw[if_neg (by simp[hg]),iw,if_neg (by simp[hN])];refine Ff _ 0 λi hi=>?_;rw[iw]at hi;have yd:(SH g T N)[i]'(by rw[iw];exact hi)=lY (T+1) (B5.rowAt g.aF (A6 N g.aF) T i):=by simp[lY]
 rw[yd];refine⟨by rw[iw,hT];rfl,HY _ λp hp=>?_⟩;obtain⟨c,_,rfl⟩:=eX.1 hp;have h1:=uH (l:=g.aF) (may:=A6 N g.aF) (T:=T) i c g.aF.length;refine⟨h1.1,h1.2,λh0=>?_⟩;rw[cV];exact x8 (l:=g.aF) (may:=A6 N g.aF) (T:=T) i c g.aF.length (bx _) h0
theorem aaa(seen:Int)(st:List TD)(l:List dy):tk seen (0,st,l)=⟨λ_=>True,λx=> .tuple #[te x.1 (seen+1) 0 aE,x.2,av az 0],λx=>[wN x.1 st,kV x.2 l]⟩:=by unfold tk;simp
theorem U5(seen:Int){e:Int}(he:e≠0)(st:List TD)(l:List dy):tk seen (e,st,l)=⟨λ_=>True,λx=> .tuple #[te (ap ak 0 0) seen e aE,ap ak 0 0,av az e],λx=>[]⟩:=by unfold tk;simp[he]
theorem acv(seen:Int)(l:List dy):J' seen (0,l)=⟨λ_=>True,λx=> .tuple #[te (ap ak 0 0) seen 0 aD,x,av az 0],λx=>[kV x l]⟩:=by unfold J';simp
theorem aab(seen:Int){e:Int}(he:e≠0)(l:List dy):J' seen (e,l)=⟨λ_=>True,λx=> .tuple #[te (ap ak 0 0) seen e aE,ap ak 0 0,av az e],λx=>[]⟩:=by unfold J';simp[he]
end cI
namespace mM
open Go.RowKit cU dS cI cT
def Be(o:Of)(N:List (List Int))(now:Int)(b:UInt8):Int:=(N.getD now.toNat []).getD (o.toList.getD b.toNat 0) 0
def qA(o:Of)(N:List (List Int))(tags:List Int):List UInt8->Nat->Int->Int->Nat->Int×Nat
 |[],_,_,r,t=>(r,t)
 | b::s,i,now,r,t=>
  if Be o N now b<0 then(r,t)
  else if 0<=tags.getD (Be o N now b).toNat 0 then qA o N tags s (i+1) (Be o N now b) (tags.getD (Be o N now b).toNat 0) (i+1)
  else qA o N tags s (i+1) (Be o N now b) r t
theorem yv(o:Of)(N:List (List Int))(tags:List Int)(b:UInt8)(s:List UInt8)(i:Nat)(now r:Int)(t:Nat):qA o N tags (b::s) i now r t=
 if Be o N now b<0 then(r,t)
 else if 0<=tags.getD (Be o N now b).toNat 0 then qA o N tags s (i+1) (Be o N now b) (tags.getD (Be o N now b).toNat 0) (i+1)
 else qA o N tags s (i+1) (Be o N now b) r t:=rfl
abbrev Tok:=Int×Nat×Nat
theorem Fg(o:Of)(N:List (List Int))(tags:List Int):∀(s:List UInt8) (i:Nat) (now r:Int) (t:Nat),(qA o N tags s i now r t).2=t\/(i<(qA o N tags s i now r t).2/\(qA o N tags s i now r t).2<=i+s.length)
 |[],_,_,_,_=> .inl I
 | b ::s,i,now,r,t=>by
  rw[yv];split;exact .inl I;split
  ·rcases Fg o N tags s (i+1) (Be o N now b) (tags.getD (Be o N now b).toNat 0) (i+1)with h|h
   rw[h];exact .inr ⟨by omega,by rw[de];omega⟩;exact .inr ⟨by omega,by rw[de];omega⟩
  rcases Fg o N tags s (i+1) (Be o N now b) r t with h|h
  exact .inl h;exact .inr ⟨by omega,by rw[de];omega⟩
theorem aeZ{o:Of}{N:List (List Int)}{tags:List Int}(h:q7 o N tags){q:Nat}(hq:q<N.length)(b:UInt8):
 ∃(h1:q<N.length) (h2:o[b.toNat]'b.toNat_lt<N[q].length),Be o N (q:Int) b=N[q][o[b.toNat]'b.toNat_lt]/\ -1<=Be o N (q:Int) b/\Be o N (q:Int) b<N.length:=by
 have hw:o[b.toNat]'b.toNat_lt<N[q].length:=by rw[h.row q hq];exact h.of _ _
 have e:Be o N (q:Int) b=N[q][o[b.toNat]'b.toNat_lt]:=by
  unfold Be;rw[dq,b9 (l:=N),bD hq,kp,b9 (l:=o.toList),bD (by rw[Vector.length_toList];exact b.toNat_lt),kp,Vector.getElem_toList,b9,bD hw];rfl
 have hr:=h.rng q hq _ hw;exact⟨hq,hw,e,by rw[e];exact hr.1,by rw[e];exact hr.2⟩
end mM
namespace cI
open Go.RowKit cU dS cT mM
theorem ae0{vn vt:Value}(o:Of)(b:UInt8):(eY o vn vt).toArray[0+b.toNat]?=aj (.int .u8 ((o[b.toNat]'b.toNat_lt:Nat):Int)):=by
 rw[cV];exact agn o vn vt b.toNat_lt
def sY(t:Tok):List Value:=[av az t.1,av az (t.2.1:Int),av az (t.2.2:Int)]
end cI
namespace cI
open Go.RowKit cU dS cT mM
abbrev Fh(v:Value)(l:List Tok):cH:=a_ 163 3 v l.length (l.flatMap sY)
theorem HZ(v:Value)(l:List Tok)(x:Tok):Fh v (l++[x])=a_ 163 3 v (l.length+1) (l.flatMap sY++sY x):=by
 unfold Fh;rw[bI,fC];simp
end cI
namespace cI
open Go.RowKit cU dS yS cT
theorem kY(R:List Row):(UO R).length=R.length:=by unfold UO;simp
theorem Ka(R:List Row){i:Nat}(h:i<R.length):(UO R)[i]'(by rw[kY];exact h)=CM (nD R 256) i:=by unfold UO;simp
theorem acw{R:List Row}{c:EB}(h:c∈nD R 256):∃b,b<256/\c=q6 R b:=by
 unfold nD at h;rcases kO.1 h with h|h
 cases h
 obtain⟨b,hb,rfl⟩:=eX.1 h;exact⟨b,by simpa using hb,rfl⟩
theorem ae1{R:List Row}{tags:List Int}(h:mh R tags=0){i:Nat}(hi:i<R.length){x:Int}(hx:x∈CM (nD R 256) i): -1<=x/\x<R.length:=by
 obtain⟨hA,_⟩:=vh h;unfold CM at hx;obtain⟨c,hc,rfl⟩:=eX.1 hx;obtain⟨b,hb,rfl⟩:=acw hc;rw[MJ R b i hi hA.le,vJ hi hb];have:=hA.step i hi b hb;rw[Mj hi hb]at this;exact this
theorem adq{R:List Row}{tags:List Int}(h:mh R tags=0):ZR (ym R 256) (UO R) tags (nD R 256).length:=by
 obtain⟨hA,hl⟩:=vh h;have hle:R.length<=200:=hA.le;refine⟨by rw[kY];exact hA.pos,by rw[kY];exact hle,by rw[kY];exact hl,List.length_pos_of_mem (JQ R (show 0<256 by decide)),CL R 256,λi hi=>?_,λi hi=>?_,λi hi j hj=>?_,λb hb=>?_⟩
 ·rw[kY]at hi
  rw[Ka R hi];unfold CM;rw[dF]
 ·have:=hA.tags i (show i<R.length by omega)
  rw[zn hi]at this;exact this
 ·have oV:i<R.length:=by rw[kY]at hi;exact hi
  have e:=Ka R oV;have hx:(UO R)[i][j]∈CM (nD R 256) i:=e▸cD hj;rw[kY];exact ae1 h oV hx
 have e:(ym R 256)[b]'hb=pkN R b:=by
  unfold ym;rw[kq];simp[hb]
 rw[e];exact Zn R hb
end cI
namespace mM
open Go.RowKit cU dS cI cT
end mM
namespace cI
open Go.RowKit cU dS cT
theorem Mem.pkI{B:bO}{w:World}{L:List cH}{i j k g:Nat}{R:List Row}{tags:List Int}{vs:Nat->Value}{vt:Value}(hm:Mem B L w)(hi:L[i]?=aj (fq 27 yr g R.length vs))(hj:L[j]?=aj (UU R.length (nD R 256) vs))(hk:L[k]?=aj (a_ 3 1 vt tags.length (tags.flatMap cU.ez)))(hc:mh R tags=0):
 VC w (ap (aj ⟨g,0,ak⟩) R.length R.length) vt (UO R) tags:=by
 have h1:(fq 27 yr g R.length vs).holds w:=hm.get hi;have h2:(UU R.length (nD R 256) vs).holds w:=hm.get hj;have ok:=adq hc;refine⟨⟨aj ⟨g,0,ak⟩,R.length,by rw[kY],by rw[kY];exact bx _,by have:=ok.le;rw[kY]at this;unfold maxLen;omega,λh0=>⟨g,0,rfl,?_,λi hi=>⟨[vs i],⟨vs i,rfl,?_⟩,λj u hj=>?_⟩⟩⟩,lR hk _ hm⟩
 ·rw[kY]at h0
  exact World.block_lt_of_cell? w _ (AH h1 h0)
 ·have Ts:i<R.length:=by rw[kY]at hi;exact hi
  have h3:(a_ 3 1 (vs i) (nD R 256).length ((CM (nD R 256) i).flatMap cU.ez)).holds w:=h2.1 i Ts;have h4:Sl w (vs i) (nD R 256).length ((CM (nD R 256) i).flatMap cU.ez):=Sl.dB h3;have e:(UO R)[i]=CM (nD R 256) i:=Ka R Ts;have hl:(CM (nD R 256) i).length=(nD R 256).length:=dF ..;refine jW.of_flat (by rw[e,hl];exact h4) (λx hx=>?_) (λb hb=>?_) λa n cp hv=>?_
  ·obtain⟨q,hq,rfl⟩:=hY.1 hx
   have:=ok.rng i hi q hq;have:=ok.le;exact⟨by omega,by omega⟩
  exact cH.lt _ w h3 b (.inl hb);exact cH.lt _ w h3 a.block (.inl (by rw[hv];rfl))
 ·have Ts:i<R.length:=by rw[kY]at hi;exact hi
  have hj0:j=0:=by have:=(cX.1 hj).1;simp at this;exact this
  subst hj0;simp only[sf,df]at hj;subst hj;have:=AH h1 Ts;show w.cell? ⟨g,0+i*1+0,ak⟩=aj (vs i)
  rw[Nat.mul_one,jC];exact this
theorem SI(R:List Row):∀b (h:b<256),(ym R 256)[b]<256:=λb hb=>by
 have e:(ym R 256)[b]'hb=pkN R b:=by
  unfold ym;rw[kq];simp[hb]
 rw[e];exact Sv R hb
theorem SJ{R:List Row}{tags:List Int}(h:mh R tags=0):q7 (ym R 256) (UO R) tags:=by
 have ok:=adq h;have:((UO R).headD []).length=(nD R 256).length:=by
  have h0:=ok.pos;have:=ok.row 0 h0
  cases hR:UO R with
  |nil=>rw[hR]at h0;simp at h0
  |cons x r=>simp only[hR]at this;exact this
 unfold q7;rw[this];exact ok
end cI
namespace bJ
open aT dP fM dL cT
open B5 (D9)
section
variable{l:List aT.Prod}{T N:Nat}{lk:Int->Int->Nat}{Nx:List (List Int)}{S:List (List Item)}{w:List Int}
variable{E R M:List Bool}{F W:List Nat}
theorem M_(hI:Us l T N lk S.length Nx S){q:Nat}(hq:q<S.length):∀it∈S.getD q [],ey l T it:=by
 have yd:S.getD q []=S[q]:=by rw[b9,bD hq];rfl
 rw[yd];exact hI.ss.right _ (cD hq)
end
end bJ
namespace bJ
open aT dP fM dL cT xZ
open B5 (D9)
section
variable{l:List aT.Prod}{T N:Nat}{lk:Int->Int->Nat}{Nx:List (List Int)}{S:List (List Item)}
inductive Stk(l:List aT.Prod)(T N:Nat)(lk:Int->Int->Nat)(S:List (List Item)):List Nat->List (dy×Tree)->Nat->Prop
 |start:Stk l T N lk S [0] [] 0
 |push {q s:Nat} {σ:List Nat} {ts:List (dy×Tree)} {a:Nat} {x:dy} {t:Tree} (h:Stk l T N lk S (q::σ) ts a) (hs:s<S.length) (hx:S.getD s []=iS l T lk (S.getD q []) x) (hne:iS l T lk (S.getD q []) x≠[]) (ht:G' l t x a):Stk l T N lk S (s::q::σ) ((x,t)::ts) (a+leaves t)
theorem Stk.len{σ:List Nat}{ts:List (dy×Tree)}{a:Nat}(h:Stk l T N lk S σ ts a):σ.length=ts.length+1:=by
 induction h with
 |start=>rfl
 |push _ _ _ _ _ ih=>rw[de,ih,de]
section
end
end
end bJ
namespace bJ
open aT dP fM dL cT xZ
open B5 (D9)
section
variable(l:List aT.Prod)(act:Nat->Nat->Act)(gt:Nat->Int->Int)
def Cm(σ:List Nat)(p:Int):Option (List Nat):=match σ.drop (dc l p).2.length with
 |r::ρ=>if 0<=gt r (dc l p).1 then aj ((gt r (dc l p).1).toNat::r::ρ)else ak
 |[]=>ak
def f_(col a:Nat):Nat->List Nat->List dy->Int×List Nat×List dy
 |0,_,_=>(14,[],[])
 | f +1,σ,o=>
  if f=0/\(act (σ.headD 0) col).1≠0 then(14,[],[])
  else if(act (σ.headD 0) col).1=3 then(0,σ,o)
  else if(act (σ.headD 0) col).1=1 then(if 60<σ.length+1 then(14,[],[])else(0,(act (σ.headD 0) col).2.toNat::σ,o++[(2,(a:Int))]))
  else if(act (σ.headD 0) col).1=2 then(match Cm l gt σ (act (σ.headD 0) col).2 with
   |none=>(13,[],[])
   |some σ'=>if 60<σ'.length then(14,[],[])else f_ col a f σ' (o++[(4,(act (σ.headD 0) col).2)]))
  else(13,[],[])
end
section
variable{l:List aT.Prod}{act:Nat->Nat->Act}{gt:Nat->Int->Int}{T N:Nat}{lk:Int->Int->Nat}{Nx:List (List Int)}{S:List (List Item)}
structure ah3(l:List aT.Prod)(act:Nat->Nat->Act)(gt:Nat->Int->Int)(T N:Nat)(Nx:List (List Int))(S:List (List Item)):Prop where
 act:∀q c,q<S.length->c<=T->act q c=pM l T Nx S q c
 gt:∀q n,q<S.length->0<=n->n<(N:Int)->gt q n=afZ T Nx q n
theorem ae2{q c:Nat}{x:Act}(h:pM l T Nx S q c=x)(h0:x.1≠0):x∈kz l T (S.getD q []) (Nx.getD q []) c:=by
 unfold pM at h
 cases e:kz l T (S.getD q []) (Nx.getD q []) c with
 |nil=>rw[e]at h;subst h;exact absurd I h0
 |cons y r=>rw[e]at h;subst h;exact gd ..
theorem H0{q c:Nat}{x:Act}(h:x∈kz l T (S.getD q []) (Nx.getD q []) c):
 (x.1=1/\c<T/\0<=(Nx.getD q []).getD c 0/\x.2=(Nx.getD q []).getD c 0)\/(x=(3,0)/\(((l.length:Int),1,(c:Int)):Item)∈S.getD q [])\/(x.1=2/\x.2<(l.length:Int)/\((x.2,((dc l x.2).2.length:Int),(c:Int)):Item)∈S.getD q []):=by
 unfold kz at h;rcases fu.1 h with h|h
 ·split at h
  ·rename_i c1
   rw[dR]at h;subst h;exact .inl ⟨rfl,c1.1,c1.2,rfl⟩
  cases h
 ·obtain⟨it,hit,e⟩:=List.mem_filterMap.1 h
  obtain⟨p,d,k⟩:=it;unfold zg at e;dsimp only at e
  by_cases c1:k≠(c:Int)
  rw[if_pos c1]at e;cases e;rw[if_neg c1]at e;have c1:k=(c:Int):=ZT.1 c1;subst c1
  by_cases c2:p=(l.length:Int)/\d=1
  ·rw[if_pos c2]at e
   obtain⟨rfl,rfl⟩:=c2;exact .inr (.inl ⟨(oQ e).symm,hit⟩)
  rw[if_neg c2]at e
  by_cases c3:p<(l.length:Int)/\d=((dc l p).2.length:Int)
  ·rw[if_pos c3]at e
   obtain⟨c3,rfl⟩:=c3;obtain rfl:=oQ e;exact .inr (.inr ⟨rfl,c3,hit⟩)
  rw[if_neg c3]at e;cases e
section
variable(hB:ah3 l act gt T N Nx S)(hI:Us l T N lk S.length Nx S)(hw:∀q∈l,q.2.length<=8)(hl:l.length<=40)(hT:T<=30)(hh:∀q∈l,0<=q.1/\q.1<(N:Int))
include hB hI hw hl hT hh
omit hB hw hl hT hh in
theorem U6{q k s:Nat}{x:dy}(hq:q<S.length)(hk:(mK T N)[k]?=aj x)(hs:(Nx.getD q []).getD k 0=(s:Int)):s<S.length/\S.getD s []=iS l T lk (S.getD q []) x/\iS l T lk (S.getD q []) x≠[]:=by
 rcases hI.cell q hq k x hk with⟨_,h2⟩|⟨h1,h2,h3⟩
 rw[hs]at h2;omega;rw[hs]at h3;obtain rfl:s=idx S (iS l T lk (S.getD q []) x):=by omega
 refine⟨ni h2,?_,h1⟩;rw[b9,bD (ni h2)];exact Cy (ni h2)
end
end
end bJ
namespace cI
open aT dP fM dL bJ cT xZ
open B5 (D9)
structure nR(g:eb)(T N:Nat)(Nx:List (List Int))(S:List (List bJ.Item)):Prop where
 J3:b_ g=0
 aR:g.aR=(T:Int)
 bC:g.bC=(N:Int)
 all:allI g.aF T N (ke g)=aj (Nx,S)
 dI:(iG g).1=ig g.aF T Nx S S.length
 gos:(iG g).2.1=fB T Nx S.length
 ae3:(iG g).2.2.1=iE g.aF T Nx S S.length
theorem H2{g:eb}(h:(iG g).2.2.2=0):∃T N Nx S,nR g T N Nx S:=by
 unfold iG at h
 by_cases c:(jw g).2.2≠0
 rw[if_pos c]at h;exact absurd h c;have c2:(jw g).2.2=0:=ZT.1 c;obtain⟨hg,hA⟩:=Si c2;obtain⟨hT1,hT2,hN1,Xs,-⟩:=cP hg;exact⟨g.aR.toNat,g.bC.toNat,(jw g).1,(jw g).2.1,hg,by omega,by omega,hA,by unfold iG;rw[if_neg c],by unfold iG;rw[if_neg c],by unfold iG;rw[if_neg c]⟩
section
variable{g:eb}{T N:Nat}{Nx:List (List Int)}{S:List (List bJ.Item)}
theorem nR.wide(h:nR g T N Nx S):∀q∈g.aF,q.2.length<=8:=λq hq=>((cP h.J3).2.2.2.2.2 q hq).1
theorem nR.B7(h:nR g T N Nx S):g.aF.length<=40:=(cP h.J3).2.2.2.2.1
theorem nR.t30(h:nR g T N Nx S):T<=30:=by have:=(cP h.J3).2.1;have:=h.aR;omega
theorem nR.law(h:nR g T N Nx S):Us g.aF T N (ke g) S.length Nx S:=Me h.wide h.B7 h.t30 h.all
theorem Fi{l:List aT.Prod}{i n:Nat}(h:i<n):(ig l T Nx S n)[i]?=aj (g_ l T Nx S i (T+1)):=by unfold ig;simp[h]
theorem BR{i n:Nat}(h:i<n):(fB T Nx n)[i]?=aj ((Nx.getD i []).drop T):=by unfold fB;simp[h]
theorem QM{l:List aT.Prod}{q c:Nat}(h:c<T+1):(g_ l T Nx S q (T+1))[c]?=aj (pM l T Nx S q c):=by
 unfold g_;rw[eS,List.getElem?_range h];simp[h]
theorem nR.right(h:nR g T N Nx S){q c:Nat}(hq:q<S.length)(_:c<T+1):vX T g.aF.length S.length (pM g.aF T Nx S q c) c:=by
 have hI:=h.law
 by_cases h0:(pM g.aF T Nx S q c).1=0
 ·left
  refine⟨h0,?_⟩;unfold pM at h0⊢
  cases e:kz g.aF T (S.getD q []) (Nx.getD q []) c with
  |nil=>rfl
  |cons y r=>
   rw[e]at h0;have hm:y∈kz g.aF T (S.getD q []) (Nx.getD q []) c:=by rw[e];exact gd ..
   rcases H0 hm with h'|h'|h'
   have:=h'.1;have h0:y.1=0:=h0;omega;have h0:y.1=0:=h0;rw[h'.1]at h0;cases h0;have:=h'.1;have h0:y.1=0:=h0;omega
 rcases H0 (ae2 rfl h0)with h'|h'|h'
 ·obtain⟨h1,h2,h3,h4⟩:=h'
  obtain⟨s,hs⟩:=h_ h3;obtain⟨k1,-,-⟩:=U6 hI hq (Ur h2) hs;exact .inr (.inl ⟨h1,h2,by omega,by rw[h4,hs];omega⟩)
 ·obtain⟨h1,h2⟩:=h'
  have ht:=abY h.wide h.B7 h.t30 h.all q hq _ h2 I;have ht:(c:Int)=(T:Int):=ht;exact .inr (.inr (.inr ⟨by rw[h1],by rw[h1],by omega⟩))
 obtain⟨h1,h2,h3⟩:=h';exact .inr (.inr (.inl ⟨h1,(M_ hI hq _ h3).1,h2⟩))
theorem nR.pt(h:nR g T N Nx S):rO g T N (ig g.aF T Nx S S.length) (fB T Nx S.length) where
 J3:=h.J3
 aR:=h.aR
 bC:=h.bC
 pos:=by rw[je];exact(cX.1 h.law.start).1
 B7:=by rw[je];exact h.law.B7
 same:=by rw[je,mb]
 wA:=λi hi=>by
  obtain⟨h1,h2⟩:=cX.1 (Fi (T:=T) (Nx:=Nx) (S:=S) (l:=g.aF) (show i<S.length by rw[je]at hi;exact hi));rw[h2];exact pS
 dI:=λi hi c hc=>by
  have oV:i<S.length:=by rw[je]at hi;exact hi
  obtain⟨h1,h2⟩:=cX.1 (Fi (T:=T) (Nx:=Nx) (S:=S) (l:=g.aF) oV);simp only[h2]at hc⊢;rw[pS]at hc;obtain⟨h3,h4⟩:=cX.1 (QM (l:=g.aF) (T:=T) (Nx:=Nx) (S:=S) (q:=i) hc);rw[h4,je];exact h.right oV hc
 wG:=λi hi=>by
  have oV:i<S.length:=by rw[mb]at hi;exact hi
  obtain⟨h1,h2⟩:=cX.1 (BR (T:=T) (Nx:=Nx) oV);rw[h2,jc,h.law.wide i oV];omega
 gos:=λi hi y hy=>by
  have oV:i<S.length:=by rw[mb]at hi;exact hi
  obtain⟨h1,h2⟩:=cX.1 (BR (T:=T) (Nx:=Nx) oV);rw[h2]at hy;obtain⟨k,hk,rfl⟩:=List.getElem_of_mem hy;rw[je];rw[jc,h.law.wide i oV]at hk;rw[List.getElem_drop];have hw:=h.law.wide i oV;have hg:(Nx.getD i [])[T+k]'(by rw[hw];omega)=(Nx.getD i []).getD (T+k) 0:=by rw[b9 (l:=Nx.getD i []),bD (by rw[hw];omega)];rfl
  rw[hg];rcases h.law.cell i oV (T+k) _ (YI J)with⟨_,e⟩|⟨_,e1,e2⟩
  rw[e];omega;rw[e2];have:=ni e1;omega
def iM(A:List (List bJ.Act))(q c:Nat):bJ.Act:=(A.getD q []).getD c (0,0)
def fa(G:List (List Int))(q:Nat)(n:Int):Int:=(G.getD q []).getD n.toNat 0
theorem BS{l:List aT.Prod}:∀n,(iE l T Nx S n).length=0->∀q,q<n->∀c,c<=T->(kz l T (S.getD q []) (Nx.getD q []) c).length<=1
 |0,_,q,hq,_,_=>absurd hq (l5 _)
 | n + 1,h,q,hq,c,hc=>by
  rw[iE,bI]at h
  by_cases e:q=n
  ·subst e
   have row:∀d,(iD l T Nx S q d).length=0->∀c,c<d->(wE l T Nx S q c).length=0:=λd=>by
    induction d with
    |zero=>exact λ_ c hc=>absurd hc (l5 _)
    | succ d ih=>
     intro h c hc;rw[iD,bI]at h
     by_cases e2:c=d
     subst e2;omega;exact ih J c J
   have:=row (T+1) J c J;unfold wE at this;rw[dF,List.length_tail]at this;have h2:(kz l T (S.getD q []) (Nx.getD q []) c).length-1=0:=this;omega
  exact BS n J q J c hc
theorem nR.calm(h:nR g T N Nx S)(hc:adp g=aD):af0 g.aF T Nx S:=by
 unfold adp at hc;rw[fc,decide_eq_true_eq,decide_eq_true_eq,h.ae3]at hc;exact λq hq c hcT=>BS S.length hc.2 q hq c hcT
theorem QN(hg:b_ g=0){p:Int}:∀x∈fI g.aF p,right g.aR g.bC x=true:=λx hx=>by
 unfold fI at hx;split at hx
 ·rw[dR.1 hx]
  have:=(cP hg).2.2.1;unfold right;rw[if_neg aiT,if_pos I];simp only[lg,decide_true,vC,decide_eq_true_eq];omega
 by_cases h2:p.toNat<g.aF.length
 ·have:dc g.aF p∈g.aF:=by unfold dc;rw[b9,bD h2];exact cD h2
  exact((cP hg).2.2.2.2.2 _ this).2.2.2 x hx
 unfold dc at hx;rw[b9,kG J]at hx
 cases hx
theorem nR.looks(h:nR g T N Nx S)(p d:Int):ke g p d=fU (wQ N g.aF).E (NO N g.aF) ((fI g.aF p).drop (d.toNat+1)) (2^62):=by
 unfold ke Cb;have hb8:=mI (l:=g.aF) (p:=p) h.wide;have hE:uR g ((fI g.aF p).drop (d.toNat+1))=0:=by
  unfold uR;rw[if_neg (by rw[h.J3];simp),if_neg (by rw[jc];omega)];exact Jp λx hx=>QN h.J3 x (AU hx)
 rw[if_pos hE,show g.bC.toNat=N by rw[h.bC];rfl]
end
end cI
namespace ns
open dl gj eo cT
open cI (mh fl wR JC)
variable{m:MS}{R:List Row}{d:DM}
theorem acx(hm:I9 m)(hi:MkI m (fj m.empty 0) (d.S.length+1) R d)(k:Nat):d.tags.getD k 0<m.empty.length:=by
 have h:=hi.tags;unfold qY at h;rw[h];have h0:=hm.some
 cases k with
 | zero=>
  have:=HE (l:=m.empty);have e:(fj m.empty 0::d.S.map (ns.wO m.ps)).getD 0 0=fj m.empty 0:=rfl;rw[e];omega
 | succ k=>
  by_cases hk:k<d.S.length
  ·have e:(fj m.empty 0::d.S.map (ns.wO m.ps)).getD (k+1) 0=ns.wO m.ps d.S[k]:=by
    rw[ZV,b9,eS,bD hk];rfl
   rw[e];unfold ns.wO;rcases JH hm.rules hm.ok.ps.rules d.S[k] m.ps.aZ.length (bx _)with⟨h1,_⟩|⟨_,_,_,_,_,h1,h2,_⟩
   rw[h1];omega;omega
  rw[ZV,b9,kG (by rw[dF];omega)];show(0:Int)<_
  omega
end ns
namespace cI
open Go.RowKit cU dS dl gj gT aT cT eo ns
theorem aac{R:List Row}{tags:List Int}{n:Int}(h:∀k,tags.getD k 0<n):∀t∈zt R tags,t<n:=λt ht=>by
 unfold zt at ht;split at ht
 ·obtain⟨k,-,rfl⟩:=eX.1 ht
  exact h k
 cases ht
theorem aad{s:Sp}{r:Int×List Row×List Int}(h:Sy s r)(h0:r.1=0):0<s.words.length/\s.words.length<=20/\∀t∈r.2.2,t<(s.words.length:Int):=by
 rcases h with⟨k,hk,-,rfl⟩|⟨es,m,h1,-,h3,h4,h5,-,⟨h,rfl⟩|⟨-,h,rfl⟩|⟨h,hd,hc,rfl⟩⟩
 exact absurd h0 hk;exact absurd h0 h;exact absurd h0 h;have hlen:s.words.length=es.length:=by
  have:=congrArg yf h1
  rwa [pR,dF,dF]at this
 obtain⟨-,h7,-,-⟩:=I_ es 0 .zero m I8 rfl (λr hr=>by cases hr) (bH _) h5;refine⟨by omega,by omega,?_⟩;dsimp only
 cases hm:uL m with
 |none=>rw[PX hm]at hd;cases hd
 |some y=>
  obtain⟨R,d⟩:=y;rw[EF hm];refine aac λk=>?_;have:=acx (CD h3 h4 h5) (AZ hm) k;show d.tags.getD k 0<_
  omega
end cI
namespace gT
open dl gj
theorem adr(l:List Wd):∀k,k<=l.length->0<=((l.take k).foldl jg ws0).2.1/\∀x∈((l.take k).foldl jg ws0).1,-1<=x/\x<((l.take k).foldl jg ws0).2.1
 |0,_=>⟨lg _,λx hx=>by cases hx⟩
 | k + 1,h=>by
  obtain⟨a1,a2⟩:=adr l k J;rw[step_take _ _ _ (show k<l.length by omega)];have key:∀(s:WS) (w:Wd),0<=s.2.1->(∀x∈s.1,-1<=x/\x<s.2.1)->0<=(jg s w).2.1/\∀x∈(jg s w).1,-1<=x/\x<(jg s w).2.1:=λs w b1 b2=>by
   unfold jg;split
   ·refine⟨b1,λx hx=>?_⟩
    rcases fu.1 hx with hx|hx
    exact b2 x hx;rw[dR.1 hx];exact⟨lg _,by show(-1:Int)<s.2.1;omega⟩
   refine⟨by show 0<=s.2.1+1;omega,λx hx=>?_⟩;show-1<=x/\x<s.2.1+1
   rcases fu.1 hx with hx|hx
   have:=b2 x hx;omega;rw[dR.1 hx];omega
  exact key _ _ a1 a2
end gT
namespace cI
open Go.RowKit cU dS dl gj gT aT cT
def ae4(s:Sp)(R:List Row)(T:List Int):Md:=⟨(JS s.words).1,ym R 256,UO R,T,c_ s,1,SH (c_ s) (c_ s).aR.toNat (c_ s).bC.toNat,[],[]⟩
def ae5(s:Sp)(R:List Row)(T:List Int):Md:=⟨(JS s.words).1,ym R 256,UO R,T,c_ s,2,[],(iG (c_ s)).1,(iG (c_ s)).2.1⟩
theorem aae{l:List Wd}(h:l.length<=60):(JS l).1.length=l.length:=by
 have:=(Zp l l.length (bx _) h).1;rw[mH]at this;exact this
section
variable{w:World}{B:bO}{L:List cH}{x:Gh}{s:Sp}{R:List Row}{T:List Int}{i0 i1 i2 i3 i4 i5 i6 i7 i8:Nat}
theorem ads(hl:s.words.length<=60)(h:(a_ 3 1 x.vo s.words.length ((JS s.words).1.map (av .i64))).holds w):Sl w x.vo (JS s.words).1.length ((JS s.words).1.flatMap cU.ez):=by
 rw[aae hl];have:=Sl.dB h
 rwa [<-LR]at this
theorem aaf(hg:b_ (c_ s)=0)(h:(n_ x.F x.vp (c_ s).aF).holds w):kj (λk=>k<w.heap.size) w (dJ (c_ s).aR (c_ s).bC x.vp) (c_ s):=by
 obtain⟨a1,a2,a3,a4,a5,a6⟩:=cP hg;exact yq (gok ⟨a1,by omega⟩) (gok ⟨by omega,by omega⟩) h
theorem ae6(hm:Mem B L w)(hl:s.words.length<=60)(hc:mh R T=0)(hg:b_ (c_ s)=0)
 (h0:L[i0]?=aj (a_ 3 1 x.vo s.words.length ((JS s.words).1.map (av .i64)))) (h1:L[i1]?=aj (n_ x.F x.vp (c_ s).aF)) (h2:L[i2]?=aj (fq 27 yr x.gP R.length x.Zz)) (h3:L[i3]?=aj (UU R.length (nD R 256) x.Zz)) (h4:L[i4]?=aj (a_ 3 1 x.vT T.length (T.flatMap cU.ez)))
 (h5:L[i5]?=aj (fq 27 vU x.gR (c_ s).bC.toNat x.vsR)) (h6:L[i6]?=aj (ji (λj=>j<(c_ s).bC.toNat) (mY (c_ s).aF (A6 (c_ s).bC.toNat (c_ s).aF) (c_ s).aR.toNat x.vsR (c_ s).bC.toNat 0))):
 CO w (.agg (x.cLL (c_ s) R)) (ae4 s R T) x.vo (ap (aj ⟨x.gP,0,ak⟩) R.length R.length) x.vT x.vp (ap (aj ⟨x.gR,0,ak⟩) (c_ s).bC.toNat (c_ s).bC.toNat) (ap ak 0 0) (ap ak 0 0) where
 val:=rfl
 of:=ads hl (hm.get h0)
 pk:=hm.pkI h2 h3 h4 hc
 Ba:=aaf hg (hm.get h1)
 rows:=by
  obtain⟨a1,a2,a3,a4,a5,a6⟩:=cP hg;exact ZP a5 J (hm.get h5) (hm.get h6)
 pt:=⟨_,_,rfl,jW.nil,jW.nil⟩
theorem ae7(hm:Mem B L w)(hl:s.words.length<=60)(hc:mh R T=0)(hg:b_ (c_ s)=0)
 (h0:L[i0]?=aj (a_ 3 1 x.vo s.words.length ((JS s.words).1.map (av .i64)))) (h1:L[i1]?=aj (n_ x.F x.vp (c_ s).aF)) (h2:L[i2]?=aj (fq 27 yr x.gP R.length x.Zz)) (h3:L[i3]?=aj (UU R.length (nD R 256) x.Zz)) (h4:L[i4]?=aj (a_ 3 1 x.vT T.length (T.flatMap cU.ez)))
 (h5:L[i5]?=aj (a_ 143 1 x.tx.vA (iG (c_ s)).1.length x.tx.Cg)) (h6:L[i6]?=aj (ef (bL oE) x.tx.FA (x.tx.Cg.map λv=>[v]) (iG (c_ s)).1)) (h7:L[i7]?=aj (a_ 27 1 x.tx.vG (iG (c_ s)).2.1.length x.tx.Ch)) (h8:L[i8]?=aj (ef (bL fG) x.tx.FG (x.tx.Ch.map λv=>[v]) (iG (c_ s)).2.1)):
 CO w (.agg (x.cLR (c_ s) R)) (ae5 s R T) x.vo (ap (aj ⟨x.gP,0,ak⟩) R.length R.length) x.vT x.vp (ap ak 0 0) x.tx.vA x.tx.vG where
 val:=rfl
 of:=ads hl (hm.get h0)
 pk:=hm.pkI h2 h3 h4 hc
 Ba:=aaf hg (hm.get h1)
 rows:=jW.nil
 pt:=ach (hm.get h5) (hm.get h6) (hm.get h7) (hm.get h8)
end
theorem Kb{s:Sp}{r:Int×List Row×List Int}(h:Sy s r)(h0:r.1=0):s.words.length<=20/\b_ (c_ s)=0/\mh r.2.1 r.2.2=0/\0<(JS s.words).1.length/\(JS s.words).1.length<=20/\(∀t∈(JS s.words).1,-1<=t/\t<(c_ s).aR)/\∀t∈r.2.2,t<((JS s.words).1.length:Int):=by
 obtain⟨a1,a2⟩:=zy h h0;obtain⟨b1,b2,b3⟩:=aad h h0;have e:=aae (l:=s.words) J;have c:=(adr s.words s.words.length (bx _)).2;rw[mH]at c;exact⟨b2,a1,a2,by omega,by omega,c,by rw[e];exact b3⟩
theorem acy{s:Sp}{r:Int×List Row×List Int}(h:Sy s r)(h0:r.1=0):MdGood (ae4 s r.2.1 r.2.2):=by
 obtain⟨a1,a2,a3,a4,a5,a6,a7⟩:=Kb h h0;obtain⟨b1,b2,b3,b4,b5,b6⟩:=cP a2;exact⟨SI _,QC (SJ a3),a2,a4,a5,a6,a7,.inl ⟨rfl,M9 (g:=c_ s) (T:=(c_ s).aR.toNat) (N:=(c_ s).bC.toNat) a2 J J⟩⟩
theorem acz{s:Sp}{r:Int×List Row×List Int}(h:Sy s r)(h0:r.1=0)(hT:(iG (c_ s)).2.2.2=0):MdGood (ae5 s r.2.1 r.2.2):=by
 obtain⟨a1,a2,a3,a4,a5,a6,a7⟩:=Kb h h0;obtain⟨T,N,Nx,S,hM⟩:=H2 hT;refine⟨SI _,QC (SJ a3),a2,a4,a5,a6,a7,.inr ⟨rfl,T,N,?_⟩⟩;show rO (c_ s) T N (iG (c_ s)).1 (iG (c_ s)).2.1
 rw[hM.dI,hM.gos];exact hM.pt
end cI
namespace CQ
open Go.RowKit cU dS dl gj gT cI
def ae8(a s:C4):List Wd:=[([97],.mk 3 a []),([],.mk 3 s [])]
def aag:List Rl:=[([108],[[97],[109]]),([109],[]),([109],[[97],[109]])]
theorem QO(n:Bs)(k:Int)(c:C4)(b:Option Addr)(m cp:Nat)(w:World):(dh 83 #[(0,str n),(1,aQ (mi k c (ap b m cp)).toArray)]).run aB w= .ok (aQ (yA n k c (ap b m cp)).toArray) w:=by kernel_rfl
theorem Na(n:Bs)(w:World):(dh 86 #[(0,str n)]).run aB w= .ok (aQ #[str n,ap ak 0 0]) w:=by kernel_rfl
theorem Nb(k:Int)(c:C4)(w:World):(dh 83 #[(1,aQ (mi k c (ap ak 0 0)).toArray)]).run aB w= .ok (aQ (yA [] k c (ap ak 0 0)).toArray) w:=by kernel_rfl
theorem BT(n:Bs)(g:Nat)(w:World):(dh 86 #[(0,str n),(1,ap (aj ⟨g,0,ak⟩) 2 2)]).run aB w= .ok (aQ #[str n,ap (aj ⟨g,0,ak⟩) 2 2]) w:=by kernel_rfl
theorem Nc(a b:Option Addr)(m c n d:Nat)(w:World):(dh 25 #[(0,ap a m c),(1,ap b n d)]).run aB w= .ok (aQ #[ap a m c,ap b n d]) w:=by kernel_rfl
structure agS where
 g1:Nat
 g2:Nat
 g3:Nat
 g4:Nat
def rlC(n:Bs)(v:Value):List Value:=[str n,v]
def acA(a s:C4):cI.Spec agS:=⟨λ_=>True,λx=>aQ #[ap (aj ⟨x.g1,0,ak⟩) 2 2,ap (aj ⟨x.g4,0,ak⟩) 3 3],λx=>[aP x.g1 (yA [97] 3 a (ap ak 0 0)++yA [] 3 s (ap ak 0 0)).toArray 83,aP x.g2 #[str [97],str [109]] 9,aP x.g3 #[str [97],str [109]] 9,
 aP x.g4 #[str [108],ap (aj ⟨x.g2,0,ak⟩) 2 2,str [109],ap ak 0 0,str [109],ap (aj ⟨x.g3,0,ak⟩) 2 2] 86]⟩
set_option maxRecDepth 100000 in
theorem QQ(w:World):Calls aB 6 #[] w (cB (acA (fg 97 97) (fg 32 32)) w):=by
 have hl:=λw=>yP 97 w ⟨by decide,by decide⟩;have II:=λw=>yP 32 w ⟨by decide,by decide⟩;generalize fg 97 97=ca at*;generalize fg 32 32=cs at*;refine enter (args:=[]) (n:=13) Tryz.func6 I I I ?_;refine cC (bz (aY I λg0=>?_));refine zL ?_
 try refine GA ?_
 refine aV (hZ aI.en I I) (λw hm=>hl w) I I I ?_;intro _ _;refine zL ?_
 repeat(first|refine QZ ?_|refine QV (bB I (QO _ _ _ _ _ _)) ?_)
 refine aV (hZ aI.en I I) (λw hm=>II w) I I I ?_;intro _ _;refine zL ?_
 repeat(first|refine QZ ?_|refine QV (bB I (Nb _ _)) ?_)
 refine fy (cs:=(yA [97] 3 ca (ap ak 0 0)++yA [] 3 cs (ap ak 0 0)).toArray) [aQ (yA [97] 3 ca (ap ak 0 0)).toArray,aQ (yA [] 3 cs (ap ak 0 0)).toArray] I I I (by intro v hv;simp only[dA,fv,or_false]at hv;rcases hv with rfl|rfl<;>rfl) I I I λg5=>?_;refine zL ?_;refine fy (cs:=#[str [97],str [109]]) [str [97],str [109]] I I I (by intro v hv;simp only[dA,fv,or_false]at hv;rcases hv with rfl|rfl<;>rfl) I I I λg6=>?_;refine zL ?_
 repeat(first|refine QZ ?_|refine QV (bB I (BT _ _)) ?_|refine QV (bB I (Na _)) ?_)
 refine fy (cs:=#[str [97],str [109]]) [str [97],str [109]] I I I (by intro v hv;simp only[dA,fv,or_false]at hv;rcases hv with rfl|rfl<;>rfl) I I I λg9=>?_;refine zL ?_
 repeat(first|refine QZ ?_|refine QV (bB I (BT _ _)) ?_)
 refine fy (cs:=#[str [108],ap (aj ⟨g6,0,ak⟩) 2 2,str [109],ap ak 0 0,str [109],ap (aj ⟨g9,0,ak⟩) 2 2]) [aQ #[str [108],ap (aj ⟨g6,0,ak⟩) 2 2],aQ #[str [109],ap ak 0 0],aQ #[str [109],ap (aj ⟨g9,0,ak⟩) 2 2]] I I I (by intro v hv;simp only[dA,fv,or_false]at hv;rcases hv with rfl|rfl|rfl<;>rfl) I I I λg11=>?_;refine zL ?_
 repeat(first|refine QZ ?_|refine QV (bB I (Nc _ _ _ _ _ _)) ?_)
 refine gC 0 (cs':=#[ap (aj ⟨g5,0,ak⟩) 2 2,ap (aj ⟨g11,0,ak⟩) 3 3]) ?_;refine zL ?_
 try refine GA ?_
 exact fL (i:=0) I I I I λw hm=>hm.meets (S:=acA ca cs) ⟨g5,g6,g9,g11⟩ trivial [1,2,3,4] aiT I
theorem nle{n:Nat}(h:n<=10:=by exact Nat.le_of_ble_eq_true I):n<=9223372036854775807:=by omega
theorem SK{w:World}{g:Nat}(h:(aP g #[str [97],str [109]] 9).holds w):jW Tt (p9 w) w (ap (aj ⟨g,0,ak⟩) 2 2) [[97],[109]]:=by
 have hb:w.heap[g]?=aj (.cells #[str [97],str [109]] 9 (0,0)):=h;refine⟨_,2,rfl,bx _,by decide,λ_=>⟨g,0,rfl,(jm.1 hb).1,λi hi=>⟨[str ([[97],[109]]:List Bs)[i]],⟨rfl,?_⟩,λj u hj=>?_⟩⟩⟩
 ·match i,hi with
  |0,_=>exact(by decide:(1:Nat)<=9223372036854775807)
  |1,_=>exact(by decide:(1:Nat)<=9223372036854775807)
 rw[cell_of_row w g _ _ _ _ hb]
 match i,hi,j,hj with
 |0,_,0,hj=>exact hj
 |1,_,0,hj=>exact hj
theorem acB{w:World}{a s:C4}{x:agS}(h1:(aP x.g1 (yA [97] 3 a (ap ak 0 0)++yA [] 3 s (ap ak 0 0)).toArray 83).holds w)(h2:(aP x.g2 #[str [97],str [109]] 9).holds w)(h3:(aP x.g3 #[str [97],str [109]] 9).holds w)
 (h4:(aP x.g4 #[str [108],ap (aj ⟨x.g2,0,ak⟩) 2 2,str [109],ap ak 0 0,str [109],ap (aj ⟨x.g3,0,ak⟩) 2 2] 86).holds w):UK (p9 w) w (aQ #[ap (aj ⟨x.g1,0,ak⟩) 2 2,ap (aj ⟨x.g4,0,ak⟩) 3 3]) ⟨ae8 a s,aag⟩:=by
 have FY:w.heap[x.g1]?=aj (.cells (yA [97] 3 a (ap ak 0 0)++yA [] 3 s (ap ak 0 0)).toArray 83 (0,0)):=h1;have hb4:w.heap[x.g4]?=aj (.cells #[str [108],ap (aj ⟨x.g2,0,ak⟩) 2 2,str [109],ap ak 0 0,str [109],ap (aj ⟨x.g3,0,ak⟩) 2 2] 86 (0,0)):=h4;have hx:∀c,ku (p9 w) w (mi 3 c (ap ak 0 0)) (.mk 3 c []):=λc=>yO.2 ⟨_,rfl,⟨by decide,by decide⟩,jW.nil⟩;refine⟨_,_,rfl,⟨_,2,rfl,bx _,by decide,λ_=>⟨x.g1,0,rfl,(jm.1 FY).1,λi hi=>?_⟩⟩,⟨_,3,rfl,bx _,by decide,λ_=>⟨x.g4,0,rfl,(jm.1 hb4).1,λi hi=>?_⟩⟩⟩
 ·match i,hi with
  |0,_=>
   refine⟨yA [97] 3 a (ap ak 0 0),⟨[str [97]],_,rfl,⟨rfl,nle⟩,hx a⟩,λj u hj=>?_⟩;rw[cell_of_row w x.g1 _ _ _ _ FY,jn,Nat.zero_mul,cV,eR (cX.1 hj).1];exact hj
  |1,_=>
   refine⟨yA [] 3 s (ap ak 0 0),⟨[str []],_,rfl,⟨rfl,nle⟩,hx s⟩,λj u hj=>?_⟩;rw[cell_of_row w x.g1 _ _ _ _ FY,jn];show(yA [97] 3 a (ap ak 0 0)++yA [] 3 s (ap ak 0 0))[0+1*7+j]?=aj u
   rw[kF (by show 7<=_;omega),show 0+1*7+j-(yA [97] 3 a (ap ak 0 0)).length=j from by show 0+1*7+j-7=j;omega];exact hj
 ·match i,hi with
  |0,_=>
   refine⟨rlC [108] (ap (aj ⟨x.g2,0,ak⟩) 2 2),⟨[str [108]],[_],rfl,⟨rfl,nle⟩,_,rfl,SK h2⟩,λj u hj=>?_⟩;rw[cell_of_row w x.g4 _ _ _ _ hb4]
   match j,hj with
   |0,hj=>exact hj
   |1,hj=>exact hj
  |1,_=>
   refine⟨rlC [109] (ap ak 0 0),⟨[str [109]],[_],rfl,⟨rfl,nle⟩,_,rfl,jW.nil⟩,λj u hj=>?_⟩;rw[cell_of_row w x.g4 _ _ _ _ hb4]
   match j,hj with
   |0,hj=>exact hj
   |1,hj=>exact hj
  |2,_=>
   refine⟨rlC [109] (ap (aj ⟨x.g3,0,ak⟩) 2 2),⟨[str [109]],[_],rfl,⟨rfl,nle⟩,_,rfl,SK h3⟩,λj u hj=>?_⟩;rw[cell_of_row w x.g4 _ _ _ _ hb4]
   match j,hj with
   |0,hj=>exact hj
   |1,hj=>exact hj
end CQ
namespace ns
open dl gj eo cT
theorem aah{a b c:List Int}(h1:c.Pairwise (· < ·))(h2:∀x,(x∈a\/x∈b)↔x∈c):qR a b=c:=
 D_ (CC _ _).1 h1 λx=>by rw[(CC _ _).2,h2]
end ns
namespace CR
open Go.RowKit cU dS cI dl gj gT aT cT eo ns CQ
def lS:Sp:=⟨ae8 (fg 97 97) (fg 32 32),aag⟩
def lE:List Re:=[.byte (fg 97 97),.byte (fg 32 32)]
set_option maxRecDepth 1000000 in
theorem ae9:Ci lS 0=(0,1):=by kernel_rfl
theorem acC:vO lS=0:=by kernel_rfl
def lM(a b:C4):MS:=⟨⟨[a,b],[0,1],[[],[]],[aD,aD]⟩,[0,1],[aE,aE]⟩
theorem ae_(a b:C4):lz 0 .zero [.byte a,.byte b]=(0,lM a b):=by
 have u0:qR [] [0]=[0]:=aah (by simp) (by simp);have u1:qR [0] [1]=[0,1]:=aah (by simp) (by simp);have s0:wW 0 .zero (.byte a)=⟨⟨[a],[0],[[]],[aD]⟩,[0],[aE]⟩:=by simp[wW,cL,MS.zero,fP,u0]
 have s1:wW 1 ⟨⟨[a],[0],[[]],[aD]⟩,[0],[aE]⟩ (.byte b)=lM a b:=by
  simp[wW,cL,fP,u1,lM]
 rw[lz,s0,if_neg (by simp),lz,s1,if_neg (by simp[lM]),lz]
theorem U7:jM (pR lS)=0:=by kernel_rfl
set_option maxRecDepth 1000000 in
theorem acD:((uL (lM (fg 97 97) (fg 32 32))).map λx=>x.1.length)=aj 3:=by kernel_rfl
theorem ae':∃r,Sy lS r/\r.1=0:=by
 have hl:lz 0 .zero lE=(0,lM (fg 97 97) (fg 32 32)):=ae_ _ _;have hd:=acD;generalize lM (fg 97 97) (fg 32 32)=m at*
 cases hm:uL m with
 |none=>rw[hm]at hd;cases hd
 | some y=>
  obtain⟨R,d⟩:=y;refine⟨_,.inr ⟨lE,m,rfl,?_,by decide,by decide,hl,.inr (.inr ⟨by decide,U7,lE,rfl,?_,hl.symm⟩),.inr (.inr ⟨acC,?_,?_,rfl⟩)⟩,rfl⟩
  ·intro e he
   simp only[lE,dA,fv,or_false]at he;rcases he with rfl|rfl<;>exact⟨by unfold Re.nz;decide,by decide,by decide⟩
  ·intro e he
   simp only[lE,dA,fv,or_false]at he;rcases he with rfl|rfl<;>decide
  rw[EF hm];rw[EF hm];exact Y0 (CD aiT aiT hl) (AZ hm)
end CR
namespace cI
open Go.RowKit cU dS
theorem aai(a:Int):(cU.ez a).length=1:=rfl
theorem wT(v:Value)(l:List Int)(w:World)(hs:Sl w v l.length (l.flatMap cU.ez))(pw:FuncId)(first cp:Array Value)(p:Int->Bool)(FK:Enters aB pw)
 (hp:∀a∈l,∀w',Gr w w'->Calls aB pw (first++#[((cU.ez a).headD undef)]++cp) w' (cB (ret (.bool (p a))) w')):
 Calls aB 162 #[v,.func (.func pw) first cp] w (cB (ret (av az (ri p l))) w):=by
 obtain⟨base,cap,rfl,ly,kl,eL⟩:=hs;unfold maxLen at kl;refine enter (args:=[ap base l.length cap,.func (.func pw) first cp]) (n:=19) Tryz.func162 I I I ?_
 repeat(first|refine qv I (qp I) I I ?_|refine kI ?_|refine cC ?_|refine bz ?_|refine qcT I ?_|refine qcF I ?_|refine xz ?_|refine xA ?_|refine yE ?_|refine sg ?_|refine lQ ?_|refine sh ?_|refine ot ?_|refine oW ?_|refine oX ?_|refine nF ?_|refine nG I ?_|refine qv I (K1 bM.eq I) I I ?_|refine qv I (dQ I I (qT J)) I I ?_|refine qv I (dQ I I (qF J)) I I ?_|refine qv I (eT I I J J I) I I ?_)
 refine ea (ι:=Nat) (λk=>k<=l.length/\∀j (hj:j<l.length),j<k->p l[j]=aE) (λk=>[(0,ap base l.length cap),(1,.func (.func pw) first cp),(7,av az l.length),(8,av az (k:Int))]) (λ_=>[]) (λk=>l.length-k) 0 ⟨by omega,λj hj h=>by omega⟩ ?_;rintro k ⟨h1,h2⟩
 by_cases c2:k<l.length
 ·obtain⟨b,off,rfl,hr⟩:=eL J
  have du:=gO (L:=([]:List cH)) aai hr c2;have gL:=hp l[k] (cD c2)
  by_cases c3:p l[k]=aD
  ·rw[rj c2 c3 h2]
   rw[c3]at gL;clear hp h2 eL
   repeat(first|refine qv I (qp I) I I ?_|refine kI ?_|refine cC ?_|refine bz ?_|refine qcT I ?_|refine qcF I ?_|refine xz ?_|refine xA ?_|refine yE ?_|refine sg ?_|refine lQ ?_|refine sh ?_|refine ot ?_|refine oW ?_|refine oX ?_|refine nF ?_|refine nG I ?_|refine qv I (aX bM.eq aK.ty I I c2) I I ?_|refine qv I (aC aK.ty I (du 0 _ I)) I I ?_|refine qv I (K1 bM.eq I) I I ?_|refine qv I (dQ I I (qT J)) I I ?_|refine qv I (dQ I I (qF J)) I I ?_|refine qv I (eT I I J J I) I I ?_)
   refine aV (B3 FK I I) (λw hm=>gL w hm.below) I I I ?_;intro _ _
   repeat(first|refine qv I (qp I) I I ?_|refine kI ?_|refine cC ?_|refine bz ?_|refine qcT I ?_|refine qcF I ?_|refine xz ?_|refine xA ?_|refine yE ?_|refine sg ?_|refine lQ ?_|refine sh ?_|refine ot ?_|refine oW ?_|refine oX ?_|refine nF ?_|refine nG I ?_|refine qv I (K1 bM.eq I) I I ?_|refine qv I (dQ I I (qT J)) I I ?_|refine qv I (dQ I I (qF J)) I I ?_|refine qv I (eT I I J J I) I I ?_)
   exact eM
  have NM:p l[k]=false:=by simpa using c3
  rw[NM]at gL;clear hp eL c3
  repeat(first|refine qv I (qp I) I I ?_|refine kI ?_|refine cC ?_|refine bz ?_|refine qcT I ?_|refine qcF I ?_|refine xz ?_|refine xA ?_|refine yE ?_|refine sg ?_|refine lQ ?_|refine sh ?_|refine ot ?_|refine oW ?_|refine oX ?_|refine nF ?_|refine nG I ?_|refine qv I (aX bM.eq aK.ty I I c2) I I ?_|refine qv I (aC aK.ty I (du 0 _ I)) I I ?_|refine qv I (K1 bM.eq I) I I ?_|refine qv I (dQ I I (qT J)) I I ?_|refine qv I (dQ I I (qF J)) I I ?_|refine qv I (eT I I J J I) I I ?_)
  refine aV (B3 FK I I) (λw hm=>gL w hm.below) I I I ?_;intro _ _
  repeat(first|refine qv I (qp I) I I ?_|refine kI ?_|refine cC ?_|refine bz ?_|refine qcT I ?_|refine qcF I ?_|refine xz ?_|refine xA ?_|refine yE ?_|refine sg ?_|refine lQ ?_|refine sh ?_|refine ot ?_|refine oW ?_|refine oX ?_|refine nF ?_|refine nG I ?_|refine qv I (K1 bM.eq I) I I ?_|refine qv I (dQ I I (qT J)) I I ?_|refine qv I (dQ I I (qF J)) I I ?_|refine qv I (eT I I J J I) I I ?_)
  exact bY (k+1) ⟨by omega,λj hj h=>if e:j<k then h2 j hj e else(by obtain rfl:j=k:=J;exact NM)⟩ (by show l.length-(k+1)<l.length-k;omega)
 ·rw[rl λj hj=>h2 j hj J]
  clear hp h2 eL
  repeat(first|refine qv I (qp I) I I ?_|refine kI ?_|refine cC ?_|refine bz ?_|refine qcT I ?_|refine qcF I ?_|refine xz ?_|refine xA ?_|refine yE ?_|refine sg ?_|refine lQ ?_|refine sh ?_|refine ot ?_|refine oW ?_|refine oX ?_|refine nF ?_|refine nG I ?_|refine qv I (K1 bM.eq I) I I ?_|refine qv I (dQ I I (qT J)) I I ?_|refine qv I (dQ I I (qF J)) I I ?_|refine qv I (eT I I J J I) I I ?_)
  exact eM
theorem sZ(v:Value)(l:List Int)(w:World)(hs:Sl w v l.length (l.flatMap cU.ez))(pw:FuncId)(first cp:Array Value)(p:Int->Bool)(FK:Enters aB pw)
 (hp:∀a∈l,∀w',Gr w w'->Calls aB pw (first++#[((cU.ez a).headD undef)]++cp) w' (cB (ret (.bool (p a))) w')):
 Calls aB 138 #[v,.func (.func pw) first cp] w (cB (ret (.bool (l.any p))) w):=by
 refine enter (args:=[v,.func (.func pw) first cp]) (n:=9) Tryz.func138 I I I ?_;have hh:=λw' (hg:Gr w w')=>wT v l w' (hs.gr hg) pw first cp p FK λa ha Cr yW=>hp a ha Cr (hg.trans yW);have hr:=o_ p l;rw[<-uh p l];generalize ri p l=r at*
 repeat(first|refine qv I (qp I) I I ?_|refine kI ?_|refine cC ?_|refine bz ?_|refine yE ?_|refine lQ ?_|refine ot ?_|refine qv I (eU I I (qT J)) I I ?_|refine qv I (eU I I (qF J)) I I ?_)
 refine aV (fO aI.en I I I) (λw hm=>hh _ hm.below) I I I ?_;intro _ _
 repeat(first|refine qv I (qp I) I I ?_|refine kI ?_|refine cC ?_|refine bz ?_|refine yE ?_|refine lQ ?_|refine ot ?_|refine qv I (eU I I I) I I ?_|refine qv I (eU I I (qT J)) I I ?_|refine qv I (eU I I (qF J)) I I ?_)
 exact eM
end cI
namespace cI
open Go.RowKit cU dS aT dP dL bJ cT
def sI(σ:List Nat):List Int:=σ.reverse.map λq:Nat=>(q:Int)
theorem vY(σ:List Nat):(sI σ).length=σ.length:=by unfold sI;simp
theorem zN(q:Nat)(σ:List Nat):sI (q::σ)=sI σ++[(q:Int)]:=by unfold sI;simp
theorem SL(b:Nat)(σ:List Nat):sI (σ.drop b)=(sI σ).take (σ.length-b):=by
 unfold sI;rw[<-ZZ,List.take_reverse]
 by_cases h:b<=σ.length
 rw[show σ.length-(σ.length-b)=b by omega];rw[uo J,uo J]
theorem aaj{b:Nat}{σ ρ:List Nat}{r n:Nat}(h:σ.drop b=r::ρ)(hn:σ.length=n+1+b):(sI σ)[n]?=aj (r:Int):=by
 have h1:=SL b σ;rw[h,zN,show σ.length-b=n+1 by omega]at h1;have h2:ρ.length=n:=by
  have:=congrArg yf h;rw[jc,de]at this;omega
 have h3:((sI σ).take (n+1))[n]?=aj (r:Int):=by
  rw[<-h1,kF (by rw[vY];omega),vY,h2,oa];rfl
 rwa [ZU (nv n)]at h3
abbrev skR(w:World)(vs:Value)(σ:List Nat):Prop:=Sl w vs σ.length ((sI σ).flatMap cU.ez)
abbrev SM(vs:Value)(σ:List Nat):cH:=a_ 3 1 vs σ.length ((sI σ).flatMap cU.ez)
def vZ(vs:Value)(seen over:Int)(done:Bool):Value:=aQ #[vs,av az seen,av az over,.bool done]
theorem Fj(aA:Option Addr)(nA cA:Nat)(vG:Value)(q:Int)(g5:Nat)(w:World)(h0:0<=q)(h1:q<(nA:Int))(hg:w.heap[g5]?=aj (.cells (aQ #[ap aA nA cA,vG]).cells 37 (0,0))):
 Calls aB 139 #[av az q,aJ (aj ⟨g5,0,ak⟩)] w (cB (ret (.bool aE)) w):=by
 have hcell:∀(L:List cH),At w L ⟨g5,0,ak⟩ (ap aA nA cA):=λL=>kh (by
  rw[cell_of_row w g5 0 _ _ _ hg];rfl)
 clear hg;refine enter (args:=[av az q,aJ (aj ⟨g5,0,ak⟩)]) (n:=13) Tryz.func139 I I I ?_
 repeat(first|refine GC ?_|refine gV (dQ (b:=aE) I I (decide_eq_false J)) ?_|refine gV (aC (v:=ap aA nA cA) aK.ty I (hcell _)) ?_|refine gV (eU (b:=aE) I I (decide_eq_false J)) ?_|refine GB ?_)
 exact eM
theorem w_(v t vs:Value)(g:eb)(T N:Nat)(A:List (List bJ.Act))(G:List (List Int))(σ:List Nat)(seen col:Int)(w:World)(hG:kj (λk=>k<w.heap.size) w v g)(ht:A_ w t A G)(hs:skR w vs σ)(hT:rO g T N A G)(hq:∀q∈σ,q<A.length)(h0:0<σ.length)(hl:σ.length<=60)(h1:0<=seen)(h2:seen<=1099511627776)(h3:0<=col)(h4:col<=g.aR):
 Calls aB 123 #[v,t,vZ vs seen 0 aE,av az col] w (cB (ret (av az 0)) w):=by
 have iW:=λw' (hg:Gr w w')=>w9 v t g T N A G hT w' (hG.gr hg) (ht.gr hg);obtain⟨vp,rfl,hp,-,-⟩:=hG;obtain⟨bp,cp,rfl,-⟩:=hp;obtain⟨vA,vG,rfl,hA,hGo⟩:=ht;obtain⟨aA,cA,rfl,-,-⟩:=mL hA;clear hA hGo;have KJ:=λw' (hg:Gr w w') g5 (hb:w'.heap[g5]?=aj (.cells (aQ #[ap aA A.length cA,vG]).cells 37 (0,0)))=>sZ vs (sI σ) w' (by rw[vY];exact hs.gr hg) 139 #[] #[aJ (aj ⟨g5,0,ak⟩)] (λ_=>aE) aI.en (λa ha Cr yW=>by
  unfold sI at ha;obtain⟨q,hq1,rfl⟩:=eX.1 ha;have:=hq q (ZX.1 hq1);exact Fj aA A.length cA vG (q:Int) g5 Cr J J (by rw[yW.block g5 (jm.1 hb).1];exact hb))
 have E7:(sI σ).any (λ_=>aE)=false:=by rw[sX];intro _ _ h;cases h
 rw[E7]at KJ;obtain⟨bs,cs,rfl,-⟩:=hs;refine enter (args:=[dJ g.aR g.bC (ap bp g.aF.length cp),aQ #[ap aA A.length cA,vG],vZ (ap bs σ.length cs) seen 0 aE,av az col]) (n:=66) Tryz.func123 I I I ?_;refine cC (bz (bR I I I λg4=>?_));refine zL ?_;refine bR I I I λg5=>?_;refine zL ?_;refine bR I I I λg6=>?_;refine zL ?_
 repeat(first|refine GA ?_|refine gV (aO (i:=0) aK.ty I I I) ?_|refine gV (aO (i:=1) aK.ty I I I) ?_)
 refine aV (fO aI.en I I I) (λw hm=>iW w hm.below) I I I ?_;intro _ _;refine zL ?_
 repeat(first|refine GA ?_|refine gV (aC (v:=ap bs σ.length cs) aK.ty I (aH (i:=2) I I)) ?_|refine gV (aC (v:=av az seen) aK.ty I (aH (i:=2) I I)) ?_|refine gV (aC (v:=av az 0) aK.ty I (aH (i:=2) I I)) ?_|refine gV (aC (v:= .bool aE) aK.ty I (aH (i:=2) I I)) ?_|refine gV (aC (v:=av az g.aR) aK.ty I (aH (i:=0) I I)) ?_|refine gV (wu I I) ?_)
 refine aV (fO aI.en I I I) (λw hm=>KJ _ hm.below _ (hm.get (i:=1) I)) I I I ?_;intro _ _;refine zL ?_
 repeat(first|refine GA ?_|refine gV (aC (v:=av az 0) aK.ty I (aH (i:=2) I I)) ?_|refine gV (aC (v:= .bool aE) aK.ty I (aH (i:=2) I I)) ?_)
 exact eM
theorem U8(g:Nat)(w:World):(dh 94 #[(0,ap (aj ⟨g,0,ak⟩) 1 1)]).run aB w= .ok (vZ (ap (aj ⟨g,0,ak⟩) 1 1) 0 0 aE) w:=by
 unfold vZ;go_simp
theorem H3(seen e:Int)(w:World):(dh 94 #[(1,av az seen),(2,av az e)]).run aB w= .ok (vZ (ap ak 0 0) seen e aE) w:=by
 unfold vZ;go_simp
theorem U9(b:Option Addr)(m c:Nat)(seen:Int)(w:World):(dh 94 #[(0,ap b m c),(1,av az seen)]).run aB w= .ok (vZ (ap b m c) seen 0 aE) w:=by
 unfold vZ;go_simp
theorem U_(seen:Int)(w:World):(dh 94 #[(1,av az seen),(3,.bool aD)]).run aB w= .ok (vZ (ap ak 0 0) seen 0 aD) w:=by
 unfold vZ;go_simp
def CS:Spec Value:=⟨λ_=>True,λvt=>vZ vt 0 0 aE,λvt=>[SM vt [0]]⟩
theorem Gk(w:World):Calls aB 28 #[] w (cB CS w):=by
 refine enter (args:=[]) (n:=3) Tryz.func28 I I I ?_;refine cC (bz (aY I λg2=>?_));refine zL ?_
 try refine GA ?_
 refine fy (cs:=#[av az 0]) [av az 0] I I I (by intro v hv;simp at hv;subst hv;rfl) I I I λg3=>?_;refine zL ?_
 repeat(first|refine QZ ?_|refine QV (bB I (U8 _)) ?_)
 refine gC 0 (cs':=#[ap (aj ⟨g3,0,ak⟩) 1 1,av az 0,av az 0,.bool aE]) ?_;refine zL ?_;refine yJ (i:=1) 1 I I J ?_;refine zL ?_
 try refine GA ?_
 exact fL (i:=0) I I I I λw hm=>hm.meets (S:=CS) (ap (aj ⟨g3,0,ak⟩) 1 1) trivial [1] aiT I
def Nd(R:Option (List Nat)):Spec Value:=⟨λ_=>True,λv=> .tuple #[v,.bool R.isSome],λv=>match R with|some σ'=>[SM v σ']|none=>[]⟩
theorem Fk(v t vs:Value)(g:eb)(T N:Nat)(A:List (List bJ.Act))(G:List (List Int))(σ:List Nat)(p:Nat)(w:World)(hG:kj (λk=>k<w.heap.size) w v g)(ht:A_ w t A G)(hs:skR w vs σ)(hT:rO g T N A G)(hq:∀q∈σ,q<A.length)(hl:σ.length<=60)(hp:p<g.aF.length):
 Calls aB 140 #[v,t,vs,av az (p:Int)] w (cB (Nd (Cm g.aF (fa G) σ (p:Int))) w):=by
 obtain⟨hg,JI,hNn,AX,P4,td,hwA,aci,hwG,ZQ⟩:=hT;obtain⟨hT1,hT2,-,Xs,BF,hpr⟩:=cP hg;have hpe:dc g.aF (p:Int)=g.aF[p]:=by unfold dc;rw[dq,b9,bD hp];rfl
 have hpp:=hpr _ (cD hp);obtain⟨vp,rfl,hpg,-,-⟩:=hG;obtain⟨bp,cp,rfl,-,-,oo⟩:=hpg;obtain⟨b1,o1,rfl,-,oo⟩:=oo J;obtain⟨base,cap,eL,-,-⟩:=lA oo hp;clear oo;unfold Cm;rw[hpe];have ah4:∀L,At (w:bO) L ⟨b1,o1+p*2+0,ak⟩ (av az g.aF[p].1):=λL=>iI eL I;have agT:∀L,At (w:bO) L ⟨b1,o1+p*2+1,ak⟩ (.slice base g.aF[p].2.length cap):=λL=>iI eL I;clear eL hpe hpr;generalize g.aF[p]=pr at*;obtain⟨hd,bd⟩:=pr;dsimp only at*;obtain⟨vA,vG,rfl,-,hGo⟩:=ht;obtain⟨aG,cG,rfl,-,-⟩:=mL hGo;obtain⟨bs,cs,rfl,hcs,hms,hrS⟩:=hs;unfold maxLen at hms;refine enter (args:=[dJ g.aR g.bC (ap (aj ⟨b1,o1,ak⟩) g.aF.length cp),aQ #[vA,ap aG G.length cG],ap bs σ.length cs,av az (p:Int)]) (n:=50) Tryz.func140 I I I ?_;refine cC (bz (bR I I I λg4=>?_));refine zL ?_;refine bR I I I λg5=>?_;refine zL ?_
 by_cases c:σ.length<=bd.length
 ·rw[uo c]
  repeat(first|refine GC ?_|refine gV (aC (v:=ap (aj ⟨b1,o1,ak⟩) g.aF.length cp) aK.ty I (aH (i:=0) I I)) ?_|refine gV (aX bM.eq aK.ty I I hp) ?_|refine gV (aC (v:=ap base bd.length cap) aK.ty I (agT _)) ?_|refine gV (eJ (r:=(σ.length:Int)-(bd.length:Int)) I I I J J) ?_|refine gV (dQ (b:=aD) I I (decide_eq_true J)) ?_|refine GB ?_)
  exact si I I I λw hm=>hm.meets (S:=Nd ak) (ap ak 0 0) trivial [] aiT I
 obtain⟨n,hn⟩:∃n,σ.length=n+1+bd.length:=⟨σ.length-bd.length-1,by omega⟩;obtain⟨r,ρ,Vv⟩:∃r ρ,σ.drop bd.length=r::ρ:=QE λe=>by
  have:=congrArg yf e;rw[jc,ia]at this;omega
 have NS:=aaj Vv hn;have hdI:=SL bd.length σ;rw[Vv,zN,show σ.length-bd.length=n+1 by omega]at hdI;have hrA:r<A.length:=hq r (AU (i:=bd.length) (by rw[Vv];exact gd ..));rw[Vv];dsimp only;have hrG:r<G.length:=by omega
 obtain⟨b2,o2,rfl,EX⟩:=hrS J;rw[LR]at EX;have tA:∀L,At (w:bO) L ⟨b2,o2+n,ak⟩ (av az (r:Int)):=λL=>iI EX (by rw[eS,NS];rfl);have agU:∀L j u,(((sI σ).take (n+1)).flatMap cU.ez)[j]?=aj u->At (w:bO) L ⟨b2,o2+j,ak⟩ u:=λL j u hj=>iI EX (by
  rw[LR,ZZ,qO]at hj
  by_cases cc:j<n+1
  rwa [if_pos cc]at hj
  rw[if_neg cc]at hj;cases hj)
 clear EX hrS;obtain⟨bG,oG,wi,rfl,hcG,hsG⟩:=J1 hGo hrG;have ack:∀L,At (w:bO) L ⟨bG,oG+r,ak⟩ wi:=λL=>kh hcG;clear hcG;obtain⟨ei,di,rfl,hdi,agK⟩:=mL hsG;have hfG:=hsG.flat (f:=λn=>[av .i64 n]) aiT;obtain⟨_,_,e2,-,-,hrY⟩:=hfG
 cases e2
 have aiQ:=hwG r hrG;have hgo:=ZQ r hrG;have K6:fa G r hd=G[r].getD hd.toNat 0:=by unfold fa;rw[b9 (l:=G),bD hrG];rfl
 rw[K6];clear hsG K6 ZQ hwG hwA aci hGo;generalize G[r]=Y at*;obtain⟨h,rfl⟩:=h_ hpp.2.1;have hhY:h<Y.length:=by omega
 obtain⟨b3,o3,rfl,M6⟩:=hrY J;have hYh:Y[h]?=aj (Y.getD h 0):=by rw[b9,bD hhY];rfl
 have aei:∀L,At (w:bO) L ⟨b3,o3+h,ak⟩ (av az (Y.getD h 0)):=λL=>iI M6 (by
  rw[show(Y.flatMap λn=>[av .i64 n])=Y.map (.int .i64)from LR Y,eS,hYh];rfl)
 have hto:=hgo _ (lP hYh);clear M6 hrY hYh hgo;rw[show Y.getD ((h:Int)).toNat 0=Y.getD h 0 from I];generalize Y.getD h 0=to1 at*
 repeat(first|refine GC ?_|refine gV (aC (v:=ap (aj ⟨b1,o1,ak⟩) g.aF.length cp) aK.ty I (aH (i:=0) I I)) ?_|refine gV (aX bM.eq aK.ty I I hp) ?_|refine gV (aC (v:=ap base bd.length cap) aK.ty I (agT _)) ?_|refine gV (eJ (r:=((n+1:Nat):Int)) I I J J J) ?_|refine gV (dQ (b:=aE) I I (decide_eq_false J)) ?_|refine GB ?_)
 refine dN ([aP g4 (dJ g.aR g.bC (ap (aj ⟨b1,o1,ak⟩) g.aF.length cp)).cells 34,aP g5 (aQ #[vA,ap (aj ⟨bG,oG,ak⟩) G.length cG]).cells 37]) (.calm 0 (.calm 1 (.calm 2 (.calm 3 (.calm 4 (.calm 5 (.calm 6 (.calm 7 (.calm 8 (.calm 9 (.calm 10 (.calm 11 (.calm 12 (.calm 13 (.calm 14 (.calm 15 (.calm 16 (.calm 17 (.done))))))))))))))))))) (λ_ h=>h) ?_
 repeat(first|(refine GN ?_;first|refine QW QP ?_|refine QW (aC (v:=ap (aj ⟨bG,oG,ak⟩) G.length cG) aK.ty I (aH (i:=1) I I)) ?_|refine QW (eJ (r:=(n:Int)) I I J J J) ?_|refine QW (cz (j:=n) bM.eq aK.ty I I J) ?_|refine QW (aC (v:=av az (r:Int)) aK.ty I (tA _)) ?_|refine QW (cz (j:=r) bM.eq aK.ty I I hrG) ?_|refine QW (aC (v:=ap (aj ⟨b3,o3,ak⟩) Y.length di) aK.ty I (ack _)) ?_|refine QW (aC (v:=ap (aj ⟨b1,o1,ak⟩) g.aF.length cp) aK.ty I (aH (i:=0) I I)) ?_|refine QW (aX bM.eq aK.ty I I hp) ?_|refine QW (aC (v:=av az (h:Int)) aK.ty I (ah4 _)) ?_|refine QW (cz (j:=h) bM.eq aK.ty I I hhY) ?_|refine QW (aC (v:=av az to1) aK.ty I (aei _)) ?_|refine GX ?_)|refine GW ?_)
 repeat(first|refine GC ?_|refine gV (ad3 (j:=n+1) bM.eq aK.ty I I I J) ?_|refine GB ?_)
 refine fF (cs:=#[av az to1]) I I I I I λg46=>?_;refine zL ?_;refine OE (q:=2) (m:=n+1) (olds:=((sI σ).take (n+1)).flatMap cU.ez) I (agU _) (by rw[LR,dF,iZ,vY];show _=(n+1)*1;omega) I I I J J I λv'=>?_;refine zL ?_
 by_cases c2:0<=to1
 ·rw[if_pos c2]
  have e:a_ 3 1 v' (n+1+1) (((sI σ).take (n+1)).flatMap cU.ez++[av az to1])=SM v' (to1.toNat::r::ρ):=by
   have NJ:(to1.toNat::r::ρ).length=n+1+1:=by
    have:=congrArg yf Vv;rw[jc]at this;simp only[de]at this⊢;omega
   show _=a_ 3 1 v' (to1.toNat::r::ρ).length ((sI (to1.toNat::r::ρ)).flatMap cU.ez)
   rw[NJ,zN,zN,hdI,fC,um c2];rfl
  repeat(first|refine GC ?_|refine gV (eU (b:=aD) I I (decide_eq_true c2)) ?_|refine GB ?_)
  exact si I I I λw hm=>hm.meets (S:=Nd (aj (to1.toNat::r::ρ))) v' trivial [3] aiT (by show[_]=[_];rw[<-e];rfl)
 ·rw[if_neg c2]
  repeat(first|refine GC ?_|refine gV (eU (b:=aE) I I (decide_eq_false c2)) ?_|refine GB ?_)
  exact si I I I λw hm=>hm.meets (S:=Nd ak) v' trivial [] aiT I
end cI
namespace cI
open Go.RowKit cU dS aT dP dL bJ cT
theorem rO.right{g:eb}{T N:Nat}{A:List (List bJ.Act)}{G:List (List Int)}(h:rO g T N A G){q c:Nat}(hq:q<A.length)(hc:c<=T):vX T g.aF.length A.length (iM A q c) c:=by
 have h1:c<A[q].length:=by rw[h.wA q hq];omega
 have:=h.dI q hq c h1;unfold iM;rw[b9 (l:=A),bD hq,kp,b9,bD h1];exact this
theorem rO.go{g:eb}{T N:Nat}{A:List (List bJ.Act)}{G:List (List Int)}(h:rO g T N A G){q:Nat}{n:Int}(hq:q<A.length)(h0:0<=n)(h1:n<(N:Int)):fa G q n<(A.length:Int):=by
 have hqG:q<G.length:=by rw[h.same];exact hq
 have h2:n.toNat<G[q].length:=by rw[h.wG q hqG];omega
 have:=(h.gos q hqG _ (cD h2)).2;unfold fa;rw[b9 (l:=G),bD hqG,kp,b9,bD h2];exact this
theorem Kc{g:eb}{T N:Nat}{A:List (List bJ.Act)}{G:List (List Int)}(h:rO g T N A G){σ σ':List Nat}{p:Int}(h0:0<=p)(h1:p<(g.aF.length:Int))(hq:∀q∈σ,q<A.length)(hr:Cm g.aF (fa G) σ p=aj σ'):σ'≠[]/\σ'.length<=σ.length+1/\∀q∈σ',q<A.length:=by
 unfold Cm at hr
 cases e:σ.drop (dc g.aF p).2.length with
 |nil=>rw[e]at hr;cases hr
 | cons r ρ=>
  rw[e]at hr;dsimp only at hr;have kg:∀q∈r::ρ,q<A.length:=λq Da=>hq q (AU (i:=(dc g.aF p).2.length) (by rw[e];exact Da));have hlen:(r::ρ).length<=σ.length:=by rw[<-e,jc];omega
  split at hr
  ·rename_i c
   obtain rfl:=oQ hr;have hh:=(cP h.J3).2.2.2.2.2 _ (fM.xW h0 h1);have:=h.go (kg r (gd ..)) hh.2.1 (by have:=h.bC;omega);refine⟨by simp,by simp only[de]at hlen⊢;omega,λq Da=>?_⟩;rcases dA.1 Da with rfl|Da
   omega;exact kg q Da
  cases hr
section
variable{l:List aT.Prod}{act:Nat->Nat->bJ.Act}{gt:Nat->Int->Int}{col a f q:Nat}{σ:List Nat}{o:List dy}
theorem agV{m:Int}(h:act q col=(0,m)):f_ l act gt col a (f+1) (q::σ) o=(13,[],[]):=by
 rw[f_,show(q::σ).headD 0=q from I,h,if_neg (by simp),if_neg (by simp),if_neg (by simp),if_neg (by simp)]
theorem aak{x:bJ.Act}(h:act q col=x)(h0:x.1≠0):f_ l act gt col a 1 (q::σ) o=(14,[],[]):=by
 rw[f_,show(q::σ).headD 0=q from I,h,if_pos ⟨rfl,h0⟩]
theorem agW{m:Int}(h:act q col=(3,m)):f_ l act gt col a (f+1+1) (q::σ) o=(0,q::σ,o):=by
 rw[f_,show(q::σ).headD 0=q from I,h,if_neg (λh=>E9 _ h.1),if_pos I]
theorem agX{m:Int}(h:act q col=(1,m)):f_ l act gt col a (f+1+1) (q::σ) o=if 60<(q::σ).length+1 then(14,[],[])else(0,m.toNat::q::σ,o++[(2,(a:Int))]):=by
 rw[f_,show(q::σ).headD 0=q from I,h,if_neg (λh=>E9 _ h.1),if_neg (by simp),if_pos I]
theorem adt{m:Int}(h:act q col=(2,m))(hr:Cm l gt (q::σ) m=ak):f_ l act gt col a (f+1+1) (q::σ) o=(13,[],[]):=by
 rw[f_,show(q::σ).headD 0=q from I,h,if_neg (λh=>E9 _ h.1),if_neg (by simp),if_neg (by simp),if_pos I];dsimp only;rw[hr]
theorem agY{m:Int}{σ':List Nat}(h:act q col=(2,m))(hr:Cm l gt (q::σ) m=aj σ'):f_ l act gt col a (f+1+1) (q::σ) o=if 60<σ'.length then(14,[],[])else f_ l act gt col a (f+1) σ' (o++[(4,m)]):=by
 rw[f_,show(q::σ).headD 0=q from I,h,if_neg (λh=>E9 _ h.1),if_neg (by simp),if_neg (by simp),if_pos I];dsimp only;rw[hr]
end
theorem CT{g:eb}{T N:Nat}{A:List (List bJ.Act)}{G:List (List Int)}(h:rO g T N A G){col a:Nat}(hc:col<=T):∀(f:Nat) {σ:List Nat} {o:List dy},σ≠[]->(∀q∈σ,q<A.length)->σ.length<=60->(f_ g.aF (iM A) (fa G) col a f σ o).1=0->
 (f_ g.aF (iM A) (fa G) col a f σ o).2.1≠[]/\(∀q∈(f_ g.aF (iM A) (fa G) col a f σ o).2.1,q<A.length)/\(f_ g.aF (iM A) (fa G) col a f σ o).2.1.length<=60/\(f_ g.aF (iM A) (fa G) col a f σ o).2.2.length<=o.length+f
 |0,_,_,_,_,_,h0=>by cases h0
 | f + 1,σ,o,hne,hq,hl,h0=>by
  obtain⟨q,σ,rfl⟩:=QE hne;have Ye:=h.right (hq q (gd ..)) hc;generalize hx:iM A q col=x at Ye;obtain⟨k,m⟩:=x
  by_cases ck:k=0
  subst ck;rw[agV hx]at h0;cases h0
  cases f with
  |zero=>rw[aak hx ck]at h0;cases h0
  | succ f=>
   rcases Ye with⟨e,_⟩|⟨e,h1,h2,h3⟩|⟨e,h1,h2⟩|⟨e,_⟩<;>dsimp only at e<;>subst e
   exact absurd I ck
   ·rw[agX hx]at h0⊢
    by_cases c:60<(q::σ).length+1
    rw[if_pos c]at h0;cases h0;rw[if_neg c];refine⟨by simp,λy hy=>?_,by simp only[de]at c⊢;omega,by simp⟩;rcases dA.1 hy with rfl|hy
    dsimp only at h2 h3;omega;exact hq y hy
   ·dsimp only at h1 h2
    cases hr:Cm g.aF (fa G) (q::σ) m with
    |none=>rw[adt hx hr]at h0;cases h0
    | some σ'=>
     rw[agY hx hr]at h0⊢
     by_cases c:60<σ'.length
     rw[if_pos c]at h0;cases h0;rw[if_neg c]at h0⊢;obtain⟨r1,r2,r3⟩:=Kc h h1 h2 hq hr;have:=CT h hc (f+1) (o:=o++[(4,m)]) r1 r3 J h0;refine⟨this.1,this.2.1,this.2.2.1,Nat.le_trans this.2.2.2 ?_⟩;rw[bI,lW];omega
   rw[agW hx];exact⟨hne,hq,hl,by show o.length<=_;omega⟩
theorem agZ{B:bO}{L:List cH}{i g cap:Nat}{q:Nat}{σ:List Nat}(hi:L[i]?=aj (SM (ap (aj ⟨g,0,ak⟩) (σ.length+1) cap) (q::σ))):At B L ⟨g,0+σ.length*1,ak⟩ (av az (q:Int)):=
 rh (f:=cU.ez) LS hi (k:=σ.length) (by rw[vY];simp) 0 _ (by
  have:(sI (q::σ))[σ.length]?=aj (q:Int):=aaj (b:=0) (ρ:=σ) I I;rw[cX]at this;obtain⟨_,h⟩:=this;rw[h];rfl)
theorem acE{v:Value}{m:Int}{q:Nat}{σ:List Nat}(h:0<=m):a_ 3 1 v (σ.length+1+1) ((sI (q::σ)).flatMap cU.ez++[av az m])=SM v (m.toNat::q::σ):=by
 show _=a_ 3 1 v (m.toNat::q::σ).length ((sI (m.toNat::q::σ)).flatMap cU.ez)
 rw[zN m.toNat,fC,um h];rfl
theorem SN{v:Value}{x:dy}{o:List dy}:a_ 168 2 v (o.length+1) (o.flatMap eA++eA x)=kV v (o++[x]):=by
 show _=a_ 168 2 v (o++[x]).length ((o++[x]).flatMap eA)
 rw[bI,fC];simp
def rR(R:Int×List Nat×List dy):Spec (Value×Value):=⟨λ_=>True,λx=>if R.1=0 then .tuple #[x.1,x.2,av az 0]else .tuple #[ap ak 0 0,ap ak 0 0,av az R.1],λx=>if R.1=0 then [SM x.1 R.2.1,kV x.2 R.2.2]else []⟩
theorem Nf{σ:List Nat}{o:List dy}:rR (0,σ,o)=⟨λ_=>True,λx=> .tuple #[x.1,x.2,av az 0],λx=>[SM x.1 σ,kV x.2 o]⟩:=by unfold rR;simp
theorem Ng{e:Int}(he:e≠0){x:List Nat×List dy}:rR (e,x)=⟨λ_=>True,λ_=> .tuple #[ap ak 0 0,ap ak 0 0,av az e],λ_=>[]⟩:=by unfold rR;simp[he]
attribute [local irreducible] Instr.build in
theorem BU(v t vs:Value)(g:eb)(T N:Nat)(A:List (List bJ.Act))(G:List (List Int))(rY:List Nat)(seen col:Nat)(w:World)(hG:kj (λk=>k<w.heap.size) w v g)(ht:A_ w t A G)(hs:skR w vs rY)(hT:rO g T N A G)(hq:∀q∈rY,q<A.length)(hne:rY≠[])(hl:rY.length<=60)(hc:col<=T):
 Calls aB 125 #[v,t,vZ vs (seen:Int) 0 aE,av az (col:Int)] w (cB (rR (f_ g.aF (iM A) (fa G) col seen 2001 rY [])) w):=by
 have gL:=λw' (hg:Gr w w')=>jY vs (sI rY) w' (by rw[vY];exact hs.gr hg) (by rw[vY];omega);rw[vY]at gL;have eL:=λpC σ p w' (hg:Gr w w') xC Da hl' hp=>Fk v t pC g T N A G σ p w' (hG.gr hg) (ht.gr hg) xC hT Da hl' hp;have ag0:=λσ σ' p h0 h1 hq hr=>Kc (σ:=σ) (σ':=σ') (p:=p) hT h0 h1 hq hr;have Ye:=λq (hq:q<A.length)=>hT.right hq hc;have hwA:=hT.wA;clear hT;obtain⟨vp,rfl,-⟩:=hG;obtain⟨vA,vG,rfl,hA,-⟩:=ht;obtain⟨aA,cA,rfl,-,-⟩:=mL hA;refine enter (args:=[dJ g.aR g.bC vp,aQ #[ap aA A.length cA,vG],vZ vs (seen:Int) 0 aE,av az (col:Int)]) (n:=87) Tryz.func125 I I I ?_;refine cC (bz (bR I I I λg4=>?_));refine zL ?_;refine bR I I I λg5=>?_;refine zL ?_;refine bR I I I λg6=>?_;refine zL ?_
 repeat(first|refine GA ?_|refine gV (aC (v:=vs) aK.ty I (aH (i:=2) I I)) ?_)
 refine aV (hZ aI.en I I) (λw hm=>gL w hm.below) I I I ?_;intro nP _;refine zL ?_
 try refine GA ?_
 refine jf 168 2 ?_;generalize hR:f_ g.aF (iM A) (fa G) col seen 2001 rY []=R;clear gL hs;refine ea (ι:=Nat×List Nat×List dy×Value×Value) (λ(f,σ,o,_,_)=>f_ g.aF (iM A) (fa G) col seen f σ o=R/\f<=2001/\1<=f/\o.length+f<=2001/\σ≠[]/\σ.length<=60/\∀q∈σ,q<A.length)
  (λ(f,_,_,vs,vo)=>[(3,av az (col:Int)),(4,aJ (aj ⟨g4,0,ak⟩)),(5,aJ (aj ⟨g5,0,ak⟩)),(6,aJ (aj ⟨g6,0,ak⟩)),(11,vs),(12,vo),(13,av az ((2001-f:Nat):Int))])
  (λ(_,σ,o,pC,vo)=>[aP g4 (dJ g.aR g.bC vp).cells 34,aP g5 (aQ #[ap aA A.length cA,vG]).cells 37,aP g6 (vZ vs (seen:Int) 0 aE).cells 94,SM pC σ,kV vo o]) (λ(f,_,_,_,_)=>f) (2001,rY,[],nP,ap ak 0 0) ⟨hR,by omega,by omega,by simp,hne,hl,hq⟩ ?_
 clear hR hne hl hq;rintro⟨f,σ,o,pC,vo⟩ ⟨i1,i2,i3,i4,i5,i6,i7⟩;dsimp only at i1 i2 i3 i4 i5 i6 i7⊢;obtain⟨q,σ,rfl⟩:=QE i5;obtain⟨f,rfl⟩:∃f',f=f'+1:=⟨f-1,by omega⟩;have hqA:=i7 q (gd ..);have ah5:=Ye q hqA;obtain⟨bA,oA,wi,rfl,hcA,hsA⟩:=J1 hA hqA;have acj:∀L,At (w:bO) L ⟨bA,oA+q,ak⟩ wi:=λL=>kh hcA;obtain⟨ei,di,rfl,hdi,agK⟩:=mL hsA;have hfA:=hsA.flat (f:=jj) aiT;obtain⟨_,_,e2,-,-,hrX⟩:=hfA
 cases e2
 have aiR:=hwA q hqA;have hxe:iM A q col=A[q].getD col (0,0):=by unfold iM;rw[b9 (l:=A),bD hqA];rfl
 have hcX:col<A[q].length:=by omega
 obtain⟨b3,o3,rfl,M6⟩:=hrX J;have du:=λL=>gO (L:=L) rN M6 hcX;have ag1:A[q][col]=iM A q col:=by rw[hxe,b9,bD hcX];rfl
 rw[ag1]at du;have Ey:∀(L:List cH) (j:Nat) (u:Value),(jj (iM A q col))[j]?=aj u->At (w:bO) L ⟨b3,o3+col*2+j,ak⟩ u:=du;clear du M6 hrX hxe ag1 hsA hcA hwA hA Ye;generalize A[q]=X at*;generalize hx:iM A q col=x at*;refine xK (i:=3) I (by simp) λgs cs hv q1 q2=>?_;subst hv;simp only[de]at i4 i6 q1⊢
 try refine GA ?_
 refine dN ([aP g5 (aQ #[ap (aj ⟨bA,oA,ak⟩) A.length cA,vG]).cells 37,SM (ap (aj ⟨gs,0,ak⟩) (σ.length+1) cs) (q::σ)]) (.calm 0 (.calm 1 (.calm 2 (.calm 3 (.calm 4 (.calm 5 (.calm 6 (.calm 7 (.calm 8 (.calm 9 (.calm 10 (.calm 11 (.calm 12 (.one 13 (.one 14 (.done)))))))))))))))) (bW [1,3]) ?_
 repeat(first|(refine GN ?_;first|refine QW QP ?_|refine QW (aC (v:=ap (aj ⟨bA,oA,ak⟩) A.length cA) aK.ty I (aH (i:=0) I I)) ?_|refine QW (eJ (r:=(σ.length:Int)) I I J J J) ?_|refine QW (aX (j:=σ.length) bM.eq aK.ty I I J) ?_|refine QW (aC (v:=av az (q:Int)) aK.ty I (agZ (i:=1) I)) ?_|refine QW (cz (j:=q) bM.eq aK.ty I I hqA) ?_|refine QW (aC (v:=ap (aj ⟨b3,o3,ak⟩) X.length di) aK.ty I (acj _)) ?_|refine QW (aX (j:=col) bM.eq aK.ty I I hcX) ?_|refine QW (a8 (cs:=jj x) aK.ty I I (Ey _)) ?_|refine GX ?_)|refine GW ?_)
 refine aL I (aY I λg14=>?_);refine zL ?_;refine aM (bW [1,3]) ?_;refine aL I (aW (i:=5) (cs':=(jj x).toArray) I I I I I I ?_);refine zL ?_;refine aM (bW [1,3]) ?_
 try refine GW ?_
 obtain⟨k,m⟩:=x;have Kd:((2001-(f+1):Nat):Int)=2000↔f=0:=by omega
 by_cases ck:k=0
 ·subst ck
  rw[agV hx]at i1;subst i1
  by_cases c0:f=0
  ·repeat(first|refine GC ?_|refine gV (dg (b:=aD) I I (decide_eq_true (Kd.2 c0))) ?_|refine gV (aC (v:=av az 0) aK.ty I (aH (i:=5) I I)) ?_|refine GB ?_)
   exact mu I I I I λw hm=>hm.meets (S:=rR (13,[],[])) (ap ak 0 0,ap ak 0 0) trivial [] aiT I
  repeat(first|refine GC ?_|refine gV (dg (b:=aE) I I (decide_eq_false λh=>c0 (Kd.1 h))) ?_|refine gV (aC (v:=av az 0) aK.ty I (aH (i:=5) I I)) ?_|refine GB ?_)
  exact mu I I I I λw hm=>hm.meets (S:=rR (13,[],[])) (ap ak 0 0,ap ak 0 0) trivial [] aiT I
 by_cases c0:f=0
 ·subst c0
  rw[aak hx ck]at i1;subst i1
  repeat(first|refine GC ?_|refine gV (dg (b:=aD) I I (decide_eq_true (Kd.2 I))) ?_|refine gV (aC (v:=av az k) aK.ty I (aH (i:=5) I I)) ?_|refine gV (dr (b:=aD) I I (decide_eq_true ck)) ?_|refine GB ?_)
  exact mu I I I I λw hm=>hm.meets (S:=rR (14,[],[])) (ap ak 0 0,ap ak 0 0) trivial [] aiT I
 have Kd:¬((2001-(f+1):Nat):Int)=2000:=λh=>c0 (Kd.1 h);obtain⟨f,rfl⟩:∃f',f=f'+1:=⟨f-1,by omega⟩;rcases ah5 with⟨e,_⟩|⟨e,h1,h2,h3⟩|⟨e,h1,h2⟩|⟨e,_⟩<;>dsimp only at e<;>subst e
 ·exact absurd I ck
 ·dsimp only at h1 h2 h3
  rw[agX hx]at i1
  repeat(first|refine GC ?_|refine gV (dg (b:=aE) I I (decide_eq_false Kd)) ?_|refine gV (aC (v:=av az 1) aK.ty I (aH (i:=5) I I)) ?_|refine GB ?_)
  refine dN ([aP g6 (vZ vs (seen:Int) 0 aE).cells 94,aP g14 (jj (1,m)).toArray 146]) (.calm 0 (.calm 1 (.calm 2 (.calm 5 (.calm 6 (.calm 7 (.calm 8 (.two 3 (.two 4 (.one 9 (.one 10 (.calm 11 (.calm 12 (.done))))) 9 (.one 4 (.one 10 (.calm 11 (.calm 12 (.done)))))) 9 (.one 3 (.one 4 (.one 10 (.calm 11 (.calm 12 (.done)))))))))))))) (bW [2,5]) ?_
  repeat(first|refine GW ?_|(refine GN ?_;first|refine QW (aC (v:=av az m) aK.ty I (aH (i:=1) I I)) ?_|refine QW (aC (v:=av az (seen:Int)) aK.ty I (aH (i:=0) I I)) ?_|refine QW (bB I (AM _ _)) ?_))
  refine eG I I ?bw1 ?bw2
  case' bw1=>
   refine fF (cs:=#[av az m]) I I I I I λg52=>aM (bW [2,5]) ?_;refine eG I I ?bw3 ?bw4
  case' bw3=>
   refine lu (i:=3) (q:=6) I I I I I I (by simp only[de];omega) (by simp only[de];omega) I λv3=>aM (bW [2,5]) ?_;refine aL I (fF (cs:=(eA (2,(seen:Int))).toArray) I I I I I λg58=>aM (bW [2,5]) ?_);refine aL I (mw (i:=4) (q:=7) I I I I I I J J I λv4=>aM (bW [2,5]) ?_)
  case' bw4=>
   refine fF (cs:=(eA (2,(seen:Int))).toArray) I I I I I λg58=>aM (bW [2,5]) ?_;refine aL I (lu (i:=3) (q:=6) I I I I I I (by simp only[de];omega) (by simp only[de];omega) I λv3=>aM (bW [2,5]) ?_);refine aL I (mw (i:=4) (q:=7) I I I I I I J J I λv4=>aM (bW [2,5]) ?_)
  case' bw2=>
   refine fF (cs:=(eA (2,(seen:Int))).toArray) I I I I I λg58=>aM (bW [2,5]) ?_;refine aL I (fF (cs:=#[av az m]) I I I I I λg52=>aM (bW [2,5]) ?_);refine aL I (lu (i:=3) (q:=7) I I I I I I (by simp only[de];omega) (by simp only[de];omega) I λv3=>aM (bW [2,5]) ?_);refine aL I (mw (i:=4) (q:=6) I I I I I I J J I λv4=>aM (bW [2,5]) ?_)
  all_goals
   try refine GW ?_
   by_cases c6:60<(q::σ).length+1
   ·rw[if_pos c6]at i1
    subst i1
    repeat(first|refine GC ?_|refine gV (e8 (i:=3) bM.eq I I) ?_|refine gV (dT (b:=aD) I I (decide_eq_true J)) ?_|refine GB ?_)
    exact mu I I I I λw hm=>hm.meets (S:=rR (14,[],[])) (ap ak 0 0,ap ak 0 0) trivial [] aiT I
   ·rw[if_neg c6]at i1
    subst i1
    repeat(first|refine GC ?_|refine gV (e8 (i:=3) bM.eq I I) ?_|refine gV (dT (b:=aE) I I (decide_eq_false J)) ?_|refine gV (aC (v:=av az 1) aK.ty I (aH (i:=5) I I)) ?_|refine GB ?_)
    exact mu I I I I λw hm=>hm.meets (S:=rR (0,m.toNat::q::σ,o++[(2,(seen:Int))])) (v3,v4) trivial [3,4] aiT (by
     show[SM v3 (m.toNat::q::σ),kV v4 (o++[(2,(seen:Int))])]=_
     rw[<-acE h2,<-SN];rfl)
 ·dsimp only at h1 h2
  obtain⟨pn,rfl⟩:=h_ h1;have ag2:=λw' yW xC=>eL (ap (aj ⟨gs,0,ak⟩) (σ.length+1) cs) (q::σ) pn w' yW xC i7 (by simp only[de];omega) J;have Tz:=λσ'=>ag0 (q::σ) σ' (pn:Int) h1 h2 i7;have ah6:=λhr=>@adt g.aF (iM A) (fa G) col seen f q σ o (pn:Int) hx hr;have NK:=λσ' hr=>@agY g.aF (iM A) (fa G) col seen f q σ o (pn:Int) σ' hx hr;generalize Cm g.aF (fa G) (q::σ) (pn:Int)=R2 at*;clear eL ag0
  cases R2 with
  | none=>
   rw[ah6 I]at i1;subst i1
   repeat(first|refine GC ?_|refine gV (dg (b:=aE) I I (decide_eq_false Kd)) ?_|refine gV (aC (v:=av az 2) aK.ty I (aH (i:=5) I I)) ?_|refine gV (aO (i:=0) aK.ty I I I) ?_|refine gV (aO (i:=1) aK.ty I I I) ?_|refine gV (aC (v:=av az (pn:Int)) aK.ty I (aH (i:=5) I I)) ?_|refine GB ?_)
   refine aV (Ti aI.en I I I I I) (λw' hm=>ag2 w' hm.below (Sl.dB (hm.get (i:=3) I))) I I I ?_;intro v2 _
   conv=>arg 8;simp only[zJ,cK,ret,id_eq,Nd]
   conv=>arg 7;simp only[Nd]
   try refine GA ?_
   exact mu I I I I λw hm=>hm.meets (S:=rR (13,[],[])) (ap ak 0 0,ap ak 0 0) trivial [] aiT I
  | some σ'=>
   rw[NK σ' I]at i1;obtain⟨k1,k2,k3⟩:=Tz σ' rfl;simp only[de]at k2
   repeat(first|refine GC ?_|refine gV (dg (b:=aE) I I (decide_eq_false Kd)) ?_|refine gV (aC (v:=av az 2) aK.ty I (aH (i:=5) I I)) ?_|refine gV (aO (i:=0) aK.ty I I I) ?_|refine gV (aO (i:=1) aK.ty I I I) ?_|refine gV (aC (v:=av az (pn:Int)) aK.ty I (aH (i:=5) I I)) ?_|refine GB ?_)
   refine aV (Ti aI.en I I I I I) (λw' hm=>ag2 w' hm.below (Sl.dB (hm.get (i:=3) I))) I I I ?_;intro v2 _
   conv=>arg 8;simp only[zJ,cK,ret,id_eq,Nd]
   conv=>arg 7;simp only[Nd]
   repeat(first|refine GA ?_|refine gV (aC (v:=av az (pn:Int)) aK.ty I (aH (i:=5) I I)) ?_|refine gV (bB I (AM _ _)) ?_)
   refine ju (i:=4) I I I I I I I (λz h=>by cases h;rfl) J J I λz4 v4=>?_;refine zL ?_
   by_cases c6:60<σ'.length
   ·rw[if_pos c6]at i1
    subst i1
    repeat(first|refine GC ?_|refine gV (e8 (i:=6) bM.eq I I) ?_|refine gV (dT (b:=aD) I I (decide_eq_true J)) ?_|refine GB ?_)
    exact mu I I I I λw hm=>hm.meets (S:=rR (14,[],[])) (ap ak 0 0,ap ak 0 0) trivial [] aiT I
   rw[if_neg c6]at i1
   repeat(first|refine GC ?_|refine gV (e8 (i:=6) bM.eq I I) ?_|refine gV (dT (b:=aE) I I (decide_eq_false J)) ?_|refine gV (aC (v:=av az 2) aK.ty I (aH (i:=5) I I)) ?_|refine gV (eT (r:=((2001-(f+1):Nat):Int)) I I J J J) ?_|refine GB ?_)
   refine dj [0,1,2,6,4] ?_;exact bY (f+1,σ',o++[(4,(pn:Int))],v2,v4) ⟨i1,by omega,by omega,by show(o++[(4,(pn:Int))]).length+(f+1)<=2001;rw[bI,lW];omega,k1,by show σ'.length<=60;omega,k3⟩ (by show f+1<f+1+1;omega) (hl:=by rw[<-SN];rfl)
 ·rw[agW hx]at i1
  subst i1
  repeat(first|refine GC ?_|refine gV (dg (b:=aE) I I (decide_eq_false Kd)) ?_|refine gV (aC (v:=av az 3) aK.ty I (aH (i:=5) I I)) ?_|refine GB ?_)
  exact mu I I I I λw hm=>hm.meets (S:=rR (0,q::σ,o)) (ap (aj ⟨gs,0,ak⟩) (σ.length+1) cs,vo) trivial [3,4] aiT I
end cI
namespace jQ
open aT dP fh mM bJ cT cI
abbrev PS:=List TD×List Nat
def ps0:PS:=([.sym (2,0)],[0])
def kC(m:Md)(b:Bool)(p:PS)(a:Nat)(t:Int):Int×PS×List dy:=
 if b then((jX m.g.aF (iH m.rows t.toNat) p.1 a t).1,((jX m.g.aF (iH m.rows t.toNat) p.1 a t).2.1,p.2),(jX m.g.aF (iH m.rows t.toNat) p.1 a t).2.2)
 else((f_ m.g.aF (iM m.A) (fa m.G) t.toNat a 2001 p.2 []).1,(p.1,(f_ m.g.aF (iM m.A) (fa m.G) t.toNat a 2001 p.2 []).2.1),(f_ m.g.aF (iM m.A) (fa m.G) t.toNat a 2001 p.2 []).2.2)
def v7(m:Md)(b:Bool)(p:PS)(a:Nat):Int×List dy:=
 if b then jz m.g.aF (iH m.rows m.g.aR.toNat) p.1
 else((f_ m.g.aF (iM m.A) (fa m.G) m.g.aR.toNat a 2001 p.2 []).1,(f_ m.g.aF (iM m.A) (fa m.G) m.g.aR.toNat a 2001 p.2 []).2.2)
def SO(m:Md)(b:Bool)(p:PS):Prop:=if b then(∀d∈p.1,qQ m.g d)/\p.1.length<=60 else p.2≠[]/\(∀q∈p.2,q<m.A.length)/\p.2.length<=60
structure jA(m:Md)(b:Bool)(T N:Nat):Prop extends MdGood m where
 md:m.mode=if b then 1 else 2
 tT:m.g.aR=T
 nN:m.g.bC=N
 ll:b=aD->E8 m.g m.rows=0/\Fc m.g m.rows T N
 lr:b=aE->rO m.g T N m.A m.G
def tB(m:Md)(t:Tok):Int:=m.of.getD t.1.toNat 0
theorem yw{o:Of}{N:List (List Int)}{tags:List Int}{n:Int}(hn:0<n)(ht:∀t∈tags,t<n):∀(s:List UInt8) (i:Nat) (now r:Int) (t:Nat),0<=r->r<n->0<=(qA o N tags s i now r t).1/\(qA o N tags s i now r t).1<n
 |[],_,_,_,_,h0,h1=>⟨h0,h1⟩
 | b ::s,i,now,r,t,h0,h1=>by
  rw[yv]
  by_cases c:Be o N now b<0
  rw[if_pos c];exact⟨h0,h1⟩;rw[if_neg c]
  by_cases c2:0<=tags.getD (Be o N now b).toNat 0
  ·rw[if_pos c2]
   refine yw hn ht s _ _ _ _ c2 ?_;rw[b9]
   cases e:tags[(Be o N now b).toNat]? with
   |none=>exact hn
   |some z=>exact ht z (lP e)
  rw[if_neg c2];exact yw hn ht s _ _ _ _ h0 h1
theorem ag3{m:Md}{b:Bool}{T N:Nat}(h:jA m b T N):SO m b ps0:=by
 have hg:=cP h.Ba
 cases b with
 |true=>
  refine⟨λd hd=>?_,by decide⟩;simp only[ps0,dR]at hd;subst hd;unfold qQ right;simp;omega
 |false=>
  refine⟨by decide,λq hq=>?_,by decide⟩;simp only[ps0,dR]at hq;subst hq;exact(h.lr I).pos
theorem wF{m:Md}{b:Bool}{T N:Nat}(h:jA m b T N){p:PS}(hp:SO m b p){a:Nat}{t:Int}(ht:t<T)(h0:(kC m b p a t).1=0):SO m b (kC m b p a t).2.1/\(kC m b p a t).2.2.length<=2001:=by
 cases b with
 |true=>
  obtain⟨h1,h2⟩:=hp;obtain⟨h3,h4,h5⟩:=aa' h.Ba ((h.ll rfl).2.nx t.toNat) rfl h0 h1 h2;exact⟨⟨h3,h4⟩,by show _<=2001;exact Nat.le_succ_of_le h5⟩
 |false=>
  obtain⟨h1,h2,h3⟩:=hp;obtain⟨h4,h5,h6,h7⟩:=CT (h.lr rfl) (col:=t.toNat) (a:=a) J 2001 h1 h2 h3 h0;simp only[ia,cV]at h7;exact⟨⟨h4,h5,h6⟩,h7⟩
theorem Fl{l:List aT.Prod}{act:Nat->Nat->bJ.Act}{gt:Nat->Int->Int}{col a:Nat}:∀(f:Nat) (σ:List Nat) (o:List dy),(f_ l act gt col a f σ o).1≠0->(f_ l act gt col a f σ o).2.2=[]
 |0,σ,o,_=>by unfold f_;rfl
 | f + 1,σ,o,h=>by
  unfold f_ at h⊢;split at h
  ·rename_i c;rw[if_pos c]
  rename_i c;rw[if_neg c]
  split at h;exact absurd I h
  rename_i c2;rw[if_neg c2]
  split at h
  ·rename_i c3;rw[if_pos c3]
   split at h
   ·rename_i c4;rw[if_pos c4]
   exact absurd I h
  rename_i c3;rw[if_neg c3]
  split at h
  ·rename_i c4;rw[if_pos c4]
   cases hr:Cm l gt σ (act (σ.headD 0) col).2 with
   |none=>rfl
   | some σ'=>
    rw[hr]at h;dsimp only at h⊢;split at h
    ·rename_i c5;rw[if_pos c5]
    rename_i c5;rw[if_neg c5];exact Fl f _ _ h
  rename_i c4;rw[if_neg c4]
theorem Fo{m:Md}{b:Bool}{T N:Nat}(h:jA m b T N){p:PS}(hp:SO m b p){a:Nat}:((v7 m b p a).1=0->(v7 m b p a).2.length<=2001)/\((v7 m b p a).1≠0->(v7 m b p a).2=[]):=by
 cases b with
 |true=>
  rcases Hh (l:=m.g.aF) (nx:=iH m.rows m.g.aR.toNat) (st:=p.1) rfl with⟨h1,h2⟩|⟨a1,h1,h2⟩
  exact⟨λh0=>by have:(v7 m aD p a).1=_:=rfl;rcases h1 with h1|h1<;>exact absurd (h1.symm.trans h0) aiT,λ_=>h2⟩;obtain⟨_,h3,h4,_⟩:=y_ h1 rfl hp.2 (bH _);refine⟨λ_=>?_,λh0=>absurd h2 h0⟩;show(jz m.g.aF (iH m.rows m.g.aR.toNat) p.1).2.length<=2001
  dsimp only at h3 h4;simp only[ia]at h4;omega
 |false=>
  obtain⟨h1,h2,h3⟩:=hp;refine⟨λh0=>?_,λh0=>Fl _ _ _ h0⟩;obtain⟨h4,h5,h6,h7⟩:=CT (h.lr rfl) (col:=m.g.aR.toNat) (a:=a) (by have:=h.tT;omega) 2001 h1 h2 h3 h0;simp only[ia,cV]at h7;exact h7
end jQ
namespace mM
open Go.RowKit cU dS cI cT
def H4(o:Of)(N:List (List Int)):Int->List UInt8->Bool
 |now,[]=>!((N.getD now.toNat []).any λx=>decide (0<=x))
 |now,b::s=>if Be o N now b<0 then aD else H4 o N (Be o N now b) s
theorem QR(o:Of)(N:List (List Int))(now:Int)(b:UInt8)(s:List UInt8):H4 o N now (b::s)=if Be o N now b<0 then aD else H4 o N (Be o N now b) s:=rfl
def eB(o:Of)(N:List (List Int))(tags:List Int)(s:List UInt8):(Int×Nat)×Bool:=(qA o N tags s 0 0 0 0,decide (s≠[])&&H4 o N 0 s)
theorem zO(o:Of)(N:List (List Int))(tags:List Int)(s:List UInt8):(eB o N tags s).1.2=0\/(0<(eB o N tags s).1.2/\(eB o N tags s).1.2<=s.length):=by
 rcases Fg o N tags s 0 0 0 0 with h|h
 exact .inl h
 right
 exact⟨h.1,by have:=h.2;show(qA _ _ _ _ _ _ _ _).2<=_;omega⟩
def dX(o:Of)(N:List (List Int))(tags:List Int):Nat->Nat->List UInt8->List Tok×Nat×List UInt8×Int
 |0,a,u=>([],a,u,0)
 |f+1,a,u=>if(eB o N tags u).2=aD then(if(eB o N tags u).1.2=0 then([],a,u,9)else(((eB o N tags u).1.1,a,a+(eB o N tags u).1.2)::(dX o N tags f (a+(eB o N tags u).1.2) (u.drop (eB o N tags u).1.2)).1,(dX o N tags f (a+(eB o N tags u).1.2) (u.drop (eB o N tags u).1.2)).2))else([],a,u,0)
theorem s7(o:Of)(N:List (List Int))(tags:List Int)(f a:Nat)(u:List UInt8):dX o N tags (f+1) a u=if(eB o N tags u).2=aD then(if(eB o N tags u).1.2=0 then([],a,u,9)else(((eB o N tags u).1.1,a,a+(eB o N tags u).1.2)::(dX o N tags f (a+(eB o N tags u).1.2) (u.drop (eB o N tags u).1.2)).1,(dX o N tags f (a+(eB o N tags u).1.2) (u.drop (eB o N tags u).1.2)).2))else([],a,u,0):=rfl
def iy(o:Of)(N:List (List Int))(tags:List Int):List UInt8->Nat->List UInt8->List Tok×Nat×List UInt8×Int
 |[],a,u=>([],a,u,0)
 | b::s,a,u=>
  if(dX o N tags (u.length+2) a (u++[b])).2.2.2≠0 then((dX o N tags (u.length+2) a (u++[b])).1,(dX o N tags (u.length+2) a (u++[b])).2.1,[],9)
  else if 64<(dX o N tags (u.length+2) a (u++[b])).2.2.1.length then((dX o N tags (u.length+2) a (u++[b])).1,(dX o N tags (u.length+2) a (u++[b])).2.1,[],10)
  else((dX o N tags (u.length+2) a (u++[b])).1++(iy o N tags s (dX o N tags (u.length+2) a (u++[b])).2.1 (dX o N tags (u.length+2) a (u++[b])).2.2.1).1,(iy o N tags s (dX o N tags (u.length+2) a (u++[b])).2.1 (dX o N tags (u.length+2) a (u++[b])).2.2.1).2)
theorem qB(o:Of)(N:List (List Int))(tags:List Int)(b:UInt8)(s:List UInt8)(a:Nat)(u:List UInt8):iy o N tags (b::s) a u=
 if(dX o N tags (u.length+2) a (u++[b])).2.2.2≠0 then((dX o N tags (u.length+2) a (u++[b])).1,(dX o N tags (u.length+2) a (u++[b])).2.1,[],9)
 else if 64<(dX o N tags (u.length+2) a (u++[b])).2.2.1.length then((dX o N tags (u.length+2) a (u++[b])).1,(dX o N tags (u.length+2) a (u++[b])).2.1,[],10)
 else((dX o N tags (u.length+2) a (u++[b])).1++(iy o N tags s (dX o N tags (u.length+2) a (u++[b])).2.1 (dX o N tags (u.length+2) a (u++[b])).2.2.1).1,(iy o N tags s (dX o N tags (u.length+2) a (u++[b])).2.1 (dX o N tags (u.length+2) a (u++[b])).2.2.1).2):=rfl
theorem Va{o:Of}{N:List (List Int)}{tags:List Int}{b:UInt8}{s:List UInt8}{a0:Nat}{u0:List UInt8}{vV:List Tok}{fin:List Tok×Nat×List UInt8×Int}(h:(vV++(iy o N tags (b::s) a0 u0).1,(iy o N tags (b::s) a0 u0).2)=fin)(out:List Tok)(a:Nat)(u:List UInt8)(e:Int)
 (hD:(out,a,u,e)=(vV++(dX o N tags (u0.length+2) a0 (u0++[b])).1,(dX o N tags (u0.length+2) a0 (u0++[b])).2)):
 (e≠0->fin=(out,a,[],9))/\(e=0->64<u.length->fin=(out,a,[],10))/\(e=0->¬64<u.length->(out++(iy o N tags s a u).1,(iy o N tags s a u).2)=fin):=by
 subst h;rw[qB];generalize dX o N tags (u0.length+2) a0 (u0++[b])=D at*;obtain⟨d1,d2,d3,d4⟩:=D;simp only[fD]at hD;obtain⟨rfl,rfl,rfl,rfl⟩:=hD;dsimp only;refine⟨λh=>?_,λh1 h2=>?_,λh1 h2=>?_⟩
 ·rw[if_pos h]
 ·rw[if_neg (by simpa using h1),if_pos h2]
 ·rw[if_neg (by simpa using h1),if_neg h2]
  dsimp only;rw[eD]
theorem Fp{o:Of}{N:List (List Int)}{tags:List Int}:∀(f a:Nat) (u:List UInt8),u.length<f->a<=(dX o N tags f a u).2.1/\(dX o N tags f a u).2.1<=a+u.length/\(dX o N tags f a u).2.2.1=u.drop ((dX o N tags f a u).2.1-a)/\((dX o N tags f a u).2.2.2=9\/((dX o N tags f a u).2.2.2=0/\(eB o N tags (dX o N tags f a u).2.2.1).2=aE))
 |0,_,_,h=>by omega
 | f + 1,a,u,h=>by
  rw[s7]
  by_cases c:(eB o N tags u).2=aD
  ·rw[if_pos c]
   by_cases c2:(eB o N tags u).1.2=0
   ·rw[if_pos c2]
    exact⟨bx _,Av _ _,by simp,.inl I⟩
   rw[if_neg c2];have hto:=(zO o N tags u).resolve_left c2;obtain⟨h1,h2,h3,h4⟩:=Fp (o:=o) (N:=N) (tags:=tags) f (a+(eB o N tags u).1.2) (u.drop (eB o N tags u).1.2) (by rw[jc];omega);rw[jc]at h2;refine⟨by dsimp only;omega,by dsimp only;omega,?_,h4⟩;dsimp only;rw[h3,qH]
   congr 1;omega
  rw[if_neg c];exact⟨bx _,Av _ _,by simp,.inr ⟨rfl,Bool.eq_false_iff.2 c⟩⟩
end mM
namespace mM
open Go.RowKit cU dS cI cT
def jz(o:Of)(N:List (List Int))(tags:List Int):Nat->Nat->List UInt8->List Tok×Nat×Int
 |0,a,_=>([],a,0)
 |f+1,a,u=>if u=[]then([],a,0)else if(eB o N tags u).1.2=0 then([],a,9)else(((eB o N tags u).1.1,a,a+(eB o N tags u).1.2)::(jz o N tags f (a+(eB o N tags u).1.2) (u.drop (eB o N tags u).1.2)).1,(jz o N tags f (a+(eB o N tags u).1.2) (u.drop (eB o N tags u).1.2)).2)
theorem Fq(o:Of)(N:List (List Int))(tags:List Int)(f a:Nat)(u:List UInt8):jz o N tags (f+1) a u=if u=[]then([],a,0)else if(eB o N tags u).1.2=0 then([],a,9)else(((eB o N tags u).1.1,a,a+(eB o N tags u).1.2)::(jz o N tags f (a+(eB o N tags u).1.2) (u.drop (eB o N tags u).1.2)).1,(jz o N tags f (a+(eB o N tags u).1.2) (u.drop (eB o N tags u).1.2)).2):=rfl
theorem H5{o:Of}{N:List (List Int)}{tags:List Int}:∀(f a:Nat) (u:List UInt8),(dX o N tags f a u).1.length+a<=(dX o N tags f a u).2.1
 |0,a,_=>by show 0+a<=a;omega
 | f +1,a,u=>by
  rw[s7]
  by_cases c:(eB o N tags u).2=aD
  ·rw[if_pos c]
   by_cases c2:(eB o N tags u).1.2=0
   rw[if_pos c2];show 0+a<=a;omega;rw[if_neg c2];have ih:=H5 (o:=o) (N:=N) (tags:=tags) f (a+(eB o N tags u).1.2) (u.drop (eB o N tags u).1.2);dsimp only[de];omega
  rw[if_neg c];show 0+a<=a;omega
theorem Fs{o:Of}{N:List (List Int)}{tags:List Int}:∀(s:List UInt8) (a:Nat) (u:List UInt8),(iy o N tags s a u).1.length+a<=(iy o N tags s a u).2.1/\(iy o N tags s a u).2.1+(iy o N tags s a u).2.2.1.length<=a+u.length+s.length
 |[],a,u=>⟨by show 0+a<=a;omega,by show a+u.length<=a+u.length+0;omega⟩
 | b ::s,a,u=>by
  have h1:=H5 (o:=o) (N:=N) (tags:=tags) (u.length+2) a (u++[b]);have hk:=Fp (o:=o) (N:=N) (tags:=tags) (u.length+2) a (u++[b]) (by rw[bI];exact nv _);have hl:(u++[b]).length=u.length+1:=by rw[bI];rfl
  rw[qB];generalize dX o N tags (u.length+2) a (u++[b])=D at*;obtain⟨d1,d2,d3,d4⟩:=D;dsimp only at h1 hk⊢;rw[de];rw[hl]at hk
  by_cases c1:d4≠0
  ·rw[if_pos c1]
   exact⟨h1,by show d2+0<=_;omega⟩
  rw[if_neg c1]
  by_cases c2:64<d3.length
  ·rw[if_pos c2]
   exact⟨h1,by show d2+0<=_;omega⟩
  rw[if_neg c2];have ih:=Fs (o:=o) (N:=N) (tags:=tags) s d2 d3;have h3:d3.length=u.length+1-(d2-a):=by rw[hk.2.2.1,jc,hl]
  dsimp only;rw[bI];omega
theorem Ke{o:Of}{N:List (List Int)}{tags:List Int}:∀(f a:Nat) (u:List UInt8),(jz o N tags f a u).1.length+a<=(jz o N tags f a u).2.1/\(jz o N tags f a u).2.1<=a+u.length/\((jz o N tags f a u).2.2=0\/(jz o N tags f a u).2.2=9)
 |0,a,_=>⟨by show 0+a<=a;omega,by show a<=a+_;omega,.inl I⟩
 | f+1,a,u=>by
  rw[Fq]
  by_cases c:u=[]
  rw[if_pos c];exact⟨by show 0+a<=a;omega,by show a<=a+_;omega,.inl I⟩;rw[if_neg c]
  by_cases c2:(eB o N tags u).1.2=0
  rw[if_pos c2];exact⟨by show 0+a<=a;omega,by show a<=a+_;omega,.inr I⟩;rw[if_neg c2];have ih:=Ke (o:=o) (N:=N) (tags:=tags) f (a+(eB o N tags u).1.2) (u.drop (eB o N tags u).1.2);have hto:=(zO o N tags u).resolve_left c2;rw[jc]at ih;dsimp only[de];exact⟨by omega,by omega,ih.2.2⟩
end mM
namespace iz
abbrev Ev:=Int×Int
def rZ(x:Ev):Bool:=decide (x.1<1)||decide (4<x.1)||decide (x.2<0)||decide (1099511627776<x.2)
end iz
namespace iz
def b_(wait:List Ev)(c g:Int):Int:=if 4200<wait.length then 2 else if c<0 then 1 else if 1073741824<c then 1 else if g<0 then 1 else if 1099511627776<g then 1 else if wait.any rZ=aD then 1 else 0
theorem cP{wait:List Ev}{c g:Int}(h:b_ wait c g=0):wait.length<=4200/\0<=c/\c<=1073741824/\0<=g/\g<=1099511627776/\wait.any rZ=false:=by
 unfold b_ at h;split at h;· simp at h
 split at h;· simp at h
 split at h;· simp at h
 split at h;· simp at h
 split at h;· simp at h
 split at h;· simp at h
 rename_i a b c d e f
 exact⟨by omega,by omega,by omega,by omega,by omega,by simpa using f⟩
def Gl(wait:List Ev)(c g:Int)(l:List Ev):Int:=if b_ wait c g≠0 then b_ wait c g else if l.any rZ=aD then 1 else if 4200<wait.length+l.length then 18 else 0
def Kf(wait:List Ev)(c g:Int)(l:List Ev):List Ev:=if Gl wait c g l=0 then wait++l else wait
theorem acF{wait:List Ev}{c g:Int}{l:List Ev}(h:Gl wait c g l=0):b_ wait c g=0/\l.any rZ=aE/\wait.length+l.length<=4200:=by
 unfold Gl at h;split at h;contradiction;split at h;simp at h;split at h;simp at h
 rename_i a b d
 exact⟨by simpa using a,by simpa using b,by omega⟩
def oe(wait:List Ev)(c g n:Int):Int:=if b_ wait c g≠0 then b_ wait c g else if n<1 then 1 else if 1073741824<n then 1 else 0
def yx(wait:List Ev)(c g n:Int):Int:=if oe wait c g n=0 then min (c+n) 1073741824 else c
theorem Vb{wait:List Ev}{c g n:Int}(h:oe wait c g n=0):b_ wait c g=0/\1<=n/\n<=1073741824:=by
 unfold oe at h;split at h;contradiction;split at h;simp at h;split at h;simp at h
 rename_i a b d
 exact⟨by simpa using a,by omega,by omega⟩
def H6(wait:List Ev)(c g n:Int):Int:=if b_ wait c g≠0 then b_ wait c g else if n<0 then 1 else 0
def takeN(wait:List Ev)(c n:Int):Nat:=(min n (min c wait.length)).toNat
end iz
namespace gu
open aT dP fh mM bJ cT cI jQ
open iz (Ev rZ takeN)
structure eP where
 il:Int
 iJ:Int
 dC:Nat
 im:List UInt8
 ended:Bool
 jy:Bool
 du:Nat
 gI:List UInt8
 iN:Int
 bad:Int
 dH:List Tok
 p:PS
 seen:Nat
 l6:Int
 mc:Bool
 wait:List Ev
 cr:Int
 gone:Int
 over:Bool
 eg:Int
 pl:Nat
def tD(il iJ:Int):eP:=⟨il,iJ,0,[],aE,aE,0,[],0,0,[],ps0,0,0,aE,[],0,0,aE,0,0⟩
def yy(b:Bool)(p:PS):PS:=if b then([],p.2)else(p.1,[])
def me(s:eP)(e:Int)(pl:Nat):eP:={s with over:=aD,eg:=e,pl:=pl}
def jl(s:eP)(e:Int)(pl:Nat):eP:={me s e pl with wait:=[]}
def Cn(s:eP):Nat:=s.dC-s.im.length
def xc(s:eP)(x:List UInt8):eP×Int:=
 if s.over=aD\/s.ended=aD then(s,15)else if 1024<x.length then(s,2)
 else if s.il<x.length then(jl s 16 s.dC,16)
 else({s with il:=s.il-x.length,dC:=s.dC+x.length,im:=s.im++x},0)
def q8(s:eP):eP×Int:=if s.over=aD\/s.ended=aD then(s,15)else({s with ended:=aD},0)
def kD(s:eP):eP×Int:=if s.over=aD then(s,15)else(jl s 15 (Cn s),0)
def pU(s:eP):eP:=if s.over=aD\/s.ended=aD then s else jl s 18 (Cn s)
def og(s:eP)(n:Int):eP×Int:=if s.over=aD/\s.wait=[]then(s,15)else if n<1\/1073741824<n then(s,1)else({s with cr:=min (s.cr+n) 1073741824},0)
def tm(s:eP)(n:Int):eP×Int:=
 if s.over=aD then(s,15)else if n<1\/1000<n then(s,1)else if s.iJ<n then(jl s 16 (Cn s),16)else({s with iJ:=s.iJ-n},0)
def kt(s:eP):Bool:=!s.over&&decide (s.wait.length<200)&&(decide (s.dH≠[])||decide (s.bad≠0)||decide (s.im≠[])||s.ended)
def ka(s:eP)(n:Int):eP×List Ev:=
 if n<0 then(s,[])else({s with wait:=s.wait.drop (takeN s.wait s.cr n),cr:=s.cr-(takeN s.wait s.cr n:Nat),gone:=s.gone+(takeN s.wait s.cr n:Nat)},s.wait.take (takeN s.wait s.cr n))
def jx(s:eP):Int×Nat×Bool:=if s.over=aD/\s.wait=[]then(s.eg,s.pl,aD)else(0,0,aE)
def s8(m:Md)(b:Bool)(s:eP)(t:Int):eP×Int:=
 ({s with p:=(kC m b s.p s.seen t).2.1,seen:=if(kC m b s.p s.seen t).1=0 then s.seen+1 else s.seen,l6:=(kC m b s.p s.seen t).1,wait:=s.wait++(kC m b s.p s.seen t).2.2},(kC m b s.p s.seen t).1)
def v8(s:eP)(e:Int)(pl:Nat):eP:=if e≠0 then me s e pl else s
def q9(m:Md)(b:Bool)(s:eP):eP×Int:=
 ({s with p:=yy b s.p,l6:=(v7 m b s.p s.seen).1,mc:=decide ((v7 m b s.p s.seen).1=0),wait:=s.wait++(v7 m b s.p s.seen).2},(v7 m b s.p s.seen).1)
def Ft(m:Md)(s:eP)(c:UInt8):List Tok×Nat×List UInt8×Int:=iy m.o m.N m.tags [c] s.du s.gI
def SP(m:Md)(s:eP)(c:UInt8)(r:List UInt8):eP:=
 {s with im:=r,dH:=(Ft m s c).1,du:=(Ft m s c).2.1,gI:=(Ft m s c).2.2.1,iN:=(Ft m s c).2.2.2,bad:=(Ft m s c).2.2.2}
def Bf(m:Md)(s:eP):List Tok×Nat×Int:=jz m.o m.N m.tags (s.gI.length+1) s.du s.gI
def Kg(m:Md)(s:eP):eP:=
 {s with jy:=aD,dH:=(Bf m s).1,du:=(Bf m s).2.1,gI:=[],iN:=if(Bf m s).2.2=0 then 15 else 9,bad:=(Bf m s).2.2}
def kS(m:Md)(b:Bool)(s:eP):eP:=
 match s.dH with
 |t::r=>if tB m t<0 then {s with dH:=r}else v8 (s8 m b {s with dH:=r} (tB m t)).1 (s8 m b {s with dH:=r} (tB m t)).2 t.2.1
 | []=>if s.bad≠0 then me s s.bad s.du else
  match s.im with
  |c::r=>SP m s c r
  |[]=>if s.jy=aE then Kg m s else me (q9 m b s).1 (q9 m b s).2 s.dC
def mZ(m:Md)(b:Bool):Nat->eP->eP×Nat
 |0,s=>(s,0)
 |k+1,s=>if kt s=aD then((mZ m b k (kS m b s)).1,(mZ m b k (kS m b s)).2+1)else(s,0)
structure dY(m:Md)(b:Bool)(s:eP):Prop where
 il:0<=s.il
 B7:s.il+s.dC<=4096
 iJ:0<=s.iJ/\s.iJ<=1000
 im:s.du+s.gI.length+s.im.length<=s.dC
 gI:s.gI.length<=64
 iN:s.bad=0->s.jy=aE->s.iN=0
 seen:s.seen+s.dH.length<=s.du
 tok:∀t∈s.dH,0<=t.1/\t.1<(m.of.length:Int)
 live:s.over=aE->s.l6=0/\s.mc=aE/\SO m b s.p
 jy:s.jy=aD->s.im=[]/\s.ended=aD
 ev:s.wait.any rZ=aE
 WT:s.gone+s.wait.length<=(s.seen+if s.over=aD then 1 else 0)*2001
 wl:s.wait.length<=2201
 cr:0<=s.cr/\s.cr<=1073741824
 gone:0<=s.gone
theorem SQ{m:Md}{b:Bool}{T N:Nat}(h:jA m b T N){x y:Int}(hx:0<=x)(fJ:x<=4096)(hy:0<=y)(hy2:y<=1000):dY m b (tD x y):=by
 refine⟨hx,by show x+0<=4096;omega,⟨hy,hy2⟩,bx _,bH _,λ_ _=>rfl,bx _,λt ht=>(by cases ht),λ_=>⟨rfl,rfl,ag3 h⟩,λh=>(by cases h),rfl,by simp[tD],bH _,⟨lg _,by simp[tD]⟩,lg _⟩
theorem Bg{g:eb}(hP:g.aF.length<=40):∀{st:List TD} {out:List dy} {a:Nat},(∀d∈st,qQ g d)->(∀x∈out,rZ x=aE)->∀x∈(bQ st out a).2.1,rZ x=aE
 |[],out,a,_,h=>h
 | .sym x::r,out,a,_,h=>h
 | .close p::r,out,a,hd,h=>by
  have h2:∀x∈out++[((3:Int),p)],rZ x=false:=λx hx=>by
   rcases fu.1 hx with hx|hx
   exact h x hx;obtain⟨h0,h1⟩:=hd _ (gd ..);rw[dR.1 hx];simp only[rZ,Dx,decide_eq_false_iff_not];omega
  unfold bQ;split;exact Bg hP (λd Wq=>hd d (kM _ Wq)) h2;exact h2
theorem CU{k n:Int}(h1:1<=k)(h2:k<=4)(h3:0<=n)(h4:n<=1099511627776):rZ (k,n)=false:=by
 simp only[rZ,Dx,decide_eq_false_iff_not];omega
theorem Kh{g:eb}(hg:aT.b_ g=0)(hP:g.aF.length<=40){nx:Int->Int}(hn:aa_ g.aF nx):∀{f:Nat} {st:List TD} {out:List dy} {a:Nat},(∀d∈st,qQ g d)->(∀x∈out,rZ x=aE)->∀x∈(fH g.aF nx f st out a).2.1,rZ x=aE
 |0,st,out,a,_,h=>h
 | f + 1,st,out,a,hd,h=>by
  have h1:=Bg hP (a:=a) hd h;have hd1:=rv (out:=out) (a:=a) hd;unfold fH;split;exact h1;generalize hc:(bQ st out a).1=C at*;split
  ·rename_i x r
   split;exact h1;split;exact h1
   rename_i c
   obtain⟨h3,-⟩:=hn x.2 J;have h2:∀y∈(bQ st out a).2.1++[((1:Int),nx x.2)],rZ y=false:=λy hy=>by
    rcases fu.1 hy with hy|hy
    exact h1 y hy;rw[dR.1 hy];exact CU aiT aiT J J
   split;exact Kh hg hP hn (AL hg J h3 λd Wq=>hd1 d (kM _ Wq)) h2;exact h2
  exact h1
theorem Ki{g:eb}{T N:Nat}{A:List (List bJ.Act)}{G:List (List Int)}(h:rO g T N A G)(hP:g.aF.length<=40){col a:Nat}(hc:col<=T)(ha:a<=1000000):∀(f:Nat) {σ:List Nat} {o:List dy},σ≠[]->(∀q∈σ,q<A.length)->(∀x∈o,rZ x=aE)->∀x∈(f_ g.aF (iM A) (fa G) col a f σ o).2.2,rZ x=aE
 |0,σ,o,_,_,_=>by unfold f_;simp
 | f + 1,σ,o,hne,hq,ho=>by
  have hd:σ.headD 0<A.length:=by
   cases σ with
   |nil=>exact absurd I hne
   |cons q σ=>exact hq q (gd ..)
  have hr:=h.right hd hc;unfold f_;generalize iM A (σ.headD 0) col=x at*
  by_cases c1:f=0/\x.1≠0
  rw[if_pos c1];simp;rw[if_neg c1]
  by_cases c2:x.1=3
  rw[if_pos c2];exact ho;rw[if_neg c2]
  by_cases c3:x.1=1
  ·rw[if_pos c3]
   split;simp;intro y hy;rcases fu.1 hy with hy|hy
   exact ho y hy;rw[dR.1 hy];exact CU aiT aiT J J
  rw[if_neg c3]
  by_cases c4:x.1=2
  ·rw[if_pos c4]
   have hx:0<=x.2/\x.2<(g.aF.length:Int):=by rcases hr with⟨h1,_⟩|⟨h1,_⟩|⟨_,h1,h2⟩|⟨h1,_⟩<;>omega
   cases e:Cm g.aF (fa G) σ x.2 with
   |none=>simp
   | some σ'=>
    obtain⟨r1,r2,r3⟩:=Kc h hx.1 hx.2 hq e;dsimp only
    by_cases c5:60<σ'.length
    rw[if_pos c5];simp;rw[if_neg c5];refine Ki h hP hc ha f r1 r3 λy hy=>?_;rcases fu.1 hy with hy|hy
    exact ho y hy;rw[dR.1 hy];exact CU aiT aiT J J
  rw[if_neg c4];simp
theorem Kj{m:Md}{b:Bool}{T N:Nat}(h:jA m b T N){p:PS}(hp:SO m b p){a:Nat}(ha:a<=1000000){t:Int}(ht:t<T):∀x∈(kC m b p a t).2.2,rZ x=false:=by
 have hP:=(cP h.Ba).2.2.2.2.1
 cases b with
 | true=>
  obtain⟨h1,h2⟩:=hp;have hn:=(h.ll I).2.nx t.toNat;have hd:=Kh h.Ba hP hn (f:=2001) (st:=p.1) (out:=[]) (a:=0) h1 (by simp);have ho:=λR (hR:fH m.g.aF (iH m.rows t.toNat) 2001 p.1 [] 0=R) h0=>I4 h.Ba hn (f:=2001) (st:=p.1) (out:=[]) (a:=0) hR h0 h1;intro x hx;have hx:x∈(jX m.g.aF (iH m.rows t.toNat) p.1 a t).2.2:=hx;unfold jX at hx;generalize fH m.g.aF (iH m.rows t.toNat) 2001 p.1 [] 0=D at*;obtain⟨st1,o1,a1,e⟩:=D;dsimp only at hx hd;split at hx
  cases hx
  rename_i c
  have ho:=ho _ I (by simpa using c);dsimp only at ho;split at hx
  ·rename_i y r
   split at hx
   cases hx
   split at hx
   ·refine Bg hP (λd Wq=>ho d (kM _ Wq)) (λz hz=>?_) x hx
    rcases fu.1 hz with hz|hz
    exact hd z hz;rw[dR.1 hz];exact CU aiT aiT J J
   cases hx
  cases hx
 | false=>
  obtain⟨h1,h2,h3⟩:=hp;exact Ki (h.lr I) hP J ha 2001 h1 h2 (by simp)
theorem QT{m:Md}{b:Bool}{T N:Nat}(h:jA m b T N){p:PS}(hp:SO m b p){a:Nat}(ha:a<=1000000):∀x∈(v7 m b p a).2,rZ x=false:=by
 have hP:=(cP h.Ba).2.2.2.2.1
 cases b with
 |true=>
  obtain⟨h1,h2⟩:=hp;have hn:=(h.ll I).2.nx m.g.aR.toNat;have hd:=Kh h.Ba hP hn (f:=2001) (st:=p.1) (out:=[]) (a:=0) h1 (by simp);intro x hx;have hx:x∈(fh.jz m.g.aF (iH m.rows m.g.aR.toNat) p.1).2:=hx;unfold fh.jz at hx;generalize fH m.g.aF (iH m.rows m.g.aR.toNat) 2001 p.1 [] 0=D at*;obtain⟨st1,o1,a1,e⟩:=D;dsimp only at hx hd;split at hx
  cases hx
  split at hx;exact hd x hx
  cases hx
 |false=>
  obtain⟨h1,h2,h3⟩:=hp;exact Ki (h.lr I) hP (by have:=h.tT;omega) ha 2001 h1 h2 (by simp)
end gu
namespace cI
open Go.RowKit cU dS
def pV(w:World)(e:TypeId)(size:Nat)(v:Value)(n:Nat)(xs:List Value):Prop:=
 xs.length=n*size/\((v=ap ak 0 0/\n=0)\/∃g off cap jS,v=ap (aj ⟨g,off,ak⟩) n cap/\w.heap[g]?=aj (.cells jS e (0,0))/\n<=cap/\cap<=maxLen/\off+cap*size<=jS.size/\(jS.toList.drop off).take (n*size)=xs)
def q_(e:TypeId)(size:Nat)(v:Value)(n:Nat)(xs:List Value):cH:=
 ⟨v.ownBlock,λ_=>False,λw=>pV w e size v n xs,λw h k hk=>by
  rcases h.2 with⟨rfl,_⟩|⟨g,off,cap,jS,rfl,hg,_⟩
  exact hk.elim (λh=>by cases h) nV
  ·simp only[sd,df,or_false]at hk
   subst hk;exact(jm.1 hg).1,λw w' h _ hb=>by
  refine⟨h.1,?_⟩;rcases h.2 with hn|⟨g,off,cap,jS,rfl,hg,rest⟩
  exact .inl hn;exact .inr ⟨g,off,cap,jS,rfl,by rw[hb g (.inl I)];exact hg,rest⟩⟩
theorem Vc{w:World}{e:TypeId}{size:Nat}{v:Value}{n:Nat}{xs:List Value}(h:w.ownsRow 0 e size v n xs):pV w e size v n xs:=by
 refine⟨h.1,?_⟩;rcases h.2 with hn|⟨g,cap,jS,rfl,_,hg,h1,h2,h3,h4⟩
 exact .inl hn;exact .inr ⟨g,0,cap,jS,rfl,hg,h1,h2,by omega,by rw[mC];exact h4⟩
theorem l7{w:World}{e:TypeId}{size:Nat}{v:Value}{n:Nat}{xs:List Value}(h:pV w e size v n xs):∃base cap,v=ap base n cap/\n<=cap/\cap<=maxLen/\(base=ak->cap=0):=by
 rcases h.2 with⟨rfl,rfl⟩|⟨g,off,cap,jS,rfl,hg,h1,h2,h3,h4⟩
 exact⟨ak,0,rfl,bx _,bH _,λ_=>rfl⟩;exact⟨_,cap,rfl,h1,h2,λh=>by cases h⟩
theorem BV{w:World}{e:TypeId}{size:Nat}{g off m cap n:Nat}{xs:List Value}(h:pV w e size (ap (aj ⟨g,off,ak⟩) m cap) n xs){j:Nat}{u:Value}(hu:xs[j]?=aj u):w.cell? ⟨g,off+j,ak⟩=aj u:=by
 rcases h.2 with⟨h,_⟩|⟨g',AA,FQ,jS,hv,hg,h1,h2,h3,h4⟩
 cases h
 cases hv
 rw[cell_of_row w g (off+j) jS e (0,0) hg];rw[<-h4,qO]at hu;split at hu;rw[ZW]at hu;simpa using hu
 cases hu
theorem Nh{w:World}{e:TypeId}{size:Nat}{base:Option Addr}{cap n:Nat}{xs:List Value}(h:pV w e size (ap base (n+1) cap) (n+1) xs):pV w e size (tw base cap size 1 (n+1)) n (xs.drop size):=by
 rcases h.2 with⟨_,h⟩|⟨g,off,FQ,jS,hv,hg,h1,h2,h3,h4⟩
 cases h
 cases hv
 have hl:=h.1;refine⟨by rw[jc,hl,k7];omega,.inr ?_⟩;unfold tw
 by_cases c:cap=1
 ·subst c
  obtain rfl:n=0:=by omega
  rw[if_pos I];refine⟨g,off,0,jS,rfl,hg,bx _,bH _,by omega,?_⟩;have e:xs.drop size=[]:=jo (by rw[hl];omega);rw[e];simp
 rw[if_neg c];refine⟨g,off+size,cap-1,jS,?_,hg,by omega,by omega,?_,?_⟩;rw[Z1,Nat.one_mul,eI,J8]
 ·obtain⟨q,rfl⟩:∃q,cap=q+1:=⟨cap-1,by omega⟩
  rw[k7]at h3;rw[J8];omega
 rw[<-h4,List.drop_take,qH,k7,J8]
section
variable{P:Program}{n:Nat}{W:bO}{fr:Fr}{L:List cH}{Q:Exit->Act->World->Prop}{ops:Array Oper}{rest:List Oper}{d:Nat}{ty:TypeId}{pos:String}{after:Array Edge}
theorem Vd{i g off size cap m k:Nat}{e:TypeId}{xs:List Value}(hi:L[i]?=aj (q_ e size (ap (aj ⟨g,off,ak⟩) m cap) k xs)){j:Nat}{v:Value}(hv:xs[j]?=aj v):At W L ⟨g,off+j,ak⟩ v:=λw hm=>BV (hm.get hi) hv
theorem SR{i size m:Nat}{e:TypeId}{v:Value}{xs:List Value}(hi:L[i]?=aj (q_ e size v m xs))(h:∀base cap,v=ap base m cap->m<=cap->cap<=maxLen->(base=ak->cap=0)->TL P n W ops Q rest fr L):TL P n W ops Q rest fr L:=⟨λa w hr hm=>by
 obtain⟨base,cap,h1,h2,h3,h4⟩:=l7 (hm.get hi:pV w e size v m xs);exact(h base cap h1 h2 h3 h4).go a w hr hm⟩
theorem aal(i:Nat){e:TypeId}{size m cap:Nat}{base:Option Addr}{xs:List Value}(hi:L[i]?=aj (q_ e size (ap base (m+1) cap) (m+1) xs))(h:TL P n W ops Q rest fr (L.set i (q_ e size (tw base cap size 1 (m+1)) m (xs.drop size)))):TL P n W ops Q rest fr L:=
 aaU (q_ e size (tw base cap size 1 (m+1)) m (xs.drop size)) hi (λ_ h=>Nh h) (λk hk=>by
  cases base with
  |none=>unfold tw at hk;split at hk<;>cases hk
  | some q=>
   unfold tw at hk;split at hk;exact hk;simp only[q_,Z1,sd,df]at hk⊢;unfold Addr.add at hk;split at hk<;>exact hk) (λ_ h=>nV h) h
theorem Kk{t ty e:TypeId}{i:TypeInfo}{z:Value}{size bytes:Nat}(ht:P.underlying t=aj (.slice e))(hi:P.info? e=aj i)(hz:i.zero=aj z)(l8:i.size=size)(KG:i.bytes=bytes)(Ov:z.cells.size=size)(hsz:0<size)(w:World)
 {v:Value} {m:Nat} {xs:List Value} (mf:pV w e size v m xs) {a:Addr} {k c:Nat} {news:List Value} (hl:news.length=k*size) (Bl:∀j u,news[j]?=aj u->w.cell? (a.add j)=aj u) (h1:∀u∈news,u.oneCell'=aD)
 (ra:m+k<=maxLen) (Al:(m+k)*bytes<=140737488355328):
 ∃v' w',(tL #[t,t] ty #[v,ap (aj a) k c]).run P w= .ok v' w'/\pV w' e size v' (m+k) (xs++news)/\w.grownBy w' v.ownBlock/\(∀q,v'.ownBlock=aj q->v.ownBlock=aj q\/w.heap.size<=q):=by
 rcases mf.2 with⟨rfl,rfl⟩|⟨g,off,cap,jS,rfl,hg,hnc,Ow,hcs,yH⟩
 ·obtain⟨v',w',hr,h2,h3,h4⟩:=n0 (ty:=ty) (c:=c) ht hi hz l8 KG Ov hsz w (⟨mf.1,.inl ⟨rfl,rfl⟩⟩:w.ownsRow 0 e size (ap ak 0 0) 0 xs) hl Bl h1 ra Al
  exact⟨v',w',hr,Vc h2,h3,h4⟩
 ·have hlen:(xs++news).length=(m+k)*size:=by rw[bI,mf.1,hl,jq]
  have afw:((m+k:Nat):Int)<=9223372036854775807:=by simp only[maxLen]at ra;omega
  subst l8 KG
  by_cases hroom:m+k<=cap
  ·have Dh:off+m*i.size+news.length<=jS.size:=by
    have:=Nat.mul_le_mul_right i.size hroom;rw[jq,<-hl]at this;omega
   have hf:=run_firstCells_some (P:=P) w i.size k a k c news hl Bl;have hst:=run_storeCells_at P g (off+m*i.size) e news 0 jS w hg (by simpa using Dh) h1;simp only[jC]at hst;refine⟨ap (aj ⟨g,off,ak⟩) (m+k) cap,_,by simp[tL,run_underlying ht,sizeOf,typeInfo,hi,zX,hroom,hf,eI,hst];rfl,⟨hlen,.inr ⟨g,off,cap,_,rfl,setRow_heap w g jS _ e _ hg,hroom,Ow,?_,?_⟩⟩,⟨rfl,rfl,rfl,by simp,λk hk h=>setRow_other w g k _ (λe=>h (by simp[sd,e]))⟩,λq hq=> .inl hq⟩
   ·simp only[dZ,bI,iZ,jc,lG]
    omega
   have e1:jS.toList.take (off+m*i.size)=jS.toList.take off++xs:=by rw[List.take_add,yH]
   have e2:(jS.toList.take off).length=off:=by rw[iZ,lG];omega
   show((jS.toList.take (off+m*i.size)++(news++jS.toList.drop (off+m*i.size+news.length))).drop off).take _=_
   rw[e1,eD,List.drop_append,jo (Z0 e2),e2,oa,mC,eu,<-eD,<-hlen];exact ZY
  have holds:∀j u,xs[j]?=aj u->w.cell? ((⟨g,off,ak⟩:Addr).add j)=aj u:=λj u hj=>by rw[eI];exact BV mf hj
  have hr:=run_append_grow (P:=P) w t ty e i z ht hi hz ⟨g,off,ak⟩ m cap xs mf.1 holds a k c news hl Bl J afw (growslice_fits J Al);have hge:=grownCap_ge w (m+k) cap e;have Ow:grownCap w (m+k) cap e<=maxLen:=grownCap_le_maxLen w (m+k) cap e ra;refine⟨_,_,hr,⟨hlen,.inr ⟨w.heap.size,0,_,_,rfl,heap_alloc_new w.drew _,hge,Ow,?_,?_⟩⟩,⟨rfl,rfl,rfl,by simp,λk hk _=>heap_alloc_old w.drew _ hk⟩,λq hq=> .inr ?_⟩
  ·simp only[Array.size_append,dZ,size_zeroCells,Ov,mf.1,hl,<-jq,cV]
   exact Z0 (by congr 1;omega)
  ·simp only[Array.toList_append,eD,mC]
   rw[<-eD,<-hlen];exact ZY
  simp only[sd,df]at hq;omega
theorem SS{t e:TypeId}{s x:Operand}{i j size bytes m k:Nat}{v v2:Value}{xs ys:List Value}[tr:rf P t e size bytes](hi:L[i]?=aj (q_ e size v m xs))(hj:L[j]?=aj (a_ e size v2 k ys))(hs:ev fr s=aj v)(hx:ev fr x=aj v2)
 (h1:∀u∈ys,u.oneCell'=aD) (ra:m+k<=140737488355328) (hb:(m+k)*bytes<=140737488355328) (hn:Nat.blt d n=aD)
 (h:∀v',TL P n W ops Q rest ((d,v')::fr) (L.set i (q_ e size v' (m+k) (xs++ys)))):
 TL P n W ops Q (⟨aj d,.call {callee:= .builtin .append,args:=#[s,x],argTypes:=#[t,t]},ty,pos,after,ak⟩::rest) fr L:=kJ I λact w hr hm K hK=>by
 obtain⟨inf,z,ht,yI,hz,l8,KG,Ov,hsz⟩:=tr.el.ex;have mf:pV w e size v m xs:=hm.get hi;have aam:w.ownsRow 0 e size v2 k ys:=hm.get hj;rcases aam.2 with⟨rfl,rfl⟩|⟨g,cap,jS,rfl,_⟩
 ·have hy:ys=[]:=se (by rw[aam.1];simp)
  subst hy;have h2:=h v;have tu:L.set i (q_ e size v (m+0) (xs++[]))=L:=by
   rw[dW,jC];apply List.ext_getElem?;intro q
   by_cases hq:i=q
   ·subst hq
    rw[List.getElem?_set_self (cX.1 hi).1,hi]
   rw[List.getElem?_set_ne hq]
  rw[tu]at h2;have e':(execOp act.eval ⟨aj d,.call {callee:= .builtin .append,args:=#[s,x],argTypes:=#[t,t]},ty,pos,after,ak⟩).run P w= .ok (.value v) w:=by
   obtain⟨base,cap,rfl,q1,q2,q3⟩:=l7 mf
   cases base with
   | none=>
    obtain rfl:=q3 rfl;obtain rfl:m=0:=by omega
    simp[lH,r9,hr.ev hs,hr.ev hx,tL,run_underlying ht,sizeOf,typeInfo,yI,zX,C2,loadCells,loadCellsFrom]
   |some q=>simp[lH,r9,hr.ev hs,hr.ev hx,tL,run_underlying ht,sizeOf,typeInfo,yI,zX,C2,loadCells,loadCellsFrom,q1,storeCells]
  unfold fR;rw[e'];exact hK _ _ (h2.go _ _ (hr.put hn _) hm)
 ·obtain⟨v',w',hrun,h2,h3,h4⟩:=Kk (ty:=ty) (c:=cap) ht yI hz l8 KG Ov hsz w mf aam.1 (λq u hq=>by rw[eI,cV];exact ki hj hq w hm) h1 (by unfold maxLen;omega) hb
  have e':(execOp act.eval ⟨aj d,.call {callee:= .builtin .append,args:=#[s,x],argTypes:=#[t,t]},ty,pos,after,ak⟩).run P w= .ok (.value v') w':=by
   simp only[lH,r9,List.map_toArray,List.map_cons,List.map_nil,hr.ev hs,hr.ev hx,Sem.run_bind,hrun,Result.andThen_ok,Sem.run_pure]
  unfold fR;rw[e'];exact hK _ _ ((h v').go _ _ (hr.put hn _) (hm.B1 hi h3 h2 h4))
end
end cI
namespace cI
open Go.RowKit cU dS aT dP dL bJ cT
def Fu(seen:Int)(R:Int×List Nat×List dy):Spec (Value×Value):=
 ⟨λ_=>True,λx=>if R.1=0 then .tuple #[vZ x.1 (seen+1) 0 aE,x.2,av az 0]else .tuple #[vZ (ap ak 0 0) seen R.1 aE,ap ak 0 0,av az R.1],λx=>if R.1=0 then [SM x.1 R.2.1,kV x.2 R.2.2]else []⟩
theorem H7{seen:Int}{σ:List Nat}{o:List dy}:Fu seen (0,σ,o)=⟨λ_=>True,λx=> .tuple #[vZ x.1 (seen+1) 0 aE,x.2,av az 0],λx=>[SM x.1 σ,kV x.2 o]⟩:=by unfold Fu;simp
theorem H8{seen e:Int}(he:e≠0){x:List Nat×List dy}:Fu seen (e,x)=⟨λ_=>True,λ_=> .tuple #[vZ (ap ak 0 0) seen e aE,ap ak 0 0,av az e],λ_=>[]⟩:=by unfold Fu;simp[he]
attribute [local irreducible] Instr.build in
theorem Kl(v t vs:Value)(g:eb)(T N:Nat)(A:List (List bJ.Act))(G:List (List Int))(rY:List Nat)(seen col:Nat)(w:World)(hG:kj (λk=>k<w.heap.size) w v g)(ht:A_ w t A G)(hs:skR w vs rY)(hT:rO g T N A G)(hq:∀q∈rY,q<A.length)(hne:rY≠[])(hl:rY.length<=60)(hc:col<T)(hsn:seen<=1000000):
 Calls aB 92 #[v,t,vZ vs (seen:Int) 0 aE,av az (col:Int)] w (cB (Fu (seen:Int) (f_ g.aF (iM A) (fa G) col seen 2001 rY [])) w):=by
 have h0:0<rY.length:=by rcases rY with _|⟨a,b⟩;exact absurd I hne;simp
 have HX:=hT.aR;have iW:=λw' (hg:Gr w w')=>w_ v t vs g T N A G rY (seen:Int) (col:Int) w' (hG.gr hg) (ht.gr hg) (hs.gr hg) hT hq h0 hl J J J J;have hrn:=λw' (hg:Gr w w')=>BU v t vs g T N A G rY seen col w' (hG.gr hg) (ht.gr hg) (hs.gr hg) hT hq hne hl J;have hlen:=λh=>(CT (a:=seen) hT (show col<=T by omega) 2001 (o:=[]) hne hq hl h).2.2.1;generalize f_ g.aF (iM A) (fa G) col seen 2001 rY []=R at*;obtain⟨e,σ,o⟩:=R;dsimp only at hlen;obtain⟨vp,rfl,-⟩:=hG;obtain⟨vA,vG,rfl,-⟩:=ht;clear hs hT;refine enter (args:=[dJ g.aR g.bC vp,aQ #[vA,vG],vZ vs (seen:Int) 0 aE,av az (col:Int)]) (n:=51) Tryz.func92 I I I ?_;refine cC (bz (bR I I I λg4=>?_));refine zL ?_;refine bR I I I λg5=>?_;refine zL ?_;refine bR I I I λg6=>?_;refine zL ?_;refine aY I λg8=>?_;refine zL ?_
 repeat(first|refine GC ?_|refine gV (aC (v:=av az g.aR) aK.ty I (aH (i:=0) I I)) ?_|refine gV (dg (b:=aE) I I (decide_eq_false J)) ?_|refine gV (aO (i:=0) aK.ty I I I) ?_|refine gV (aO (i:=1) aK.ty I I I) ?_|refine gV (aO (i:=2) aK.ty I I I) ?_|refine GB ?_)
 refine aV (Ti aI.en I I I I I) (λw hm=>iW w hm.below) I I I ?_;intro _ _;refine zL ?_
 repeat(first|refine GA ?_|refine gV (aO (i:=0) aK.ty I I I) ?_|refine gV (aO (i:=1) aK.ty I I I) ?_|refine gV (aO (i:=2) aK.ty I I I) ?_)
 by_cases c:e=0
 ·subst c
  rw[Nf]at hrn;rw[H7];have hlen:=hlen I;refine aV (Ti aI.en I I I I I) (λw hm=>hrn w hm.below) I I I ?_;rintro⟨v1,v2⟩ _;refine zL ?_
  try refine GA ?_
  refine mz (i:=4) I λbt ct hv q1 q2=>?_;subst hv
  repeat(first|refine GC ?_|refine gV (aC (v:=av az (seen:Int)) aK.ty I (aH (i:=2) I I)) ?_|refine gV (eT (r:=(seen:Int)+1) I I J J J) ?_|refine gV (bB I (U9 _ _ _ _)) ?_|refine GB ?_)
  refine gC 3 (cs':=#[ap bt σ.length ct,av az ((seen:Int)+1),av az 0,.bool aE]) ?_;refine zL ?_
  try refine GA ?_
  exact fm (i:=3) I I I I I I λw hm=>hm.meets (S:=⟨λ_=>True,λx=> .tuple #[vZ x.1 ((seen:Int)+1) 0 aE,x.2,av az 0],λx=>[SM x.1 σ,kV x.2 o]⟩) (ap bt σ.length ct,v2) trivial [4,5] aiT I
 ·rw[Ng c]at hrn
  rw[H8 c];refine aV (Ti aI.en I I I I I) (λw hm=>hrn w hm.below) I I I ?_;rintro _ _;refine zL ?_
  repeat(first|refine GC ?_|refine gV (dr (b:=aD) I I (decide_eq_true c)) ?_|refine gV (aC (v:=av az (seen:Int)) aK.ty I (aH (i:=2) I I)) ?_|refine gV (bB I (H3 _ _)) ?_|refine GB ?_)
  refine gC 3 (cs':=#[ap ak 0 0,av az (seen:Int),av az e,.bool aE]) ?_;refine zL ?_
  try refine GA ?_
  exact fm (i:=3) I I I I I I λw hm=>hm.meets (S:=⟨λ(_:Value×Value)=>True,λ_=> .tuple #[vZ (ap ak 0 0) (seen:Int) e aE,ap ak 0 0,av az e],λ_=>[]⟩) (ap ak 0 0,ap ak 0 0) trivial [] aiT I
def Ni(seen:Int)(R:Int×List Nat×List dy):Spec Value:=
 ⟨λ_=>True,λx=>if R.1=0 then .tuple #[vZ (ap ak 0 0) seen 0 aD,x,av az 0]else .tuple #[vZ (ap ak 0 0) seen R.1 aE,ap ak 0 0,av az R.1],λx=>if R.1=0 then [kV x R.2.2]else []⟩
theorem Nj{seen:Int}{σ:List Nat}{o:List dy}:Ni seen (0,σ,o)=⟨λ_=>True,λx=> .tuple #[vZ (ap ak 0 0) seen 0 aD,x,av az 0],λx=>[kV x o]⟩:=by unfold Ni;simp
theorem Nk{seen e:Int}(he:e≠0){x:List Nat×List dy}:Ni seen (e,x)=⟨λ_=>True,λ_=> .tuple #[vZ (ap ak 0 0) seen e aE,ap ak 0 0,av az e],λ_=>[]⟩:=by unfold Ni;simp[he]
attribute [local irreducible] Instr.build in
theorem Nl(v t vs:Value)(g:eb)(T N:Nat)(A:List (List bJ.Act))(G:List (List Int))(rY:List Nat)(seen:Nat)(w:World)(hG:kj (λk=>k<w.heap.size) w v g)(ht:A_ w t A G)(hs:skR w vs rY)(hT:rO g T N A G)(hq:∀q∈rY,q<A.length)(hne:rY≠[])(hl:rY.length<=60)(hsn:seen<=1000000):
 Calls aB 98 #[v,t,vZ vs (seen:Int) 0 aE] w (cB (Ni (seen:Int) (f_ g.aF (iM A) (fa G) T seen 2001 rY [])) w):=by
 have h0:0<rY.length:=by rcases rY with _|⟨a,b⟩;exact absurd I hne;simp
 have HX:=hT.aR;have iW:=λw' (hg:Gr w w')=>w_ v t vs g T N A G rY (seen:Int) (T:Int) w' (hG.gr hg) (ht.gr hg) (hs.gr hg) hT hq h0 hl J J J J;have hrn:=λw' (hg:Gr w w')=>BU v t vs g T N A G rY seen T w' (hG.gr hg) (ht.gr hg) (hs.gr hg) hT hq hne hl (bx _);generalize f_ g.aF (iM A) (fa G) T seen 2001 rY []=R at*;obtain⟨e,σ,o⟩:=R;obtain⟨vp,rfl,-⟩:=hG;obtain⟨vA,vG,rfl,-⟩:=ht;clear hs hT;refine enter (args:=[dJ g.aR g.bC vp,aQ #[vA,vG],vZ vs (seen:Int) 0 aE]) (n:=45) Tryz.func98 I I I ?_;refine cC (bz (bR I I I λg4=>?_));refine zL ?_;refine bR I I I λg5=>?_;refine zL ?_;refine bR I I I λg6=>?_;refine zL ?_;refine aY I λg8=>?_;refine zL ?_
 repeat(first|refine GA ?_|refine gV (aC (v:=av az (T:Int)) aK.ty I (aH (i:=0) I (by show aj (av .i64 g.aR)=_;rw[HX]))) ?_|refine gV (aO (i:=0) aK.ty I I I) ?_|refine gV (aO (i:=1) aK.ty I I I) ?_|refine gV (aO (i:=2) aK.ty I I I) ?_)
 refine aV (Ti aI.en I I I I I) (λw hm=>iW w hm.below) I I I ?_;intro _ _;refine zL ?_
 repeat(first|refine GA ?_|refine gV (aC (v:=av az (T:Int)) aK.ty I (aH (i:=0) I (by show aj (av .i64 g.aR)=_;rw[HX]))) ?_|refine gV (aO (i:=0) aK.ty I I I) ?_|refine gV (aO (i:=1) aK.ty I I I) ?_|refine gV (aO (i:=2) aK.ty I I I) ?_)
 by_cases c:e=0
 ·subst c
  rw[Nf]at hrn;rw[Nj];refine aV (Ti aI.en I I I I I) (λw hm=>hrn w hm.below) I I I ?_;rintro⟨v1,v2⟩ _;refine zL ?_
  repeat(first|refine GA ?_|refine gV (aC (v:=av az (seen:Int)) aK.ty I (aH (i:=2) I I)) ?_|refine gV (bB I (U_ _)) ?_)
  refine gC 3 (cs':=#[ap ak 0 0,av az (seen:Int),av az 0,.bool aD]) ?_;refine zL ?_
  try refine GA ?_
  exact fm (i:=3) I I I I I I λw hm=>hm.meets (S:=⟨λ_=>True,λx=> .tuple #[vZ (ap ak 0 0) (seen:Int) 0 aD,x,av az 0],λx=>[kV x o]⟩) v2 trivial [5] aiT I
 ·rw[Ng c]at hrn
  rw[Nk c];refine aV (Ti aI.en I I I I I) (λw hm=>hrn w hm.below) I I I ?_;rintro _ _;refine zL ?_
  repeat(first|refine GC ?_|refine gV (dr (b:=aD) I I (decide_eq_true c)) ?_|refine gV (aC (v:=av az (seen:Int)) aK.ty I (aH (i:=2) I I)) ?_|refine gV (bB I (H3 _ _)) ?_|refine GB ?_)
  refine gC 3 (cs':=#[ap ak 0 0,av az (seen:Int),av az e,.bool aE]) ?_;refine zL ?_
  try refine GA ?_
  exact fm (i:=3) I I I I I I λw hm=>hm.meets (S:=⟨λ(_:Value)=>True,λ_=> .tuple #[vZ (ap ak 0 0) (seen:Int) e aE,ap ak 0 0,av az e],λ_=>[]⟩) (ap ak 0 0) trivial [] aiT I
end cI
namespace cI
open Go.RowKit cU dS
def xd(g:Nat)(cs:List Value)(T:TypeId):cH:=
 ⟨aj g,λ_=>False,λw=>∃r:List Value,w.heap[g]?=aj (.cells (cs++r).toArray T (0,0)),λw ⟨r,h⟩ k hk=>by simp only[df,or_false]at hk;subst hk;exact(jm.1 h).1,
  λw w' ⟨r,h⟩ _ hb=>⟨r,by rw[hb g (.inl I)];exact h⟩⟩
section
variable{W:bO}{L:List cH}
theorem mN{i g off:Nat}{cs:List Value}{T:TypeId}{v:Value}(hi:L[i]?=aj (xd g cs T))(hv:cs.toArray[off]?=aj v):At W L ⟨g,off,ak⟩ v:=λw hm=>by
 obtain⟨r,h⟩:=hm.get hi;rw[cell_of_row w g off _ T (0,0) h,jn];rw[jn]at hv;rw[eR (cX.1 hv).1];exact hv
theorem ed{i g:Nat}{C:Array Value}{cs:List Value}{T:TypeId}(hi:L[i]?=aj (aP g C T))(hC:∃r,C=(cs++r).toArray):∀w,Mem W L w->Mem W [xd g cs T] w:=λw hm=>by
 have h1:Mem W [aP g C T] w:=hm.pick [i] (by simp) (by simp[hi]);obtain⟨r,rfl⟩:=hC;exact h1.Rt (i:=0) (xd g cs T) I (λw h=>⟨r,h⟩) λk h=>h
end
theorem gH(vo:Value)(pk tl r:List Value):∃q,(jd vo pk (tl++r)).toArray=(jd vo pk tl++q).toArray:=⟨r,by simp[jd]⟩
end cI
namespace cI
open Go.RowKit cU dS aT dP fh gT jQ bJ
theorem lp{vo:Value}{pk tl cs:List Value}(k0:Nat)(hp:pk.length=258)(hc:(tl.drop k0).take cs.length=cs){j k:Nat}{v:Value}(h:cs[j]?=aj v)(hk:k=k0+259+j):(jd vo pk tl).toArray[k]?=aj v:=by
 have hj:=(cX.1 h).1;rw[<-hc,ZU hj,ZW]at h;exact jh (k0+j) hp h J
section
variable{P:Program}{n:Nat}{W:bO}{fr:Fr}{L:List cH}{Q:Exit->Act->World->Prop}{ops:Array Oper}{rest:List Oper}{ty:TypeId}{pos:String}{after:Array Edge}{t:TypeId}{p x:Operand}{i g k:Nat}{vo:Value}{pk tl:List Value}{T:TypeId}{agg:Bool}{v:Value}
theorem iA(k0:Nat){cs tl':List Value}{c:Nat}[hT:aK P t agg c](hi:L[i]?=aj (aP g (jd vo pk tl).toArray T))(hp:ev fr p=aj (aJ (aj ⟨g,k,ak⟩)))(hx:ev fr x=aj (aQ cs.toArray))(h1:cs.all eZ=aD)(hc:cs.length=c)(hk:k=k0+259)(dG:pk.length=258)(hj:Nat.ble (k0+c) tl.length=aD)
 (Wo:tl.take k0++cs++tl.drop (k0+c)=tl') (h:TL P n W ops Q rest fr (L.set i (aP g (jd vo pk tl').toArray T))):TL P n W ops Q (⟨ak,.store t p x,ty,pos,after,ak⟩::rest) fr L:=by
 subst hk Wo;have hj:=Nat.le_of_ble_eq_true hj;refine t' hT.ty hi hp hx (by simpa[sR]using hc) (by simpa[sR]using h1) (by rw[dZ,jd,de,bI];omega) ?_ h;apply Array.ext';show vo::(pk++(tl.take k0++cs++tl.drop (k0+c)))=List.take (k0+259) (vo::(pk++tl))++cs++List.drop (k0+259+c) (vo::(pk++tl))
 rw[show k0+259=pk.length+k0+1 by omega,List.take_succ_cons,show pk.length+k0+1+c=pk.length+(k0+c)+1 by omega,List.drop_succ_cons,List.take_length_add_append,List.drop_length_add_append];simp
end
def qj:Bool->Value->PS->cH
 |true,v,p=>wN v p.1
 |false,v,p=>SM v p.2
theorem CV{v:Value}{a e:Int}{d:Bool}(h:v.oneCell'=aD):[v,av az a,av az e,.bool d].all eZ=true:=by
 simp only[cZ,db,h];rfl
end cI
namespace cI
open Go.RowKit cU dS iz
def tE(e:Ev):List Value:=[av az e.1,av az e.2]
theorem aan(l:List Ev):∀u∈l.flatMap tE,u.oneCell'=true:=by
 intro u hu;obtain⟨f,_,h⟩:=List.mem_flatMap.1 hu;simp only[tE,dA,fv,or_false]at h;rcases h with rfl|rfl<;>rfl
theorem H9(x:Ev)(w:World):Calls aB 90 #[aQ (tE x).toArray] w (cB (ret (.bool (rZ x))) w):=by
 obtain⟨k,q⟩:=x;refine enter (args:=[aQ (tE (k,q)).toArray]) (n:=21) Tryz.func90 I I I ?_;refine cC (bz (bR I I I λg=>?_))
 repeat' (first
  |refine QV QP ?_
  |refine QZ ?_
  |refine qs I I I I I I ?_
  |(((try refine qg I I I ?_);first|refine QV QP ?_|refine QV (aC aK.ty I (aH (i:=0) I I)) ?_|refine QV QA ?_|refine QV QlT ?_|refine QV QlF ?_|refine QV QgT ?_|refine QV QgF ?_))
  |refine tY (dQ I I I) I I I (λh=>?_) (λh=>?_)
  |refine oZ (dQ I I I) I I I I I (λh=>?_) (λh=>?_)
  |refine oZ (dT I I I) I I I I I (λh=>?_) (λh=>?_)
  |((fail_if_success (refine Ol I I I ?_));(fail_if_success (refine Om I I I ?_));refine Ai I I I (λh=>?_) (λh=>?_)))
 all_goals (refine dD I I ?_;congr 1;unfold rZ;dsimp only at*;simp only[*,decide_true,decide_false,Bool.true_or,Bool.false_or,Bool.or_true])
end cI
namespace cI
open Go.RowKit cU dS iz
theorem zP(a:Ev):(tE a).length=2:=rfl
theorem yz(v:Value)(l:List Ev)(w:World)(hs:Sl w v l.length (l.flatMap tE))(pw:FuncId)(first cp:Array Value)(p:Ev->Bool)(FK:Enters aB pw)
 (hp:∀a∈l,∀w',Gr w w'->Calls aB pw (first++#[(aQ (tE a).toArray)]++cp) w' (cB (ret (.bool (p a))) w')):
 Calls aB 115 #[v,.func (.func pw) first cp] w (cB (ret (av az (ri p l))) w):=by
 obtain⟨base,cap,rfl,ly,kl,eL⟩:=hs;unfold maxLen at kl;refine enter (args:=[ap base l.length cap,.func (.func pw) first cp]) (n:=19) Tryz.func115 I I I ?_
 try refine GA ?_
 refine ea (ι:=Nat) (λk=>k<=l.length/\∀j (hj:j<l.length),j<k->p l[j]=aE) (λk=>[(0,ap base l.length cap),(1,.func (.func pw) first cp),(7,av az l.length),(8,av az (k:Int))]) (λ_=>[]) (λk=>l.length-k) 0 ⟨by omega,λj hj h=>by omega⟩ ?_;rintro k ⟨h1,h2⟩
 by_cases c2:k<l.length
 ·obtain⟨b,off,rfl,hr⟩:=eL J
  have du:=gO (L:=([]:List cH)) zP hr c2;have gL:=hp l[k] (cD c2)
  by_cases c3:p l[k]=aD
  ·rw[rj c2 c3 h2]
   rw[c3]at gL;clear hp h2 eL
   repeat(first|refine GA ?_|refine gV (aX bM.eq aK.ty I I c2) ?_|refine gV (a8 aK.ty I I du) ?_)
   refine aV (B3 FK I I) (λw hm=>gL w hm.below) I I I ?_;intro _ _
   try refine GA ?_
   exact eM
  have NM:p l[k]=false:=by simpa using c3
  rw[NM]at gL;clear hp eL c3
  repeat(first|refine GA ?_|refine gV (aX bM.eq aK.ty I I c2) ?_|refine gV (a8 aK.ty I I du) ?_)
  refine aV (B3 FK I I) (λw hm=>gL w hm.below) I I I ?_;intro _ _
  try refine GA ?_
  exact bY (k+1) ⟨by omega,λj hj h=>if e:j<k then h2 j hj e else(by obtain rfl:j=k:=J;exact NM)⟩ (by show l.length-(k+1)<l.length-k;omega)
 ·rw[rl λj hj=>h2 j hj J]
  clear hp h2 eL
  try refine GA ?_
  exact eM
theorem m_(v:Value)(l:List Ev)(w:World)(hs:Sl w v l.length (l.flatMap tE))(pw:FuncId)(first cp:Array Value)(p:Ev->Bool)(FK:Enters aB pw)
 (hp:∀a∈l,∀w',Gr w w'->Calls aB pw (first++#[(aQ (tE a).toArray)]++cp) w' (cB (ret (.bool (p a))) w')):
 Calls aB 89 #[v,.func (.func pw) first cp] w (cB (ret (.bool (l.any p))) w):=by
 refine enter (args:=[v,.func (.func pw) first cp]) (n:=9) Tryz.func89 I I I ?_;have hh:=λw' (hg:Gr w w')=>yz v l w' (hs.gr hg) pw first cp p FK λa ha Cr yW=>hp a ha Cr (hg.trans yW);have hr:=o_ p l;rw[<-uh p l];generalize ri p l=r at*
 try refine GA ?_
 refine aV (fO aI.en I I I) (λw hm=>hh _ hm.below) I I I ?_;intro _ _
 repeat(first|refine GC ?_|refine gV (eU I I I) ?_|refine GB ?_)
 exact eM
theorem pW(v:Value)(l:List Ev)(w:World)(hs:Sl w v l.length (l.flatMap tE))(hl:l.length*16<=140737488355328):
 Calls aB 65 #[v] w (cB (cK 168 2 l.length (l.flatMap tE) id) w):=by
 obtain⟨base,cap,rfl,ly,kl,eL⟩:=hs;unfold maxLen at kl;refine enter (args:=[ap base l.length cap]) (n:=8) Tryz.func65 I I I ?_;have ry:∀w',Gr w w'->Sl w' (ap base l.length cap) l.length (l.flatMap tE):=λw' hg=>Sl.gr ⟨base,cap,rfl,ly,kl,eL⟩ hg;clear eL
 cases base with
 | none=>
  repeat(first|refine GC ?_|refine gV (jV bM.eq I I I) ?_|refine GB ?_)
  have h0:l=[]:=by
   cases l with
   |nil=>rfl
   |cons x l=>obtain⟨_,_,h,_,_,h2⟩:=ry w (Gr.refl w);simp only[iX]at h;obtain⟨rfl,_⟩:=h;obtain⟨b,off,h,_⟩:=h2 (by simp);cases h
  subst h0;refine dK 168 2 ?_;exact cJ I I λw hm=>hm.meets (S:=cK 168 2 0 [] id) _ trivial [0] aiT I
 |some p=>
  repeat(first|refine GC ?_|refine gV (jV bM.eq I I I) ?_|refine GB ?_)
  refine wq I λg=>?_
  try refine GA ?_
  refine eK (i:=0) I (λw' hm=>ry w' hm.below) I I (k9 zP l) (aan l) J J I λv'=>?_;rw[eu]
  try refine GA ?_
  refine cJ I I λw hm=>?_;exact hm.meets (S:=cK 168 2 l.length (l.flatMap tE) id) v' trivial [0] aiT (by simp[cK])
end cI
namespace cI
open Go.RowKit cU dS iz
theorem jR{v:Value}{c g:Int}(h:v.oneCell'=aD):(#[v,av az c,av az g]:Array Value).toList.all eZ=true:=by
 simp only[cZ,db,h];rfl
def zQ(v:Value)(c g:Int):Value:=aQ #[v,av az c,av az g]
theorem s9(v:Value)(wait:List Ev)(c g:Int)(w:World)(hs:Sl w v wait.length (wait.flatMap tE)):
 Calls aB 59 #[zQ v c g] w (cB (ret (av az (b_ wait c g))) w):=by
 have KJ:=λw' (hg:Gr w w')=>m_ v wait w' (hs.gr hg) 90 #[] #[] rZ aI.en (λa _ Cr _=>H9 a Cr);obtain⟨base,cap,rfl,ly,kl,eL⟩:=hs;unfold maxLen at kl;clear eL;refine enter (args:=[zQ (ap base wait.length cap) c g]) (n:=32) Tryz.func59 I I I ?_;refine cC (bz (bR I I I λgb=>?_))
 repeat' (first
  |refine QV QP ?_
  |refine QZ ?_
  |refine qcT I ?_
  |refine qcF I ?_
  |refine qs I I I I I I ?_
  |(((try refine qg I I I ?_);first|refine QV QP ?_|refine QV (aC aK.ty I (aH (i:=0) I I)) ?_|refine QV QL ?_|refine QV QA ?_|refine QV QlT ?_|refine QV QlF ?_|refine QV QgT ?_|refine QV QgF ?_))
  |refine tY (dQ I I I) I I I (λh=>?_) (λh=>?_)
  |refine oZ (dQ I I I) I I I I I (λh=>?_) (λh=>?_)
  |refine tY (dT I I I) I I I (λh=>?_) (λh=>?_)
  |refine oZ (dT I I I) I I I I I (λh=>?_) (λh=>?_)
  |refine mv (fO aI.en I I I) (λw hm=>KJ _ hm.below) I I I I I (λ_ _=>?_)
  |((fail_if_success (refine Ix I ?_));(fail_if_success (refine Iy I ?_));refine Rh I (λh=>?_) (λh=>?_))
  |((fail_if_success (refine Ol I I I ?_));(fail_if_success (refine Om I I I ?_));refine Ai I I I (λh=>?_) (λh=>?_)))
 all_goals (refine dD I I ?_;unfold b_;repeat (first|rfl|rw[if_pos (by first|omega|assumption)]|rw[if_neg (by first|omega|assumption|simp only[*,Bool.false_eq_true,not_false_eq_true])]))
theorem v_(v:Value)(wait:List Ev)(c g:Int)(w:World)(hs:Sl w v wait.length (wait.flatMap tE))(hl:wait.length*16<=140737488355328):
 Calls aB 58 #[zQ v c g] w (cB (cK 168 2 wait.length (wait.flatMap tE) λv=>zQ v c g) w):=by
 have gL:=λw' (hg:Gr w w')=>pW v wait w' (hs.gr hg) hl;refine enter (args:=[zQ v c g]) (n:=8) Tryz.func58 I I I ?_;refine cC (bz (bR I I I λgb=>aY I λg2=>?_))
 repeat(first|refine GA ?_|refine gV (aC aK.ty I (aH (i:=0) I I)) ?_)
 refine aV (hZ aI.en I I) (λw hm=>gL _ hm.below) I I I ?_;intro v2 _
 try refine GA ?_
 refine aU (i:=2) I λnU my=>?_;refine bU (i:=0) I I I nU my I ?_
 repeat(first|refine GA ?_|refine gV (aO (i:=0) aK.ty I I I) ?_)
 refine aW (i:=1) I I I I (jR my) I ?_
 try refine GA ?_
 exact fL (i:=1) I I I I λw hm=>hm.meets (S:=cK 168 2 wait.length (wait.flatMap tE) λv=>zQ v c g) v2 trivial [2] aiT I
def QU(m:List Ev)(c g e:Int):Spec Value:=cK 168 2 m.length (m.flatMap tE) λv=> .tuple #[zQ v c g,av az e]
theorem QX(v:Value)(wait:List Ev)(c g:Int)(vl:Value)(l:List Ev)(w:World)(hs:Sl w v wait.length (wait.flatMap tE))(hl:wait.length*16<=140737488355328)(zT:Sl w vl l.length (l.flatMap tE)):
 Calls aB 126 #[zQ v c g,vl] w (cB (QU (Kf wait c g l) c g (Gl wait c g l)) w):=by
 have iW:=λw' (hg:Gr w w')=>s9 v wait c g w' (hs.gr hg);have hsm:=λw' (hg:Gr w w')=>v_ v wait c g w' (hs.gr hg) hl;have KJ:=λw' (hg:Gr w w')=>m_ vl l w' (zT.gr hg) 90 #[] #[] rZ aI.en (λa _ Cr _=>H9 a Cr);have ry:∀L,SlL w L vl l.length (l.flatMap tE):=λL w' hm=>zT.gr hm.below;obtain⟨base,cap,rfl,ly,kl,_⟩:=hs;obtain⟨adu,O6,rfl,aii,ag4,_⟩:=zT;unfold maxLen at kl ag4;refine enter (args:=[zQ (ap base wait.length cap) c g,ap adu l.length O6]) (n:=35) Tryz.func126 I I I ?_;refine cC (bz (bR I I I λg0=>aY I λg4=>?_));have lq:=acF (wait:=wait) (c:=c) (g:=g) (l:=l);generalize hE:Gl wait c g l=E at*
 repeat(first|refine GA ?_|refine gV (aO (i:=0) aK.ty I I I) ?_)
 refine aV (hZ aI.en I I) (λw hm=>iW _ hm.below) I I I ?_;intro _ _
 repeat(first|refine QV QP ?_|refine kI ?_|refine lQ ?_|refine QV QL ?_|refine QV QA ?_|refine QV QgT ?_|refine QV QgF ?_|refine QV QeT ?_|refine QV QeF ?_|refine QV QnT ?_|refine QV QnF ?_|refine QV QaS ?_)
 refine Wt (ι:=Unit) (λ_=>True) (λ_=>[(1,ap adu l.length O6),(2,aJ (aj ⟨g0,0,ak⟩)),(4,aJ (aj ⟨g4,0,ak⟩)),(6,av az E)]) (λ_=>[aP g0 (zQ (ap base wait.length cap) c g).cells 100,aP g4 #[ap ak 0 0,av az 0,av az 0] 100]) ?_ ?_
 ·unfold Gl at hE
  by_cases c1:b_ wait c g=0
  ·rw[if_neg (by simpa using c1)]at hE
   by_cases c2:l.any rZ=aD
   ·rw[if_pos c2]at hE
    subst hE;rw[c2]at KJ;rw[c1]
    try refine GA ?_
    refine aV (fO aI.en I I I) (λw hm=>KJ _ hm.below) I I I ?_;intro _ _
    try refine GA ?_
    exact dE () trivial (by repeat' (first|exact bZ|refine bX I ?_)) I
   rw[if_neg c2]at hE;have Vx:l.any rZ=false:=by simpa using c2
   rw[Vx]at KJ;rw[c1]
   by_cases c3:4200<wait.length+l.length
   ·rw[if_pos c3]at hE
    subst hE
    try refine GA ?_
    refine aV (fO aI.en I I I) (λw hm=>KJ _ hm.below) I I I ?_;intro _ _
    repeat(first|refine GA ?_|refine gV (aC aK.ty I (aH (i:=0) I I)) ?_)
    exact dE () trivial (by repeat' (first|exact bZ|refine bX I ?_)) I
   rw[if_neg c3]at hE;subst hE
   try refine GA ?_
   refine aV (fO aI.en I I I) (λw hm=>KJ _ hm.below) I I I ?_;intro _ _
   repeat(first|refine GA ?_|refine gV (aC aK.ty I (aH (i:=0) I I)) ?_)
   exact dE () trivial (by repeat' (first|exact bZ|refine bX I ?_)) I
  rw[if_pos c1]at hE;subst hE
  try refine GA ?_
  exact dE () trivial (by repeat' (first|exact bZ|refine bX I ?_)) I
 ·intro _ _
  repeat(first|refine GA ?_|refine gV (aO (i:=0) aK.ty I I I) ?_)
  refine aV (hZ aI.en I I) (λw hm=>hsm _ hm.below) I I I ?_;intro v2 _;refine aU (i:=2) I λnU my=>?_;refine aY I λg7=>?_;refine aW (i:=3) I I I I (jR my) I ?_
  by_cases c1:E=0
  ·have hw:Kf wait c g l=wait++l:=by unfold Kf;rw[hE,if_pos c1]
   subst c1;obtain⟨_,_,k3⟩:=lq rfl;rw[hw]
   repeat(first|refine GA ?_|refine gV (aC aK.ty I (aH (i:=3) I I)) ?_)
   refine eK (i:=2) I (ry _) I I (k9 zP l) (aan l) J J I λv'=>?_
   try refine GA ?_
   refine aU (i:=2) I λwt Cv=>?_;refine bU (i:=3) I I I wt Cv I ?_
   repeat(first|refine GA ?_|refine gV (aO (i:=3) aK.ty I I I) ?_)
   refine aW (i:=1) I I I I (jR Cv) I ?_
   try refine GA ?_
   exact eE (i:=1) I I I I I λw hm=>hm.meets (S:=QU (wait++l) c g 0) v' trivial [2] aiT (by simp[QU,cK])
  have hw:Kf wait c g l=wait:=by unfold Kf;rw[hE,if_neg c1]
  rw[hw]
  repeat(first|refine GA ?_|refine gV (aO (i:=3) aK.ty I I I) ?_)
  refine aW (i:=1) I I I I (jR my) I ?_
  try refine GA ?_
  exact eE (i:=1) I I I I I λw hm=>hm.meets (S:=QU wait c g E) v2 trivial [2] aiT I
end cI
namespace cI
open Go.RowKit cU dS iz
theorem Km(v:Value)(wait:List Ev)(c g n:Int)(w:World)(hs:Sl w v wait.length (wait.flatMap tE))(hl:wait.length*16<=140737488355328):
 Calls aB 31 #[zQ v c g,av az n] w (cB (QU wait (yx wait c g n) g (oe wait c g n)) w):=by
 have iW:=λw' (hg:Gr w w')=>s9 v wait c g w' (hs.gr hg);have hsm:=λw' (hg:Gr w w')=>v_ v wait c g w' (hs.gr hg) hl;have lq:=Vb (wait:=wait) (c:=c) (g:=g) (n:=n);have wt:=cP (wait:=wait) (c:=c) (g:=g);obtain⟨base,cap,rfl,ly,kl,_⟩:=hs;unfold maxLen at kl;refine enter (args:=[zQ (ap base wait.length cap) c g,av az n]) (n:=32) Tryz.func31 I I I ?_;refine cC (bz (bR I I I λg0=>aY I λg4=>?_))
 repeat(first|refine QV QP ?_|refine kI ?_|refine lQ ?_|refine qs I I I I I I ?_|((try refine qg I I I ?_);first|refine QV QP ?_|refine QV QA ?_|refine QV (De I I J) ?_|refine QV QeT ?_|refine QV QeF ?_|refine QV QaA ?_|refine QV QlT ?_|refine QV QlF ?_|refine QV QgT ?_|refine QV QgF ?_))
 refine Wt (ι:=Value×Nat) (λ(v2,_)=>v2.oneCell'=aD) (λ(v2,g6)=>[(1,av az n),(4,aJ (aj ⟨g4,0,ak⟩)),(6,aJ (aj ⟨g6,0,ak⟩)),(7,av az (b_ wait c g))]) (λ(v2,g6)=>[aP g4 #[ap ak 0 0,av az 0,av az 0] 100,a_ 168 2 v2 wait.length (wait.flatMap tE),aP g6 (zQ v2 c g).cells 100]) ?_ ?_
 ·refine dN ([aP g0 (zQ (ap base wait.length cap) c g).cells 100]) (.calm 0 (.calm 2 (.two 1 (.calm 3 (.one 4 (.one 5 (.calm 6 (.done))))) 4 (.one 1 (.calm 3 (.one 5 (.calm 6 (.done)))))))) (bW [0]) ?_
  repeat(first|refine GW ?_|(refine GN ?_;first|refine QW (aO (i:=0) aK.ty I I I) ?_))
  refine eG I I ?_ ?_
  ·refine aV (hZ aI.en I I) (λw hm=>hsm _ hm.below) I I I ?_
   intro v2 _;refine aM (bW [0]) ?_;refine ow I (hZ aI.en I I) (λw hm=>iW _ hm.below) I I I ?_;refine aL I (aY I λg6=>aM (bW [0]) ?_);refine aL I ?_;refine aU (i:=2) I λnU my=>?_;refine aW (i:=3) I I I I (jR my) I ?_;refine aM (bW [0]) ?_
   try refine GW ?_
   refine dj [1,2,3] ?_;exact dE (v2,g6) my (by repeat' (first|exact bZ|refine bX I ?_)) I
  refine aY I λg6=>?_;refine aM (bW [0]) ?_;refine aL I ?_;refine aV (hZ aI.en I I) (λw hm=>hsm _ hm.below) I I I ?_;intro v2 _;refine aM (bW [0]) ?_;refine ow I (hZ aI.en I I) (λw hm=>iW _ hm.below) I I I ?_;refine aL I ?_;refine aU (i:=3) I λnU my=>?_;refine aW (i:=2) I I I I (jR my) I ?_;refine aM (bW [0]) ?_
  try refine GW ?_
  refine dj [1,3,2] ?_;exact dE (v2,g6) my (by repeat' (first|exact bZ|refine bX I ?_)) I
 rintro⟨v2,g6⟩ my;dsimp only at my⊢;unfold yx oe at*
 by_cases c1:b_ wait c g=0
 ·obtain⟨_,b1,b2,_⟩:=wt c1
  rw[c1];simp only[ne_eq,not_true_eq_false,if_false]
  by_cases c2:n<1
  ·rw[if_pos c2]
   repeat(first|refine GA ?_|refine gV (aO (i:=2) aK.ty I I I) ?_)
   refine aW (i:=0) I I I I (jR my) I ?_
   try refine GA ?_
   exact eE (i:=0) I I I I I λw hm=>hm.meets (S:=QU wait c g 1) v2 trivial [1] aiT I
  rw[if_neg c2]
  by_cases c3:1073741824<n
  ·rw[if_pos c3]
   repeat(first|refine GA ?_|refine gV (aO (i:=2) aK.ty I I I) ?_)
   refine aW (i:=0) I I I I (jR my) I ?_
   try refine GA ?_
   exact eE (i:=0) I I I I I λw hm=>hm.meets (S:=QU wait c g 1) v2 trivial [1] aiT I
  rw[if_neg c3]
  repeat(first|refine GC ?_|refine gV (aC aK.ty I (aH (i:=2) I I)) ?_|refine gV (De I I I) ?_|refine GB ?_)
  refine bU (i:=2) I I I I I I ?_
  repeat(first|refine GA ?_|refine gV (aO (i:=2) aK.ty I I I) ?_)
  refine aW (i:=0) I I I I (jR my) I ?_
  try refine GA ?_
  exact eE (i:=0) I I I I I λw hm=>hm.meets (S:=QU wait (min (c+n) 1073741824) g 0) v2 trivial [1] aiT I
 ·rw[if_pos c1,if_neg c1]
  repeat(first|refine GA ?_|refine gV (aO (i:=2) aK.ty I I I) ?_)
  refine aW (i:=0) I I I I (jR my) I ?_
  try refine GA ?_
  exact eE (i:=0) I I I I I λw hm=>hm.meets (S:=QU wait c g (b_ wait c g)) v2 trivial [1] aiT I
def taS(wait:List Ev)(c g n:Int):Spec (Value×Value):=
 if H6 wait c g n=0 then
  ⟨λ_=>True,λx=> .tuple #[zQ x.1 (c-takeN wait c n) (g+takeN wait c n),x.2,av az 0],λx=>[a_ 168 2 x.1 (wait.length-takeN wait c n) ((wait.drop (takeN wait c n)).flatMap tE),a_ 168 2 x.2 (takeN wait c n) ((wait.take (takeN wait c n)).flatMap tE)]⟩
 else⟨λ_=>True,λx=> .tuple #[zQ x.1 c g,x.2,av az (H6 wait c g n)],λx=>[a_ 168 2 x.1 wait.length (wait.flatMap tE),a_ 168 2 x.2 0 []]⟩
theorem Nn(v:Value)(wait:List Ev)(c g n:Int)(w:World)(hs:Sl w v wait.length (wait.flatMap tE))(hl:wait.length*16<=140737488355328):
 Calls aB 33 #[zQ v c g,av az n] w (cB (taS wait c g n) w):=by
 have iW:=λw' (hg:Gr w w')=>s9 v wait c g w' (hs.gr hg);have hsm:=λw' (hg:Gr w w')=>v_ v wait c g w' (hs.gr hg) hl;have wt:=cP (wait:=wait) (c:=c) (g:=g);obtain⟨base,cap,rfl,ly,kl,_⟩:=hs;unfold maxLen at kl;refine enter (args:=[zQ (ap base wait.length cap) c g,av az n]) (n:=55) Tryz.func33 I I I ?_;refine cC (bz (bR I I I λg0=>aY I λg4=>?_))
 repeat(first|refine QV QP ?_|refine kI ?_|refine lQ ?_|refine qs I I I I I I ?_|((try refine qg I I I ?_);first|refine QV QP ?_|refine QV QL ?_|refine QV QA ?_|refine QV (De I I J) ?_|refine QV QeT ?_|refine QV QeF ?_|refine QV QnT ?_|refine QV QnF ?_|refine QV QaA ?_|refine QV QaS ?_|refine QV QlT ?_|refine QV QlF ?_))
 refine Wt (ι:=Value×Nat) (λ(v2,_)=>v2.oneCell'=aD) (λ(v2,g6)=>[(1,av az n),(4,aJ (aj ⟨g4,0,ak⟩)),(7,aJ (aj ⟨g6,0,ak⟩)),(8,av az (b_ wait c g))]) (λ(v2,g6)=>[aP g4 #[ap ak 0 0,av az 0,av az 0] 100,a_ 168 2 v2 wait.length (wait.flatMap tE),aP g6 (zQ v2 c g).cells 100]) ?_ ?_
 ·refine dN ([aP g0 (zQ (ap base wait.length cap) c g).cells 100]) (.calm 0 (.calm 2 (.two 1 (.calm 3 (.one 4 (.one 5 (.calm 6 (.done))))) 4 (.one 1 (.calm 3 (.one 5 (.calm 6 (.done)))))))) (bW [0]) ?_
  repeat(first|refine GW ?_|(refine GN ?_;first|refine QW (aO (i:=0) aK.ty I I I) ?_))
  refine eG I I ?_ ?_
  ·refine aV (hZ aI.en I I) (λw hm=>hsm _ hm.below) I I I ?_
   intro v2 _;refine aM (bW [0]) ?_;refine ow I (hZ aI.en I I) (λw hm=>iW _ hm.below) I I I ?_;refine aL I (aY I λg6=>aM (bW [0]) ?_);refine aL I ?_;refine aU (i:=2) I λnU my=>?_;refine aW (i:=3) I I I I (jR my) I ?_;refine aM (bW [0]) ?_
   try refine GW ?_
   refine dj [1,2,3] ?_;exact dE (v2,g6) my (by repeat' (first|exact bZ|refine bX I ?_)) I
  refine aY I λg6=>?_;refine aM (bW [0]) ?_;refine aL I ?_;refine aV (hZ aI.en I I) (λw hm=>hsm _ hm.below) I I I ?_;intro v2 _;refine aM (bW [0]) ?_;refine ow I (hZ aI.en I I) (λw hm=>iW _ hm.below) I I I ?_;refine aL I ?_;refine aU (i:=3) I λnU my=>?_;refine aW (i:=2) I I I I (jR my) I ?_;refine aM (bW [0]) ?_
  try refine GW ?_
  refine dj [1,3,2] ?_;exact dE (v2,g6) my (by repeat' (first|exact bZ|refine bX I ?_)) I
 rintro⟨v2,g6⟩ my;dsimp only at my⊢;unfold taS H6
 by_cases c1:b_ wait c g=0
 ·obtain⟨b0,b1,b2,b3,b4,_⟩:=wt c1
  rw[c1];simp only[ne_eq,not_true_eq_false,if_false]
  by_cases c2:n<0
  ·rw[if_pos c2,if_neg aiT]
   repeat(first|refine GA ?_|refine gV (aO (i:=2) aK.ty I I I) ?_)
   refine aW (i:=0) I I I I (jR my) I ?_
   try refine GA ?_
   refine dK 168 2 ?_;exact fm (i:=0) I I I I I I λw hm=>hm.meets (S:=⟨λ_=>True,λ(x:Value×Value)=> .tuple #[zQ x.1 c g,x.2,av az 1],λx=>[a_ 168 2 x.1 wait.length (wait.flatMap tE),a_ 168 2 x.2 0 []]⟩) (v2,ap ak 0 0) trivial [1,3] aiT I
  rw[if_neg c2,if_pos I];have hN:(takeN wait c n:Int)=min n (min c wait.length):=by unfold takeN;omega
  have Xs:takeN wait c n<=wait.length:=by omega
  generalize takeN wait c n=N at*;have ah7:=λv' w' (hx:Sl w' v' ((wait.drop 0).take (N-0)).length (((wait.drop 0).take (N-0)).flatMap tE))=>pW v' ((wait.drop 0).take (N-0)) w' hx (by simp;omega);have ah8:=λv' w' (hx:Sl w' v' ((wait.drop N).take (wait.length-N)).length (((wait.drop N).take (wait.length-N)).flatMap tE))=>pW v' ((wait.drop N).take (wait.length-N)) w' hx (by simp;omega);refine IG (i:=1) I λb2 O6 lC q1 q2=>?_;subst lC
  repeat(first|refine GC ?_|refine gV (aC aK.ty I (aH (i:=2) I I)) ?_|refine gV (aaR I I I hN.symm) ?_|refine gV (GS bM.eq aK.ty I I J) ?_|refine GB ?_)
  refine aV (hZ aI.en I I) (λw hm=>ah7 _ _ (Dq zP (lR (i:=1) I w hm) J Xs)) I I I ?_;intro vg _
  repeat(first|refine GC ?_|refine gV (aC aK.ty I (aH (i:=2) I I)) ?_|refine gV (rm bM.eq aK.ty I I Xs q1) ?_|refine GB ?_)
  refine aV (hZ aI.en I I) (λw hm=>ah8 _ _ (Dq zP (lR (i:=1) I w hm) Xs J)) I I I ?_;intro vw _
  try refine GA ?_
  refine aU (i:=4) I λhc3 ho3=>?_;refine bU (i:=2) I I I hc3 ho3 I ?_
  repeat(first|refine GA ?_|refine gV (aC aK.ty I (aH (i:=2) I I)) ?_)
  refine bU (i:=2) I I I I I I ?_
  repeat(first|refine GA ?_|refine gV (aC aK.ty I (aH (i:=2) I I)) ?_)
  refine bU (i:=2) I I I I I I ?_
  repeat(first|refine GA ?_|refine gV (aO (i:=2) aK.ty I I I) ?_)
  refine aW (i:=0) I I I I (jR ho3) I ?_
  try refine GA ?_
  have e1:(wait.drop 0).take (N-0)=wait.take N:=by simp
  have e2:(wait.drop N).take (wait.length-N)=wait.drop N:=List.take_of_length_le (by simp);have e3:(wait.take N).length=N:=by simp;omega
  have e4:(wait.drop N).length=wait.length-N:=by simp
  refine fm (i:=0) I I I I I I λw hm=>hm.meets (S:=⟨λ_=>True,λ(x:Value×Value)=> .tuple #[zQ x.1 (c-N) (g+N),x.2,av az 0],λx=>[a_ 168 2 x.1 (wait.length-N) ((wait.drop N).flatMap tE),a_ 168 2 x.2 N ((wait.take N).flatMap tE)]⟩) (vw,vg) trivial [4,3] aiT ?_;show _=[a_ 168 2 vw ((wait.drop N).take (wait.length-N)).length (((wait.drop N).take (wait.length-N)).flatMap tE),a_ 168 2 vg ((wait.drop 0).take (N-0)).length (((wait.drop 0).take (N-0)).flatMap tE)]
  rw[e1,e2,e3,e4]
 ·rw[if_pos c1,if_neg (by simpa using c1)]
  repeat(first|refine GA ?_|refine gV (aO (i:=2) aK.ty I I I) ?_)
  refine aW (i:=0) I I I I (jR my) I ?_
  try refine GA ?_
  refine dK 168 2 ?_;exact fm (i:=0) I I I I I I λw hm=>hm.meets (S:=⟨λ_=>True,λ(x:Value×Value)=> .tuple #[zQ x.1 c g,x.2,av az (b_ wait c g)],λx=>[a_ 168 2 x.1 wait.length (wait.flatMap tE),a_ 168 2 x.2 0 []]⟩) (v2,ap ak 0 0) trivial [1,3] aiT I
end cI
namespace cI
open Go.RowKit cU dS cT mM
def gX(a:Int)(u:List UInt8)(e:Int):List Value:=[av az a,str u,av az e]
def acG(c:Int)(a:Int)(u:List UInt8)(e:Int):Int:=if c≠0 then c else if a<0\/1099511627776<a\/64<u.length then 1 else if e≠0 then 15 else 0
theorem tp(o:Of)(vn vt:Value)(N:List (List Int))(tags:List Int)(a:Int)(u:List UInt8)(e:Int)(w:World)(h:VC w vn vt N tags)(ho:∀b (h:b<256),o[b]<256)(hu:u.length<=9223372036854775807):
 Calls aB 94 #[NR o vn vt,aQ (gX a u e).toArray] w (cB (ret (av az (acG (zM o N tags) a u e))) w):=by
 have iW:=λw' (hg:Gr w w')=>BN o vn vt N tags w' (h.gr hg) ho;obtain⟨⟨an,cn,rfl,-⟩,at',ct,rfl,-⟩:=h;generalize zM o N tags=c at*;unfold acG;refine enter (args:=[NR o (ap an N.length cn) (ap at' tags.length ct),aQ (gX a u e).toArray]) (n:=30) Tryz.func94 I I I ?_;refine cC (bz (bR I I I λg2=>bR I I I λg3=>?_));refine zL ?_
 repeat(first|refine GA ?_|refine gV (aO (i:=0) aK.ty I I (kA _ _ _)) ?_)
 refine aV (hZ aI.en I I) (λw hm=>iW _ hm.below) I I I ?_;intro _ _;refine zL ?_
 by_cases c1:c=0
 ·rw[if_neg (by simpa using c1)]
  by_cases c2:a<0
  ·rw[if_pos (.inl c2)]
   repeat(first|refine GC ?_|refine gV (dr (b:=aE) I I (decide_eq_false (by simpa using c1))) ?_|refine gV (aC (v:=av az a) aK.ty I (aH (i:=1) I I)) ?_|refine gV (dQ (b:=aD) I I (decide_eq_true c2)) ?_|refine GB ?_)
   exact dD I I I
  by_cases c3:1099511627776<a
  ·rw[if_pos (.inr (.inl c3))]
   repeat(first|refine GC ?_|refine gV (dr (b:=aE) I I (decide_eq_false (by simpa using c1))) ?_|refine gV (aC (v:=av az a) aK.ty I (aH (i:=1) I I)) ?_|refine gV (dQ (b:=aE) I I (decide_eq_false c2)) ?_|refine gV (dT (b:=aD) I I (decide_eq_true c3)) ?_|refine GB ?_)
   exact dD I I I
  by_cases c4:64<u.length
  ·rw[if_pos (.inr (.inr c4))]
   repeat(first|refine GC ?_|refine gV (dr (b:=aE) I I (decide_eq_false (by simpa using c1))) ?_|refine gV (aC (v:=av az a) aK.ty I (aH (i:=1) I I)) ?_|refine gV (aC (v:=str u) aK.ty I (aH (i:=1) I I)) ?_|refine gV (dQ (b:=aE) I I (decide_eq_false c2)) ?_|refine gV (dT (b:=aE) I I (decide_eq_false c3)) ?_|refine gV (dT (b:=aD) I I (decide_eq_true J)) ?_|refine GB ?_)
   exact dD I I I
  rw[if_neg J]
  by_cases c5:e=0
  ·rw[if_neg (by simpa using c5)]
   repeat(first|refine GC ?_|refine gV (dr (b:=aE) I I (decide_eq_false (by simpa using c1))) ?_|refine gV (aC (v:=av az a) aK.ty I (aH (i:=1) I I)) ?_|refine gV (aC (v:=str u) aK.ty I (aH (i:=1) I I)) ?_|refine gV (aC (v:=av az e) aK.ty I (aH (i:=1) I I)) ?_|refine gV (dQ (b:=aE) I I (decide_eq_false c2)) ?_|refine gV (dr (b:=aE) I I (decide_eq_false (by simpa using c5))) ?_|refine gV (dT (b:=aE) I I (decide_eq_false c3)) ?_|refine gV (dT (b:=aE) I I (decide_eq_false J)) ?_|refine GB ?_)
   exact dD I I I
  rw[if_pos c5]
  repeat(first|refine GC ?_|refine gV (dr (b:=aE) I I (decide_eq_false (by simpa using c1))) ?_|refine gV (aC (v:=av az a) aK.ty I (aH (i:=1) I I)) ?_|refine gV (aC (v:=str u) aK.ty I (aH (i:=1) I I)) ?_|refine gV (aC (v:=av az e) aK.ty I (aH (i:=1) I I)) ?_|refine gV (dQ (b:=aE) I I (decide_eq_false c2)) ?_|refine gV (dr (b:=aD) I I (decide_eq_true c5)) ?_|refine gV (dT (b:=aE) I I (decide_eq_false c3)) ?_|refine gV (dT (b:=aE) I I (decide_eq_false J)) ?_|refine GB ?_)
  exact dD I I I
 ·rw[if_pos c1]
  repeat(first|refine GC ?_|refine gV (dr (b:=aD) I I (decide_eq_true c1)) ?_|refine GB ?_)
  exact dD I I I
theorem afa{l:List Int}{k:Nat}(h:∀j (h:j<l.length),j<k->l[j]<0)(hk:l.length<=k):(l.any λx=>decide (0<=x))=false:=by
 rw[sX];intro x hx;obtain⟨j,hj,rfl⟩:=hY.1 hx;have:=h j hj J;simp;omega
theorem Fv(o:Of)(vn vt:Value)(N:List (List Int))(tags:List Int)(s:List UInt8)(w:World)(h:VC w vn vt N tags)(hg:q7 o N tags)(hs:s.length<=1000000):
 Calls aB 95 #[NR o vn vt,str s] w (cB (ret (.tuple #[av az (eB o N tags s).1.1,av az ((eB o N tags s).1.2:Int),.bool (eB o N tags s).2])) w):=by
 have vd:=λ{q} hq b=>aeZ hg (q:=q) hq b;have AX:=hg.pos;have hlen:=hg.len;obtain⟨⟨an,cn,rfl,hn1,hn2,hn3⟩,at',ct,rfl,ht1,Vr,KI⟩:=h;unfold maxLen at hn2 Vr;obtain⟨bn,M4,rfl,_,KV⟩:=hn3 J;obtain⟨bt,J4,rfl,htd⟩:=KI J;clear hn3 KI hg;refine enter (args:=[NR o (ap (aj ⟨bn,M4,ak⟩) N.length cn) (ap (aj ⟨bt,J4,ak⟩) tags.length ct),str s]) (n:=66) Tryz.func95 I I I ?_;refine cC (bz (bR I I I λg2=>?_));refine zL ?_
 try refine GA ?_
 unfold eB;dsimp only;generalize ja:qA o N tags s 0 0 0 0=fin;generalize Vz:H4 o N 0 s=sr;refine ea (ι:=Nat×Nat×Int×Nat) (λ(i,now,r,t)=>i<=s.length/\now<N.length/\t<=i/\(t=0->r=0)/\qA o N tags (s.drop i) i (now:Int) r t=fin/\H4 o N (now:Int) (s.drop i)=sr) (λ(i,now,r,t)=>[(1,str s),(2,aJ (aj ⟨g2,0,ak⟩)),(4,av az r),(5,av az (t:Int)),(7,av az (now:Int)),(12,av az s.length),(13,av az (i:Int))])
  (λ_=>[aP g2 (eY o (ap (aj ⟨bn,M4,ak⟩) N.length cn) (ap (aj ⟨bt,J4,ak⟩) tags.length ct)).toArray 31]) (λ(i,_,_,_)=>s.length-i) (0,0,0,0) ⟨bH _,AX,bH _,λ_=>rfl,ja,Vz⟩ ?_
 rintro⟨i,now,r,t⟩ ⟨i1,i2,i3,i6,i4,i5⟩;dsimp only at i1 i2 i3 i4 i5 i6⊢;clear ja Vz
 by_cases c1:i<s.length
 ·have hne:decide (s≠[])=true:=decide_eq_true (by rintro rfl;simp at c1)
  rw[eN c1,yv]at i4;rw[eN c1,QR]at i5;obtain⟨_,hw,hx0,km,fJ⟩:=vd i2 s[i];have hb:s[(i:Int).toNat]?=aj s[i]:=by rw[dq];exact bD c1
  have hcell:=ae0 (vn:=ap (aj ⟨bn,M4,ak⟩) N.length cn) (vt:=ap (aj ⟨bt,J4,ak⟩) tags.length ct) o s[i];have hb8:=s[i].toNat_lt;obtain⟨u,⟨au,cu,rfl,hcu,hmu,NN⟩,hdu⟩:=AR KV i2;have J5:=λ(L:List cH)=>iI (L:=L) hdu (j:=0) (v:= .slice au N[now].length cu) I;obtain⟨bu,acq,rfl,eL⟩:=NN J;have Gi:=λ(L:List cH)=>gO (L:=L) j0 eL hw 0 _ I;have aao:∀(L:List cH),At (w:bO) L ⟨bu,acq+o[s[i].toNat]*1+0,ak⟩ (av az (Be o N (now:Int) s[i])):=λL=>by rw[hx0];exact Gi L
  clear hdu eL NN Gi hx0 KV;generalize s[i]=b at*;generalize o[b.toNat]=ob at*;generalize Be o N (now:Int) b=x at*;generalize N[now].length=wd at*
  try refine GA ?_
  refine dN ([aP g2 (eY o (ap (aj ⟨bn,M4,ak⟩) N.length cn) (ap (aj ⟨bt,J4,ak⟩) tags.length ct)).toArray 31]) (.calm 0 (.calm 1 (.calm 2 (.calm 3 (.calm 4 (.calm 5 (.calm 6 (.calm 7 (.calm 8 (.calm 9 (.calm 10 (.calm 11 (.calm 12 (.calm 13 (.done))))))))))))))) (λ_ h=>h) ?_
  repeat(first|refine GW ?_|(refine GN ?_;first|refine QW (aC aK.ty I (aH (i:=0) I (lF _ _ _))) ?_|refine QW (aX (j:=now) bM.eq aK.ty I I i2) ?_|refine QW (aC aK.ty I (J5 _)) ?_|refine QW (wj bM.eq I I J hb) ?_|refine QW (hJ bM.eq aK.ty I I hb8) ?_|refine QW (aC aK.ty I (aH (i:=0) I hcell)) ?_|refine QW (aX (j:=ob) bM.eq aK.ty I I hw) ?_|refine QW (aC aK.ty I (aao _)) ?_))
  by_cases q1:x<0
  ·rw[if_pos q1]at i4 i5
   subst i4 i5;rw[hne,vC]
   repeat(first|refine GC ?_|refine gV (dQ (b:=aD) I I (decide_eq_true q1)) ?_|refine GB ?_)
   exact mu I I I I λw hm=>hm.ret
  rw[if_neg q1]at i4 i5;obtain⟨xn,rfl⟩:=h_ (show 0<=x by omega);have hxt:xn<tags.length:=by omega
  have MI:=λ(L:List cH)=>gO (L:=L) j0 htd hxt 0 _ I;rw[dq,b9 (l:=tags),bD hxt,kp]at i4;generalize tags[xn]=tg at*;have adv:∀(L:List cH),At (w:bO) L ⟨bt,J4+xn*1+0,ak⟩ (av az tg):=MI
  by_cases q2:0<=tg
  ·rw[if_pos q2]at i4
   repeat(first|refine GC ?_|refine gV (dQ (b:=aE) I I (decide_eq_false q1)) ?_|refine gV (aC aK.ty I (aH (i:=0) I (nE _ _ _))) ?_|refine gV (aX (j:=xn) bM.eq aK.ty I I hxt) ?_|refine gV (aC (v:=av az tg) aK.ty I (adv _)) ?_|refine gV (eU (b:=aD) I I (decide_eq_true q2)) ?_|refine gV (eT (r:=((i+1:Nat):Int)) I I J J J) ?_|refine GB ?_)
   exact bY (i+1,xn,tg,i+1) ⟨by show i+1<=s.length;omega,by show xn<N.length;omega,bx _,λh=>absurd h (E9 i),i4,i5⟩ (by show s.length-(i+1)<s.length-i;omega)
  rw[if_neg q2]at i4
  repeat(first|refine GC ?_|refine gV (dQ (b:=aE) I I (decide_eq_false q1)) ?_|refine gV (aC aK.ty I (aH (i:=0) I (nE _ _ _))) ?_|refine gV (aX (j:=xn) bM.eq aK.ty I I hxt) ?_|refine gV (aC (v:=av az tg) aK.ty I (adv _)) ?_|refine gV (eU (b:=aE) I I (decide_eq_false q2)) ?_|refine gV (eT (r:=((i+1:Nat):Int)) I I J J J) ?_|refine GB ?_)
  exact bY (i+1,xn,r,t) ⟨by show i+1<=s.length;omega,by show xn<N.length;omega,by show t<=i+1;omega,i6,i4,i5⟩ (by show s.length-(i+1)<s.length-i;omega)
 ·rw[uo J]at i4 i5
  have i4:(r,t)=fin:=i4;subst i4
  by_cases e1:s=[]
  ·have hne:decide (s≠[])=false:=decide_eq_false (by simpa using e1)
   rw[hne,Bool.false_and];subst e1;obtain rfl:i=0:=by simp at i1;exact i1
   obtain rfl:t=0:=by omega
   obtain rfl:=i6 rfl
   repeat(first|refine GC ?_|refine gV (o9 (b:=aD) I I (decide_eq_true I)) ?_|refine GB ?_)
   exact mu I I I I λw hm=>hm.ret
  have hne:decide (s≠[])=true:=decide_eq_true e1;rw[hne,vC];have i5:(!((N.getD ((now:Int).toNat) []).any λx=>decide (0<=x)))=sr:=i5;obtain⟨u,⟨au,cu,rfl,hcu,hmu,NN⟩,hdu⟩:=AR KV i2;have J5:=λ(L:List cH)=>iI (L:=L) hdu (j:=0) (v:= .slice au N[now].length cu) I;rw[dq,b9,bD i2,kp]at i5;clear hdu vd KV i4;generalize N[now]=row at*;unfold maxLen at hmu
  repeat(first|refine GC ?_|refine gV (o9 (b:=aE) I I (decide_eq_false e1)) ?_|refine gV (aC aK.ty I (aH (i:=0) I (lF _ _ _))) ?_|refine gV (aX (j:=now) bM.eq aK.ty I I i2) ?_|refine gV (aC aK.ty I (J5 _)) ?_|refine GB ?_)
  clear J5;refine uc [] ?_;refine ea (ι:=Nat) (λk=>k<=row.length/\∀j (h:j<row.length),j<k->row[j]<0) (λk=>[(4,av az r),(5,av az (t:Int)),(53,ap au row.length cu),(54,av az row.length),(55,av az (k:Int))]) (λ_=>[]) (λk=>row.length-k) 0 ⟨bH _,λj _ h=>absurd h (l5 _)⟩ ?_;rintro k ⟨k1,k2⟩
  by_cases c2:k<row.length
  ·obtain⟨bu,acq,rfl,eL⟩:=NN J
   have Gi:=λ(L:List cH)=>gO (L:=L) j0 eL c2 0 _ I;have hk2:∀(h:row[k]<0),∀j (h:j<row.length),j<k+1->row[j]<0:=λh j hj hjk=>by
    by_cases e:j=k
    subst e;exact h;exact k2 j hj J
   by_cases c3:0<=row[k]
   ·have E7:(row.any λx=>decide (0<=x))=true:=List.any_eq_true.2 ⟨row[k],cD c2,decide_eq_true c3⟩
    rw[E7]at i5;subst i5;clear hk2 E7;generalize row[k]=x at*
    repeat(first|refine GC ?_|refine gV (aX bM.eq aK.ty I I c2) ?_|refine gV (aC (v:=av az x) aK.ty I (Gi _)) ?_|refine gV (eU (b:=aD) I I (decide_eq_true c3)) ?_|refine GB ?_)
    exact mu I I I I λw hm=>hm.ret
   have hk3:=hk2 J;clear hk2;have aao:∀(L:List cH),At (w:bO) L ⟨bu,acq+k*1+0,ak⟩ (av az row[k]):=Gi;clear Gi;generalize hx:row[k]=x at*
   repeat(first|refine GC ?_|refine gV (aX bM.eq aK.ty I I c2) ?_|refine gV (aC (v:=av az x) aK.ty I (aao _)) ?_|refine gV (eU (b:=aE) I I (decide_eq_false c3)) ?_|refine GB ?_)
   exact bY (k+1) ⟨by omega,hk3⟩ (by show row.length-(k+1)<row.length-k;omega)
  rw[afa k2 J]at i5;subst i5
  try refine GA ?_
  exact mu I I I I λw hm=>hm.ret
end cI
namespace cI
open Go.RowKit cU dS cT mM
section
variable{P:Program}{n:Nat}{W:bO}{fr:Fr}{L:List cH}
theorem acH{fn:Func}{R:Ending->World->Prop}{t u:Tmp}{T U:TypeId}{i j g g' c c':Nat}{cs cs':Array Value}{T' U':TypeId}[hT:aK P T aD c][hU:aK P U aD c'](mR:fn.results=#[.cell t T,.cell u U])(hp:look fr t=aj (aJ (aj ⟨g,0,ak⟩)))(hi:L[i]?=aj (aP g cs T'))(hc:cs.size=c)
 (hq:look fr u=aj (aJ (aj ⟨g',0,ak⟩))) (hj:L[j]?=aj (aP g' cs' U')) (hc':cs'.size=c')
 (h:∀w,Mem W L w->R (.returned (.tuple #[.agg cs,.agg cs'])) w):E n W .ret (bodyPost P fn R) fr L:=
 Dc λa w hr tv=>⟨_,by
  have Dk:=run_loadCells_list (P:=P) w ⟨g,0,ak⟩ cs.toList λj v hj=>by rw[eI,cV];exact aH hi (by simpa using hj) w tv
  have hl:(loadCells ⟨g,0,ak⟩ c).run P w= .ok cs w:=by rw[<-hc];simpa using Dk
  have hv:(loadVar T ⟨g,0,ak⟩).run P w= .ok (.agg cs) w:=by simp[loadVar,hT.ty.agg,hT.ty.size,hl]
  have afb:=run_loadCells_list (P:=P) w ⟨g',0,ak⟩ cs'.toList λj v oU=>by rw[eI,cV];exact aH hj (by simpa using oU) w tv
  have hl':(loadCells ⟨g',0,ak⟩ c').run P w= .ok cs' w:=by rw[<-hc'];simpa using afb
  have OL:(loadVar U ⟨g',0,ak⟩).run P w= .ok (.agg cs') w:=by simp[loadVar,hU.ty.agg,hU.ty.size,hl']
  simp[results,mR,Array.getD_eq_getD_getElem?,hr.get t _ hp,hr.get u _ hq,asAddr,hv,OL],h w tv⟩
end
theorem No(a:Int)(u:List UInt8)(w:World):(dh 97 #[(0,av az a),(1,str u)]).run aB w= .ok (aQ (gX a u 0).toArray) w:=by
 unfold gX str;go_simp
theorem BW(a e:Int)(w:World):(dh 97 #[(0,av az a),(2,av az e)]).run aB w= .ok (aQ (gX a [] e).toArray) w:=by
 unfold gX str;go_simp
theorem QY(r a b:Int)(w:World):(dh 163 #[(0,av az r),(1,av az a),(2,av az b)]).run aB w= .ok (aQ #[av az r,av az a,av az b]) w:=by
 go_simp
theorem H_(a:Nat)(u:List UInt8)(e r:Int)(t:Nat)(w:World)(ha:a<=9223372036854775)(ht:t<=u.length)(hu:u.length<=1000000):
 Calls aB 96 #[aQ (gX a u e).toArray,av az r,av az (t:Int)] w (cB (ret (.tuple #[aQ (gX ((a+t:Nat):Int) (u.drop t) 0).toArray,aQ (sY (r,a,a+t)).toArray])) w):=by
 have hb:=QY r a ((a+t:Nat):Int);have NK:=No ((a+t:Nat):Int) (u.drop t);refine enter (args:=[aQ (gX a u e).toArray,av az r,av az (t:Int)]) (n:=25) Tryz.func96 I I I ?_;refine cC (bz (bR I I I λg3=>aY I λg6=>aY I λg7=>?_));refine zL ?_
 repeat(first|refine GC ?_|refine gV (aC (v:=av az (a:Int)) aK.ty I (aH (i:=0) I I)) ?_|refine gV (eT (r:=((a+t:Nat):Int)) I I J J J) ?_|refine gV (bB I hb) ?_|refine GB ?_)
 refine aY I λg8=>?_;refine zL ?_;refine gC 3 (cs':=(sY (r,a,a+t)).toArray) ?_;refine zL ?_
 try refine GA ?_
 refine dN ([aP g3 (gX a u e).toArray 97,aP g8 (sY (r,a,a+t)).toArray 163]) (.calm 0 (.calm 1 (.calm 2 (.calm 3 (.calm 4 (.calm 5 (.calm 6 (.calm 7 (.one 8 (.one 9 (.done))))))))))) (bW [0,3]) ?_
 repeat(first|refine GW ?_|(refine GN ?_;first|refine QW (aC (v:=av az ((a+t:Nat):Int)) aK.ty I (aH (i:=1) I I)) ?_|refine QW (aC (v:=str u) aK.ty I (aH (i:=0) I I)) ?_|refine QW (Dg bM.eq I I ht) ?_|refine QW (bB I NK) ?_|refine QW (aO (i:=1) aK.ty I I I) ?_))
 refine aL I ?_;refine gC 1 (cs':=(gX ((a+t:Nat):Int) (u.drop t) 0).toArray) ?_;refine zL ?_;refine aM (bW [0,3]) ?_
 try refine GW ?_
 refine aL I ?_;refine gC 2 (cs':=(sY (r,a,a+t)).toArray) ?_;refine zL ?_;refine aM (bW [0,3]) ?_
 try refine GW ?_
 try refine GA ?_
 exact acH (i:=1) (j:=2) I I I I I I I λw hm=>hm.ret
end cI
namespace cI
open Go.RowKit cU dS cT mM
def H'(R:List Tok×Nat×List UInt8×Int):Spec Value:=⟨λ_=>True,λv=> .tuple #[aQ (gX (R.2.1:Int) R.2.2.1 R.2.2.2).toArray,v,av az R.2.2.2],λv=>[Fh v R.1]⟩
theorem SU{c:Int}{a:Nat}{u:List UInt8}(hc:c=0)(ha:a<=1099511627776)(hu:u.length<=64):acG c a u 0=0:=by
 unfold acG;rw[if_neg (by simpa using hc),if_neg J,if_neg aiT]
theorem sub_one{l:List UInt8}{i:Nat}(h:i<l.length):(l.drop i).take (i+1-i)=[l[i]]:=by
 rw[Nat.add_sub_cancel_left,eN h];rfl
theorem Gm(o:Of)(vn vt:Value)(N:List (List Int))(tags:List Int)(a0:Nat)(u0:List UInt8)(s:List UInt8)(w:World)(h:VC w vn vt N tags)(hc:zM o N tags=0)(ho:∀b (h:b<256),o[b]<256)(ha0:a0<=1099511627776)(hu0:u0.length<=64)(hs:s.length<=2000):
 Calls aB 62 #[NR o vn vt,aQ (gX (a0:Int) u0 0).toArray,str s] w (cB (H' (iy o N tags s a0 u0)) w):=by
 have iW:=λw' (hg:Gr w w')=>tp o vn vt N tags (a0:Int) u0 0 w' (h.gr hg) ho J;rw[SU hc ha0 hu0]at iW;have By:=λ(u:List UInt8) (hu:u.length<=65) w' (hg:Gr w w')=>Fv o vn vt N tags u w' (h.gr hg) (A' hc) J;have hcut:=λa u r t w' (ha:a<=9223372036854775) ht hu=>H_ a u 0 r t w' ha ht hu;have hbE:=BW;obtain⟨⟨an,cn,rfl,-⟩,at',ct,rfl,-⟩:=h;refine enter (args:=[NR o (ap an N.length cn) (ap at' tags.length ct),aQ (gX (a0:Int) u0 0).toArray,str s]) (n:=79) Tryz.func62 I I I ?_;refine cC (bz (bR I I I λg3=>bR I I I λg4=>aY I λg6=>?_));refine zL ?_
 repeat(first|refine GA ?_|refine gV (aO (i:=0) aK.ty I I (kA _ _ _)) ?_|refine gV (aO (i:=1) aK.ty I I I) ?_)
 refine aV (fO aI.en I I I) (λw hm=>iW _ hm.below) I I I ?_;intro _ _;refine zL ?_;clear iW
 repeat(first|refine GC ?_|refine gV (dr (b:=aE) I I (decide_eq_false aiT)) ?_|refine gV (dT (b:=aE) I I (decide_eq_false J)) ?_|refine GB ?_)
 refine jf 163 3 ?_
 conv=>arg 7;simp only[zA,zB,zC,zD,zE,zF,zG,zH,zI,cK,ret,id_eq]
 generalize ja:iy o N tags s a0 u0=fin;refine ea (ι:=Nat×Nat×List UInt8×List Tok×Value) (λ(i,a,u,out,_)=>i<=s.length/\u.length<=64/\a+u.length<=1099511627840+i/\out.length<=a/\(out++(iy o N tags (s.drop i) a u).1,(iy o N tags (s.drop i) a u).2)=fin) (λ(i,_,_,_,v)=>[(2,str s),(3,aJ (aj ⟨g3,0,ak⟩)),(4,aJ (aj ⟨g4,0,ak⟩)),(6,aJ (aj ⟨g6,0,ak⟩)),(10,v),(28,av az s.length),(29,av az (i:Int))])
  (λ(_,a,u,out,v)=>[aP g3 (eY o (ap an N.length cn) (ap at' tags.length ct)).toArray 31,aP g4 (gX (a:Int) u 0).toArray 97,aP g6 (gX 0 [] 0).toArray 97,Fh v out]) (λ(i,_,_,_,_)=>s.length-i) (0,a0,u0,[],ap ak 0 0) ⟨bH _,hu0,by show a0+u0.length<=_;omega,bH _,by rw[mC,ja];rfl⟩ ?_
 clear ja;rintro⟨i,a1,u1,gG,v1⟩ ⟨i1,i2,i3,i4,i5⟩;dsimp only at i1 i2 i3 i4 i5⊢
 by_cases c1:i<s.length
 ·have kg:=sub_one c1
  rw[eN c1]at i5;generalize s[i]=b at*;have hstep:=Va i5;clear i5
  try refine GA ?_
  refine dN ([]) (.calm 0 (.calm 2 (.calm 3 (.calm 4 (.calm 5 (.calm 6 (.one 1 (.calm 7 (.calm 8 (.one 9 (.done))))))))))) (bW []) ?_
  repeat(first|(refine GN ?_;first|refine QW QP ?_|refine QW (Te (j:=i+1) bM.eq I I I J J) ?_|refine QW (eT (r:=((i+1:Nat):Int)) I I J J J) ?_|refine GX ?_)|refine GW ?_)
  rw[kg];refine aL I (dx (aC (v:=str u1) aK.ty I (aH (i:=1) I I)) I I I (aM (bW []) ?_))
  repeat(first|refine GW ?_|(refine GN ?_;first|refine QW (GP I I (by show u1.length+1<=_;omega)) ?_))
  refine aL I ?_;refine bU (i:=1) I I I I I I ?_;refine zL ?_;refine aM (bW []) ?_
  try refine GW ?_
  try refine GA ?_
  generalize hD:dX o N tags (u1.length+2) a1 (u1++[b])=D at hstep;refine ea (ι:=Nat×Nat×List UInt8×List Tok×Value) (λ(f,a,u,out,_)=>u.length<f/\u.length<=65/\a+u.length<=1099511627840+i+1/\out.length<=a/\(out++(dX o N tags f a u).1,(dX o N tags f a u).2)=(gG++D.1,D.2)) (λ(_,_,_,_,v)=>[(2,str s),(3,aJ (aj ⟨g3,0,ak⟩)),(4,aJ (aj ⟨g4,0,ak⟩)),(6,aJ (aj ⟨g6,0,ak⟩)),(10,v),(28,av az s.length),(29,av az (i:Int))])
   (λ(_,a,u,out,v)=>[aP g3 (eY o (ap an N.length cn) (ap at' tags.length ct)).toArray 31,aP g4 (gX (a:Int) u 0).toArray 97,aP g6 (gX 0 [] 0).toArray 97,Fh v out]) (λ(f,_,_,_,_)=>f) (u1.length+2,a1,u1++[b],gG,v1) ⟨by show(u1++[b]).length<_;rw[bI];exact nv _,by show(u1++[b]).length<=65;rw[bI];simp;omega,by show a1+(u1++[b]).length<=_;rw[bI];simp;omega,i4,by rw[hD]⟩ ?_
  clear hD;rintro⟨f,a,u,out,v⟩ ⟨j1,j2,j3,j4,j5⟩;dsimp only at j1 j2 j3 j4 j5⊢;obtain⟨f,rfl⟩:∃f',f=f'+1:=⟨f-1,by omega⟩;rw[s7]at j5;have hto:=zO o N tags u;have KQ:=By u j2;generalize eB o N tags u=lk at*;obtain⟨⟨r,t⟩,sr⟩:=lk;dsimp only at hto KQ j5
  repeat(first|refine GA ?_|refine gV (aO (i:=0) aK.ty I I (kA _ _ _)) ?_|refine gV (aC (v:=str u) aK.ty I (aH (i:=1) I I)) ?_)
  refine aV (fO aI.en I I I) (λw hm=>KQ _ hm.below) I I I ?_;intro _ _;refine zL ?_
  cases sr with
  | false=>
   rw[if_neg aiT]at j5;have j5:(out++[],a,u,(0:Int))=(gG++D.1,D.2):=j5;rw[dW]at j5;obtain⟨_,k2,k3⟩:=hstep out a u 0 j5;clear hstep j5 KQ
   by_cases c2:64<u.length
   ·have k4:=k2 I c2
    subst k4
    repeat(first|refine GC ?_|refine gV (aC (v:=str u) aK.ty I (aH (i:=1) I I)) ?_|refine gV (dT (b:=aD) I I (decide_eq_true J)) ?_|refine gV (aC (v:=av az (a:Int)) aK.ty I (aH (i:=1) I I)) ?_|refine gV (bB I (hbE _ _)) ?_|refine GB ?_)
    refine gC 2 (cs':=(gX (a:Int) [] 10).toArray) ?_;refine zL ?_
    try refine GA ?_
    exact fm (i:=2) I I I I I I λw hm=>hm.meets (S:=H' (out,a,[],10)) v trivial [3] aiT I
   have k4:=k3 I c2
   repeat(first|refine GC ?_|refine gV (aC (v:=str u) aK.ty I (aH (i:=1) I I)) ?_|refine gV (dT (b:=aE) I I (decide_eq_false J)) ?_|refine GB ?_)
   exact bY (i+1,a,u,out,v) ⟨by show i+1<=s.length;omega,by show u.length<=64;omega,by show a+u.length<=1099511627840+(i+1);omega,j4,k4⟩ (by show s.length-(i+1)<s.length-i;omega)
  | true=>
   rw[if_pos I]at j5
   by_cases c2:t=0
   ·rw[if_pos c2]at j5
    have j5:(out++[],a,u,(9:Int))=(gG++D.1,D.2):=j5;rw[dW]at j5;have k4:=(hstep out a u 9 j5).1 aiT;clear hstep j5 KQ;subst k4 c2
    repeat(first|refine GC ?_|refine gV (dg (b:=aD) I I (decide_eq_true I)) ?_|refine gV (aC (v:=av az (a:Int)) aK.ty I (aH (i:=1) I I)) ?_|refine gV (bB I (hbE _ _)) ?_|refine GB ?_)
    refine gC 2 (cs':=(gX (a:Int) [] 9).toArray) ?_;refine zL ?_
    try refine GA ?_
    exact fm (i:=2) I I I I I I λw hm=>hm.meets (S:=H' (out,a,[],9)) v trivial [3] aiT I
   rw[if_neg c2]at j5;have ht:=hto.resolve_left c2;have hct:=hcut a u r t;have Rf:(u.drop t).length=u.length-t:=jc ..;clear KQ By hcut
   repeat(first|refine GC ?_|refine gV (dg (b:=aE) I I (decide_eq_false J)) ?_|refine GB ?_)
   refine aY I λg15=>?_;refine zL ?_
   repeat(first|refine GA ?_|refine gV (aO (i:=1) aK.ty I I I) ?_)
   refine aV (rX aI.en I I I I) (λw hm=>hct w J ht.2 J) I I I ?_;intro _ _;refine zL ?_
   try refine GA ?_
   refine gC 1 (cs':=(gX ((a+t:Nat):Int) (u.drop t) 0).toArray) ?_;refine zL ?_
   try refine GA ?_
   refine gC 4 (cs':=(sY (r,a,a+t)).toArray) ?_;refine zL ?_
   repeat(first|refine GA ?_|refine gV (aO (i:=4) aK.ty I I I) ?_)
   refine ju (i:=3) I I I I I I I (λz h=>by cases h;rfl) J J I λz v2=>?_;refine zL ?_
   try refine GA ?_
   refine dj [0,1,2,3] ?_;exact bY (f,a+t,u.drop t,out++[(r,a,a+t)],v2) ⟨by show(u.drop t).length<f;omega,by show(u.drop t).length<=65;omega,by show a+t+(u.drop t).length<=1099511627840+i+1;omega,by show(out++[(r,a,a+t)]).length<=a+t;rw[bI];simp;omega,by rw[eD];exact j5⟩ (by show f<f+1;omega) (hl:=by dsimp only;rw[HZ];rfl)
 ·rw[uo J]at i5
  have i5:(gG++[],a1,u1,0)=fin:=i5;rw[dW]at i5;subst i5
  repeat(first|refine GA ?_|refine gV (aO (i:=1) aK.ty I I I) ?_)
  refine gC 2 (cs':=(gX (a1:Int) u1 0).toArray) ?_;refine zL ?_
  try refine GA ?_
  exact fm (i:=2) I I I I I I λw hm=>hm.meets (S:=H' (gG,a1,u1,0)) v1 trivial [3] aiT I
end cI
namespace cI
open Go.RowKit cU dS aT dP fh gT jQ bJ mM gu
open iz (Ev rZ takeN)
def iV(b:Bool)(s:eP)(vp vq:Value):List Value:=
 if b then [vp,av az s.seen,av az s.l6,.bool s.mc,vq,av az 0,av az 0,.bool aE]else [vq,av az 0,av az 0,.bool aE,vp,av az s.seen,av az s.l6,.bool s.mc]
theorem Q0(b:Bool)(s:eP)(vp vq:Value):∃a c d e f h i j,iV b s vp vq=[a,c,d,e,f,h,i,j]:=by
 cases b<;>exact⟨_,_,_,_,_,_,_,_,rfl⟩
def oF(s:eP)(vt:Value)(pc:List Value)(vw:Value):List Value:=
 [av az s.il,av az s.iJ,av az s.dC,str s.im,.bool s.ended,.bool s.jy,av az s.du,str s.gI,av az s.iN,av az s.bad,vt]++(pc++[vw,av az s.cr,av az s.gone,.bool s.over,av az s.eg,av az s.pl])
abbrev oM(g:Nat)(vo:Value)(pk md:List Value)(s:eP)(vt:Value)(pc:List Value)(vw:Value):cH:=aP g (jd vo pk (md++oF s vt pc vw)).toArray 102
theorem eC{vo:Value}{pk tl:List Value}{j k:Nat}{v:Value}(hp:pk.length=258)(hk:k=j+259)(h:tl[j]?=aj v):(jd vo pk tl).toArray[k]?=aj v:=jh j hp h hk
theorem pX{w:World}{L:List cH}{g k:Nat}{cs:Array Value}{T:TypeId}{v:Value}(h:(aP g cs T).holds w)(hv:cs[k]?=aj v):At w L ⟨g,k,ak⟩ v:=kh (by rw[cell_of_row w g k cs T (0,0) h];exact hv)
def nS(B:bO)(φ:World->Prop):Prop:=∀(L:List cH) (w:World),Mem B L w->φ w
theorem nS.on{B:bO}{φ:World->Prop}(h:nS B φ){Lx:List cH}{w:World}(hm:Mem B Lx w):nS (bO.on w Lx) φ:=λL' w' h'=>h ([]++L') w' (Mem.back (R:=[]) (by rw[dW];exact hm) h')
theorem rS{α:Type}{l:List α}(h:l.length=7):∃a b c d e f g,l=[a,b,c,d,e,f,g]:=by
 match l,h with
 |[a,b,c,d,e,f,g],_=>exact⟨a,b,c,d,e,f,g,rfl⟩
theorem rT{α:Type}{l:List α}(h:l.length=8):∃a b c d e f g i,l=[a,b,c,d,e,f,g,i]:=by
 match l,h with
 |[a,b,c,d,e,f,g,i],_=>exact⟨a,b,c,d,e,f,g,i,rfl⟩
section
variable{g:Nat}{vo:Value}{pk md:List Value}{vt vw:Value}{pc:List Value}(dG:pk.length=258)(ml:md.length=7)(rb:pc.length=8)
include dG ml rb
set_option maxRecDepth 100000 in
theorem oH(s:eP)(e:Int)(pl:Nat)(w:World)(B:bO)(hm:Mem B [oM g vo pk md s vt pc vw] w):
 Calls aB 57 #[aJ (aj ⟨g,0,ak⟩),av az e,av az (pl:Int)] w (cY ⟨λ(_:Unit)=>True,λ_=> .tuple #[],λ_=>[oM g vo pk md (me s e pl) vt pc vw]⟩ B):=by
 obtain⟨m0,m1,m2,m3,m4,m5,m6,rfl⟩:=rS ml;obtain⟨p0,p1,p2,p3,p4,p5,p6,p7,rfl⟩:=rT rb;refine dm hm (args:=[aJ (aj ⟨g,0,ak⟩),av az e,av az (pl:Int)]) (n:=17) Tryz.func57 I I I ?_
 try refine GA ?_
 refine dU (i:=0) 29 I I I I I I dG I ?_
 try refine GA ?_
 refine dU (i:=0) 30 I I I I I I dG I ?_
 try refine GA ?_
 refine dU (i:=0) 31 I I I I I I dG I ?_
 try refine GA ?_
 exact jG I λw hm=>hm.bV (S:=⟨λ(_:Unit)=>True,λ_=> .tuple #[],λ_=>[oM g vo pk [m0,m1,m2,m3,m4,m5,m6] (me s e pl) vt [p0,p1,p2,p3,p4,p5,p6,p7] vw]⟩) () trivial [0] aiT I
set_option maxRecDepth 100000 in
theorem mO(s:eP)(e:Int)(pl:Nat)(w:World)(B:bO)(hm:Mem B [oM g vo pk md s vt pc vw] w):
 Calls aB 29 #[aJ (aj ⟨g,0,ak⟩),av az e,av az (pl:Int)] w (cY ⟨λ(_:Unit)=>True,λ_=> .tuple #[],λ_=>[oM g vo pk md (jl s e pl) vt pc (ap ak 0 0),kV (ap ak 0 0) []]⟩ B):=by
 have hst:=λw' B hm=>oH (g:=g) (vo:=vo) (vt:=vt) (vw:=vw) dG ml rb s e pl w' B hm;obtain⟨m0,m1,m2,m3,m4,m5,m6,rfl⟩:=rS ml;obtain⟨p0,p1,p2,p3,p4,p5,p6,p7,rfl⟩:=rT rb;refine dm hm (args:=[aJ (aj ⟨g,0,ak⟩),av az e,av az (pl:Int)]) (n:=14) Tryz.func29 I I I ?_
 try refine GA ?_
 refine bm [0] [] aiT I I (rX aI.en I I I I) (λw hm hb=>hst w _ hb) I I I ?_;intro _ _;refine zL ?_
 try refine GA ?_
 refine dU (i:=0) 26 I I I I I I dG I ?_
 try refine GA ?_
 refine dK 168 2 ?_;exact jG I λw hm=>hm.bV (S:=⟨λ(_:Unit)=>True,λ_=> .tuple #[],λ_=>[oM g vo pk [m0,m1,m2,m3,m4,m5,m6] (jl s e pl) vt [p0,p1,p2,p3,p4,p5,p6,p7] (ap ak 0 0),kV (ap ak 0 0) []]⟩) () trivial [0,1] aiT I
set_option maxRecDepth 100000 in
theorem qC(s:eP)(hs:s.dC<=9223372036854775807)(hi:s.im.length<=s.dC)(w:World)(h:(oM g vo pk md s vt pc vw).holds w):
 Calls aB 30 #[aJ (aj ⟨g,0,ak⟩)] w (cB (ret (av az (Cn s:Int))) w):=by
 obtain⟨m0,m1,m2,m3,m4,m5,m6,rfl⟩:=rS ml;obtain⟨p0,p1,p2,p3,p4,p5,p6,p7,rfl⟩:=rT rb;unfold Cn;refine enter (args:=[aJ (aj ⟨g,0,ak⟩)]) (n:=13) Tryz.func30 I I I ?_
 try refine GA ?_
 refine dN ([]) (.calm 0 (.calm 1 (.calm 2 (.calm 3 (.calm 4 (.calm 5 (.calm 6 (.calm 7 (.calm 8 (.calm 9 (.calm 10 (.done)))))))))))) (wo) ?_
 repeat(first|refine GW ?_|(refine GN ?_;first|refine QW (aC aK.ty I (pX h (eC dG I I))) ?_))
 try refine GA ?_
 exact dD I I (congrArg (av .i64) (Int.ofNat_sub hi).symm)
end
end cI
namespace cI
open Go.RowKit cU dS aT dP fh gT jQ bJ mM gu
open iz (Ev rZ takeN)
abbrev nT(g:Nat)(vo:Value)(pk md:List Value)(s:eP)(vt:Value)(pc:List Value)(vw:Value):List cH:=[oM g vo pk md s vt pc vw,kV vw s.wait]
def rU(g:Nat)(vo:Value)(pk md:List Value)(R:eP×Int)(vt:Value)(pc:List Value):Spec Value:=⟨λ_=>True,λ_=>av az R.2,λvw=>nT g vo pk md R.1 vt pc vw⟩
section
variable{g:Nat}{vo:Value}{pk md:List Value}{vt vw:Value}{pc:List Value}(dG:pk.length=258)(ml:md.length=7)(rb:pc.length=8)
include dG ml rb
set_option maxRecDepth 100000 in
theorem Kn(s:eP)(x:List UInt8)(hx:x.length<=9223372036854775807)(hb:0<=s.il)(NK:s.il+s.dC<=4096)(hi:s.im.length<=s.dC)(w:World)(B:bO)(hm:Mem B (nT g vo pk md s vt pc vw) w):
 Calls aB 9 #[aJ (aj ⟨g,0,ak⟩),str x] w (cY (rU g vo pk md (xc s x) vt pc) B):=by
 have hbr:=λ(s:eP) e pl w' B hm=>mO (g:=g) (vo:=vo) (vt:=vt) (vw:=vw) dG ml rb s e pl w' B hm;have hhd:=λ(s:eP) h1 h2 w' h=>qC (g:=g) (vo:=vo) (vt:=vt) (vw:=vw) dG ml rb s h1 h2 w' h;obtain⟨m0,m1,m2,m3,m4,m5,m6,rfl⟩:=rS ml;obtain⟨p0,p1,p2,p3,p4,p5,p6,p7,rfl⟩:=rT rb;obtain⟨il,iJ,dC,im,ended,jy,du,gI,iN,bad,dH,p,seen,l6,mc,wait,cr,gone,over,eg,pl⟩:=s
 try dsimp only at*
 dsimp only[nT,oM,oF,iY,eu]at hm;unfold xc;dsimp only
 cases over with
 |true=>
  rw[if_pos (.inl I)];refine dm hm (args:=[aJ (aj ⟨g,0,ak⟩),str x]) (n:=60) Tryz.func9 I I I ?_
  repeat(first|refine GA ?_|refine gV (aC aK.ty I (aH (i:=0) I (eC dG I I))) ?_)
  exact cJ I I λw hm=>hm.bV (S:=rU g vo pk [m0,m1,m2,m3,m4,m5,m6] (⟨il,iJ,dC,im,ended,jy,du,gI,iN,bad,dH,p,seen,l6,mc,wait,cr,gone,aD,eg,pl⟩,15) vt [p0,p1,p2,p3,p4,p5,p6,p7]) vw trivial [0,1] aiT I
 |false=>
 cases ended with
 |true=>
  rw[if_pos (.inr I)];refine dm hm (args:=[aJ (aj ⟨g,0,ak⟩),str x]) (n:=60) Tryz.func9 I I I ?_
  repeat(first|refine GA ?_|refine gV (aC aK.ty I (aH (i:=0) I (eC dG I I))) ?_)
  exact cJ I I λw hm=>hm.bV (S:=rU g vo pk [m0,m1,m2,m3,m4,m5,m6] (⟨il,iJ,dC,im,aD,jy,du,gI,iN,bad,dH,p,seen,l6,mc,wait,cr,gone,aE,eg,pl⟩,15) vt [p0,p1,p2,p3,p4,p5,p6,p7]) vw trivial [0,1] aiT I
 |false=>
 rw[if_neg aiT]
 by_cases c4:1024<x.length
 ·rw[if_pos c4]
  refine dm hm (args:=[aJ (aj ⟨g,0,ak⟩),str x]) (n:=60) Tryz.func9 I I I ?_
  repeat(first|refine GA ?_|refine gV (aC aK.ty I (aH (i:=0) I (eC dG I I))) ?_)
  exact cJ I I λw hm=>hm.bV (S:=rU g vo pk [m0,m1,m2,m3,m4,m5,m6] (⟨il,iJ,dC,im,aE,jy,du,gI,iN,bad,dH,p,seen,l6,mc,wait,cr,gone,aE,eg,pl⟩,2) vt [p0,p1,p2,p3,p4,p5,p6,p7]) vw trivial [0,1] aiT I
 rw[if_neg c4]
 by_cases c5:il<x.length
 ·rw[if_pos c5]
  refine dm hm (args:=[aJ (aj ⟨g,0,ak⟩),str x]) (n:=60) Tryz.func9 I I I ?_
  repeat(first|refine GA ?_|refine gV (aC aK.ty I (aH (i:=0) I (eC dG I I))) ?_)
  refine bm [0] [1] aiT I I (rX aI.en I I I I) (λw hm hb=>hbr ⟨il,iJ,dC,im,aE,jy,du,gI,iN,bad,dH,p,seen,l6,mc,wait,cr,gone,aE,eg,pl⟩ _ _ w _ hb) I I I ?_;intro _ _;refine zL ?_
  try refine GA ?_
  exact cJ I I λw hm=>hm.bV (S:=rU g vo pk [m0,m1,m2,m3,m4,m5,m6] (jl ⟨il,iJ,dC,im,aE,jy,du,gI,iN,bad,dH,p,seen,l6,mc,wait,cr,gone,aE,eg,pl⟩ 16 dC,16) vt [p0,p1,p2,p3,p4,p5,p6,p7]) (ap ak 0 0) trivial [1,2] aiT I
 rw[if_neg c5];refine dm hm (args:=[aJ (aj ⟨g,0,ak⟩),str x]) (n:=60) Tryz.func9 I I I ?_
 repeat(first|refine GA ?_|refine gV (aC aK.ty I (aH (i:=0) I (eC dG I I))) ?_)
 refine dU (i:=0) 7 I I I I I I dG I ?_;refine zL ?_
 repeat(first|refine GA ?_|refine gV (aC aK.ty I (aH (i:=0) I (eC dG I I))) ?_)
 refine dU (i:=0) 9 I I I I I I dG I ?_;refine zL ?_
 repeat(first|refine GA ?_|refine gV (aC aK.ty I (aH (i:=0) I (eC dG I I))) ?_|refine gV (GP I I J) ?_)
 refine dU (i:=0) 10 I I I I I I dG I ?_
 try refine GA ?_
 exact cJ I I λw hm=>hm.bV (S:=rU g vo pk [m0,m1,m2,m3,m4,m5,m6] (⟨il-x.length,iJ,dC+x.length,im++x,aE,jy,du,gI,iN,bad,dH,p,seen,l6,mc,wait,cr,gone,aE,eg,pl⟩,0) vt [p0,p1,p2,p3,p4,p5,p6,p7]) vw trivial [0,1] aiT I
set_option maxRecDepth 100000 in
theorem Fw(s:eP)(hs:s.dC<=9223372036854775807)(hi:s.im.length<=s.dC)(w:World)(B:bO)(hm:Mem B (nT g vo pk md s vt pc vw) w):
 Calls aB 8 #[aJ (aj ⟨g,0,ak⟩)] w (cY (rU g vo pk md (kD s) vt pc) B):=by
 have hbr:=λ(s:eP) e pl w' B hm=>mO (g:=g) (vo:=vo) (vt:=vt) (vw:=vw) dG ml rb s e pl w' B hm;have hhd:=λ(s:eP) h1 h2 w' h=>qC (g:=g) (vo:=vo) (vt:=vt) (vw:=vw) dG ml rb s h1 h2 w' h;obtain⟨m0,m1,m2,m3,m4,m5,m6,rfl⟩:=rS ml;obtain⟨p0,p1,p2,p3,p4,p5,p6,p7,rfl⟩:=rT rb;obtain⟨il,iJ,dC,im,ended,jy,du,gI,iN,bad,dH,p,seen,l6,mc,wait,cr,gone,over,eg,pl⟩:=s
 try dsimp only at*
 dsimp only[nT,oM,oF,iY,eu]at hm;unfold kD;dsimp only
 cases over with
 |true=>
  rw[if_pos I];refine dm hm (args:=[aJ (aj ⟨g,0,ak⟩)]) (n:=11) Tryz.func8 I I I ?_
  repeat(first|refine GA ?_|refine gV (aC aK.ty I (aH (i:=0) I (eC dG I I))) ?_)
  exact cJ I I λw hm=>hm.bV (S:=rU g vo pk [m0,m1,m2,m3,m4,m5,m6] (⟨il,iJ,dC,im,ended,jy,du,gI,iN,bad,dH,p,seen,l6,mc,wait,cr,gone,aD,eg,pl⟩,15) vt [p0,p1,p2,p3,p4,p5,p6,p7]) vw trivial [0,1] aiT I
 |false=>
 rw[if_neg aiT];refine dm hm (args:=[aJ (aj ⟨g,0,ak⟩)]) (n:=11) Tryz.func8 I I I ?_
 repeat(first|refine GA ?_|refine gV (aC aK.ty I (aH (i:=0) I (eC dG I I))) ?_)
 refine aV (hZ aI.en I I) (λw hm=>hhd ⟨il,iJ,dC,im,ended,jy,du,gI,iN,bad,dH,p,seen,l6,mc,wait,cr,gone,aE,eg,pl⟩ hs hi w (hm.get (i:=0) I)) I I I ?_;intro _ _;refine zL ?_
 try refine GA ?_
 refine bm [0] [1] aiT I I (rX aI.en I I I I) (λw hm hb=>hbr ⟨il,iJ,dC,im,ended,jy,du,gI,iN,bad,dH,p,seen,l6,mc,wait,cr,gone,aE,eg,pl⟩ _ _ w _ hb) I I I ?_;intro _ _;refine zL ?_
 try refine GA ?_
 exact cJ I I λw hm=>hm.bV (S:=rU g vo pk [m0,m1,m2,m3,m4,m5,m6] (jl ⟨il,iJ,dC,im,ended,jy,du,gI,iN,bad,dH,p,seen,l6,mc,wait,cr,gone,aE,eg,pl⟩ 15 (Cn ⟨il,iJ,dC,im,ended,jy,du,gI,iN,bad,dH,p,seen,l6,mc,wait,cr,gone,aE,eg,pl⟩),0) vt [p0,p1,p2,p3,p4,p5,p6,p7]) (ap ak 0 0) trivial [1,2] aiT I
set_option maxRecDepth 100000 in
theorem Gn(s:eP)(hs:s.dC<=9223372036854775807)(hi:s.im.length<=s.dC)(w:World)(B:bO)(hm:Mem B (nT g vo pk md s vt pc vw) w):
 Calls aB 11 #[aJ (aj ⟨g,0,ak⟩)] w (cY ⟨λ_=>True,λ_=> .tuple #[],λvw=>nT g vo pk md (pU s) vt pc vw⟩ B):=by
 have hbr:=λ(s:eP) e pl w' B hm=>mO (g:=g) (vo:=vo) (vt:=vt) (vw:=vw) dG ml rb s e pl w' B hm;have hhd:=λ(s:eP) h1 h2 w' h=>qC (g:=g) (vo:=vo) (vt:=vt) (vw:=vw) dG ml rb s h1 h2 w' h;obtain⟨m0,m1,m2,m3,m4,m5,m6,rfl⟩:=rS ml;obtain⟨p0,p1,p2,p3,p4,p5,p6,p7,rfl⟩:=rT rb;obtain⟨il,iJ,dC,im,ended,jy,du,gI,iN,bad,dH,p,seen,l6,mc,wait,cr,gone,over,eg,pl⟩:=s
 try dsimp only at*
 dsimp only[nT,oM,oF,iY,eu]at hm;unfold pU;dsimp only
 cases over with
 |true=>
  rw[if_pos (.inl I)];refine dm hm (args:=[aJ (aj ⟨g,0,ak⟩)]) (n:=18) Tryz.func11 I I I ?_
  repeat(first|refine GA ?_|refine gV (aC aK.ty I (aH (i:=0) I (eC dG I I))) ?_)
  exact jG I λw hm=>hm.bV (S:=⟨λ_=>True,λ_=> .tuple #[],λvw=>nT g vo pk [m0,m1,m2,m3,m4,m5,m6] ⟨il,iJ,dC,im,ended,jy,du,gI,iN,bad,dH,p,seen,l6,mc,wait,cr,gone,aD,eg,pl⟩ vt [p0,p1,p2,p3,p4,p5,p6,p7] vw⟩) vw trivial [0,1] aiT I
 |false=>
 cases ended with
 |true=>
  rw[if_pos (.inr I)];refine dm hm (args:=[aJ (aj ⟨g,0,ak⟩)]) (n:=18) Tryz.func11 I I I ?_
  repeat(first|refine GA ?_|refine gV (aC aK.ty I (aH (i:=0) I (eC dG I I))) ?_)
  exact jG I λw hm=>hm.bV (S:=⟨λ_=>True,λ_=> .tuple #[],λvw=>nT g vo pk [m0,m1,m2,m3,m4,m5,m6] ⟨il,iJ,dC,im,aD,jy,du,gI,iN,bad,dH,p,seen,l6,mc,wait,cr,gone,aE,eg,pl⟩ vt [p0,p1,p2,p3,p4,p5,p6,p7] vw⟩) vw trivial [0,1] aiT I
 |false=>
 rw[if_neg aiT];refine dm hm (args:=[aJ (aj ⟨g,0,ak⟩)]) (n:=18) Tryz.func11 I I I ?_
 repeat(first|refine GA ?_|refine gV (aC aK.ty I (aH (i:=0) I (eC dG I I))) ?_)
 refine aV (hZ aI.en I I) (λw hm=>hhd ⟨il,iJ,dC,im,aE,jy,du,gI,iN,bad,dH,p,seen,l6,mc,wait,cr,gone,aE,eg,pl⟩ hs hi w (hm.get (i:=0) I)) I I I ?_;intro _ _;refine zL ?_
 try refine GA ?_
 refine bm [0] [1] aiT I I (rX aI.en I I I I) (λw hm hb=>hbr ⟨il,iJ,dC,im,aE,jy,du,gI,iN,bad,dH,p,seen,l6,mc,wait,cr,gone,aE,eg,pl⟩ _ _ w _ hb) I I I ?_;intro _ _;refine zL ?_
 try refine GA ?_
 exact jG I λw hm=>hm.bV (S:=⟨λ_=>True,λ_=> .tuple #[],λvw=>nT g vo pk [m0,m1,m2,m3,m4,m5,m6] (jl ⟨il,iJ,dC,im,aE,jy,du,gI,iN,bad,dH,p,seen,l6,mc,wait,cr,gone,aE,eg,pl⟩ 18 (Cn ⟨il,iJ,dC,im,aE,jy,du,gI,iN,bad,dH,p,seen,l6,mc,wait,cr,gone,aE,eg,pl⟩)) vt [p0,p1,p2,p3,p4,p5,p6,p7] vw⟩) (ap ak 0 0) trivial [1,2] aiT I
set_option maxRecDepth 100000 in
theorem Ko(s:eP)(n:Int)(ht:0<=s.iJ)(Vr:s.iJ<=1000)(hs:s.dC<=9223372036854775807)(hi:s.im.length<=s.dC)(w:World)(B:bO)(hm:Mem B (nT g vo pk md s vt pc vw) w):
 Calls aB 13 #[aJ (aj ⟨g,0,ak⟩),av az n] w (cY (rU g vo pk md (tm s n) vt pc) B):=by
 have hbr:=λ(s:eP) e pl w' B hm=>mO (g:=g) (vo:=vo) (vt:=vt) (vw:=vw) dG ml rb s e pl w' B hm;have hhd:=λ(s:eP) h1 h2 w' h=>qC (g:=g) (vo:=vo) (vt:=vt) (vw:=vw) dG ml rb s h1 h2 w' h;obtain⟨m0,m1,m2,m3,m4,m5,m6,rfl⟩:=rS ml;obtain⟨p0,p1,p2,p3,p4,p5,p6,p7,rfl⟩:=rT rb;obtain⟨il,iJ,dC,im,ended,jy,du,gI,iN,bad,dH,p,seen,l6,mc,wait,cr,gone,over,eg,pl⟩:=s
 try dsimp only at*
 dsimp only[nT,oM,oF,iY,eu]at hm;unfold tm;dsimp only
 cases over with
 |true=>
  rw[if_pos I];refine dm hm (args:=[aJ (aj ⟨g,0,ak⟩),av az n]) (n:=36) Tryz.func13 I I I ?_
  repeat(first|refine GA ?_|refine gV (aC aK.ty I (aH (i:=0) I (eC dG I I))) ?_)
  exact cJ I I λw hm=>hm.bV (S:=rU g vo pk [m0,m1,m2,m3,m4,m5,m6] (⟨il,iJ,dC,im,ended,jy,du,gI,iN,bad,dH,p,seen,l6,mc,wait,cr,gone,aD,eg,pl⟩,15) vt [p0,p1,p2,p3,p4,p5,p6,p7]) vw trivial [0,1] aiT I
 |false=>
 rw[if_neg aiT]
 by_cases c2:n<1\/1000<n
 ·rw[if_pos c2]
  by_cases c3:n<1
  all_goals
   refine dm hm (args:=[aJ (aj ⟨g,0,ak⟩),av az n]) (n:=36) Tryz.func13 I I I ?_
   repeat(first|refine GA ?_|refine gV (aC aK.ty I (aH (i:=0) I (eC dG I I))) ?_)
   exact cJ I I λw hm=>hm.bV (S:=rU g vo pk [m0,m1,m2,m3,m4,m5,m6] (⟨il,iJ,dC,im,ended,jy,du,gI,iN,bad,dH,p,seen,l6,mc,wait,cr,gone,aE,eg,pl⟩,1) vt [p0,p1,p2,p3,p4,p5,p6,p7]) vw trivial [0,1] aiT I
 rw[if_neg c2]
 by_cases c3:iJ<n
 ·rw[if_pos c3]
  refine dm hm (args:=[aJ (aj ⟨g,0,ak⟩),av az n]) (n:=36) Tryz.func13 I I I ?_
  repeat(first|refine GA ?_|refine gV (aC aK.ty I (aH (i:=0) I (eC dG I I))) ?_)
  refine aV (hZ aI.en I I) (λw hm=>hhd ⟨il,iJ,dC,im,ended,jy,du,gI,iN,bad,dH,p,seen,l6,mc,wait,cr,gone,aE,eg,pl⟩ hs hi w (hm.get (i:=0) I)) I I I ?_;intro _ _;refine zL ?_
  try refine GA ?_
  refine bm [0] [1] aiT I I (rX aI.en I I I I) (λw hm hb=>hbr ⟨il,iJ,dC,im,ended,jy,du,gI,iN,bad,dH,p,seen,l6,mc,wait,cr,gone,aE,eg,pl⟩ _ _ w _ hb) I I I ?_;intro _ _;refine zL ?_
  try refine GA ?_
  exact cJ I I λw hm=>hm.bV (S:=rU g vo pk [m0,m1,m2,m3,m4,m5,m6] (jl ⟨il,iJ,dC,im,ended,jy,du,gI,iN,bad,dH,p,seen,l6,mc,wait,cr,gone,aE,eg,pl⟩ 16 (Cn ⟨il,iJ,dC,im,ended,jy,du,gI,iN,bad,dH,p,seen,l6,mc,wait,cr,gone,aE,eg,pl⟩),16) vt [p0,p1,p2,p3,p4,p5,p6,p7]) (ap ak 0 0) trivial [1,2] aiT I
 rw[if_neg c3];refine dm hm (args:=[aJ (aj ⟨g,0,ak⟩),av az n]) (n:=36) Tryz.func13 I I I ?_
 repeat(first|refine GA ?_|refine gV (aC aK.ty I (aH (i:=0) I (eC dG I I))) ?_)
 refine dU (i:=0) 8 I I I I I I dG I ?_
 try refine GA ?_
 exact cJ I I λw hm=>hm.bV (S:=rU g vo pk [m0,m1,m2,m3,m4,m5,m6] (⟨il,iJ-n,dC,im,ended,jy,du,gI,iN,bad,dH,p,seen,l6,mc,wait,cr,gone,aE,eg,pl⟩,0) vt [p0,p1,p2,p3,p4,p5,p6,p7]) vw trivial [0,1] aiT I
set_option maxRecDepth 100000 in
theorem Np(s:eP)(w:World)(B:bO)(hm:Mem B (nT g vo pk md s vt pc vw) w):
 Calls aB 10 #[aJ (aj ⟨g,0,ak⟩)] w (cY (rU g vo pk md (q8 s) vt pc) B):=by
 obtain⟨m0,m1,m2,m3,m4,m5,m6,rfl⟩:=rS ml;obtain⟨p0,p1,p2,p3,p4,p5,p6,p7,rfl⟩:=rT rb;obtain⟨il,iJ,dC,im,ended,jy,du,gI,iN,bad,dH,p,seen,l6,mc,wait,cr,gone,over,eg,pl⟩:=s
 try dsimp only at*
 dsimp only[nT,oM,oF,iY,eu]at hm;unfold q8;dsimp only
 cases over with
 |true=>
  rw[if_pos (.inl I)];refine dm hm (args:=[aJ (aj ⟨g,0,ak⟩)]) (n:=16) Tryz.func10 I I I ?_
  repeat(first|refine GA ?_|refine gV (aC aK.ty I (aH (i:=0) I (eC dG I I))) ?_)
  exact cJ I I λw hm=>hm.bV (S:=rU g vo pk [m0,m1,m2,m3,m4,m5,m6] (⟨il,iJ,dC,im,ended,jy,du,gI,iN,bad,dH,p,seen,l6,mc,wait,cr,gone,aD,eg,pl⟩,15) vt [p0,p1,p2,p3,p4,p5,p6,p7]) vw trivial [0,1] aiT I
 |false=>
 cases ended with
 |true=>
  rw[if_pos (.inr I)];refine dm hm (args:=[aJ (aj ⟨g,0,ak⟩)]) (n:=16) Tryz.func10 I I I ?_
  repeat(first|refine GA ?_|refine gV (aC aK.ty I (aH (i:=0) I (eC dG I I))) ?_)
  exact cJ I I λw hm=>hm.bV (S:=rU g vo pk [m0,m1,m2,m3,m4,m5,m6] (⟨il,iJ,dC,im,aD,jy,du,gI,iN,bad,dH,p,seen,l6,mc,wait,cr,gone,aE,eg,pl⟩,15) vt [p0,p1,p2,p3,p4,p5,p6,p7]) vw trivial [0,1] aiT I
 |false=>
 rw[if_neg aiT];refine dm hm (args:=[aJ (aj ⟨g,0,ak⟩)]) (n:=16) Tryz.func10 I I I ?_
 repeat(first|refine GA ?_|refine gV (aC aK.ty I (aH (i:=0) I (eC dG I I))) ?_)
 refine dU (i:=0) 11 I I I I I I dG I ?_
 try refine GA ?_
 exact cJ I I λw hm=>hm.bV (S:=rU g vo pk [m0,m1,m2,m3,m4,m5,m6] (⟨il,iJ,dC,im,aD,jy,du,gI,iN,bad,dH,p,seen,l6,mc,wait,cr,gone,aE,eg,pl⟩,0) vt [p0,p1,p2,p3,p4,p5,p6,p7]) vw trivial [0,1] aiT I
set_option maxRecDepth 100000 in
theorem Gp(s:eP)(hl:s.dH.length<=1000000)(hvt:∃a c,vt=ap a s.dH.length c)(hvw:∃a c,vw=ap a s.wait.length c)(hw:s.wait.length<=1000000)(w:World)(h:(oM g vo pk md s vt pc vw).holds w):
    Calls aB 17 #[aJ (aj ⟨g,0,ak⟩)] w (cB (ret (.bool (kt s))) w):=by
  obtain⟨m0,m1,m2,m3,m4,m5,m6,rfl⟩:=rS ml;obtain⟨p0,p1,p2,p3,p4,p5,p6,p7,rfl⟩:=rT rb;obtain⟨at',ct,rfl⟩:=hvt;obtain⟨aw,cw,rfl⟩:=hvw;obtain⟨il,iJ,dC,im,ended,jy,du,gI,iN,bad,dH,p,seen,l6,mc,wait,cr,gone,over,eg,pl⟩:=s
  try dsimp only at*
  dsimp only[nT,oM,oF,iY,eu]at h
  cases over with
  | true=>
    refine enter (args:=[aJ (aj ⟨g,0,ak⟩)]) (n:=45) Tryz.func17 I I I ?_
    repeat(first|refine GA ?_|refine gV (aC aK.ty I (pX h (eC dG I I))) ?_)
    exact dD I I I
  |false=>
  by_cases c1:wait.length<200
  · by_cases c2:dH.length=0
    · obtain rfl:=se c2
      by_cases c3:bad=0
      · subst c3
        cases im with
        | nil=>
          refine enter (args:=[aJ (aj ⟨g,0,ak⟩)]) (n:=45) Tryz.func17 I I I ?_
          repeat(first|refine GC ?_|refine gV (aC aK.ty I (pX h (eC dG I I))) ?_|refine gV (kK (b:=aE) I I I) ?_|refine GB ?_)
          exact dD I I (by simp[kt,c1])
        | cons c r=>
          refine enter (args:=[aJ (aj ⟨g,0,ak⟩)]) (n:=45) Tryz.func17 I I I ?_
          repeat(first|refine GC ?_|refine gV (aC aK.ty I (pX h (eC dG I I))) ?_|refine gV (kK (b:=aD) I I I) ?_|refine GB ?_)
          exact dD I I (by simp[kt,c1])
      refine enter (args:=[aJ (aj ⟨g,0,ak⟩)]) (n:=45) Tryz.func17 I I I ?_
      repeat(first|refine GA ?_|refine gV (aC aK.ty I (pX h (eC dG I I))) ?_)
      exact dD I I (by simp[kt,c1,c3])
    refine enter (args:=[aJ (aj ⟨g,0,ak⟩)]) (n:=45) Tryz.func17 I I I ?_
    repeat(first|refine GA ?_|refine gV (aC aK.ty I (pX h (eC dG I I))) ?_)
    exact dD I I (by simp[kt,c1,show dH≠[]from λh=>c2 (by rw[h];rfl)])
  · refine enter (args:=[aJ (aj ⟨g,0,ak⟩)]) (n:=45) Tryz.func17 I I I ?_
    repeat(first|refine GA ?_|refine gV (aC aK.ty I (pX h (eC dG I I))) ?_)
    exact dD I I (by simp[kt,c1])
set_option maxRecDepth 100000 in
theorem Co(s:eP)(hvw:∃a c,vw=ap a s.wait.length c)(hw:s.wait.length<=1000000)(w:World)(h:(oM g vo pk md s vt pc vw).holds w):
 Calls aB 16 #[aJ (aj ⟨g,0,ak⟩)] w (cB (ret (.tuple #[av az (jx s).1,av az ((jx s).2.1:Int),.bool (jx s).2.2])) w):=by
 obtain⟨m0,m1,m2,m3,m4,m5,m6,rfl⟩:=rS ml;obtain⟨p0,p1,p2,p3,p4,p5,p6,p7,rfl⟩:=rT rb;obtain⟨aw,cw,rfl⟩:=hvw;obtain⟨il,iJ,dC,im,ended,jy,du,gI,iN,bad,dH,p,seen,l6,mc,wait,cr,gone,over,eg,pl⟩:=s
 try dsimp only at*
 dsimp only[nT,oM,oF,iY,eu]at h;unfold jx;dsimp only
 cases over with
 |false=>
  rw[if_neg (by simp)];refine enter (args:=[aJ (aj ⟨g,0,ak⟩)]) (n:=27) Tryz.func16 I I I ?_
  repeat(first|refine GA ?_|refine gV (aC aK.ty I (pX h (eC dG I I))) ?_)
  exact Iz I I I I I
 |true=>
 by_cases c1:wait.length=0
 ·obtain rfl:=se c1
  rw[if_pos ⟨rfl,rfl⟩];refine enter (args:=[aJ (aj ⟨g,0,ak⟩)]) (n:=27) Tryz.func16 I I I ?_
  repeat(first|refine GA ?_|refine gV (aC aK.ty I (pX h (eC dG I I))) ?_)
  refine dN ([]) (.calm 0 (.calm 1 (.calm 2 (.calm 3 (.calm 4 (.calm 5 (.calm 6 (.calm 7 (.calm 8 (.calm 9 (.calm 10 (.done)))))))))))) (wo) ?_
  repeat(first|refine GW ?_|(refine GN ?_;first|refine QW (aC aK.ty I (pX h (eC dG I I))) ?_))
  try refine GA ?_
  exact Iz I I I I I
 ·rw[if_neg λh=>c1 (by rw[h.2];rfl)]
  refine enter (args:=[aJ (aj ⟨g,0,ak⟩)]) (n:=27) Tryz.func16 I I I ?_
  repeat(first|refine GA ?_|refine gV (aC aK.ty I (pX h (eC dG I I))) ?_)
  exact Iz I I I I I
end
end cI
namespace cI
open Go.RowKit cU dS
def Bh(Ls:List cH):cH where
 BZ:=ak
 more:=λk=>∃o∈Ls,o.ff k
 holds:=λw=>eH (λ_=>True) w Ls
 lt:=λw h k hk=>by
  rcases hk with hk|⟨o,ho,hk⟩
  cases hk
  obtain⟨i,hi⟩:=xr ho;exact o.lt w (h.all i o hi).1 k hk
 stay:=λw w' h hs hk=>⟨λi o hi=>⟨o.stay w w' (h.all i o hi).1 hs λk hf=>hk k (.inr ⟨o,lP hi,hf⟩),λ_ _=>trivial⟩,h.apart⟩
theorem Nq{Ls:List cH}{k:Nat}(h:(Bh Ls).ff k):∃o∈Ls,o.ff k:=by
 rcases h with h|h
 cases h
 exact h
theorem Kp{Ls:List cH}{w:World}(h:(Bh Ls).holds w):Mem (bO.on w Ls) Ls w:=
 ⟨⟨rfl,rfl,rfl,bx _,λ_ _ _=>rfl⟩,⟨λi o hi=>⟨(h.all i o hi).1,λk hk=> .inr ⟨o,lP hi,hk⟩⟩,h.apart⟩⟩
theorem eH.bun{p:Nat->Prop}{w:World}{Ls:List cH}(h:eH p w Ls):eH p w [Bh Ls]:=
 eH.one ⟨λi o hi=>⟨(h.all i o hi).1,λ_ _=>trivial⟩,h.apart⟩ λk hk=>by
  obtain⟨o,ho,hk⟩:=Nq hk;obtain⟨i,hi⟩:=xr ho;exact(h.all i o hi).2 k hk
theorem eH.Q1{p:Nat->Prop}{w:World}{Ls R:List cH}(h:eH p w (R++Ls)):eH p w (R++[Bh Ls]):=by
 have hR:eH p w R:=⟨λi o hi=>h.all i o (by rw[eR (cX.1 hi).1];exact hi),λi j o o' re hi hj=>h.apart i j o o' re (by rw[eR (cX.1 hi).1];exact hi) (by rw[eR (cX.1 hj).1];exact hj)⟩;have hL:∀(j:Nat) (o:cH),Ls[j]?=aj o->(R++Ls)[R.length+j]?=aj o:=λj o hj=>by rw[kF J];simpa using hj
 have hS:eH p w Ls:=⟨λi o hi=>h.all _ o (hL i o hi),λi j o o' re hi hj=>h.apart _ _ o o' J (hL i o hi) (hL j o' hj)⟩;refine hR.both hS.bun λi j o o' hi hj k hk mT=>?_
 match j,hj with
 |0,hj=>
  simp only[sf,df]at hj;subst hj;obtain⟨q,hq,hqk⟩:=Nq mT;obtain⟨j,hj⟩:=xr hq;exact h.apart i (R.length+j) o q (by have:=(cX.1 hi).1;omega) (by rw[eR (cX.1 hi).1];exact hi) (hL j q hj) k hk hqk
 |j+1,hj=>simp at hj
theorem Mem.Q1{W:bO}{L R Ls:List cH}{w:World}(h:Mem W L w)(is js:List Nat)(hn:(js++is).Nodup)(hl:Ls=is.filterMap λi=>L[i]?)(hr:R=js.filterMap λi=>L[i]?):Mem W (R++[Bh Ls]) w:=
 ⟨h.low,eH.Q1 (h.owns.pick (js++is) hn (by rw[List.filterMap_append,<-hl,<-hr]))⟩
end cI
namespace cI
open Go.RowKit cU dS dl gj gT aT cT jQ
structure MkX where
 vo:Value
 vn:Value
 vt:Value
 vp:Value
 vr:Value
 va:Value
 vg:Value
 Ls:List cH
def MkX.cells(x:MkX)(m:Md):List Value:=jd x.vo (eY m.o x.vn x.vt) (fK m.g.aR m.g.bC x.vp m.mode x.vr x.va x.vg)
structure afc(m:Md)(x:MkX):Prop where
 mdr:∀w,(Bh x.Ls).holds w->CO w (aQ (x.cells m).toArray) m x.vo x.vn x.vt x.vp x.vr x.va x.vg
 one:(x.cells m).toArray.toList.all eZ=aD
def Q2(m:Md):Spec MkX:=⟨afc m,λx=> .tuple #[aQ (x.cells m).toArray,av az 0],λx=>[Bh x.Ls]⟩
def ag5(e:Int):Spec Unit:=⟨λ_=>True,λ_=> .tuple #[aQ FP.toArray,av az e],λ_=>[]⟩
def we(s:Sp)(r:Int×List Row×List Int):Md:=if(Ci s r.1).2=1 then ae4 s r.2.1 r.2.2 else ae5 s r.2.1 r.2.2
theorem zR(x:MkX)(m:Md):(x.cells m).toArray.size=266:=kB (fN _ _ _) I
theorem cB.to{ι κ:Type}{S:Spec ι}(S':Spec κ){w:World}{e:Ending}{w':World}(hm:cB S w e w')(h:∀x,S.ok x->∃y,S'.ok y/\S.val x=S'.val y/\∀w',ng w.heap.size w' (S.own x)->ng w.heap.size w' (S'.own y)):cB S' w e w':=by
 obtain⟨x,h1,h2,h3,h4⟩:=hm;obtain⟨y,k1,k2,k3⟩:=h x h1;exact⟨y,k1,by rw[h2,k2],h3,k3 w' h4⟩
theorem Ve{v:Value}{s:Sp}{r:Int×List Row×List Int}(hx:Sy s r){w:World}(hv:UK (p9 w) w v s)(hb:∀r∈s.rules,r.2.length<=8796093021952)(h:(Ci s r.1).1≠0):
  Calls aB 5 #[v] w (cB (ag5 (Ci s r.1).1) w):=
 (zz v s r hx w hv hb).mono λe w' hm=>by
  have hS:pT s r=vW (Ci s r.1).1:=by unfold pT;rw[if_pos h]
  rw[hS]at hm;exact hm.to _ λx _=>⟨(),trivial,rfl,λw' h=>h⟩
theorem Nr{v:Value}{s:Sp}{r:Int×List Row×List Int}(hx:Sy s r){w:World}(hv:UK (p9 w) w v s)(hb:∀r∈s.rules,r.2.length<=8796093021952)(h:(Ci s r.1).1=0):
  Calls aB 5 #[v] w (cB (Q2 (we s r)) w):=
 (zz v s r hx w hv hb).mono λe w' hm=>by
  obtain⟨h1,-,-,h4⟩:=M5 (s:=s) (e:=r.1) (m:=(Ci s r.1).2) (by rw[<-h]);obtain⟨hG,acg⟩:=zy hx h1;obtain⟨aiS,-⟩:=Kb hx h1;have hS:pT s r=if(Ci s r.1).2=1 then ace s r.2.1 r.2.2 else acf s r.2.1 r.2.2:=by unfold pT;rw[if_neg (by rw[h];simp)]
  unfold we;rcases h4 with⟨_,ml⟩|⟨_,_,_,ml⟩
  ·rw[ml,if_pos I]at hS⊢
   rw[hS]at hm;refine hm.to (Q2 _) λx lq=>⟨⟨x.vo,ap (aj ⟨x.gP,0,ak⟩) r.2.1.length r.2.1.length,x.vT,x.vp,ap (aj ⟨x.gR,0,ak⟩) (c_ s).bC.toNat (c_ s).bC.toNat,ap ak 0 0,ap ak 0 0,x.lex s r.2.1 r.2.2++x.rows (c_ s)⟩,⟨λw' hb=>ae6 (x:=x) (i0:=0) (i1:=1) (i2:=2) (i3:=3) (i4:=4) (i5:=5) (i6:=6) (Kp hb) J acg hG I I I I I I I,?_⟩,rfl,λw' h=>h.bun⟩;obtain⟨k1,k2,k3⟩:=lq;exact vP k1 (ZS (x:=x) k3 r.2.1) (by simp only[fK,cZ,db,k2];rfl)
  rw[ml,if_neg aiT]at hS⊢;rw[hS]at hm;refine hm.to (Q2 _) λx lq=>⟨⟨x.vo,ap (aj ⟨x.gP,0,ak⟩) r.2.1.length r.2.1.length,x.vT,x.vp,ap ak 0 0,x.tx.vA,x.tx.vG,x.lex s r.2.1 r.2.2++UY x.tx (iG (c_ s)).1 (iG (c_ s)).2.1⟩,⟨λw' hb=>ae7 (x:=x) (i0:=0) (i1:=1) (i2:=2) (i3:=3) (i4:=4) (i5:=5) (i6:=6) (i7:=7) (i8:=8) (Kp hb) J acg hG I I I I I I I I I,?_⟩,rfl,λw' h=>h.bun⟩;obtain⟨⟨k1,k2,k3⟩,b1,b2⟩:=lq;exact vP k1 (ZS (x:=x) k3 r.2.1) (by simp only[fK,cZ,db,k2,b1,b2];rfl)
theorem Fy{s:Sp}{r:Int×List Row×List Int}(hx:Sy s r)(h:(Ci s r.1).1=0):∃b T N,jA (we s r) b T N:=by
 obtain⟨h1,-,-,h4⟩:=M5 (s:=s) (e:=r.1) (m:=(Ci s r.1).2) (by rw[<-h]);obtain⟨hG,acg⟩:=zy hx h1;obtain⟨b1,b2,b3,b4,b5,b6⟩:=cP hG;unfold we;rcases h4 with⟨_,ml⟩|⟨_,h5,_,ml⟩
 ·rw[ml,if_pos I]
  exact⟨aD,(c_ s).aR.toNat,(c_ s).bC.toNat,acy hx h1,rfl,by show(c_ s).aR=_;omega,by show(c_ s).bC=_;omega,λ_=>⟨M9 (g:=c_ s) hG J J,aeY (g:=c_ s) J J⟩,(λh=>by cases h)⟩
 rw[ml,if_neg aiT];obtain⟨T,N,Nx,S,hM⟩:=H2 h5;have hL:rO (c_ s) T N (iG (c_ s)).1 (iG (c_ s)).2.1:=by rw[hM.dI,hM.gos];exact hM.pt
 exact⟨aE,T,N,acz hx h1 h5,rfl,hL.aR,hL.bC,(λh=>by cases h),λ_=>hL⟩
end cI
namespace cI
open Go.RowKit cU dS aT dP fh gT jQ bJ mM gu
open iz (Ev rZ takeN Gl Kf oe yx H6)
theorem ng.acI{B:Nat}{w:World}(e e':TypeId)(c c':Nat)(h:ng B w []):ng B w [a_ e c (ap ak 0 0) 0 [],a_ e' c' (ap ak 0 0) 0 []]:=by
 refine⟨λi o hi=>?_,λi j o o' re hi hj k hk=>?_⟩
 ·match i,hi with
  |0,hi=>cases hi;exact⟨⟨by simp,.inl ⟨rfl,rfl⟩⟩,λk hk=>hk.elim (λh=>by cases h) nV⟩
  |1,hi=>cases hi;exact⟨⟨by simp,.inl ⟨rfl,rfl⟩⟩,λk hk=>hk.elim (λh=>by cases h) nV⟩
  |i+2,hi=>cases hi
 match i,hi with
 |0,hi=>cases hi;exact absurd hk λhk=>hk.elim (λh=>by cases h) nV
 |1,hi=>cases hi;exact absurd hk λhk=>hk.elim (λh=>by cases h) nV
 |i+2,hi=>cases hi
theorem Ia{l:List aT.Prod}{nx:Int->Int}{st:List TD}{seen:Nat}{t:Int}(h:(jX l nx st seen t).1≠0):(jX l nx st seen t).2=([],[]):=by
 rcases ya (l:=l) (nx:=nx) (st:=st) (seen:=seen) (t:=t) rfl with⟨h1,h2⟩|⟨x,r,o,a1,h1,h2,h3,h4,h5,h6⟩
 exact h2;exact absurd (congrArg Prod.fst h6) h
theorem aap{l:List aT.Prod}{nx:Int->Int}{st:List TD}(h:(jz l nx st).1≠0):(jz l nx st).2=[]:=by
 rcases Hh (l:=l) (nx:=nx) (st:=st) rfl with⟨h1,h2⟩|⟨a1,h1,h2⟩
 exact h2;exact absurd h2 h
theorem wH{l:List aT.Prod}{act:Nat->Nat->bJ.Act}{gt:Nat->Int->Int}{col a:Nat}:∀(f:Nat) (σ:List Nat) (o:List dy),(f_ l act gt col a f σ o).1≠0->(f_ l act gt col a f σ o).2=([],[])
 |0,σ,o,_=>by unfold f_;rfl
 | f + 1,σ,o,h=>by
  unfold f_ at h⊢;split at h
  ·rename_i c;rw[if_pos c]
  rename_i c;rw[if_neg c]
  split at h;exact absurd I h
  rename_i c2;rw[if_neg c2]
  split at h
  ·rename_i c3;rw[if_pos c3]
   split at h
   ·rename_i c4;rw[if_pos c4]
   exact absurd I h
  rename_i c3;rw[if_neg c3]
  split at h
  ·rename_i c4;rw[if_pos c4]
   cases hr:Cm l gt σ (act (σ.headD 0) col).2 with
   |none=>rfl
   | some σ'=>
    rw[hr]at h;dsimp only at h⊢;split at h
    ·rename_i c5;rw[if_pos c5]
    rename_i c5;rw[if_neg c5];exact wH f _ _ h
  rename_i c4;rw[if_neg c4]
def tkA(b:Bool)(seen:Nat)(e:Int)(p:PS)(o:List dy):Spec (Value×Value):=
 ⟨λ_=>True,λx=> .tuple #[te x.1 ((if e=0 then seen+1 else seen:Nat):Int) e aE,x.2,av az e],λx=>[qj b x.1 p,kV x.2 o]⟩
def enA(seen:Int)(e:Int)(o:List dy):Spec Value:=
 ⟨λ_=>True,λx=> .tuple #[te (ap ak 0 0) seen e (decide (e=0)),x,av az e],λx=>[kV x o]⟩
theorem Q3(v vr vt:Value)(g:eb)(ll:List (List Int))(T N:Nat)(p:PS)(seen t:Nat)(w:World)(h:kj (λk=>k<w.heap.size) w v g)(hr:zK w vr ll)(ht:TdR w vt p.1)(h0:E8 g ll=0)(hg:aT.b_ g=0)(hT:Fc g ll T N)(hs:∀d∈p.1,qQ g d)(hl:p.1.length<=60)(h1:seen<=1000000)(h2:t<T):
 Calls aB 91 #[v,vr,te vt (seen:Int) 0 aE,av az (t:Int)] w (cB (tkA aD seen (jX g.aF (iH ll t) p.1 seen (t:Int)).1 ((jX g.aF (iH ll t) p.1 seen (t:Int)).2.1,p.2) (jX g.aF (iH ll t) p.1 seen (t:Int)).2.2) w):=by
 have hc:=Ck v vr vt g ll T N p.1 seen t w h hr ht h0 hg hT hs hl h1 h2;have hb:=Ia (l:=g.aF) (nx:=iH ll t) (st:=p.1) (seen:=seen) (t:=(t:Int));generalize jX g.aF (iH ll t) p.1 seen (t:Int)=R at*;obtain⟨e,st,o⟩:=R;dsimp only at hb⊢
 by_cases c:e=0
 ·subst c;rw[aaa]at hc;exact hc
 ·rw[U5 _ c]at hc
  have hb:=hb c;simp only[fD]at hb;obtain⟨rfl,rfl⟩:=hb;exact hc.mono λe' w' hm=>hm.to (tkA aD seen e ([],p.2) []) λx _=>⟨(ap ak 0 0,ap ak 0 0),trivial,by simp only[tkA,if_neg c],λw' ho=>ng.acI _ _ _ _ ho⟩
theorem Vf(v vr vt:Value)(g:eb)(ll:List (List Int))(T N:Nat)(st:List TD)(seen:Nat)(w:World)(h:kj (λk=>k<w.heap.size) w v g)(hr:zK w vr ll)(ht:TdR w vt st)(h0:E8 g ll=0)(hg:aT.b_ g=0)(hT:Fc g ll T N)(hs:∀d∈st,qQ g d)(hl:st.length<=60)(h1:seen<=1000000):
 Calls aB 97 #[v,vr,te vt (seen:Int) 0 aE] w (cB (enA (seen:Int) (jz g.aF (iH ll T) st).1 (jz g.aF (iH ll T) st).2) w):=by
 have hc:=Fe v vr vt g ll T N st seen w h hr ht h0 hg hT hs hl h1;have hb:=aap (l:=g.aF) (nx:=iH ll T) (st:=st);generalize jz g.aF (iH ll T) st=R at*;obtain⟨e,o⟩:=R;dsimp only at hb⊢
 by_cases c:e=0
 ·subst c;rw[acv]at hc;exact hc
 ·rw[aab _ c]at hc
  obtain rfl:=hb c;exact hc.mono λe' w' hm=>hm.to (enA (seen:Int) e []) λx _=>⟨ap ak 0 0,trivial,by simp only[enA,decide_eq_false c],λw' ho=>(ng.acI 168 168 2 2 ho).pick [0] (by simp) I⟩
theorem acJ(v t vs:Value)(g:eb)(T N:Nat)(A:List (List bJ.Act))(G:List (List Int))(p:PS)(seen col:Nat)(w:World)(hG:kj (λk=>k<w.heap.size) w v g)(ht:A_ w t A G)(hs:skR w vs p.2)(hT:rO g T N A G)(hq:∀q∈p.2,q<A.length)(hne:p.2≠[])(hl:p.2.length<=60)(hc:col<T)(hsn:seen<=1000000):
 Calls aB 92 #[v,t,vZ vs (seen:Int) 0 aE,av az (col:Int)] w (cB (tkA aE seen (f_ g.aF (iM A) (fa G) col seen 2001 p.2 []).1 (p.1,(f_ g.aF (iM A) (fa G) col seen 2001 p.2 []).2.1) (f_ g.aF (iM A) (fa G) col seen 2001 p.2 []).2.2) w):=by
 have hc:=Kl v t vs g T N A G p.2 seen col w hG ht hs hT hq hne hl hc hsn;have hb:=wH (l:=g.aF) (act:=iM A) (gt:=fa G) (col:=col) (a:=seen) 2001 p.2 [];generalize f_ g.aF (iM A) (fa G) col seen 2001 p.2 []=R at*;obtain⟨e,st,o⟩:=R;dsimp only at hb⊢
 by_cases c:e=0
 ·subst c;rw[H7]at hc;exact hc
 ·rw[H8 c]at hc
  have hb:=hb c;simp only[fD]at hb;obtain⟨rfl,rfl⟩:=hb;exact hc.mono λe' w' hm=>hm.to (tkA aE seen e (p.1,[]) []) λx _=>⟨(ap ak 0 0,ap ak 0 0),trivial,by simp only[tkA,if_neg c];rfl,λw' ho=>ng.acI _ _ _ _ ho⟩
theorem afd(v t vs:Value)(g:eb)(T N:Nat)(A:List (List bJ.Act))(G:List (List Int))(rY:List Nat)(seen:Nat)(w:World)(hG:kj (λk=>k<w.heap.size) w v g)(ht:A_ w t A G)(hs:skR w vs rY)(hT:rO g T N A G)(hq:∀q∈rY,q<A.length)(hne:rY≠[])(hl:rY.length<=60)(hsn:seen<=1000000):
 Calls aB 98 #[v,t,vZ vs (seen:Int) 0 aE] w (cB (enA (seen:Int) (f_ g.aF (iM A) (fa G) T seen 2001 rY []).1 (f_ g.aF (iM A) (fa G) T seen 2001 rY []).2.2) w):=by
 have hc:=Nl v t vs g T N A G rY seen w hG ht hs hT hq hne hl hsn;have hb:=wH (l:=g.aF) (act:=iM A) (gt:=fa G) (col:=T) (a:=seen) 2001 rY [];generalize f_ g.aF (iM A) (fa G) T seen 2001 rY []=R at*;obtain⟨e,st,o⟩:=R;dsimp only at hb⊢
 by_cases c:e=0
 ·subst c;rw[Nj]at hc;exact hc
 ·rw[Nk c]at hc
  have hb:=hb c;simp only[fD]at hb;obtain⟨rfl,rfl⟩:=hb;exact hc.mono λe' w' hm=>hm.to (enA (seen:Int) e []) λx _=>⟨ap ak 0 0,trivial,by simp only[enA,decide_eq_false c];rfl,λw' ho=>(ng.acI 168 168 2 2 ho).pick [0] (by simp) I⟩
end cI
end Go.Proofs.YtaobbfedlnddcaaGreat

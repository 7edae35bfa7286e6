/- Part 4 of what SessionSteps needs: GateD, CfgP, CfgQ, CfgR, DfS, DfaP, DfN, DfT, SmO, SmT, SmK, SmW, SmD, SmX, SmY, SmA, CountC, CountD, LlM, LlC, LrA, LrK, LrC, ClimbB, ClimbC, LrP, LrT, BuA, BuB. -/
import Derived.Test.YtdmgcnggnejnnaaGreatMgC
namespace Go.Proofs.YtdmgcnggnejnnaaGreat
set_option linter.unusedVariables false
set_option linter.unusedSimpArgs false
open _root_.And renaming intro->dh
open _root_.Array renaming getElem?_eq_some_iff->lA
open _root_.Array.mk renaming injEq->pv
open _root_.BitVec renaming ofNat->lY
open _root_.Bool renaming false->aE,true->aD,and_eq_true->fU,false_eq_true->ow,eq_false_iff->vz
open _root_.Classical renaming not_not->Xw
open _root_.False renaming elim->nk
open _root_.Go.Instr renaming build->dR
open _root_.Go.IntKind renaming i64->az,bits->lB,signed->oY,wrap_u64->tO,u64->xi,min->zN,max->zO
open _root_.Go.Op renaming shift->jd
open _root_.Go.Program renaming keyLits->sh
open _root_.Go.Proofs.Tryz renaming prog->aC
open _root_.Go.Value renaming slice->ap,int->av,pointer->aK,agg->aU,oneCell'->fG
open _root_.Go.Value.agg renaming injEq->k7
open _root_.Go.Value.int renaming injEq->Ad
open _root_.Go.Value.slice renaming injEq->jQ
open _root_.Go.World renaming ownsRow_nil->Xx
open _root_.Int renaming toNat_natCast->dP,eq_ofNat_of_zero_le->jg,toNat_of_nonneg->uy
open _root_.List renaming getElem?_eq_getElem->bQ,getD_eq_getElem?_getD->cK,length_append->bT,getElem?_eq_some_iff->dv,getElem_mem->cV,length_cons->dE,drop_eq_getElem_cons->ff,replicate->dJ,mem_singleton->ep,length_map->dX,size_toArray->eE,take_succ_eq_append_getElem->ia,append_nil->eB,append_assoc->eZ,map_append->ft,getElem?_map->fx,mem_cons->ez,take_of_length_le->gj,flatMap_append->fV,nil_append->fg,mem_append->fC,range->eG,length_nil->gJ,mem_map->e7,drop_of_length_le->je,getElem?_toArray->kt,length_drop->iv,mem_cons_self->ir,mem_iff_getElem->jt,map_cons->gu,getElem?_eq_none->jE,not_mem_nil->iD,length_singleton->ky,length_take->jR,length_range->pw,drop_eq_nil_of_le->pO,ext_getElem?->mG,any_eq_true->oc,mem_of_mem_drop->uz,any_eq_false->sV,exists_cons_of_ne_nil->OV,mem_append_left->tV,setIfInBounds_toArray->Ec,map_replicate->AH,length_tail->IV,flatten_cons->zT,range_succ->Ae,getElem?_range->De,map_singleton->Ed,flatMap_def->OW,map_eq_flatMap->Xy,length->OX,mem_reverse->Xz,map_take->XA
open _root_.List.cons renaming injEq->ib
open _root_.Nat renaming le_refl->bJ,zero_le->bO,zero_add->du,blt->dM,le_trans->fI,lt_succ_self->ox,not_lt_zero->mc,succ_mul->kQ,add_zero->iO,mul_one->kR,lt_of_le_of_lt->xG,sub_self->px,mul_le_mul->Ee,succ_ne_zero->IW,lt_irrefl->IX,blt_eq->AI,succ_pos->Ef,le_succ->XB
open _root_.Option renaming some->aj,none->ak,getD_some->lf
open _root_.Option.some renaming injEq->dB,inj->o9
open _root_.Prod renaming ext->od
open _root_.True renaming intro->dl
open _root_.Vector renaming replicate->eS,getElem_ofFn->lK,getElem_toList->oy,ext->kE,getElem_set->vB,ofFn->AJ,toList->OY
set_option maxHeartbeats 16000000
namespace cZ
open Go.RowKit dr eH iU
theorem IY(v:Value)(wait:List Ev)(c g n:Int)(w:World)(hs:Sl w v wait.length (wait.flatMap tE))(hl:wait.length*16<=140737488355328):
 Calls aC 67 #[y6 v c g,av az n] w (cY (OT wait (x9 wait c g n) g (ot wait c g n)) w):=by
 have jr:=λw' (hg:Gr w w')=>sU v wait c g w' (hs.gr hg);have hsm:=λw' (hg:Gr w w')=>vv v wait c g w' (hs.gr hg) hl;have l7:=Tj (wait:=wait) (c:=c) (g:=g) (n:=n);have xt:=de (wait:=wait) (c:=c) (g:=g);obtain⟨base,cap,rfl,lR,kA,_⟩:=hs;unfold maxLen at kA;refine enter (args:=[y6 (ap base wait.length cap) c g,av az n]) (n:=32) Tryz.func67 I I I ?_;refine bC (aM (b_ I I I λg0=>bz I λg4=>?_))
 repeat(first|refine aI (bX I) I I I ?_|refine aI (cC I) I I I ?_|refine cz ?_|refine cB ?_|refine aI (dH I I) I I I ?_|refine aI (dI I I) I I I ?_|refine aI (dj cI.iC I I) I I I ?_|refine aI (fQ I I J) I I I ?_|refine aI (aX I I (decide_eq_true J)) I I I ?_|refine aI (aX I I (decide_eq_false J)) I I I ?_|refine aI (bL I I J J I) I I I ?_|refine fM I I I I I I ?_|refine bI (bX I) I I I I I ?_|refine bI (dH I I) I I I I I ?_|refine bI (dI I I) I I I I I ?_|refine bI (aW I I (decide_eq_true J)) I I I I I ?_|refine bI (aW I I (decide_eq_false J)) I I I I I ?_|refine bI (bB I I (decide_eq_true J)) I I I I I ?_|refine bI (bB I I (decide_eq_false J)) I I I I I ?_)
 refine U6 (ι:=Value×Nat) (λ(v2,_)=>v2.oneCell'=aD) (λ(v2,g6)=>[(1,av az n),(4,aK (aj ⟨g4,0,ak⟩)),(6,aK (aj ⟨g6,0,ak⟩)),(7,av az (cL wait c g))]) (λ(v2,g6)=>[aR g4 #[ap ak 0 0,av az 0,av az 0] 166,bD 55 2 v2 wait.length (wait.flatMap tE),aR g6 (y6 v2 c g).cells 166]) ?_ ?_
 ·refine eo ([aR g0 (y6 (ap base wait.length cap) c g).cells 166]) (.calm 0 (.calm 2 (.two 1 (.calm 3 (.one 4 (.one 5 (.calm 6 (.done))))) 4 (.one 1 (.calm 3 (.one 5 (.calm 6 (.done)))))))) (cH [0]) ?_
  repeat(first|refine dG I (bX I) I I I ?_|refine dG I (cC I) I I I ?_|refine dG I (aQ (i:=0) aL.ty I I I) I I I ?_|refine dG I (dH I I) I I I ?_|refine dG I (dI I I) I I I ?_|refine dG I (dj cI.iC I I) I I I ?_|refine dG I (fQ I I J) I I I ?_|refine dG I (aX I I (decide_eq_true J)) I I I ?_|refine dG I (aX I I (decide_eq_false J)) I I I ?_|refine dG I (bL I I J J I) I I I ?_|refine qq I I I I I I I ?_|refine fe I (bX I) I I I I I ?_|refine fe I (dH I I) I I I I I ?_|refine fe I (dI I I) I I I I I ?_|refine fe I (aW I I (decide_eq_true J)) I I I I I ?_|refine fe I (aW I I (decide_eq_false J)) I I I I I ?_|refine fe I (bB I I (decide_eq_true J)) I I I I I ?_|refine fe I (bB I I (decide_eq_false J)) I I I I I ?_|refine jV ?_)
  refine e9 I I ?_ ?_
  ·refine a8 (ju aJ.en I I) (λw hm=>hsm _ hm.below) I I I ?_
   intro v2 _;refine aP (cH [0]) ?_;refine oF I (ju aJ.en I I) (λw hm=>jr _ hm.below) I I I ?_;refine aO I (bz I λg6=>aP (cH [0]) ?_);refine aO I ?_;refine aY (i:=2) I λoQ mL=>?_;refine aZ (i:=3) I I I I (kf mL) I ?_;refine aP (cH [0]) ?_
   repeat(first|refine dG I (bX I) I I I ?_|refine dG I (cC I) I I I ?_|refine dG I (dH I I) I I I ?_|refine dG I (dI I I) I I I ?_|refine dG I (dj cI.iC I I) I I I ?_|refine dG I (fQ I I J) I I I ?_|refine dG I (aX I I (decide_eq_true J)) I I I ?_|refine dG I (aX I I (decide_eq_false J)) I I I ?_|refine dG I (bL I I J J I) I I I ?_|refine qq I I I I I I I ?_|refine fe I (bX I) I I I I I ?_|refine fe I (dH I I) I I I I I ?_|refine fe I (dI I I) I I I I I ?_|refine fe I (aW I I (decide_eq_true J)) I I I I I ?_|refine fe I (aW I I (decide_eq_false J)) I I I I I ?_|refine fe I (bB I I (decide_eq_true J)) I I I I I ?_|refine fe I (bB I I (decide_eq_false J)) I I I I I ?_|refine jV ?_)
   refine dS [1,2,3] ?_;exact eJ (v2,g6) mL (by repeat' (first|exact dl|refine dh I ?_)) I
  refine bz I λg6=>?_;refine aP (cH [0]) ?_;refine aO I ?_;refine a8 (ju aJ.en I I) (λw hm=>hsm _ hm.below) I I I ?_;intro v2 _;refine aP (cH [0]) ?_;refine oF I (ju aJ.en I I) (λw hm=>jr _ hm.below) I I I ?_;refine aO I ?_;refine aY (i:=3) I λoQ mL=>?_;refine aZ (i:=2) I I I I (kf mL) I ?_;refine aP (cH [0]) ?_
  repeat(first|refine dG I (bX I) I I I ?_|refine dG I (cC I) I I I ?_|refine dG I (dH I I) I I I ?_|refine dG I (dI I I) I I I ?_|refine dG I (dj cI.iC I I) I I I ?_|refine dG I (fQ I I J) I I I ?_|refine dG I (aX I I (decide_eq_true J)) I I I ?_|refine dG I (aX I I (decide_eq_false J)) I I I ?_|refine dG I (bL I I J J I) I I I ?_|refine qq I I I I I I I ?_|refine fe I (bX I) I I I I I ?_|refine fe I (dH I I) I I I I I ?_|refine fe I (dI I I) I I I I I ?_|refine fe I (aW I I (decide_eq_true J)) I I I I I ?_|refine fe I (aW I I (decide_eq_false J)) I I I I I ?_|refine fe I (bB I I (decide_eq_true J)) I I I I I ?_|refine fe I (bB I I (decide_eq_false J)) I I I I I ?_|refine jV ?_)
  refine dS [1,3,2] ?_;exact eJ (v2,g6) mL (by repeat' (first|exact dl|refine dh I ?_)) I
 rintro⟨v2,g6⟩ mL;dsimp only at mL⊢;unfold x9 ot at*
 by_cases c1:cL wait c g=0
 ·obtain⟨_,b1,b2,_⟩:=xt c1
  rw[c1];simp only[ne_eq,not_true_eq_false,if_false]
  by_cases c2:n<1
  ·rw[if_pos c2]
   repeat(first|refine aI (bX I) I I I ?_|refine aI (cC I) I I I ?_|refine cz ?_|refine bC ?_|refine aM ?_|refine dN I ?_|refine dO I ?_|refine c_ ?_|refine dx ?_|refine cB ?_|refine bU ?_|refine aI (aQ (i:=2) aL.ty I I I) I I I ?_|refine aI (dH I I) I I I ?_|refine aI (dI I I) I I I ?_|refine aI (dj cI.iC I I) I I I ?_|refine aI (fQ I I J) I I I ?_|refine aI (aX I I (decide_eq_true J)) I I I ?_|refine aI (aX I I (decide_eq_false J)) I I I ?_|refine aI (bL I I J J I) I I I ?_|refine fM I I I I I I ?_|refine bI (bX I) I I I I I ?_|refine bI (dH I I) I I I I I ?_|refine bI (dI I I) I I I I I ?_|refine bI (aW I I (decide_eq_true J)) I I I I I ?_|refine bI (aW I I (decide_eq_false J)) I I I I I ?_|refine bI (bB I I (decide_eq_true J)) I I I I I ?_|refine bI (bB I I (decide_eq_false J)) I I I I I ?_)
   refine aZ (i:=0) I I I I (kf mL) I ?_
   repeat(first|refine aI (bX I) I I I ?_|refine aI (cC I) I I I ?_|refine cz ?_|refine bC ?_|refine aM ?_|refine dN I ?_|refine dO I ?_|refine c_ ?_|refine dx ?_|refine cB ?_|refine bU ?_|refine aI (dH I I) I I I ?_|refine aI (dI I I) I I I ?_|refine aI (dj cI.iC I I) I I I ?_|refine aI (fQ I I J) I I I ?_|refine aI (aX I I (decide_eq_true J)) I I I ?_|refine aI (aX I I (decide_eq_false J)) I I I ?_|refine aI (bL I I J J I) I I I ?_|refine fM I I I I I I ?_|refine bI (bX I) I I I I I ?_|refine bI (dH I I) I I I I I ?_|refine bI (dI I I) I I I I I ?_|refine bI (aW I I (decide_eq_true J)) I I I I I ?_|refine bI (aW I I (decide_eq_false J)) I I I I I ?_|refine bI (bB I I (decide_eq_true J)) I I I I I ?_|refine bI (bB I I (decide_eq_false J)) I I I I I ?_)
   exact e8 (i:=0) I I I I I λw hm=>hm.meets (S:=OT wait c g 1) v2 trivial [1] ahk I
  rw[if_neg c2]
  by_cases c3:1073741824<n
  ·rw[if_pos c3]
   repeat(first|refine aI (bX I) I I I ?_|refine aI (cC I) I I I ?_|refine cz ?_|refine bC ?_|refine aM ?_|refine dN I ?_|refine dO I ?_|refine c_ ?_|refine dx ?_|refine cB ?_|refine bU ?_|refine aI (aQ (i:=2) aL.ty I I I) I I I ?_|refine aI (dH I I) I I I ?_|refine aI (dI I I) I I I ?_|refine aI (dj cI.iC I I) I I I ?_|refine aI (fQ I I J) I I I ?_|refine aI (aX I I (decide_eq_true J)) I I I ?_|refine aI (aX I I (decide_eq_false J)) I I I ?_|refine aI (bL I I J J I) I I I ?_|refine fM I I I I I I ?_|refine bI (bX I) I I I I I ?_|refine bI (dH I I) I I I I I ?_|refine bI (dI I I) I I I I I ?_|refine bI (aW I I (decide_eq_true J)) I I I I I ?_|refine bI (aW I I (decide_eq_false J)) I I I I I ?_|refine bI (bB I I (decide_eq_true J)) I I I I I ?_|refine bI (bB I I (decide_eq_false J)) I I I I I ?_)
   refine aZ (i:=0) I I I I (kf mL) I ?_
   repeat(first|refine aI (bX I) I I I ?_|refine aI (cC I) I I I ?_|refine cz ?_|refine bC ?_|refine aM ?_|refine dN I ?_|refine dO I ?_|refine c_ ?_|refine dx ?_|refine cB ?_|refine bU ?_|refine aI (dH I I) I I I ?_|refine aI (dI I I) I I I ?_|refine aI (dj cI.iC I I) I I I ?_|refine aI (fQ I I J) I I I ?_|refine aI (aX I I (decide_eq_true J)) I I I ?_|refine aI (aX I I (decide_eq_false J)) I I I ?_|refine aI (bL I I J J I) I I I ?_|refine fM I I I I I I ?_|refine bI (bX I) I I I I I ?_|refine bI (dH I I) I I I I I ?_|refine bI (dI I I) I I I I I ?_|refine bI (aW I I (decide_eq_true J)) I I I I I ?_|refine bI (aW I I (decide_eq_false J)) I I I I I ?_|refine bI (bB I I (decide_eq_true J)) I I I I I ?_|refine bI (bB I I (decide_eq_false J)) I I I I I ?_)
   exact e8 (i:=0) I I I I I λw hm=>hm.meets (S:=OT wait c g 1) v2 trivial [1] ahk I
  rw[if_neg c3]
  repeat(first|refine aI (bX I) I I I ?_|refine aI (cC I) I I I ?_|refine cz ?_|refine bC ?_|refine aM ?_|refine dN I ?_|refine dO I ?_|refine c_ ?_|refine dx ?_|refine cB ?_|refine bU ?_|refine aI (aB aL.ty I (aH (i:=2) I I)) I I I ?_|refine aI (fQ I I I) I I I ?_|refine aI (dH I I) I I I ?_|refine aI (dI I I) I I I ?_|refine aI (dj cI.iC I I) I I I ?_|refine aI (fQ I I J) I I I ?_|refine aI (aX I I (decide_eq_true J)) I I I ?_|refine aI (aX I I (decide_eq_false J)) I I I ?_|refine aI (bL I I J J I) I I I ?_|refine fM I I I I I I ?_|refine bI (bX I) I I I I I ?_|refine bI (dH I I) I I I I I ?_|refine bI (dI I I) I I I I I ?_|refine bI (aW I I (decide_eq_true J)) I I I I I ?_|refine bI (aW I I (decide_eq_false J)) I I I I I ?_|refine bI (bB I I (decide_eq_true J)) I I I I I ?_|refine bI (bB I I (decide_eq_false J)) I I I I I ?_)
  refine cD (i:=2) I I I I I I ?_
  repeat(first|refine aI (bX I) I I I ?_|refine aI (cC I) I I I ?_|refine cz ?_|refine bC ?_|refine aM ?_|refine dN I ?_|refine dO I ?_|refine c_ ?_|refine dx ?_|refine cB ?_|refine bU ?_|refine aI (aQ (i:=2) aL.ty I I I) I I I ?_|refine aI (dH I I) I I I ?_|refine aI (dI I I) I I I ?_|refine aI (dj cI.iC I I) I I I ?_|refine aI (fQ I I J) I I I ?_|refine aI (aX I I (decide_eq_true J)) I I I ?_|refine aI (aX I I (decide_eq_false J)) I I I ?_|refine aI (bL I I J J I) I I I ?_|refine fM I I I I I I ?_|refine bI (bX I) I I I I I ?_|refine bI (dH I I) I I I I I ?_|refine bI (dI I I) I I I I I ?_|refine bI (aW I I (decide_eq_true J)) I I I I I ?_|refine bI (aW I I (decide_eq_false J)) I I I I I ?_|refine bI (bB I I (decide_eq_true J)) I I I I I ?_|refine bI (bB I I (decide_eq_false J)) I I I I I ?_)
  refine aZ (i:=0) I I I I (kf mL) I ?_
  repeat(first|refine aI (bX I) I I I ?_|refine aI (cC I) I I I ?_|refine cz ?_|refine bC ?_|refine aM ?_|refine dN I ?_|refine dO I ?_|refine c_ ?_|refine dx ?_|refine cB ?_|refine bU ?_|refine aI (dH I I) I I I ?_|refine aI (dI I I) I I I ?_|refine aI (dj cI.iC I I) I I I ?_|refine aI (fQ I I J) I I I ?_|refine aI (aX I I (decide_eq_true J)) I I I ?_|refine aI (aX I I (decide_eq_false J)) I I I ?_|refine aI (bL I I J J I) I I I ?_|refine fM I I I I I I ?_|refine bI (bX I) I I I I I ?_|refine bI (dH I I) I I I I I ?_|refine bI (dI I I) I I I I I ?_|refine bI (aW I I (decide_eq_true J)) I I I I I ?_|refine bI (aW I I (decide_eq_false J)) I I I I I ?_|refine bI (bB I I (decide_eq_true J)) I I I I I ?_|refine bI (bB I I (decide_eq_false J)) I I I I I ?_)
  exact e8 (i:=0) I I I I I λw hm=>hm.meets (S:=OT wait (min (c+n) 1073741824) g 0) v2 trivial [1] ahk I
 ·rw[if_pos c1,if_neg c1]
  repeat(first|refine aI (bX I) I I I ?_|refine aI (cC I) I I I ?_|refine cz ?_|refine bC ?_|refine aM ?_|refine dN I ?_|refine dO I ?_|refine c_ ?_|refine dx ?_|refine cB ?_|refine bU ?_|refine aI (aQ (i:=2) aL.ty I I I) I I I ?_|refine aI (dH I I) I I I ?_|refine aI (dI I I) I I I ?_|refine aI (dj cI.iC I I) I I I ?_|refine aI (fQ I I J) I I I ?_|refine aI (aX I I (decide_eq_true J)) I I I ?_|refine aI (aX I I (decide_eq_false J)) I I I ?_|refine aI (bL I I J J I) I I I ?_|refine fM I I I I I I ?_|refine bI (bX I) I I I I I ?_|refine bI (dH I I) I I I I I ?_|refine bI (dI I I) I I I I I ?_|refine bI (aW I I (decide_eq_true J)) I I I I I ?_|refine bI (aW I I (decide_eq_false J)) I I I I I ?_|refine bI (bB I I (decide_eq_true J)) I I I I I ?_|refine bI (bB I I (decide_eq_false J)) I I I I I ?_)
  refine aZ (i:=0) I I I I (kf mL) I ?_
  repeat(first|refine aI (bX I) I I I ?_|refine aI (cC I) I I I ?_|refine cz ?_|refine bC ?_|refine aM ?_|refine dN I ?_|refine dO I ?_|refine c_ ?_|refine dx ?_|refine cB ?_|refine bU ?_|refine aI (dH I I) I I I ?_|refine aI (dI I I) I I I ?_|refine aI (dj cI.iC I I) I I I ?_|refine aI (fQ I I J) I I I ?_|refine aI (aX I I (decide_eq_true J)) I I I ?_|refine aI (aX I I (decide_eq_false J)) I I I ?_|refine aI (bL I I J J I) I I I ?_|refine fM I I I I I I ?_|refine bI (bX I) I I I I I ?_|refine bI (dH I I) I I I I I ?_|refine bI (dI I I) I I I I I ?_|refine bI (aW I I (decide_eq_true J)) I I I I I ?_|refine bI (aW I I (decide_eq_false J)) I I I I I ?_|refine bI (bB I I (decide_eq_true J)) I I I I I ?_|refine bI (bB I I (decide_eq_false J)) I I I I I ?_)
  exact e8 (i:=0) I I I I I λw hm=>hm.meets (S:=OT wait c g (cL wait c g)) v2 trivial [1] ahk I
def taS(wait:List Ev)(c g n:Int):Spec (Value×Value):=
 if G2 wait c g n=0 then
  ⟨λ_=>True,λx=> .tuple #[y6 x.1 (c-takeN wait c n) (g+takeN wait c n),x.2,av az 0],λx=>[bD 55 2 x.1 (wait.length-takeN wait c n) ((wait.drop (takeN wait c n)).flatMap tE),bD 55 2 x.2 (takeN wait c n) ((wait.take (takeN wait c n)).flatMap tE)]⟩
 else⟨λ_=>True,λx=> .tuple #[y6 x.1 c g,x.2,av az (G2 wait c g n)],λx=>[bD 55 2 x.1 wait.length (wait.flatMap tE),bD 55 2 x.2 0 []]⟩
theorem Lr(v:Value)(wait:List Ev)(c g n:Int)(w:World)(hs:Sl w v wait.length (wait.flatMap tE))(hl:wait.length*16<=140737488355328):
 Calls aC 70 #[y6 v c g,av az n] w (cY (taS wait c g n) w):=by
 have jr:=λw' (hg:Gr w w')=>sU v wait c g w' (hs.gr hg);have hsm:=λw' (hg:Gr w w')=>vv v wait c g w' (hs.gr hg) hl;have xt:=de (wait:=wait) (c:=c) (g:=g);obtain⟨base,cap,rfl,lR,kA,_⟩:=hs;unfold maxLen at kA;refine enter (args:=[y6 (ap base wait.length cap) c g,av az n]) (n:=55) Tryz.func70 I I I ?_;refine bC (aM (b_ I I I λg0=>bz I λg4=>?_))
 repeat(first|refine aI (bX I) I I I ?_|refine aI (cC I) I I I ?_|refine cz ?_|refine cB ?_|refine aI (dH I I) I I I ?_|refine aI (dI I I) I I I ?_|refine aI (eR bR.eq I) I I I ?_|refine aI (dj cI.iC I I) I I I ?_|refine aI (fQ I I J) I I I ?_|refine aI (aX I I (decide_eq_true J)) I I I ?_|refine aI (aX I I (decide_eq_false J)) I I I ?_|refine aI (bm I I (decide_eq_true J)) I I I ?_|refine aI (bm I I (decide_eq_false J)) I I I ?_|refine aI (bL I I J J I) I I I ?_|refine aI (df I I J J I) I I I ?_|refine fM I I I I I I ?_|refine bI (bX I) I I I I I ?_|refine bI (aW I I (decide_eq_true J)) I I I I I ?_|refine bI (aW I I (decide_eq_false J)) I I I I I ?_)
 refine U6 (ι:=Value×Nat) (λ(v2,_)=>v2.oneCell'=aD) (λ(v2,g6)=>[(1,av az n),(4,aK (aj ⟨g4,0,ak⟩)),(7,aK (aj ⟨g6,0,ak⟩)),(8,av az (cL wait c g))]) (λ(v2,g6)=>[aR g4 #[ap ak 0 0,av az 0,av az 0] 166,bD 55 2 v2 wait.length (wait.flatMap tE),aR g6 (y6 v2 c g).cells 166]) ?_ ?_
 ·refine eo ([aR g0 (y6 (ap base wait.length cap) c g).cells 166]) (.calm 0 (.calm 2 (.two 1 (.calm 3 (.one 4 (.one 5 (.calm 6 (.done))))) 4 (.one 1 (.calm 3 (.one 5 (.calm 6 (.done)))))))) (cH [0]) ?_
  repeat(first|refine dG I (bX I) I I I ?_|refine dG I (cC I) I I I ?_|refine dG I (aQ (i:=0) aL.ty I I I) I I I ?_|refine dG I (dH I I) I I I ?_|refine dG I (dI I I) I I I ?_|refine dG I (eR bR.eq I) I I I ?_|refine dG I (dj cI.iC I I) I I I ?_|refine dG I (fQ I I J) I I I ?_|refine dG I (aX I I (decide_eq_true J)) I I I ?_|refine dG I (aX I I (decide_eq_false J)) I I I ?_|refine dG I (bm I I (decide_eq_true J)) I I I ?_|refine dG I (bm I I (decide_eq_false J)) I I I ?_|refine dG I (bL I I J J I) I I I ?_|refine dG I (df I I J J I) I I I ?_|refine qq I I I I I I I ?_|refine fe I (bX I) I I I I I ?_|refine fe I (aW I I (decide_eq_true J)) I I I I I ?_|refine fe I (aW I I (decide_eq_false J)) I I I I I ?_|refine jV ?_)
  refine e9 I I ?_ ?_
  ·refine a8 (ju aJ.en I I) (λw hm=>hsm _ hm.below) I I I ?_
   intro v2 _;refine aP (cH [0]) ?_;refine oF I (ju aJ.en I I) (λw hm=>jr _ hm.below) I I I ?_;refine aO I (bz I λg6=>aP (cH [0]) ?_);refine aO I ?_;refine aY (i:=2) I λoQ mL=>?_;refine aZ (i:=3) I I I I (kf mL) I ?_;refine aP (cH [0]) ?_
   repeat(first|refine dG I (bX I) I I I ?_|refine dG I (cC I) I I I ?_|refine dG I (dH I I) I I I ?_|refine dG I (dI I I) I I I ?_|refine dG I (eR bR.eq I) I I I ?_|refine dG I (dj cI.iC I I) I I I ?_|refine dG I (fQ I I J) I I I ?_|refine dG I (aX I I (decide_eq_true J)) I I I ?_|refine dG I (aX I I (decide_eq_false J)) I I I ?_|refine dG I (bm I I (decide_eq_true J)) I I I ?_|refine dG I (bm I I (decide_eq_false J)) I I I ?_|refine dG I (bL I I J J I) I I I ?_|refine dG I (df I I J J I) I I I ?_|refine qq I I I I I I I ?_|refine fe I (bX I) I I I I I ?_|refine fe I (aW I I (decide_eq_true J)) I I I I I ?_|refine fe I (aW I I (decide_eq_false J)) I I I I I ?_|refine jV ?_)
   refine dS [1,2,3] ?_;exact eJ (v2,g6) mL (by repeat' (first|exact dl|refine dh I ?_)) I
  refine bz I λg6=>?_;refine aP (cH [0]) ?_;refine aO I ?_;refine a8 (ju aJ.en I I) (λw hm=>hsm _ hm.below) I I I ?_;intro v2 _;refine aP (cH [0]) ?_;refine oF I (ju aJ.en I I) (λw hm=>jr _ hm.below) I I I ?_;refine aO I ?_;refine aY (i:=3) I λoQ mL=>?_;refine aZ (i:=2) I I I I (kf mL) I ?_;refine aP (cH [0]) ?_
  repeat(first|refine dG I (bX I) I I I ?_|refine dG I (cC I) I I I ?_|refine dG I (dH I I) I I I ?_|refine dG I (dI I I) I I I ?_|refine dG I (eR bR.eq I) I I I ?_|refine dG I (dj cI.iC I I) I I I ?_|refine dG I (fQ I I J) I I I ?_|refine dG I (aX I I (decide_eq_true J)) I I I ?_|refine dG I (aX I I (decide_eq_false J)) I I I ?_|refine dG I (bm I I (decide_eq_true J)) I I I ?_|refine dG I (bm I I (decide_eq_false J)) I I I ?_|refine dG I (bL I I J J I) I I I ?_|refine dG I (df I I J J I) I I I ?_|refine qq I I I I I I I ?_|refine fe I (bX I) I I I I I ?_|refine fe I (aW I I (decide_eq_true J)) I I I I I ?_|refine fe I (aW I I (decide_eq_false J)) I I I I I ?_|refine jV ?_)
  refine dS [1,3,2] ?_;exact eJ (v2,g6) mL (by repeat' (first|exact dl|refine dh I ?_)) I
 rintro⟨v2,g6⟩ mL;dsimp only at mL⊢;unfold taS G2
 by_cases c1:cL wait c g=0
 ·obtain⟨b0,b1,b2,b3,b4,_⟩:=xt c1
  rw[c1];simp only[ne_eq,not_true_eq_false,if_false]
  by_cases c2:n<0
  ·rw[if_pos c2,if_neg ahk]
   repeat(first|refine aI (bX I) I I I ?_|refine aI (cC I) I I I ?_|refine cz ?_|refine bC ?_|refine aM ?_|refine dN I ?_|refine dO I ?_|refine c_ ?_|refine dx ?_|refine cB ?_|refine bU ?_|refine aI (aQ (i:=2) aL.ty I I I) I I I ?_|refine aI (dH I I) I I I ?_|refine aI (dI I I) I I I ?_|refine aI (eR bR.eq I) I I I ?_|refine aI (dj cI.iC I I) I I I ?_|refine aI (fQ I I J) I I I ?_|refine aI (aX I I (decide_eq_true J)) I I I ?_|refine aI (aX I I (decide_eq_false J)) I I I ?_|refine aI (bm I I (decide_eq_true J)) I I I ?_|refine aI (bm I I (decide_eq_false J)) I I I ?_|refine aI (bL I I J J I) I I I ?_|refine aI (df I I J J I) I I I ?_|refine fM I I I I I I ?_|refine bI (bX I) I I I I I ?_|refine bI (aW I I (decide_eq_true J)) I I I I I ?_|refine bI (aW I I (decide_eq_false J)) I I I I I ?_)
   refine aZ (i:=0) I I I I (kf mL) I ?_
   repeat(first|refine aI (bX I) I I I ?_|refine aI (cC I) I I I ?_|refine cz ?_|refine bC ?_|refine aM ?_|refine dN I ?_|refine dO I ?_|refine c_ ?_|refine dx ?_|refine cB ?_|refine bU ?_|refine aI (dH I I) I I I ?_|refine aI (dI I I) I I I ?_|refine aI (eR bR.eq I) I I I ?_|refine aI (dj cI.iC I I) I I I ?_|refine aI (fQ I I J) I I I ?_|refine aI (aX I I (decide_eq_true J)) I I I ?_|refine aI (aX I I (decide_eq_false J)) I I I ?_|refine aI (bm I I (decide_eq_true J)) I I I ?_|refine aI (bm I I (decide_eq_false J)) I I I ?_|refine aI (bL I I J J I) I I I ?_|refine aI (df I I J J I) I I I ?_|refine fM I I I I I I ?_|refine bI (bX I) I I I I I ?_|refine bI (aW I I (decide_eq_true J)) I I I I I ?_|refine bI (aW I I (decide_eq_false J)) I I I I I ?_)
   refine ef 55 2 ?_;exact fN (i:=0) I I I I I I λw hm=>hm.meets (S:=⟨λ_=>True,λ(x:Value×Value)=> .tuple #[y6 x.1 c g,x.2,av az 1],λx=>[bD 55 2 x.1 wait.length (wait.flatMap tE),bD 55 2 x.2 0 []]⟩) (v2,ap ak 0 0) trivial [1,3] ahk I
  rw[if_neg c2,if_pos I];have hN:(takeN wait c n:Int)=min n (min c wait.length):=by unfold takeN;omega
  have hN2:takeN wait c n<=wait.length:=by omega
  generalize takeN wait c n=N at*;have agb:=λv' w' (hx:Sl w' v' ((wait.drop 0).take (N-0)).length (((wait.drop 0).take (N-0)).flatMap tE))=>pS v' ((wait.drop 0).take (N-0)) w' hx (by simp;omega);have agc:=λv' w' (hx:Sl w' v' ((wait.drop N).take (wait.length-N)).length (((wait.drop N).take (wait.length-N)).flatMap tE))=>pS v' ((wait.drop N).take (wait.length-N)) w' hx (by simp;omega);refine HV (i:=1) I λb2 Oj lW q1 q2=>?_;subst lW
  repeat(first|refine aI (bX I) I I I ?_|refine aI (cC I) I I I ?_|refine cz ?_|refine bC ?_|refine aM ?_|refine dN I ?_|refine dO I ?_|refine c_ ?_|refine dx ?_|refine cB ?_|refine bU ?_|refine aI (aB aL.ty I (aH (i:=2) I I)) I I I ?_|refine aI (Zx I I I hN.symm) I I I ?_|refine aI (zZ bR.eq aL.ty I I J) I I I ?_|refine aI (dH I I) I I I ?_|refine aI (dI I I) I I I ?_|refine aI (eR bR.eq I) I I I ?_|refine aI (dj cI.iC I I) I I I ?_|refine aI (fQ I I J) I I I ?_|refine aI (aX I I (decide_eq_true J)) I I I ?_|refine aI (aX I I (decide_eq_false J)) I I I ?_|refine aI (bm I I (decide_eq_true J)) I I I ?_|refine aI (bm I I (decide_eq_false J)) I I I ?_|refine aI (bL I I J J I) I I I ?_|refine aI (df I I J J I) I I I ?_|refine fM I I I I I I ?_|refine bI (zZ bR.eq aL.ty I I J) I I I I I ?_|refine bI (bX I) I I I I I ?_|refine bI (aW I I (decide_eq_true J)) I I I I I ?_|refine bI (aW I I (decide_eq_false J)) I I I I I ?_)
  refine a8 (ju aJ.en I I) (λw hm=>agb _ _ (CZ y0 (l8 (i:=1) I w hm) J hN2)) I I I ?_;intro vg _
  repeat(first|refine aI (bX I) I I I ?_|refine aI (cC I) I I I ?_|refine cz ?_|refine bC ?_|refine aM ?_|refine dN I ?_|refine dO I ?_|refine c_ ?_|refine dx ?_|refine cB ?_|refine bU ?_|refine aI (aB aL.ty I (aH (i:=2) I I)) I I I ?_|refine aI (oR bR.eq aL.ty I I hN2 q1) I I I ?_|refine aI (dH I I) I I I ?_|refine aI (dI I I) I I I ?_|refine aI (eR bR.eq I) I I I ?_|refine aI (dj cI.iC I I) I I I ?_|refine aI (fQ I I J) I I I ?_|refine aI (aX I I (decide_eq_true J)) I I I ?_|refine aI (aX I I (decide_eq_false J)) I I I ?_|refine aI (bm I I (decide_eq_true J)) I I I ?_|refine aI (bm I I (decide_eq_false J)) I I I ?_|refine aI (bL I I J J I) I I I ?_|refine aI (df I I J J I) I I I ?_|refine fM I I I I I I ?_|refine bI (oR bR.eq aL.ty I I hN2 q1) I I I I I ?_|refine bI (bX I) I I I I I ?_|refine bI (aW I I (decide_eq_true J)) I I I I I ?_|refine bI (aW I I (decide_eq_false J)) I I I I I ?_)
  refine a8 (ju aJ.en I I) (λw hm=>agc _ _ (CZ y0 (l8 (i:=1) I w hm) hN2 J)) I I I ?_;intro vw _
  repeat(first|refine aI (bX I) I I I ?_|refine aI (cC I) I I I ?_|refine cz ?_|refine bC ?_|refine aM ?_|refine dN I ?_|refine dO I ?_|refine c_ ?_|refine dx ?_|refine cB ?_|refine bU ?_|refine aI (dH I I) I I I ?_|refine aI (dI I I) I I I ?_|refine aI (eR bR.eq I) I I I ?_|refine aI (dj cI.iC I I) I I I ?_|refine aI (fQ I I J) I I I ?_|refine aI (aX I I (decide_eq_true J)) I I I ?_|refine aI (aX I I (decide_eq_false J)) I I I ?_|refine aI (bm I I (decide_eq_true J)) I I I ?_|refine aI (bm I I (decide_eq_false J)) I I I ?_|refine aI (bL I I J J I) I I I ?_|refine aI (df I I J J I) I I I ?_|refine fM I I I I I I ?_|refine bI (bX I) I I I I I ?_|refine bI (aW I I (decide_eq_true J)) I I I I I ?_|refine bI (aW I I (decide_eq_false J)) I I I I I ?_)
  refine aY (i:=4) I λhc3 Zu=>?_;refine cD (i:=2) I I I hc3 Zu I ?_
  repeat(first|refine aI (bX I) I I I ?_|refine aI (cC I) I I I ?_|refine cz ?_|refine bC ?_|refine aM ?_|refine dN I ?_|refine dO I ?_|refine c_ ?_|refine dx ?_|refine cB ?_|refine bU ?_|refine aI (aB aL.ty I (aH (i:=2) I I)) I I I ?_|refine aI (dH I I) I I I ?_|refine aI (dI I I) I I I ?_|refine aI (eR bR.eq I) I I I ?_|refine aI (dj cI.iC I I) I I I ?_|refine aI (fQ I I J) I I I ?_|refine aI (aX I I (decide_eq_true J)) I I I ?_|refine aI (aX I I (decide_eq_false J)) I I I ?_|refine aI (bm I I (decide_eq_true J)) I I I ?_|refine aI (bm I I (decide_eq_false J)) I I I ?_|refine aI (bL I I J J I) I I I ?_|refine aI (df I I J J I) I I I ?_|refine fM I I I I I I ?_|refine bI (bX I) I I I I I ?_|refine bI (aW I I (decide_eq_true J)) I I I I I ?_|refine bI (aW I I (decide_eq_false J)) I I I I I ?_)
  refine cD (i:=2) I I I I I I ?_
  repeat(first|refine aI (bX I) I I I ?_|refine aI (cC I) I I I ?_|refine cz ?_|refine bC ?_|refine aM ?_|refine dN I ?_|refine dO I ?_|refine c_ ?_|refine dx ?_|refine cB ?_|refine bU ?_|refine aI (aB aL.ty I (aH (i:=2) I I)) I I I ?_|refine aI (dH I I) I I I ?_|refine aI (dI I I) I I I ?_|refine aI (eR bR.eq I) I I I ?_|refine aI (dj cI.iC I I) I I I ?_|refine aI (fQ I I J) I I I ?_|refine aI (aX I I (decide_eq_true J)) I I I ?_|refine aI (aX I I (decide_eq_false J)) I I I ?_|refine aI (bm I I (decide_eq_true J)) I I I ?_|refine aI (bm I I (decide_eq_false J)) I I I ?_|refine aI (bL I I J J I) I I I ?_|refine aI (df I I J J I) I I I ?_|refine fM I I I I I I ?_|refine bI (bX I) I I I I I ?_|refine bI (aW I I (decide_eq_true J)) I I I I I ?_|refine bI (aW I I (decide_eq_false J)) I I I I I ?_)
  refine cD (i:=2) I I I I I I ?_
  repeat(first|refine aI (bX I) I I I ?_|refine aI (cC I) I I I ?_|refine cz ?_|refine bC ?_|refine aM ?_|refine dN I ?_|refine dO I ?_|refine c_ ?_|refine dx ?_|refine cB ?_|refine bU ?_|refine aI (aQ (i:=2) aL.ty I I I) I I I ?_|refine aI (dH I I) I I I ?_|refine aI (dI I I) I I I ?_|refine aI (eR bR.eq I) I I I ?_|refine aI (dj cI.iC I I) I I I ?_|refine aI (fQ I I J) I I I ?_|refine aI (aX I I (decide_eq_true J)) I I I ?_|refine aI (aX I I (decide_eq_false J)) I I I ?_|refine aI (bm I I (decide_eq_true J)) I I I ?_|refine aI (bm I I (decide_eq_false J)) I I I ?_|refine aI (bL I I J J I) I I I ?_|refine aI (df I I J J I) I I I ?_|refine fM I I I I I I ?_|refine bI (bX I) I I I I I ?_|refine bI (aW I I (decide_eq_true J)) I I I I I ?_|refine bI (aW I I (decide_eq_false J)) I I I I I ?_)
  refine aZ (i:=0) I I I I (kf Zu) I ?_
  repeat(first|refine aI (bX I) I I I ?_|refine aI (cC I) I I I ?_|refine cz ?_|refine bC ?_|refine aM ?_|refine dN I ?_|refine dO I ?_|refine c_ ?_|refine dx ?_|refine cB ?_|refine bU ?_|refine aI (dH I I) I I I ?_|refine aI (dI I I) I I I ?_|refine aI (eR bR.eq I) I I I ?_|refine aI (dj cI.iC I I) I I I ?_|refine aI (fQ I I J) I I I ?_|refine aI (aX I I (decide_eq_true J)) I I I ?_|refine aI (aX I I (decide_eq_false J)) I I I ?_|refine aI (bm I I (decide_eq_true J)) I I I ?_|refine aI (bm I I (decide_eq_false J)) I I I ?_|refine aI (bL I I J J I) I I I ?_|refine aI (df I I J J I) I I I ?_|refine fM I I I I I I ?_|refine bI (bX I) I I I I I ?_|refine bI (aW I I (decide_eq_true J)) I I I I I ?_|refine bI (aW I I (decide_eq_false J)) I I I I I ?_)
  have e1:(wait.drop 0).take (N-0)=wait.take N:=by simp
  have e2:(wait.drop N).take (wait.length-N)=wait.drop N:=gj (by simp);have e3:(wait.take N).length=N:=by simp;omega
  have e4:(wait.drop N).length=wait.length-N:=by simp
  refine fN (i:=0) I I I I I I λw hm=>hm.meets (S:=⟨λ_=>True,λ(x:Value×Value)=> .tuple #[y6 x.1 (c-N) (g+N),x.2,av az 0],λx=>[bD 55 2 x.1 (wait.length-N) ((wait.drop N).flatMap tE),bD 55 2 x.2 N ((wait.take N).flatMap tE)]⟩) (vw,vg) trivial [4,3] ahk ?_;show _=[bD 55 2 vw ((wait.drop N).take (wait.length-N)).length (((wait.drop N).take (wait.length-N)).flatMap tE),bD 55 2 vg ((wait.drop 0).take (N-0)).length (((wait.drop 0).take (N-0)).flatMap tE)]
  rw[e1,e2,e3,e4]
 ·rw[if_pos c1,if_neg (by simpa using c1)]
  repeat(first|refine aI (bX I) I I I ?_|refine aI (cC I) I I I ?_|refine cz ?_|refine bC ?_|refine aM ?_|refine dN I ?_|refine dO I ?_|refine c_ ?_|refine dx ?_|refine cB ?_|refine bU ?_|refine aI (aQ (i:=2) aL.ty I I I) I I I ?_|refine aI (dH I I) I I I ?_|refine aI (dI I I) I I I ?_|refine aI (eR bR.eq I) I I I ?_|refine aI (dj cI.iC I I) I I I ?_|refine aI (fQ I I J) I I I ?_|refine aI (aX I I (decide_eq_true J)) I I I ?_|refine aI (aX I I (decide_eq_false J)) I I I ?_|refine aI (bm I I (decide_eq_true J)) I I I ?_|refine aI (bm I I (decide_eq_false J)) I I I ?_|refine aI (bL I I J J I) I I I ?_|refine aI (df I I J J I) I I I ?_|refine fM I I I I I I ?_|refine bI (bX I) I I I I I ?_|refine bI (aW I I (decide_eq_true J)) I I I I I ?_|refine bI (aW I I (decide_eq_false J)) I I I I I ?_)
  refine aZ (i:=0) I I I I (kf mL) I ?_
  repeat(first|refine aI (bX I) I I I ?_|refine aI (cC I) I I I ?_|refine cz ?_|refine bC ?_|refine aM ?_|refine dN I ?_|refine dO I ?_|refine c_ ?_|refine dx ?_|refine cB ?_|refine bU ?_|refine aI (dH I I) I I I ?_|refine aI (dI I I) I I I ?_|refine aI (eR bR.eq I) I I I ?_|refine aI (dj cI.iC I I) I I I ?_|refine aI (fQ I I J) I I I ?_|refine aI (aX I I (decide_eq_true J)) I I I ?_|refine aI (aX I I (decide_eq_false J)) I I I ?_|refine aI (bm I I (decide_eq_true J)) I I I ?_|refine aI (bm I I (decide_eq_false J)) I I I ?_|refine aI (bL I I J J I) I I I ?_|refine aI (df I I J J I) I I I ?_|refine fM I I I I I I ?_|refine bI (bX I) I I I I I ?_|refine bI (aW I I (decide_eq_true J)) I I I I I ?_|refine bI (aW I I (decide_eq_false J)) I I I I I ?_)
  refine ef 55 2 ?_;exact fN (i:=0) I I I I I I λw hm=>hm.meets (S:=⟨λ_=>True,λ(x:Value×Value)=> .tuple #[y6 x.1 c g,x.2,av az (cL wait c g)],λx=>[bD 55 2 x.1 wait.length (wait.flatMap tE),bD 55 2 x.2 0 []]⟩) (v2,ap ak 0 0) trivial [1,3] ahk I
end cZ
namespace cZ
open Go.RowKit dr eH aV
theorem Lt(k q:Int)(w:World):(dR 148 #[(0,av az k),(1,av az q)]).run aC w= .ok (aU #[av az k,av az q]) w:=by
 go_simp
end cZ
namespace cZ
open Go.RowKit dr eH aV
theorem OZ(h:Int)(w:World):(dR 140 #[(0,av az h)]).run aC w= .ok (aU #[av az h,ap ak 0 0]) w:=by
 go_simp
end cZ
namespace cZ
open Go.RowKit dr eH aV
theorem gok{x:Int}(h:0<=x/\x<1000000000):dr.eD x:=by unfold dr.eD;omega
theorem ya{F:Nat->Prop}{vp:Value}{l:List aV.Prod}{w:World}{t n:Int}(ht:dr.eD t)(hn:dr.eD n)(h:(oq F vp l).holds w):kz (λk=>k<w.heap.size) w (ee t n vp) ⟨t,n,l⟩:=by
 obtain⟨⟨v',hv,h1⟩,h2⟩:=h;simp only[ib,and_true]at hv;subst hv;exact⟨vp,rfl,h1.mono h2,ht,hn⟩
end cZ
namespace cZ
open Go.RowKit dr eH dT
theorem XC{j:Nat}(hj:j<64):2^j<18446744073709551616:=by
 have:=Nat.pow_lt_pow_right (a:=2) ahk hj
 rwa [show(2:Nat)^64=18446744073709551616 from I]at this
theorem agd{P:Program}(j:Nat)(hj:j<64)(w:World):(jd .shl .u64 1 .i64 (j:Int)).run P w= .ok (.int .u64 ((2^j:Nat):Int)) w:=by
 have e:min j 64=j:=by omega
 have e2:(2:Int)^j=((2^j:Nat):Int):=by rw[Int.natCast_pow];rfl
 have e3:xi.wrap ((1:Int)*2^j)=((2^j:Nat):Int):=by
  have:=XC hj;rw[e2,tO,Int.one_mul];generalize 2^j=y at*;omega
 have h0:¬((j:Int)<0):=by omega
 simp only[jd,if_neg h0,lB,dP,e,e3,Sem.run_pure]
theorem Lu:∀b:Nat,b<256->bits .and .i64 (b:Int) 63=((b %64:Nat):Int):=by decide+kernel
theorem XD(c:C4)(i:Nat)(h:i<4):(fh c).toArray[i]?=aj (.int .u64 ((c.get i).toNat:Int)):=C9 c i h
theorem XE(c:C4)(i:Nat)(h:i<4)(v:BitVec 64):(fh c).toArray.setIfInBounds i (.int .u64 (v.toNat:Int))=(fh (c.set i v)).toArray:=by
 match i,h with
 |0,_=>rfl
 |1,_=>rfl
 |2,_=>rfl
 |3,_=>rfl
attribute [local irreducible] Op.shift Go.bits in
theorem sW(c:C4)(b:Nat)(hb:b<256)(w:World):Calls aC 152 #[rr c,av az (b:Int)] w (cY (ret (.bool (c.mem b))) w):=by
 refine enter (args:=[aU #[v64 c.a,v64 c.b,v64 c.c,v64 c.d],av az (b:Int)]) (n:=14) Tryz.func152 I I I ?_;refine bC (aM (b_ I I I λg=>?_));have h1:b/64<4:=by omega
 have hc:(#[v64 c.a,v64 c.b,v64 c.c,v64 c.d]:Array Value)[0+b/64]?=aj (.int .u64 ((c.get (b/64)).toNat:Int)):=by rw[du];exact C9 c _ h1
 have hx:=(c.get (b/64)).isLt;have C_:∀w,(jd .shr .i64 (b:Int) .u64 6).run aC w= .ok (av az ((b/64:Nat):Int)) w:=λw=>VG b 6 64 .i64 .u64 I ahk w;have ZI:∀w,(jd .shr .u64 ((c.get (b/64)).toNat:Int) .i64 ((b %64:Nat):Int)).run aC w= .ok (.int .u64 (((c.get (b/64)).toNat/2^(b %64):Nat):Int)) w:=λw=>VG _ (b %64) 64 .u64 .i64 I J w;have hm:c.mem b=decide ((c.get (b/64)).toNat/2^(b %64) %2=1):=by unfold C4.mem;rw[Nat.testBit_eq_decide_div_mod_eq]
 rw[hm];have hd:(c.get (b/64)).toNat/2^(b %64)<=(c.get (b/64)).toNat:=Nat.div_le_self _ _;have r9:=Lu b hb;generalize (c.get (b/64)).toNat=x at*;generalize b %64=k at*;generalize b/64=i at*;generalize x/2^k=y at*;have ha:bits .and .u64 (y:Int) 1=((y %2:Nat):Int):=by
  have:=bits_and_u64_nat y 1 J ahk;rw[Nat.and_one_is_mod]at this;exact this
 repeat(first|refine GC ?_|refine gV (pe I I C_) ?_|refine gV (iz bR.eq aL.ty I I h1) ?_|refine gV (aB aL.ty I (aH (i:=0) I hc)) ?_|refine gV (nt I I r9) ?_|refine gV (pe I I ZI) ?_|refine gV (nt I I ha) ?_|refine gV (aX I I I) ?_|refine GB ?_)
 exact ea I I (by congr 1;rw[decide_eq_decide];omega)
attribute [local irreducible] Op.shift Go.bits in
theorem sX(c:C4)(b:Nat)(hb:b<256)(g:Nat)(w:World)(B:b9)(hm:Mem B [aR g (fh c).toArray 303] w):
 Calls aC 154 #[aK (aj ⟨g,0,ak⟩),av az (b:Int)] w (dF ⟨λ(_:Unit)=>True,λ_=> .tuple #[],λ_=>[aR g (fh (c.bit b)).toArray 303]⟩ B):=by
 refine dZ hm (args:=[aK (aj ⟨g,0,ak⟩),av az (b:Int)]) (n:=16) Tryz.func154 I I I ?_;clear hm;have h1:b/64<4:=by omega
 have hc:(fh c).toArray[0+b/64]?=aj (.int .u64 ((c.get (b/64)).toNat:Int)):=by rw[du];exact XD c _ h1
 have C_:∀w,(jd .shr .i64 (b:Int) .u64 6).run aC w= .ok (av az ((b/64:Nat):Int)) w:=λw=>VG b 6 64 .i64 .u64 I ahk w;have r9:=Lu b hb;have ZY:=agd (P:=aC) (b %64) J;have tv:=XE c (b/64) h1 (c.get (b/64)|||lY 64 (2^(b %64)));have aaA:c.bit b=c.set (b/64) (c.get (b/64)|||lY 64 (2^(b %64))):=rfl;rw[<-aaA]at tv;have JR:bits .or .u64 ((c.get (b/64)).toNat:Int) ((2^(b %64):Nat):Int)=(((c.get (b/64))|||lY 64 (2^(b %64))).toNat:Int):=by
  have hp:=XC (j:=b %64) J;rw[bits_or_u64_nat _ _ (c.get (b/64)).isLt hp,BitVec.toNat_or,BitVec.toNat_ofNat,Nat.mod_eq_of_lt hp]
 have hm0:b %64<64:=by omega
 generalize c.get (b/64)|||lY 64 (2^(b %64))=z at*
 generalize (c.get (b/64)).toNat=x at*;generalize 2^(b %64)=y at*;generalize b %64=k at*;generalize b/64=i at*;generalize c.bit b=c' at*;have hsz:dM (0+i) (fh c).toArray.size=true:=by rw[AI];show 0+i<4;omega
 rw[<-du i]at tv;refine eo ([]) (.calm 0 (.calm 1 (.calm 2 (.calm 3 (.calm 4 (.calm 6 (.calm 7 (.calm 8 (.calm 10 (.one 5 (.calm 9 (.calm 11 (.one 12 (.done)))))))))))))) (cH []) ?_
 repeat(first|refine GW ?_|(refine GN ?_;first|refine QW (pe I I C_) ?_|refine QW (iz bR.eq aL.ty I I h1) ?_|refine QW (nt I I r9) ?_|refine QW (CP I I ZY) ?_))
 refine aO I (aI (aB aL.ty I (aH (i:=0) I hc)) I I I (aP (cH []) ?_))
 repeat(first|refine GW ?_|(refine GN ?_;first|refine QW (yo I I JR) ?_|refine QW (iz bR.eq aL.ty I I h1) ?_))
 refine aO I (cD (i:=0) I I I I I hsz (aP (cH []) ?_))
 try refine GW ?_
 try refine GA ?_
 exact lF I λw hm=>hm.cX (S:=⟨λ(_:Unit)=>True,λ_=> .tuple #[],λ_=>[aR g (fh c').toArray 303]⟩) () trivial [0] ahk (by rw[<-tv];rfl)
end cZ
namespace pT
open dT iA fq dq
def pU(c:C4)(l:List Int):C4:=l.foldl (λc x=>c.bit x.toNat) c
def nG(p:PS)(s:C4):Nat->C4
 |0=>C4.zero
 |i+1=>if s.mem i=aD then pU (nG p s i) (p.follow.getD i [])else nG p s i
def nc(m:MS)(S:List C4):Nat->C4
 |0=>pU C4.zero m.first
 |n+1=>nG m.ps (S.getD n C4.zero) m.ps.follow.length
def IZ(p:PS)(all:C4)(b:Nat):Nat->C4
 |0=>C4.zero
 |i+1=>if all.mem i=aD/\(p.bx.getD i C4.zero).mem b=aD then(IZ p all b i).bit i else IZ p all b i
def I0(p:PS)(all:C4)(b:Nat):C4:=IZ p all b p.bx.length
def kL(p:PS)(s:C4):Nat->Int
 |0=> -1
 |i+1=>if s.mem i=aD/\p.last.getD i aE=aD/\(kL p s i<0\/p.rules.getD i 0<kL p s i)then p.rules.getD i 0 else kL p s i
def wN(p:PS)(s:C4):Int:=kL p s p.bx.length
structure DM where
 S:List C4
 tags:List Int
def jh(p:PS)(m:DM)(s:C4):Nat×DM:=if s∈m.S then(idx m.S s+1,m)else(m.S.length+1,⟨m.S++[s],m.tags++[wN p s]⟩)
def gD(p:PS)(all:C4)(b:Nat)(r:Row)(m:DM):Row×DM:=
 if I0 p all b=C4.zero then(if h:b<256 then r.set b (-1)else r,m)else(if h:b<256 then(r.set b (-1)).set b ((jh p m (I0 p all b)).1:Int)else r,(jh p m (I0 p all b)).2)
def mU(p:PS)(all:C4):Nat->Nat->Row->DM->Row×DM
 |0,_,r,m=>(r,m)
 |f+1,b,r,m=>if 200<(gD p all b r m).2.S.length+1 then gD p all b r m else mU p all f (b+1) (gD p all b r m).1 (gD p all b r m).2
def qi(m:MS)(n:Nat)(d:DM):Row×DM:=mU m.ps (nc m d.S n) 256 0 (eS 256 0) d
def sY(m:MS):Nat->Nat->List Row->DM->Option (List Row×DM)
 |0,_,_,_=>ak
 |f+1,n,R,d=>if n<d.S.length+1 then(if 200<(qi m n d).2.S.length+1 then ak else sY m f (n+1) (R++[(qi m n d).1]) (qi m n d).2)else aj (R,d)
def fK:List Bool->Int->Int
 |[],_=> -1
 |b::l,k=>if b=aD then k else fK l (k+1)
def y7(m:MS):Option (List Row×DM):=sY m 201 0 [] ⟨[],[fK m.empty 0]⟩
structure DOk(p:PS)(d:DM):Prop where
 nd:d.S.Nodup
 tags:d.tags.length=d.S.length+1
theorem Lv{p:PS}{d:DM}(h:DOk p d)(s:C4):DOk p (jh p d s).2/\d.S.length<=(jh p d s).2.S.length/\(jh p d s).2.S.length<=d.S.length+1/\0<(jh p d s).1/\(jh p d s).1<(jh p d s).2.S.length+1:=by
 unfold jh
 by_cases c:s∈d.S
 ·rw[if_pos c]
  have:=nu c;exact⟨h,bJ _,XB _,Ef _,by show idx d.S s+1<d.S.length+1;omega⟩
 rw[if_neg c];refine⟨⟨?_,?_⟩,?_,?_,Ef _,?_⟩
 ·show(d.S++[s]).Nodup
  rw[List.nodup_append];exact⟨h.nd,by simp,λa ha b hb=>by rw[ep.1 hb];exact λe=>c (e▸ha)⟩
 ·show(d.tags++[_]).length=(d.S++[s]).length+1
  rw[bT,bT,h.tags];rfl
 show _<=(d.S++[s]).length;simp
 show(d.S++[s]).length<=_;simp
 show d.S.length+1<(d.S++[s]).length+1;simp
theorem aaB{p:PS}{d:DM}(h:DOk p d)(all:C4)(b:Nat)(r:Row):DOk p (gD p all b r d).2/\d.S.length<=(gD p all b r d).2.S.length/\(gD p all b r d).2.S.length<=d.S.length+1:=by
 unfold gD;split;exact⟨h,bJ _,XB _⟩;obtain⟨h1,h2,h3,_⟩:=Lv h (I0 p all b);exact⟨h1,h2,h3⟩
theorem Lw{p:PS}(all:C4):∀(f b:Nat) (r:Row) (d:DM),DOk p d->d.S.length+1<=200->DOk p (mU p all f b r d).2/\(mU p all f b r d).2.S.length+1<=201/\d.S.length<=(mU p all f b r d).2.S.length
 |0,_,_,d,h,hl=>⟨h,(by show d.S.length+1<=201;omega),bJ _⟩
 | f+1,b,r,d,h,hl=>by
  obtain⟨h1,h2,h3⟩:=aaB h all b r;rw[mU];split;exact⟨h1,by omega,h2⟩;obtain⟨q1,q2,q3⟩:=Lw all f (b+1) (gD p all b r d).1 _ h1 J;exact⟨q1,q2,by omega⟩
theorem Ly(c:C4)(l:List Int){k:Nat}(hk:k<l.length):pU c (l.take (k+1))=(pU c (l.take k)).bit l[k].toNat:=by
 unfold pU;rw[ia hk,List.foldl_append];rfl
end pT
namespace cZ
open Go.RowKit dr eH dT iA fq pT
def JW(vc vr vf vfol vl ve vs num rows tags:Value):Array Value:=#[vc,vr,vf,vfol,vl,ve,vs,num,rows,tags]
def O0(S:List C4):List Value:=(C4.zero::S).flatMap fh
theorem aaC{w:World}{g:Nat}{cs:Array Value}{T:TypeId}(hg:w.heap[g]?=aj (.cells cs T (0,0)))(L:List cU){k:Nat}{v:Value}(hv:cs[k]?=aj v):At (w:b9) L ⟨g,k,ak⟩ v:=
 kw (by rw[cell_of_row w g k cs T (0,0) hg];exact hv)
theorem Fq(m:MS)(vc vr vf vfol vl ve vs num rows tags:Value)(S:List C4)(g n:Nat)(w:World)(hp:Fo w (aU #[vc,vr,vf,vfol,vl,ve]) m)(h:II m)(hg:w.heap[g]?=aj (.cells (JW vc vr vf vfol vl ve vs num rows tags) 254 (0,0)))
 (hs:Sl w vs (S.length+1) (O0 S)) (hn:n<=S.length):
 Calls aC 151 #[aK (aj ⟨g,0,ak⟩),av az (n:Int)] w (cY (ret (rr (nc m S n))) w):=by
 obtain⟨_,_,_,_,_,_,he,h1,h2,h3,h4,h5,h6⟩:=hp;simp only[k7,pv,ib,and_true]at he;obtain⟨rfl,rfl,rfl,rfl,rfl,rfl⟩:=he;have hmf:=h.BO;have T7:=h.ok.first.2;have Xf:=h.ok.ps.ris;have wI:=h.ok.ps.follow;clear h h1 h2 h5 h6;obtain⟨af,cf,rfl,_,ag4,hrf⟩:=h3;obtain⟨ao,co,rfl,_,hmo,hro⟩:=h4;obtain⟨ab,cs,rfl,hcs,hms,hrs⟩:=hs;unfold maxLen at*;have hm:=λL k v hv=>aaC (k:=k) (v:=v) hg L hv;refine enter (args:=[aK (aj ⟨g,0,ak⟩),av az (n:Int)]) (n:=59) Tryz.func151 I I I ?_;refine bC (aM (bz I λg4=>?_));refine zL ?_
 try refine GA ?_
 refine bz I λg5=>?_;refine zL ?_
 by_cases c0:n=0
 ·subst c0
  repeat(first|refine GC ?_|refine gV (aX (b:=aD) I I (decide_eq_true (by simp))) ?_|refine gV (aB (v:=ap af m.first.length cf) aL.ty I (hm _ 2 _ I)) ?_|refine GB ?_)
  refine eK (ι:=Nat) (λk=>k<=m.first.length) (λk=>[(4,aK (aj ⟨g4,0,ak⟩)),(5,aK (aj ⟨g5,0,ak⟩)),(18,ap af m.first.length cf),(19,av az m.first.length),(20,av az (k:Int))])
   (λk=>[aR g4 (fh C4.zero).toArray 303,aR g5 (fh (pU C4.zero (m.first.take k))).toArray 303]) (λk=>m.first.length-k) 0 (bO _) ?_
  intro k hk
  by_cases c1:k<m.first.length
  ·have hx:=T7 _ (cV c1)
   have hst:=Ly C4.zero m.first c1;obtain⟨bf,aar,rfl,Td⟩:=hrf J;have d_:=λ(L:List cU)=>iB (L:=L) km Td c1 0 _ I;generalize m.first[k]=x at*;generalize pU C4.zero (m.first.take k)=c at*;obtain⟨xn,rfl⟩:=jg hx.1;rw[dP]at hst
   repeat(first|refine GA ?_|refine gV (a_ bR.eq aL.ty I I c1) ?_|refine gV (aB (v:=av az (xn:Int)) aL.ty I (d_ _)) ?_)
   refine bK [1] [0] ahk I I (gK aJ.en I I I) (λw hm hb=>sX c xn J g5 w _ hb) I I I ?_;intro _ _;refine zL ?_
   try refine GA ?_
   exact cJ (k+1) J (by show m.first.length-(k+1)<m.first.length-k;omega) (hl:=by rw[hst])
  obtain rfl:k=m.first.length:=by omega
  rw[gj (bJ _)];unfold nc;generalize pU C4.zero m.first=c at*
  repeat(first|refine GA ?_|refine gV (aQ (i:=1) aL.ty I I I) ?_)
  refine il 0 (cs':=(fh c).toArray) ?_;refine zL ?_
  try refine GA ?_
  exact h_ (i:=0) I I I I λw hm=>hm.ret
 ·obtain⟨q,rfl⟩:∃q,n=q+1:=⟨n-1,by omega⟩
  obtain⟨bs,adf,rfl,aeO⟩:=hrs J;have adg:=λ(L:List cU)=>iB (L:=L) (f:=fh) (c:=4) (λ_=>rfl) (show Rd w bs adf ((C4.zero::S).flatMap fh)from aeO) (k:=q+1) (by simp;omega);have Zd:S.getD q C4.zero=S[q]' J:=by rw[cK,bQ J];rfl
  rw[show nc m S (q+1)=nG m.ps (S.getD q C4.zero) m.ps.follow.length from I,Zd];have adg:∀(L:List cU) (j:Nat) (u:Value),(fh (S[q]' J))[j]?=aj u->At (w:b9) L ⟨bs,adf+(q+1)*4+j,ak⟩ u:=λL j u hj=>adg L j u hj;clear Zd aeO hrs hrf T7;generalize S[q]' J=s at*
  repeat(first|refine GC ?_|refine gV (aX (b:=aE) I I (decide_eq_false J)) ?_|refine gV (aB (v:=ap ao m.ps.follow.length co) aL.ty I (hm _ 3 _ I)) ?_|refine GB ?_)
  refine eK (ι:=Nat) (λk=>k<=m.ps.follow.length) (λk=>[(0,aK (aj ⟨g,0,ak⟩)),(1,av az ((q+1:Nat):Int)),(4,aK (aj ⟨g4,0,ak⟩)),(5,aK (aj ⟨g5,0,ak⟩)),(32,ap ao m.ps.follow.length co),(33,av az m.ps.follow.length),(34,av az (k:Int))])
   (λk=>[aR g4 (fh C4.zero).toArray 303,aR g5 (fh (nG m.ps s k)).toArray 303]) (λk=>m.ps.follow.length-k) 0 (bO _) ?_
  intro k hk
  by_cases c1:k<m.ps.follow.length
  ·obtain⟨bo,age,rfl,_,agf⟩:=hro J
   obtain⟨u,hu,hd⟩:=AB agf c1;have ade:=λ(L:List cU)=>jb (L:=L) hd (j:=0) (v:=u) I;have hrx:=(Xf _ (cV c1)).2;have Zd:m.ps.follow.getD k []=m.ps.follow[k]:=by rw[cK,bQ c1];rfl
   have hst:nG m.ps s (k+1)=if s.mem k=aD then pU (nG m.ps s k) m.ps.follow[k]else nG m.ps s k:=by rw[nG,Zd]
   clear Zd;obtain⟨au,cu,rfl,_,hmu,MO⟩:=hu;unfold maxLen at hmu;generalize m.ps.follow[k]=l at*;generalize nG m.ps s k=c at*
   repeat(first|refine GA ?_|refine gV (a_ bR.eq aL.ty I I c1) ?_|refine gV (aB (v:=ap au l.length cu) aL.ty I (ade _)) ?_|refine gV (aB (v:=ap (aj ⟨bs,adf,ak⟩) (S.length+1) cs) aL.ty I (hm _ 6 _ I)) ?_|refine gV (a_ (j:=q+1) bR.eq aL.ty I I J) ?_|refine gV (bH (cs:=fh s) aL.ty I I (adg _)) ?_)
   have XF:=λw=>sW s k J w;generalize hb:s.mem k=b at*;refine a8 (gK aJ.en I I I) (λw hm=>XF w) I I I ?_;intro _ _;refine zL ?_
   by_cases c2:b=aD
   ·subst c2
    rw[if_pos I]at hst
    try refine GA ?_
    refine eK (ι:=Nat) (λj=>j<=l.length) (λj=>[(0,aK (aj ⟨g,0,ak⟩)),(1,av az ((q+1:Nat):Int)),(4,aK (aj ⟨g4,0,ak⟩)),(5,aK (aj ⟨g5,0,ak⟩)),(32,ap (aj ⟨bo,age,ak⟩) m.ps.follow.length co),(33,av az m.ps.follow.length),(34,av az (k:Int)),(48,ap au l.length cu),(49,av az l.length),(50,av az (j:Int))])
     (λj=>[aR g4 (fh C4.zero).toArray 303,aR g5 (fh (pU c (l.take j))).toArray 303]) (λj=>l.length-j) 0 (bO _) ?_
    intro j hj
    by_cases c3:j<l.length
    ·have hx:=hrx _ (cV c3)
     have adh:=Ly c l c3;obtain⟨bf,aar,rfl,Td⟩:=MO J;have d_:=λ(L:List cU)=>iB (L:=L) km Td c3 0 _ I;generalize l[j]=x at*;generalize pU c (l.take j)=c' at*;obtain⟨xn,rfl⟩:=jg hx.1;rw[dP]at adh
     repeat(first|refine GA ?_|refine gV (a_ bR.eq aL.ty I I c3) ?_|refine gV (aB (v:=av az (xn:Int)) aL.ty I (d_ _)) ?_)
     refine bK [1] [0] ahk I I (gK aJ.en I I I) (λw hm hb=>sX c' xn J g5 w _ hb) I I I ?_;intro _ _;refine zL ?_
     try refine GA ?_
     exact cJ (j+1) J (by show l.length-(j+1)<l.length-j;omega) (hl:=by rw[adh])
    obtain rfl:j=l.length:=by omega
    rw[gj (bJ _)]
    try refine GA ?_
    exact cJ (k+1) J (by show m.ps.follow.length-(k+1)<m.ps.follow.length-k;omega) (hl:=by rw[hst])
   rw[if_neg c2]at hst;obtain rfl:=vz.2 c2
   try refine GA ?_
   exact cJ (k+1) J (by show m.ps.follow.length-(k+1)<m.ps.follow.length-k;omega) (hl:=by rw[hst])
  obtain rfl:k=m.ps.follow.length:=by omega
  generalize nG m.ps s m.ps.follow.length=c at*
  repeat(first|refine GA ?_|refine gV (aQ (i:=1) aL.ty I I I) ?_)
  refine il 0 (cs':=(fh c).toArray) ?_;refine zL ?_
  try refine GA ?_
  exact h_ (i:=0) I I I I λw hm=>hm.ret
end cZ
namespace cZ
open Go.RowKit dr eH dT iA fq pT dq
theorem aaD:laidOutB aC=true:=by kernel_rfl
theorem setRow:(303:TypeId)<aC.types.size:=of_decide_eq_true (by kernel_rfl)
theorem aaE:(match aC.underlying 303 with|some (.array _ _)|some (.struct _)=>aD|_=>aE)=true:=by kernel_rfl
theorem aaF(x:C4):∃l,keyOf aC 303 (rr x)=aj l:=by
 obtain⟨a,b,c,d⟩:=x;have e1:aC.keyType 303=true:=by kernel_rfl
 have e2:aC.cellsOf 303=4:=by kernel_rfl
 have e3:aC.cellsOf 114=1:=by kernel_rfl
 have e4:∃d,aC.types.size+1=d+2:=⟨aC.types.size-1,by have:0<aC.types.size:=xG (bO 303) setRow;omega⟩;obtain⟨dd,e4⟩:=e4;have key:∀v:BitVec 64,aC.keyLits (dd+1) 114 [.int .u64 (iN v)]=aj [.int .u64 (iN v)]:=λv=>by
  have hw:(Lit.int .u64 (iN v)).wf=true:=by
   have h0:=acA v;have h1:=acB v;simp[Lit.wf,zN,zO,oY,lB,h0,h1]
  simp[sh,Tryz.underlying114,hw]
 have hl:aC.keyLits (dd+2) 303 [.int .u64 (iN a),.int .u64 (iN b),.int .u64 (iN c),.int .u64 (iN d)]=aj [.int .u64 (iN a),.int .u64 (iN b),.int .u64 (iN c),.int .u64 (iN d)]:=by
  unfold sh;simp[Tryz.underlying303,e2,e3,List.range_succ_eq_map,key]
 have hf:(rr ⟨a,b,c,d⟩).formed aC 303=true:=by simp[rr,Value.formed,Tryz.underlying303,e2]
 unfold keyOf;rw[Tryz.underlying303];refine⟨.string (keyBytes ([.int .u64 (iN a),.int .u64 (iN b),.int .u64 (iN c),.int .u64 (iN d)])),?_⟩;show(if(aC.keyType 303&&(rr ⟨a,b,c,d⟩).formed aC 303)=aD then(aC.keyLits (aC.types.size+1) 303 [.int .u64 (iN a),.int .u64 (iN b),.int .u64 (iN c),.int .u64 (iN d)]).map (λls=>Lit.string (keyBytes ls))else ak)=_
 rw[e1,hf,e4,hl];rfl
set_option maxRecDepth 100000 in
def O1:xz aC 303 C4 where
 kv:=rr
 ok _:=True
 law:=deep_law_laid aaD (m:=2) J setRow (by kernel_rfl) aaE
 key x _:=aaF x
 inj x y h:=by
  simp only[rr,k7,pv,ib,Ad,true_and,and_true]at h;exact C4.ext' (oH h.1) (oH h.2.1) (oH h.2.2.1) (oH h.2.2.2)
theorem Lz(w:World):(zeroValue 3).run aC w= .ok (av az 0) w:=by kernel_rfl
def pV(D:List C4)(x:C4):Option Value:=if x∈D then aj (av az ((idx D x+1:Nat):Int))else ak
theorem O2{D:List C4}{x:C4}(hn:x∉D):(λy=>if y=x then aj (av az ((D.length+1:Nat):Int))else pV D y)=pV (D++[x]):=by
 funext y
 unfold pV
 by_cases c:y=x
 ·subst c
  rw[if_pos I,if_pos (by simp)];have:=rA (D:=D) (k:=y);unfold more at this;rw[if_neg hn,if_neg hn]at this;rw[this]
 rw[if_neg c]
 by_cases c2:y∈D
 rw[if_pos c2,if_pos (tV _ c2),qy c2];rw[if_neg c2,if_neg (by simp[c,c2])]
theorem Eg:(λ(_:C4)=>(none:Option Value))=pV []:=by funext y;unfold pV;rw[if_neg (by simp)]
abbrev oE(vs:Value)(S:List C4):cU:=bD 303 4 vs (S.length+1) (O0 S)
abbrev sZ(gm:Nat)(S:List C4):cU:=fD O1 gm (pV S) S.length
def JX(vc vr vf vfol vl ve rows:Value)(g gm:Nat)(vs vt:Value)(d:DM):List cU:=
 [aR g (JW vc vr vf vfol vl ve vs (.map (aj gm)) rows vt) 254,oE vs d.S,sZ gm d.S,gZ vt d.tags]
def aaG(p:PS)(vc vr vf vfol vl ve rows:Value)(g gm:Nat)(d:DM)(s:C4):Spec (Value×Value):=
 ⟨λ_=>True,λ_=>av az ((jh p d s).1:Int),λx=>JX vc vr vf vfol vl ve rows g gm x.1 x.2 (jh p d s).2⟩
theorem XG(v:Value)(l:List Int)(x:Int):gZ v (l++[x])=bD 3 1 v (l.length+1) (l.map (av .i64)++[av az x]):=by
 unfold gZ;rw[bT,ft];rfl
theorem G4(S:List C4)(s:C4):O0 (S++[s])=O0 S++fh s:=by
 unfold O0;rw[<-List.cons_append,fV];simp
theorem Q5(s:C4):∀u∈fh s,u.oneCell'=true:=by
 intro u h;simp only[fh,ez,iD,or_false]at h;rcases h with rfl|rfl|rfl|rfl<;>rfl
theorem XH(p:PS)(s:C4)(i:Nat):kL p s (i+1)=if s.mem i=aD/\p.last.getD i aE=aD/\(kL p s i<0\/p.rules.getD i 0<kL p s i)then p.rules.getD i 0 else kL p s i:=rfl
theorem XI{S:List C4}{s:C4}{gm:Nat}(hn:s∉S):fD O1 gm (λy=>if y=s then aj (av az ((S.length+1:Nat):Int))else pV S y) (if(pV S s).isSome then S.length else S.length+1)=sZ gm (S++[s]):=by
 rw[O2 hn,show pV S s=ak from if_neg hn];unfold sZ;rw[bT];rfl
attribute [local irreducible] Op.shift Go.bits in
theorem Eh(m:MS)(vc vr vf vfol vl ve rows:Value)(d:DM)(s:C4)(g gm:Nat)(vs vt:Value)(w0:World)(hp:Fo w0 (aU #[vc,vr,vf,vfol,vl,ve]) m)(h:II m)(hd:d.S.length<=100000)(hdt:d.tags.length<=100001)(w:World)(B:b9)(ho:p_ w0 B)
 (hm:Mem B (JX vc vr vf vfol vl ve rows g gm vs vt d) w):
 Calls aC 155 #[aK (aj ⟨g,0,ak⟩),rr s] w (dF (aaG m.ps vc vr vf vfol vl ve rows g gm d s) B):=by
 obtain⟨_,_,_,_,_,_,he,h1,h2,h3,h4,h5,h6⟩:=hp;simp only[k7,pv,ib,and_true]at he;obtain⟨rfl,rfl,rfl,rfl,rfl,rfl⟩:=he;have hmf:=h.BO;have MI:=h.ok.ps.rules;have R5:=h.ok.ps.last;have hmr:=h.rules;clear h h3 h4 h6;obtain⟨ac,cc,rfl,-⟩:=h1;obtain⟨ar,cr,rfl,-,ag5,hrr⟩:=h2;obtain⟨al,cl,rfl,-,ag6,E8⟩:=h5;unfold JX at hm;unfold aaG;obtain⟨S,tags⟩:=d;obtain⟨p,fi,em⟩:=m;dsimp only at*;refine dZ hm (args:=[aK (aj ⟨g,0,ak⟩),rr s]) (n:=105) Tryz.func155 I I I ?_;clear hm;refine bC (aM (b_ I I I λg3=>?_));refine zL ?_
 by_cases c1:s∈S
 ·have hst:jh p ⟨S,tags⟩ s=(idx S s+1,⟨S,tags⟩):=if_pos c1
  have JS:pV S s=aj (av az ((idx S s+1:Nat):Int)):=if_pos c1;rw[hst]
  try refine GA ?_
  refine eo ([aR g (JW (ap ac p.bx.length cc) (ap ar p.rules.length cr) vf vfol (ap al p.last.length cl) ve vs (.map (aj gm)) rows vt) 254,sZ gm S,aR g3 (fh s).toArray 303]) (.calm 0 (.calm 1 (.calm 2 (.calm 3 (.calm 4 (.calm 5 (.calm 6 (.calm 7 (.calm 8 (.calm 9 (.calm 10 (.done)))))))))))) (cH [0,2,4]) ?_
  repeat(first|refine GW ?_|(refine GN ?_;first|refine QW (aB (v:= .map (aj gm)) aL.ty I (aH (i:=0) I I)) ?_|refine QW (aQ (i:=2) aL.ty I I I) ?_|refine QW (jW O1 (x:=s) bR.eq Lz (i:=1) I I I trivial JS) ?_))
  try refine GA ?_
  refine dS [0,1,2,3] ?_;exact da I I λw hm=>hm.cX (S:=⟨λ(_:Value×Value)=>True,λ_=>av az ((idx S s+1:Nat):Int),λx=>JX (ap ac p.bx.length cc) (ap ar p.rules.length cr) vf vfol (ap al p.last.length cl) ve rows g gm x.1 x.2 ⟨S,tags⟩⟩) (vs,vt) trivial [0,1,2,3] ahk I
 ·have hst:jh p ⟨S,tags⟩ s=(S.length+1,⟨S++[s],tags++[wN p s]⟩):=if_neg c1
  have JS:pV S s=none:=if_neg c1;rw[hst];refine qw (i:=1) I gO λij=>?_;obtain⟨ab,cs,rfl,hmS,-⟩:=ij
  try refine GA ?_
  refine eo ([aR g (JW (ap ac p.bx.length cc) (ap ar p.rules.length cr) vf vfol (ap al p.last.length cl) ve (ap ab (S.length+1) cs) (.map (aj gm)) rows vt) 254,sZ gm S,aR g3 (fh s).toArray 303]) (.calm 0 (.calm 1 (.calm 2 (.calm 3 (.calm 4 (.calm 5 (.calm 6 (.calm 7 (.calm 8 (.calm 9 (.calm 10 (.done)))))))))))) (cH [0,2,4]) ?_
  repeat(first|refine GW ?_|(refine GN ?_;first|refine QW (aB (v:= .map (aj gm)) aL.ty I (aH (i:=0) I I)) ?_|refine QW (aQ (i:=2) aL.ty I I I) ?_|refine QW (jX O1 (x:=s) bR.eq Lz (i:=1) I I I trivial JS) ?_))
  try refine GA ?_
  (repeat refine bC ?_)
  refine l_ (ι:=Unit) (λ_=>True) (λ_=>[(0,aK (aj ⟨g,0,ak⟩)),(3,aK (aj ⟨g3,0,ak⟩))]) (λ_=>[aR g (JW (ap ac p.bx.length cc) (ap ar p.rules.length cr) vf vfol (ap al p.last.length cl) ve (ap ab (S.length+1) cs) (.map (aj gm)) rows vt) 254,oE (ap ab (S.length+1) cs) S,sZ gm (S++[s]),gZ vt tags,aR g3 (fh s).toArray 303]) ?_ ?_
  ·refine eo ([aR g (JW (ap ac p.bx.length cc) (ap ar p.rules.length cr) vf vfol (ap al p.last.length cl) ve (ap ab (S.length+1) cs) (.map (aj gm)) rows vt) 254,aR g3 (fh s).toArray 303]) (.calm 0 (.calm 1 (.calm 2 (.calm 3 (.calm 4 (.calm 5 (.calm 6 (.calm 7 (.calm 8 (.calm 9 (.one 10 (.done)))))))))))) (cH [0,4]) ?_
   repeat(first|refine GW ?_|(refine GN ?_;first|refine QW (aB (v:= .map (aj gm)) aL.ty I (aH (i:=0) I I)) ?_|refine QW (aQ (i:=1) aL.ty I I I) ?_|refine QW (aB (v:=ap ab (S.length+1) cs) aL.ty I (aH (i:=0) I I)) ?_))
   refine aO I (ml O1 (i:=2) (x:=s) bR.eq I I I I trivial J (aP (cH [0,4]) ?_))
   try refine GW ?_
   exact eJ () trivial (by repeat' (first|exact dl|refine dh I ?_)) (by rw[<-XI c1];rfl)
  intro _ _
  (repeat refine bC ?_)
  refine l_ (ι:=Value) (λ_=>True) (λ_=>[(0,aK (aj ⟨g,0,ak⟩)),(3,aK (aj ⟨g3,0,ak⟩))]) (λpJ=>[aR g (JW (ap ac p.bx.length cc) (ap ar p.rules.length cr) vf vfol (ap al p.last.length cl) ve pJ (.map (aj gm)) rows vt) 254,oE pJ (S++[s]),sZ gm (S++[s]),gZ vt tags,aR g3 (fh s).toArray 303]) ?_ ?_
  ·refine eo ([aR g3 (fh s).toArray 303]) (.calm 0 (.calm 1 (.calm 2 (.calm 3 (.calm 5 (.two 4 (.one 6 (.one 7 (.calm 8 (.calm 9 (.one 10 (.done)))))) 6 (.one 4 (.one 7 (.calm 8 (.calm 9 (.one 10 (.done)))))))))))) (cH [4]) ?_
   repeat(first|refine GW ?_|(refine GN ?_;first|refine QW (aQ (i:=0) aL.ty I I I) ?_))
   refine e9 I I ?_ ?_
   ·refine aI (aB (v:=ap ab (S.length+1) cs) aL.ty I (aH (i:=0) I I)) I I I (aP (cH [4]) ?_)
    refine aO I (im (cs:=(fh s).toArray) [rr s] I I I (by intro v hv;simp at hv;subst hv;rfl) I I I λg36=>(aP (cH [4]) ?_));refine aO I (fc (i:=1) (e:=303) (size:=4) (bytes:=32) (m:=S.length+1) (xs:=O0 S) (k:=1) (ys:=fh s) I (lE (i:=5) I (λj u h=>by simpa using h) (bJ 1) ahk) I I I (λu hu=>Q5 s u hu) J J I λpJ=>(aP (cH [4]) ?_))
    try refine GW ?_
    refine aO I (aY (i:=1) I λlm lW=>cD (i:=0) I I I lm lW I (aP (cH [4]) ?_))
    try refine GW ?_
    refine dS [0,1,2,3,4] ?_;exact eJ pJ trivial (by repeat' (first|exact dl|refine dh I ?_)) (by unfold oE;rw[G4,bT];rfl)
   refine im (cs:=(fh s).toArray) [rr s] I I I (by intro v hv;simp at hv;subst hv;rfl) I I I λg36=>(aP (cH [4]) ?_);refine aO I (aI (aB (v:=ap ab (S.length+1) cs) aL.ty I (aH (i:=0) I I)) I I I (aP (cH [4]) ?_));refine aO I (fc (i:=1) (e:=303) (size:=4) (bytes:=32) (m:=S.length+1) (xs:=O0 S) (k:=1) (ys:=fh s) I (lE (i:=5) I (λj u h=>by simpa using h) (bJ 1) ahk) I I I (λu hu=>Q5 s u hu) J J I λpJ=>(aP (cH [4]) ?_))
   try refine GW ?_
   refine aO I (aY (i:=1) I λlm lW=>cD (i:=0) I I I lm lW I (aP (cH [4]) ?_))
   try refine GW ?_
   refine dS [0,1,2,3,4] ?_;exact eJ pJ trivial (by repeat' (first|exact dl|refine dh I ?_)) (by unfold oE;rw[G4,bT];rfl)
  clear hmS;intro pJ _;refine iR (i:=1) I gO λij=>?_;obtain⟨ab',cs',rfl,hmS,-⟩:=ij
  repeat(first|refine GA ?_|refine gV (aB (v:=ap ac p.bx.length cc) aL.ty I (aH (i:=0) I I)) ?_)
  refine eK (ι:=Nat×Int) (λ(k,t)=>k<=p.bx.length/\t=kL p s k) (λ(k,t)=>[(0,aK (aj ⟨g,0,ak⟩)),(3,aK (aj ⟨g3,0,ak⟩)),(7,av az t),(45,av az p.bx.length),(46,av az (k:Int))])
   (λ_=>[aR g (JW (ap ac p.bx.length cc) (ap ar p.rules.length cr) vf vfol (ap al p.last.length cl) ve (ap ab' ((S++[s]).length+1) cs') (.map (aj gm)) rows vt) 254,oE (ap ab' ((S++[s]).length+1) cs') (S++[s]),sZ gm (S++[s]),gZ vt tags,aR g3 (fh s).toArray 303]) (λ(k,_)=>p.bx.length-k) (0,-1) ⟨bO _,rfl⟩ ?_
  rintro⟨k,t⟩ ⟨hk,ht⟩;dsimp only at hk ht⊢
  by_cases q1:k<p.bx.length
  ·have hst:=XH p s k
   have hkr:k<p.rules.length:=by omega
   have hkl:k<p.last.length:=by omega
   rw[cK (l:=p.rules),bQ hkr,lf,cK (l:=p.last),bQ hkl,lf]at hst;obtain⟨br,OK,rfl,aeP⟩:=hrr J;obtain⟨bl,XJ,rfl,aeQ⟩:=E8 J;have adb:=λ(L:List cU)=>OS (L:=L) km ho aeP hkr 0 _ I;have agh:=λ(L:List cU)=>OS (L:=L) QQ ho aeQ hkl 0 _ I;have hr0:=(hmr _ (cV hkr)).1;have XF:=λw=>sW s k J w;clear aeP aeQ hrr E8 hmr;generalize p.rules[k]=r at*;generalize p.last[k]=lb at*;generalize s.mem k=b at*;rw[<-ht]at hst;clear ht;have XK:∀(L:List cU),At B L ⟨br,OK+k*1+0,ak⟩ (av az r):=adb;have Q6:∀(L:List cU),At B L ⟨bl,XJ+k*1+0,ak⟩ (.bool lb):=agh
   repeat(first|refine GA ?_|refine gV (aQ (i:=4) aL.ty I I I) ?_)
   refine a8 (gK aJ.en I I I) (λw hm=>XF w) I I I ?_;intro _ _;refine zL ?_;have skip:∀(_:¬(b=aD/\lb=aD/\(t<0\/r<t))),kL p s (k+1)=t:=λh=>by rw[hst,if_neg h]
   have take:b=aD/\lb=aD/\(t<0\/r<t)->kL p s (k+1)=r:=λh=>by rw[hst,if_pos h]
   clear hst
   by_cases q2:b=aD
   ·subst q2
    by_cases q3:lb=aD
    ·subst q3
     by_cases q4:t<0
     ·have e:=(take ⟨rfl,rfl,.inl q4⟩).symm
      repeat(first|refine GC ?_|refine gV (aB (v:=ap (aj ⟨bl,XJ,ak⟩) p.last.length cl) aL.ty I (aH (i:=0) I I)) ?_|refine gV (a_ bR.eq aL.ty I I hkl) ?_|refine gV (aB (v:= .bool aD) aL.ty I (Q6 _)) ?_|refine gV (aW (b:=aD) I I (decide_eq_true q4)) ?_|refine gV (aB (v:=ap (aj ⟨br,OK,ak⟩) p.rules.length cr) aL.ty I (aH (i:=0) I I)) ?_|refine gV (a_ bR.eq aL.ty I I hkr) ?_|refine gV (aB (v:=av az r) aL.ty I (XK _)) ?_|refine GB ?_)
      exact cJ (k+1,r) ⟨by omega,e⟩ (by show p.bx.length-(k+1)<p.bx.length-k;omega)
     by_cases q5:r<t
     ·have e:=(take ⟨rfl,rfl,.inr q5⟩).symm
      repeat(first|refine GC ?_|refine gV (aB (v:=ap (aj ⟨bl,XJ,ak⟩) p.last.length cl) aL.ty I (aH (i:=0) I I)) ?_|refine gV (a_ bR.eq aL.ty I I hkl) ?_|refine gV (aB (v:= .bool aD) aL.ty I (Q6 _)) ?_|refine gV (aW (b:=aE) I I (decide_eq_false q4)) ?_|refine gV (aB (v:=ap (aj ⟨br,OK,ak⟩) p.rules.length cr) aL.ty I (aH (i:=0) I I)) ?_|refine gV (a_ bR.eq aL.ty I I hkr) ?_|refine gV (aB (v:=av az r) aL.ty I (XK _)) ?_|refine gV (aW (b:=aD) I I (decide_eq_true q5)) ?_|refine GB ?_)
      exact cJ (k+1,r) ⟨by omega,e⟩ (by show p.bx.length-(k+1)<p.bx.length-k;omega)
     have e:=(skip (λh=>h.2.2.elim q4 q5)).symm
     repeat(first|refine GC ?_|refine gV (aB (v:=ap (aj ⟨bl,XJ,ak⟩) p.last.length cl) aL.ty I (aH (i:=0) I I)) ?_|refine gV (a_ bR.eq aL.ty I I hkl) ?_|refine gV (aB (v:= .bool aD) aL.ty I (Q6 _)) ?_|refine gV (aW (b:=aE) I I (decide_eq_false q4)) ?_|refine gV (aB (v:=ap (aj ⟨br,OK,ak⟩) p.rules.length cr) aL.ty I (aH (i:=0) I I)) ?_|refine gV (a_ bR.eq aL.ty I I hkr) ?_|refine gV (aB (v:=av az r) aL.ty I (XK _)) ?_|refine gV (aW (b:=aE) I I (decide_eq_false q5)) ?_|refine GB ?_)
     exact cJ (k+1,t) ⟨by omega,e⟩ (by show p.bx.length-(k+1)<p.bx.length-k;omega)
    have e:=(skip (λh=>q3 h.2.1)).symm;obtain rfl:=vz.2 q3
    repeat(first|refine GA ?_|refine gV (aB (v:=ap (aj ⟨bl,XJ,ak⟩) p.last.length cl) aL.ty I (aH (i:=0) I I)) ?_|refine gV (a_ bR.eq aL.ty I I hkl) ?_|refine gV (aB (v:= .bool aE) aL.ty I (Q6 _)) ?_)
    exact cJ (k+1,t) ⟨by omega,e⟩ (by show p.bx.length-(k+1)<p.bx.length-k;omega)
   have e:=(skip (λh=>q2 h.1)).symm;obtain rfl:=vz.2 q2
   try refine GA ?_
   exact cJ (k+1,t) ⟨by omega,e⟩ (by show p.bx.length-(k+1)<p.bx.length-k;omega)
  ·obtain rfl:k=p.bx.length:=by omega
   rw[show wN p s=t from ht.symm]at*
   repeat(first|refine GA ?_|refine gV (aB (v:=vt) aL.ty I (aH (i:=0) I I)) ?_)
   refine kh (i:=3) I I I I I I (λz h=>by cases h;rfl) J J I λz' oL=>?_;refine zL ?_
   try refine GA ?_
   refine aY (i:=3) I λlm lW=>cD (i:=0) I I I lm lW I ?_;refine zL ?_
   repeat(first|refine GC ?_|refine gV (aB (v:=ap ab' ((S++[s]).length+1) cs') aL.ty I (aH (i:=0) I I)) ?_|refine gV (df (r:=((S.length+1:Nat):Int)) I I (by simp;omega) (by simp;omega) (by simp)) ?_|refine GB ?_)
   refine dS [0,1,2,3] ?_;exact da I I λw hm=>hm.cX (S:=⟨λ(_:Value×Value)=>True,λ_=>av az ((S.length+1:Nat):Int),λx=>JX (ap ac p.bx.length cc) (ap ar p.rules.length cr) vf vfol (ap al p.last.length cl) ve rows g gm x.1 x.2 ⟨S++[s],tags++[t]⟩⟩) (ap ab' ((S++[s]).length+1) cs',oL) trivial [0,1,2,3] ahk (by unfold JX;rw[<-XG];rfl)
  done
end cZ
namespace cZ
open Go.RowKit dr eH yy dq
def fj(r:Row):List Value:=r.toList.map (.int .i16)
theorem dW(r:Row):(fj r).length=256:=by simp[fj]
theorem pW(r:Row){b:Nat}(hb:b<256):(fj r)[b]?=aj (.int .i16 r[b]):=by
 unfold fj;rw[fx,bQ (by simpa using hb),oy];rfl
theorem row_one(l:List Row):∀u∈l.flatMap fj,u.oneCell'=true:=by
 intro u hu;obtain⟨x,_,h⟩:=List.mem_flatMap.1 hu;obtain⟨n,_,rfl⟩:=e7.1 h;rfl
theorem rR(r:Row):(fj r).all fG=true:=List.all_eq_true.2 λu hu=>row_one [r] u (by simpa using hu)
def iZ(vr vt:Value):Value:=aU #[vr,vt]
def wO:Row:=eS 256 0
structure Fs(w:World)(vr vt:Value)(R:List Row)(tags:List Int):Prop where
 hR:Sl w vr R.length (R.flatMap fj)
 hT:Sl w vt tags.length (tags.flatMap dr.eV)
 rng:∀r∈R,∀x∈r.toList,-32768<=x/\x<=32767
 okT:∀x∈tags,dr.eD x
theorem Fs.gr{w w':World}{vr vt:Value}{R:List Row}{tags:List Int}(h:Fs w vr vt R tags)(hg:Gr w w'):Fs w' vr vt R tags:=⟨h.hR.gr hg,h.hT.gr hg,h.rng,h.okT⟩
theorem Fs.aeR{w:World}{vr vt:Value}{R:List Row}{tags:List Int}(h:Fs w vr vt R tags):Kn w (iZ vr vt) (R.map OY) tags:=by
 refine⟨vr,vt,rfl,?_,?_,λr hr=>by obtain⟨x,_,rfl⟩:=e7.1 hr;simp⟩
 ·obtain⟨base,cap,h1,h2,h3,h4⟩:=h.hR
  refine⟨base,cap,by rw[dX];exact h1,by rw[dX];exact h2,h3,λh0=>?_⟩;rw[dX]at h0;obtain⟨b,off,h5,h6⟩:=h4 h0;refine⟨b,off,h5,λi hi=>?_⟩;have qN:i<R.length:=by simpa using hi
  refine⟨fj R[i],⟨by simp,by simp[fj],λx hx=>h.rng R[i] (cV qN) x (by simpa using hx)⟩,λj u hj=>?_⟩;have U5:j<256:=by have:=(dv.1 hj).1;rwa [dW]at this
  have:=h6 (i*256+j) u (by rw[ui dW R i j qN U5];exact hj);rw[Nat.add_assoc];exact this
 obtain⟨base,cap,h1,h2,h3,h4⟩:=h.hT;refine⟨base,cap,h1,h2,h3,λh0=>?_⟩;obtain⟨b,off,h5,h6⟩:=h4 h0;refine⟨b,off,h5,λi hi=>⟨[av az tags[i]],⟨rfl,h.okT _ (cV hi)⟩,λj u hj=>?_⟩⟩;have hj0:j=0:=by have:=(dv.1 hj).1;simpa using this
 subst hj0;rw[kR,iO];refine h6 i u ?_;rw[show tags.flatMap dr.eV=tags.map (.int .i64)from dr.abF tags,fx,bQ hi];exact hj
def fL(R:List Row)(tags:List Int):uC:=⟨R.length,λi b=>(R.getD i wO).toList.getD b 0,λi=>tags.getD i 0⟩
def my(R:List Row)(tags:List Int):Int:=Ab (R.map OY) tags
theorem G5(R:List Row){i:Nat}(hi:i<R.length):(R.map OY).getD i []=(R.getD i wO).toList:=by
 rw[cK,fx,cK,bQ hi];rfl
theorem vC{R:List Row}{tags:List Int}(h:my R tags=0):(fL R tags).Ok/\tags.length=R.length:=by
 obtain⟨h1,h2,h3,h4⟩:=VN h;rw[dX]at h1 h2 h3 h4;refine⟨⟨h2,h1,λi hi b hb=>?_,λi hi=>?_⟩,h3⟩
 ·have:=(h4 i hi).2.2
  rw[G5 R hi]at this;refine this _ ?_;show(R.getD i wO).toList.getD b 0∈_
  rw[cK (l:=(R.getD i wO).toList),bQ (by simpa using hb)];exact cV _
 have:=h4 i hi;exact⟨this.1,this.2.1⟩
theorem I1{R:List Row}{tags:List Int}(h:(fL R tags).Ok)(hl:tags.length=R.length):my R tags=0:=by
 have h1:R.length<=200:=h.le;have h2:0<R.length:=h.pos;unfold my Ab;rw[dX,if_neg J,if_neg J,if_neg];simp only[oc,List.mem_range,not_exists,not_and];intro i hi;have ht:=h.tags i hi;have hs:=h.step i hi;rw[G5 R hi];simp only[nv,Bool.or_eq_true,decide_eq_true_eq,oc,not_or,not_exists,not_and];refine⟨⟨?_,?_⟩,λt ht'=>?_⟩
 ·show ¬tags.getD i 0< -1
  have: -1<=tags.getD i 0:=ht.1;omega
 ·have:tags.getD i 0<20:=ht.2
  omega
 obtain⟨b,hb,rfl⟩:=jt.1 ht';have MH:b<256:=by simpa using hb
 have:=hs b MH;have e:(fL R tags).d i b=(R.getD i wO).toList[b]:=by
  show(R.getD i wO).toList.getD b 0=_
  rw[cK (l:=(R.getD i wO).toList),bQ hb];rfl
 rw[e]at this;have e2:(fL R tags).n=R.length:=rfl;omega
def wN(R:List Row)(tags:List Int)(s:List UInt8):Int×Int:=if my R tags=0 then(tg (fL R tags) (go (fL R tags) 0 s),0)else(0,my R tags)
end cZ
namespace cZ
open Go.RowKit dr eH yy dq
theorem y8{R:List Row}{tags:List Int}{i:Nat}(h:i<tags.length):(fL R tags).tag i=tags[i]:=by
 show tags.getD i 0=_
 rw[cK,bQ h];rfl
theorem LA{R:List Row}{tags:List Int}{i b:Nat}(h:i<R.length)(hb:b<256):(fL R tags).d i b=(R[i])[b]:=by
 show(R.getD i wO).toList.getD b 0=_
 rw[cK (l:=R),bQ h,lf,cK,bQ (by simpa using hb),lf,oy]
theorem Q7(r:Row){b:Nat}(hb:b<256)(x:Int):(fj r).toArray.setIfInBounds b (.int .i16 x)=(fj (r.set b x)).toArray:=by
 unfold fj;rw[Vector.toList_set,List.map_set];simp
theorem rS{P:Program}{n:Nat}{W:b9}{fr:Fr}{L:List cU}{Q:Exit->Act->World->Prop}{ops:Array Oper}{rest:List Oper}{ty:TypeId}{pos:String}{after:Array Edge}{t:TypeId}{p x:Operand}{i g b:Nat}{r:Row}{T:TypeId}{agg:Bool}{z:Int}[hT:aL P t agg 1](hi:L[i]?=aj (aR g (fj r).toArray T))(hp:ev fr p=aj (aK (aj ⟨g,0+b,ak⟩)))(hx:ev fr x=aj (.int .i16 z))(hb:b<256)
 (h:TL P n W ops Q rest fr (L.set i (aR g (fj (r.set b z)).toArray T))):TL P n W ops Q (⟨ak,.store t p x,ty,pos,after,ak⟩::rest) fr L:=by
 rw[du]at hp;refine cD hi hp hx I I ?_ ?_
 ·rw[eE,dW];exact AI▸hb
 ·rw[Q7 r hb];exact h
def y9(x y:Int)(b:Nat):Row:=AJ λi:Fin 256=>if i<b then x else y
theorem Tm(x y:Int)(b:Nat)(hb:b<256):(y9 x y b).set b x=y9 x y (b+1):=by
 refine kE λi hi=>?_;unfold y9;rw[vB,lK,lK];split
 ·rename_i e;subst e;simp
 have:i<b↔i<b+1:=by omega
 simp only[this]
theorem aaH(x y:Int):y9 x y 0=eS 256 y:=by
 refine kE λi hi=>?_;unfold y9;simp
theorem Tn(x y:Int):y9 x y 256=eS 256 x:=by
 refine kE λi hi=>?_;unfold y9;simp[hi]
theorem Ei:(dJ 256 (av .i16 0)).toArray=(fj (eS 256 0)).toArray:=by
 unfold fj;rw[Vector.toList_replicate,AH]
def BS(r:Row):Value:=aU (fj r).toArray
theorem Bp(x:Int)(w:World):Calls aC 118 #[.int .i16 x] w (cY (ret (BS (eS 256 x))) w):=by
 refine enter (args:=[.int .i16 x]) (n:=13) Tryz.func118 I I I ?_;refine bC (aM (bz I λg=>?_))
 try refine GA ?_
 refine bz I λg3=>?_;refine zL ?_;rw[Ei]
 try refine GA ?_
 rw[<-aaH x 0];refine eK (ι:=Nat) (λb=>b<=256) (λb=>[(0,.int .i16 x),(2,aK (aj ⟨g,0,ak⟩)),(3,aK (aj ⟨g3,0,ak⟩)),(5,av az (b:Int))]) (λb=>[aR g (fj (y9 x 0 0)).toArray 257,aR g3 (fj (y9 x 0 b)).toArray 257]) (λb=>256-b) 0 (bO _) ?_;intro b hb
 by_cases c:b<256
 ·repeat(first|refine GA ?_|refine gV (iz bR.eq aL.ty I I c) ?_)
  refine rS (i:=1) I I I c ?_;rw[Tm x 0 b c];refine zL ?_
  try refine GA ?_
  exact cJ (b+1) J (by show 256-(b+1)<256-b;omega)
 obtain rfl:b=256:=by omega
 rw[Tn]
 repeat(first|refine GA ?_|refine gV (aQ (i:=1) aL.ty I I (by rw[eE,dW])) ?_)
 refine aZ (i:=0) I I I (by rw[eE,dW]) (by have:=rR (eS 256 x);simpa using this) (by rw[eE,dW]) ?_;refine zL ?_
 try refine GA ?_
 exact h_ (i:=0) I I I (by rw[eE,dW]) λw hm=>hm.ret
end cZ
namespace cZ
open Go.RowKit dr eH dq
def qE(k:Kind):List Value:=av az k.1::fj k.2
def LB(k:Kind):Value:=aU (qE k).toArray
theorem mq(k:Kind):(qE k).length=257:=by simp[qE,dW]
def Q8(r:Row):Prop:=∀(b:Nat) (h:b<256),(-32768:Int)<=r[b]/\r[b]<=32767
theorem XL{r r':Row}(h:fj r=fj r'):r=r':=by
 refine kE λb hb=>?_;have h1:=pW r hb;rw[h,pW r' hb]at h1;simp at h1;exact h1.symm
theorem adi{r:Row}(h:Q8 r)(d:Nat):KL aC (d+2) 257 (fj r):=by
 have e2:aC.cellsOf 257=256:=by kernel_rfl
 have e3:aC.cellsOf 255=1:=by kernel_rfl
 refine VD (d:=d+1) Tryz.underlying257 (by rw[dW,e2]) λi hi=>?_;have hc:((fj r).drop (i*aC.cellsOf 255)).take (aC.cellsOf 255)=[.int .i16 r[i]]:=by
  rw[e3,kR];have hl:i<(fj r).length:=by rw[dW];exact hi
  rw[ff hl];have:=pW r hi;rw[bQ hl]at this;rw[o9 this];rfl
 rw[hc];exact uv Tryz.underlying255 (h i hi).1 (h i hi).2
set_option maxRecDepth 100000 in
theorem XM(k:Kind)(h:dr.eD k.1/\Q8 k.2):∃l,keyOf aC 310 (LB k)=aj l:=by
 have e1:aC.cellsOf 310=257:=by kernel_rfl
 have e2:aC.cellsOf 257=256:=by kernel_rfl
 have e3:aC.cellsOf 3=1:=by kernel_rfl
 refine HY (m:=3) (by kernel_rfl) (by kernel_rfl) (by rw[mq,e1]) (Cb 3 (by kernel_rfl)) λd=>?_;refine Aa (d:=d+2) Tryz.underlying310 (by rw[mq,e1]) (by kernel_rfl) λf hf=>?_;simp only[ez,iD,or_false]at hf;rcases hf with rfl|rfl
 ·rw[e3]
  exact uv (d:=d+1) Tryz.underlying3 h.1.1 h.1.2
 show KL aC (d+2) 257 (((qE k).drop 1).take (aC.cellsOf 257))
 rw[e2];have:((qE k).drop 1).take 256=fj k.2:=by
  show(fj k.2).take 256=_
  rw[gj (by rw[dW];omega)]
 rw[this];exact adi h.2 d
theorem aaI:(310:TypeId)<aC.types.size:=of_decide_eq_true (by kernel_rfl)
set_option maxRecDepth 100000 in
def vD:xz aC 310 Kind where
 kv:=LB
 ok k:=dr.eD k.1/\Q8 k.2
 law:=deep_law_laid Ca (m:=3) J aaI (by kernel_rfl) (by kernel_rfl)
 key x h:=XM x h
 inj x y h:=by
  simp only[LB,k7,pv,qE,ib,Ad,true_and]at h;exact od h.1 (XL h.2)
abbrev Ej:=Vector Int 200
def yb(c:Ej):List Value:=c.toList.map (.int .i16)
def adj(c:Ej):Value:=aU (yb c).toArray
theorem rT(c:Ej):(yb c).length=200:=by simp[yb]
theorem Ek(c:Ej){b:Nat}(hb:b<200):(yb c)[b]?=aj (.int .i16 c[b]):=by
 unfold yb;rw[fx,bQ (by simpa using hb),oy];rfl
def XN(c:Ej):Prop:=∀(b:Nat) (h:b<200),(-32768:Int)<=c[b]/\c[b]<=32767
set_option maxRecDepth 100000 in
theorem aaJ(c:Ej)(h:XN c):∃l,keyOf aC 263 (adj c)=aj l:=by
 have e2:aC.cellsOf 263=200:=by kernel_rfl
 have e3:aC.cellsOf 255=1:=by kernel_rfl
 refine HY (m:=2) (by kernel_rfl) (by kernel_rfl) (by rw[rT,e2]) (Cb 2 (by kernel_rfl)) λd=>?_;refine VD (d:=d+1) Tryz.underlying263 (by rw[rT,e2]) λi hi=>?_;have hc:((yb c).drop (i*aC.cellsOf 255)).take (aC.cellsOf 255)=[.int .i16 c[i]]:=by
  rw[e3,kR];have hl:i<(yb c).length:=by rw[rT];exact hi
  rw[ff hl];have:=Ek c hi;rw[bQ hl]at this;rw[o9 this];rfl
 rw[hc];exact uv Tryz.underlying255 (h i hi).1 (h i hi).2
theorem adk:(263:TypeId)<aC.types.size:=of_decide_eq_true (by kernel_rfl)
set_option maxRecDepth 100000 in
def LC:xz aC 263 Ej where
 kv:=adj
 ok:=XN
 law:=deep_law_laid Ca (m:=2) J adk (by kernel_rfl) (by kernel_rfl)
 key x h:=aaJ x h
 inj x y h:=by
  simp only[adj,k7,pv]at h;refine kE λb hb=>?_;have h1:=Ek x hb;rw[h,Ek y hb]at h1;simp at h1;exact h1.symm
theorem XO(w:World):(zeroValue 3).run aC w= .ok (av az 0) w:=by kernel_rfl
end cZ
namespace cZ
open Go.RowKit dr eH yy dq
set_option maxRecDepth 100000 in
theorem O3(w:World):(dR 310 #[(1,BS (eS 256 0))]).run aC w= .ok (LB dead) w:=by kernel_rfl
set_option maxRecDepth 100000 in
theorem O4(x:Int)(w:World):(dR 310 #[(0,av az x)]).run aC w= .ok (LB (x,eS 256 0)) w:=by kernel_rfl
theorem O5{x:Int}(h0: -32768<=x)(h1:x<=32767):IntKind.i16.wrap x=x:=by
 simp only[IntKind.wrap,lB,oY];simp;omega
abbrev lL(x:Int):Value:=av az x
theorem XP(x:Int)(r:Row){b:Nat}(hb:b<256)(y:Int):(qE (x,r)).toArray.setIfInBounds (1+b) (.int .i16 y)=(qE (x,r.set b y)).toArray:=by
 have e:1+b=b+1:=by omega
 unfold qE;rw[e,Ec,List.set_cons_succ];have:=Q7 r hb y;rw[Ec]at this;have h2:(fj r).set b (.int .i16 y)=fj (r.set b y):=by simpa using this
 rw[h2]
section
variable{P:Program}{n:Nat}{W:b9}{fr:Fr}{L:List cU}{Q:Exit->Act->World->Prop}{ops:Array Oper}{rest:List Oper}{ty:TypeId}{pos:String}{after:Array Edge}
theorem To{t:TypeId}{p x:Operand}{i g b:Nat}{y:Int}{r:Row}{T:TypeId}{agg:Bool}{z:Int}[hT:aL P t agg 1](hi:L[i]?=aj (aR g (qE (y,r)).toArray T))(hp:ev fr p=aj (aK (aj ⟨g,1+b,ak⟩)))(hx:ev fr x=aj (.int .i16 z))(hb:b<256)
 (h:TL P n W ops Q rest fr (L.set i (aR g (qE (y,r.set b z)).toArray T))):TL P n W ops Q (⟨ak,.store t p x,ty,pos,after,ak⟩::rest) fr L:=by
 refine cD hi hp hx I I ?_ ?_
 ·rw[eE,mq];exact AI▸(by omega:1+b<257)
 ·rw[XP y r hb];exact h
end
def Em(A:uC)(now:Nat->Nat)(i b:Nat):Row:=AJ λj:Fin 256=>if j<b then(val now (A.d i j):Int)else 0
theorem adl(A:uC)(now:Nat->Nat)(i:Nat):Em A now i 0=eS 256 0:=by
 refine kE λj hj=>?_;unfold Em;simp
theorem XQ(A:uC)(now:Nat->Nat)(i:Nat):((now i:Int),Em A now i 256)=kind A now i:=by
 refine od I (kE λj hj=>?_);unfold Em kind;simp[hj]
theorem LD(A:uC)(now:Nat->Nat)(i b:Nat)(hb:b<256):(Em A now i b).set b (val now (A.d i b):Int)=Em A now i (b+1):=by
 refine kE λj hj=>?_;unfold Em;rw[vB,lK,lK];split
 ·rename_i e;subst e;simp
 have:j<b↔j<b+1:=by omega
 simp only[this]
theorem Tp(A:uC)(now:Nat->Nat)(i b:Nat)(hb:b<256)(h0:val now (A.d i b)=0):Em A now i b=Em A now i (b+1):=by
 rw[<-LD A now i b hb,h0];refine kE λj hj=>?_;rw[vB];split
 ·rename_i e;subst e;unfold Em;simp
 rfl
structure I2(A:uC)(f n:Nat)(now:Nat->Nat):Prop where
 eq:eu A=Gf A f n now
 rd:n=0\/Qg A n now
 le:n<=A.n+1
 fuel:A.n+2<=f+n
 lim:∀i,i<A.n->now i<=200
theorem aaK{A:uC}(hA:A.Ok):I2 A (A.n+2) 0 (yA A):=⟨rfl,.inl I,bO _,by omega,λi hi=>by unfold yA;have:=hA.tags i hi;omega⟩
theorem LF{A:uC}(hA:A.Ok){f n:Nat}{now:Nat->Nat}(h:I2 A f n now):∃f',f=f'+1/\((py A now).length=n->eu A=next A now)/\((py A now).length≠n->I2 A f' (py A now).length (next A now)):=by
 have h1:=h.le;have h2:=h.fuel;obtain⟨f',rfl⟩:∃f',f=f'+1:=⟨f-1,by omega⟩;have e:=h.eq;unfold Gf at e;refine⟨f',rfl,λhc=>by rw[e,if_pos hc],λhc=>⟨by rw[e,if_neg hc],.inr ⟨now,rfl,rfl⟩,Ah now,?_,λi hi=>?_⟩⟩
 ·have hp:=Qf (A:=A) now
  rcases h.rd with rfl|hr
  omega;have:=(xH hr).1;omega
 have:=qz (A:=A) (now:=now) (q:=(i:Int)) J;rw[yX]at this;have h3:=Ah (A:=A) now;have h4:=hA.le;omega
theorem aaL{A:uC}{now:Nat->Nat}(h:∀i,i<A.n->now i<=200){q:Int}(hq:St A q):val now q<=200:=by
 unfold val;split;omega;exact h _ (by unfold St at hq;omega)
theorem aaM{A:uC}(hA:A.Ok){now:Nat->Nat}(h:∀i,i<A.n->now i<=200){i:Nat}(hi:i<A.n):dr.eD (kind A now i).1/\Q8 (kind A now i).2:=by
 refine⟨?_,λb hb=>?_⟩
 ·have:=h i hi
  show dr.eD (now i:Int)
  exact⟨by omega,by omega⟩
 have:=aaL h (hA.step i hi b hb);unfold kind;rw[lK];show-32768<=(val now (A.d i b):Int)/\(val now (A.d i b):Int)<=32767
 omega
def kp(A:uC)(now:Nat->Nat)(i:Nat):List Kind:=eh [dead] ((kinds A now).take i)
theorem Tq(A:uC)(now:Nat->Nat):kp A now A.n=py A now:=by unfold kp py;rw[gj (by simp[kinds])]
theorem G6(A:uC)(now:Nat->Nat){i:Nat}(hi:i<A.n):∃h:i<(kinds A now).length,(kinds A now)[i]=kind A now i:=⟨by simpa[kinds]using hi,by simp[kinds]⟩
theorem aaN(A:uC)(now:Nat->Nat){i:Nat}(hi:i<A.n)(h:kind A now i∈kp A now i):kp A now (i+1)=kp A now i/\next A now i=idx (kp A now i) (kind A now i):=by
 obtain⟨hl,e⟩:=G6 A now hi;have h2:=VF (D:=[dead]) hl;unfold kp at h;rw[e,if_pos h]at h2;refine⟨?_,h2⟩;unfold kp;rw[ia hl,kY,e,more,if_pos];exact h
theorem aaO(A:uC)(now:Nat->Nat){i:Nat}(hi:i<A.n)(h:kind A now i∉kp A now i):kp A now (i+1)=kp A now i++[kind A now i]/\next A now i=(kp A now i).length:=by
 obtain⟨hl,e⟩:=G6 A now hi;have h2:=VF (D:=[dead]) hl;unfold kp at h;rw[e,if_neg h]at h2;refine⟨?_,h2⟩;unfold kp;rw[ia hl,kY,e,more,if_neg];exact h
theorem XR(A:uC)(now:Nat->Nat)(i:Nat):(kp A now i).length<=A.n+1:=by
 have h:=Ah (A:=A) now;have e:kinds A now=(kinds A now).take i++(kinds A now).drop i:=(List.take_append_drop _ _).symm;have hap:∀(a b D:List Kind),eh D (a++b)=eh (eh D a) b:=by
  intro a
  induction a with
  |nil=>intro b D;rfl
  |cons x a ih=>intro b D;exact ih b _
 obtain⟨E,h2⟩:=sC ((kinds A now).drop i) (kp A now i);have h3:py A now=kp A now i++E:=by
  unfold py;rw[e,hap];exact h2
 rw[h3,bT]at h;omega
set_option maxRecDepth 100000 in
theorem I3(vr vt:Value)(R:List Row)(tags:List Int)(w:World)(h:Fs w vr vt R tags)(hc:my R tags=0):
 Calls aC 117 #[iZ vr vt] w (cY ⟨λ_=>True,λ(g:Nat)=>ap (aj ⟨g,0,ak⟩) R.length R.length,λg=>[fO 3 lL g R.length λi=>(eu (fL R tags) i:Int)]⟩ w):=by
 obtain⟨hA,hlt⟩:=vC hc;obtain⟨bt,ct,rfl,ht1,V5,JP⟩:=h.hT;obtain⟨br,cr,rfl,Za,we,Dg⟩:=h.hR;have en:(fL R tags).n=R.length:=rfl;have AA:0<R.length:=hA.pos;have hle:R.length<=200:=hA.le;obtain⟨b,off,rfl,hr⟩:=Dg AA;obtain⟨bb,tF,rfl,hrt⟩:=JP J;unfold maxLen at we V5;have ag7:∀i,i<R.length->(fL R tags).tag i=tags.getD i 0:=λi _=>rfl;clear Dg JP h;refine enter (args:=[iZ (ap (aj ⟨b,off,ak⟩) R.length cr) (ap (aj ⟨bb,tF,ak⟩) tags.length ct)]) (n:=98) Tryz.func117 I I I ?_;refine bC (aM (b_ I I I λg1=>?_))
 repeat(first|refine GA ?_|refine gV (aB aL.ty I (aH (i:=0) I I)) ?_)
 refine pA lL 0 I I J J I λg3=>?_;refine zL ?_
 repeat(first|refine GA ?_|refine gV (aB aL.ty I (aH (i:=0) I I)) ?_)
 refine og (ι:=Nat) (λi=>i<=tags.length) (λi=>[(1,aK (aj ⟨g1,0,ak⟩)),(3,ap (aj ⟨g3,0,ak⟩) R.length R.length),(22,ap (aj ⟨bb,tF,ak⟩) tags.length ct),(23,av az (tags.length:Int)),(24,av az (i:Int))])
  (λi=>[aR g1 (iZ (ap (aj ⟨b,off,ak⟩) R.length cr) (ap (aj ⟨bb,tF,ak⟩) tags.length ct)).cells 186,fO 3 lL g3 R.length λj=>if j<i then(yA (fL R tags) j:Int)else 0]) (λi=>tags.length-i) 0 (bO _) (by repeat' (first|exact dl|refine dh I ?_)) (by rw[pz (f':=λj=>if j<0 then(yA (fL R tags) j:Int)else 0) λi _=>by simp]) ?_
 intro i hi
 by_cases c1:i<tags.length
 ·have d_:=iB (W:=w) (L:=[aR g1 (iZ (ap (aj ⟨b,off,ak⟩) R.length cr) (ap (aj ⟨bb,tF,ak⟩) tags.length ct)).cells 186,fO 3 lL g3 R.length λj=>if j<i then(yA (fL R tags) j:Int)else 0]) (c:=1) (f:=dr.eV) (λ_=>rfl) hrt c1 0 _ I
  have htg:=hA.tags i J;have h0:(yA (fL R tags) i:Int)=tags[i]+1:=by
   unfold yA;rw[y8 c1]at htg⊢;omega
  rw[y8 c1]at htg;generalize tags[i]=x at*
  repeat(first|refine GA ?_|refine gV (a_ bR.eq aL.ty I I c1) ?_|refine gV (aB aL.ty I d_) ?_|refine gV (cT bR.eq aL.ty I I (show i<R.length by omega)) ?_)
  refine jj (i:=1) (off:=i) (v:=x+1) (λj=>if j<i+1 then(yA (fL R tags) j:Int)else 0) aL.ty I I I I I J (λj hj=>?_) ?_
  ·by_cases e:j=i
   subst e;rw[if_pos J,if_pos I,h0];rw[if_neg e];have:j<i+1↔j<i:=by omega
   simp only[this]
  refine zL ?_
  try refine GA ?_
  exact cJ (i+1) J (by show tags.length-(i+1)<tags.length-i;omega)
 ·obtain rfl:i=tags.length:=by omega
  rw[pz (f':=λj=>(yA (fL R tags) j:Int)) λj hj=>if_pos (show j<tags.length by omega)];clear c1 hi
  try refine GA ?_
  refine eK (ι:=Nat×Nat×(Nat->Nat)×Nat) (λ(f,c,now,_)=>I2 (fL R tags) f c now) (λ(_,c,_,g3)=>[(1,aK (aj ⟨g1,0,ak⟩)),(3,ap (aj ⟨g3,0,ak⟩) R.length R.length),(6,av az (c:Int))])
   (λ(_,_,now,g3)=>[aR g1 (iZ (ap (aj ⟨b,off,ak⟩) R.length cr) (ap (aj ⟨bb,tF,ak⟩) tags.length ct)).cells 186,fO 3 lL g3 R.length λj=>(now j:Int)]) (λ(f,_,_,_)=>f) (R.length+2,0,yA (fL R tags),g3) (aaK hA) ?_
  clear g3;rintro⟨f,c,now,g3⟩ fl;dsimp only at fl⊢;obtain⟨f',rfl,agi,hgo⟩:=LF hA fl;have C1:=fl.lim;have qQ:=Bp 0;clear fl;have aeS:=Ah (A:=fL R tags) now;rw[en]at aeS
  try refine GA ?_
  refine Ai (K:=vD) I λgm=>?_;refine zL ?_
  try refine GA ?_
  refine a8 (ju aJ.en I I) (λw hm=>qQ _) I I I ?_;intro _ _
  repeat(first|refine GA ?_|refine gV (bP I O3) ?_)
  refine bz I λg8=>?_;refine zL ?_;refine aZ (i:=3) (cs':=(qE dead).toArray) I I I (by rw[eE,mq]) (by kernel_rfl) (by kernel_rfl) ?_;refine zL ?_
  repeat(first|refine GA ?_|refine gV (aQ (i:=3) aL.ty I I (by rw[eE,mq])) ?_)
  refine Aj (K:=vD) (i:=2) (D:=[]) (x:=dead) bR.eq I I I I ⟨⟨by decide,by decide⟩,λb hb=>by show-32768<=(eS 256 (0:Int))[b]/\(eS 256 (0:Int))[b]<=32767;rw[Vector.getElem_replicate];decide⟩ (by simp) ahk ?_;refine zL ?_;refine P5 [0,1,2] ?_
  try refine GA ?_
  refine pA lL 0 I I J J I λg9=>?_;refine zL ?_
  repeat(first|refine GA ?_|refine gV (aB aL.ty I (aH (i:=0) I I)) ?_)
  refine og (ι:=Nat) (λi=>i<=R.length) (λi=>[(1,aK (aj ⟨g1,0,ak⟩)),(3,ap (aj ⟨g3,0,ak⟩) R.length R.length),(6,av az (c:Int)),(7,.map (aj gm)),(9,ap (aj ⟨g9,0,ak⟩) R.length R.length),(44,ap (aj ⟨b,off,ak⟩) R.length cr),(45,av az (R.length:Int)),(46,av az (i:Int))])
   (λi=>[aR g1 (iZ (ap (aj ⟨b,off,ak⟩) R.length cr) (ap (aj ⟨bb,tF,ak⟩) tags.length ct)).cells 186,fO 3 lL g3 R.length λj=>(now j:Int),fD vD gm (kI (kp (fL R tags) now i)) (kp (fL R tags) now i).length,fO 3 lL g9 R.length λj=>if j<i then(next (fL R tags) now j:Int)else 0]) (λi=>R.length-i) 0 (bO _) (by repeat' (first|exact dl|refine dh I ?_)) (by rw[pz (g:=g9) (f:=λ_=>(0:Int)) (f':=λj=>if j<0 then(next (fL R tags) now j:Int)else 0) λi _=>by simp];rfl) ?_
  intro i hi
  by_cases c2:i<R.length
  ·have d_:=iB (W:=w) (L:=[aR g1 (iZ (ap (aj ⟨b,off,ak⟩) R.length cr) (ap (aj ⟨bb,tF,ak⟩) tags.length ct)).cells 186,fO 3 lL g3 R.length λj=>(now j:Int),fD vD gm (kI (kp (fL R tags) now i)) (kp (fL R tags) now i).length,fO 3 lL g9 R.length λj=>if j<i then(next (fL R tags) now j:Int)else 0]) dW hr c2
   have ij:∀(q:Nat) (hq:q<256),(fL R tags).d i q=(R[i])[q]:=λq hq=>LA c2 hq;have hst:∀b,b<256->St (fL R tags) ((fL R tags).d i b):=λb hb=>hA.step i c2 b hb;generalize R[i]=r at*
   repeat(first|refine GA ?_|refine gV (a_ bR.eq aL.ty I I c2) ?_|refine gV (bH aL.ty I (dW r) d_) ?_)
   refine bz I λg11=>?_;refine zL ?_
   try refine GA ?_
   refine aZ (i:=4) (cs':=(fj r).toArray) I I I (by rw[eE,dW]) (by simpa using rR r) (by kernel_rfl) ?_;refine zL ?_;have wV:=C1 i c2
   repeat(first|refine GA ?_|refine gV (cT bR.eq aL.ty I I c2) ?_|refine gV (aB aL.ty I (gL (i:=1) I c2)) ?_|refine gV (bP I (O4 _)) ?_)
   refine bz I λg12=>?_;refine zL ?_;refine aZ (i:=5) (cs':=(qE ((now i:Int),eS 256 0)).toArray) I I I (by rw[eE,mq]) (by rw[<-List.all_toArray];kernel_rfl) (by kernel_rfl) ?_;refine zL ?_
   repeat(first|refine GA ?_|refine gV (aQ (i:=4) aL.ty I I (by rw[eE,dW])) ?_)
   rw[<-adl (fL R tags) now i];refine ue [0,1,2,3,5] ?_;refine eK (ι:=Nat) (λq=>q<=256) (λq=>[(1,aK (aj ⟨g1,0,ak⟩)),(3,ap (aj ⟨g3,0,ak⟩) R.length R.length),(6,av az (c:Int)),(7,.map (aj gm)),(9,ap (aj ⟨g9,0,ak⟩) R.length R.length),(44,ap (aj ⟨b,off,ak⟩) R.length cr),(45,av az (R.length:Int)),(46,av az (i:Int)),(10,av az (i:Int)),(12,aK (aj ⟨g12,0,ak⟩)),(56,BS r),(57,av az (q:Int))])
    (λq=>[aR g1 (iZ (ap (aj ⟨b,off,ak⟩) R.length cr) (ap (aj ⟨bb,tF,ak⟩) tags.length ct)).cells 186,fO 3 lL g3 R.length λj=>(now j:Int),fD vD gm (kI (kp (fL R tags) now i)) (kp (fL R tags) now i).length,fO 3 lL g9 R.length λj=>if j<i then(next (fL R tags) now j:Int)else 0,aR g12 (qE ((now i:Int),Em (fL R tags) now i q)).toArray 310]) (λq=>256-q) 0 (bO _) ?_
   intro q hq
   by_cases c3:q<256
   ·have hcell:(fj r).toArray[q]?=aj (.int .i16 r[q]):=by rw[kt];exact pW r c3
    have hdq:=ij q c3;have hsq:=hst q c3;have tv:=LD (fL R tags) now i q c3;have abX:=Tp (fL R tags) now i q c3;rw[hdq]at hsq tv abX;clear hdq ij hst;generalize r[q]=x at*;unfold St at hsq
    by_cases c4:x<0
    ·have hv:val now x=0:=by unfold val;rw[if_pos c4]
     rw[abX hv]
     repeat(first|refine GA ?_|refine gV (jG bR.eq aL.ty I I c3 hcell) ?_)
     exact cJ (q+1) J (by show 256-(q+1)<256-q;omega)
    obtain⟨m,rfl⟩:∃m:Nat,x=m:=⟨x.toNat,by omega⟩;have hm:m<R.length:=by omega
    have hlm:=C1 m hm;rw[yX]at tv
    repeat(first|refine GA ?_|refine gV (jG bR.eq aL.ty I I c3 hcell) ?_|refine gV (cT bR.eq aL.ty I I hm) ?_|refine gV (aB aL.ty I (gL (i:=1) I hm)) ?_|refine gV (jl bR.eq bR.eq I (O5 J J)) ?_|refine gV (iz bR.eq aL.ty I I c3) ?_)
    refine To (i:=4) I I I c3 ?_;rw[tv];refine zL ?_
    try refine GA ?_
    exact cJ (q+1) J (by show 256-(q+1)<256-q;omega)
   obtain rfl:q=256:=by omega
   rw[XQ];have l7:=aaM hA C1 (i:=i) c2
   by_cases c5:kind (fL R tags) now i∈kp (fL R tags) now i
   ·obtain⟨e1,e2⟩:=aaN (fL R tags) now (i:=i) c2 c5
    generalize kind (fL R tags) now i=k at*
    repeat(first|refine GA ?_|refine gV (aQ (i:=4) aL.ty I I (by rw[eE,mq])) ?_|refine gV (uE (K:=vD) (i:=2) (x:=k) bR.eq XO I I I l7 c5) ?_|refine gV (cT bR.eq aL.ty I I c2) ?_)
    refine jj (i:=3) (off:=i) (v:=(next (fL R tags) now i:Int)) (λj=>if j<i+1 then(next (fL R tags) now j:Int)else 0) aL.ty I I (by rw[e2];rfl) I I c2 (λj hj=>?_) ?_
    ·by_cases e:j=i
     subst e;rw[if_pos J,if_pos I];rw[if_neg e];have:j<i+1↔j<i:=by omega
     simp only[this]
    refine zL ?_
    try refine GA ?_
    refine dS [0,1,2,3] ?_;exact cJ (i+1) J (by show R.length-(i+1)<R.length-i;omega) (hl:=by rw[e1];rfl)
   obtain⟨e1,e2⟩:=aaO (fL R tags) now (i:=i) c2 c5;have acq:=XR (fL R tags) now i;rw[en]at acq;generalize kind (fL R tags) now i=k at*
   repeat(first|refine GC ?_|refine gV (aQ (i:=4) aL.ty I I (by rw[eE,mq])) ?_|refine gV (uF (K:=vD) (i:=2) (x:=k) bR.eq XO I I I l7 c5) ?_|refine gV (wo vD bR.eq (i:=2) I I) ?_|refine GB ?_)
   refine Aj (K:=vD) (i:=2) (x:=k) bR.eq I I I I l7 c5 J ?_;refine zL ?_
   repeat(first|refine GA ?_|refine gV (cT bR.eq aL.ty I I c2) ?_)
   refine jj (i:=3) (off:=i) (v:=(next (fL R tags) now i:Int)) (λj=>if j<i+1 then(next (fL R tags) now j:Int)else 0) aL.ty I I (by rw[e2];rfl) I I c2 (λj hj=>?_) ?_
   ·by_cases e:j=i
    subst e;rw[if_pos J,if_pos I];rw[if_neg e];have:j<i+1↔j<i:=by omega
    simp only[this]
   refine zL ?_
   try refine GA ?_
   refine dS [0,1,2,3] ?_;exact cJ (i+1) J (by show R.length-(i+1)<R.length-i;omega) (hl:=by rw[e1];rfl)
  obtain rfl:i=R.length:=by omega
  rw[show kp (fL R tags) now R.length=py (fL R tags) now from Tq (fL R tags) now];rw[pz (f':=λj=>(next (fL R tags) now j:Int)) λj hj=>if_pos hj]
  by_cases c6:(py (fL R tags) now).length=c
  ·rw[agi c6]
   repeat(first|refine GC ?_|refine gV (wo vD bR.eq (i:=2) I I) ?_|refine gV (aX (b:=aD) I I (decide_eq_true J)) ?_|refine GB ?_)
   exact da I I λw hm=>hm.meets (S:=⟨λ_=>True,λ(g:Nat)=>ap (aj ⟨g,0,ak⟩) R.length R.length,λg=>[fO 3 lL g R.length λi=>(next (fL R tags) now i:Int)]⟩) g9 trivial [3] ahk I
  repeat(first|refine GC ?_|refine gV (wo vD bR.eq (i:=2) I I) ?_|refine gV (aX (b:=aE) I I (decide_eq_false J)) ?_|refine GB ?_)
  refine dS [0,3] ?_;exact cJ (f',(py (fL R tags) now).length,next (fL R tags) now,g9) (hgo c6) (ox f')
end cZ
namespace cZ
open Go.RowKit dr eH yy dq
theorem En(vr vt:Value)(R:List Row)(tags:List Int)(w:World)(h:Fs w vr vt R tags):Calls aC 116 #[iZ vr vt] w (cY (ret (av az (my R tags))) w):=Df _ _ _ w h.aeR
end cZ
namespace cZ
open Go.RowKit dr eH yy dq
def y_(R:List Row)(tags:List Int):List Row:=if my R tags=0 then(qh (fL R tags) (eu (fL R tags))).2 else []
def y'(R:List Row)(tags:List Int):List Int:=if my R tags=0 then(qh (fL R tags) (eu (fL R tags))).1.map (fL R tags).tag else []
theorem Q9{R:List Row}{tags:List Int}(h:my R tags=0):(y_ R tags).length=(y' R tags).length/\(y_ R tags).length=(OA (fL R tags)).n:=by
 obtain⟨hA,_⟩:=vC h;have:=(OB (bl:=eu (fL R tags)) hA).2.len;unfold y_ y';rw[if_pos h,if_pos h,dX];exact⟨this,this⟩
theorem aaP{R:List Row}{tags:List Int}(h:my R tags=0):fL (y_ R tags) (y' R tags)=OA (fL R tags):=by
 have hl:=(Q9 h).2;have e1:y_ R tags=(qh (fL R tags) (eu (fL R tags))).2:=if_pos h;have e2:y' R tags=(qh (fL R tags) (eu (fL R tags))).1.map (fL R tags).tag:=if_pos h;show uC.mk (y_ R tags).length _ _=_
 rw[hl];rw[e1,e2];rfl
theorem Q_{R:List Row}{tags:List Int}(h:my R tags=0):my (y_ R tags) (y' R tags)=0:=by
 refine I1 ?_ (Q9 h).1.symm;rw[aaP h];exact aah (vC h).1
def vH(bl:Nat->Nat)(Q:List Nat)(b:Nat):Int:=if b∈Q.map bl then(idx (Q.map bl) b:Int)+1 else 0
theorem XS{bl:Nat->Nat}{Q:List Nat}{q:Nat}(hn:bl q∉Q.map bl)(b:Nat):vH bl (Q++[q]) b=if b=bl q then(Q.length:Int)+1 else vH bl Q b:=by
 unfold vH;rw[ft,Ed]
 by_cases c:b=bl q
 ·subst c
  rw[if_pos (by simp),if_pos I];have:=rA (D:=Q.map bl) (k:=bl q);unfold more at this;rw[if_neg hn,if_neg hn]at this;rw[this,dX]
 rw[if_neg c]
 by_cases c2:b∈Q.map bl
 rw[if_pos c2,if_pos (tV _ c2),qy c2];rw[if_neg c2,if_neg];rw[fC,ep];rintro(h|h);exact c2 h;exact c h
def AK(l:List Int):Row:=AJ λb:Fin 256=>if b<l.length then l.getD b 0 else-1
theorem XT:AK []=eS 256 (-1):=by
 refine kE λj hj=>?_;unfold AK;simp
theorem XU{l:List Int}(h:l.length=256):AK l=vec l:=by
 refine kE λj hj=>?_;unfold AK vec;simp[h,hj]
theorem Eo(l:List Int)(x:Int)(h:l.length<256):(AK l).set l.length x=AK (l++[x]):=by
 refine kE λj hj=>?_;unfold AK;rw[vB,lK,lK];simp only[bT,ky];split
 ·rename_i e;subst e
  rw[if_pos J,ma (bJ _),px];rfl
 by_cases c:j<l.length
 rw[if_pos c,if_pos J,jI c];rw[if_neg c,if_neg J]
theorem Tr(l:List Int)(h:l.length<256):AK (l++[-1])=AK l:=by
 rw[<-Eo l (-1) h];refine kE λj hj=>?_;rw[vB];split
 ·rename_i e;subst e;unfold AK;simp
 rfl
structure XV(R:List Row)(tags:List Int)(f n:Nat)(Q:List Nat)(out:List Row):Prop where
 eq:qh (fL R tags) (eu (fL R tags))=wX (fL R tags) (eu (fL R tags)) f n Q out
 ok:S7 (fL R tags) (eu (fL R tags)) Q
 outs:S8 (fL R tags) (eu (fL R tags)) n Q out
 fuel:(fL R tags).n+1<=f+n
theorem aeT{R:List Row}{tags:List Int}(hA:(fL R tags).Ok):XV R tags (R.length+1) 0 [0] []:=⟨rfl,aeF hA,⟨rfl,bO _,λk hk=>by omega⟩,bJ _⟩
theorem Ts{R:List Row}{tags:List Int}(hA:(fL R tags).Ok){f n:Nat}{Q:List Nat}{out:List Row}(h:XV R tags f n Q out)(hn:n<Q.length):∃f',f=f'+1/\XV R tags f' (n+1) (lq (fL R tags) (eu (fL R tags)) (Q.getD n 0) Q 256).1 (out++[vec (lq (fL R tags) (eu (fL R tags)) (Q.getD n 0) Q 256).2]):=by
 have h1:=h.ok.len;have h2:=h.fuel;obtain⟨f',rfl⟩:∃f',f=f'+1:=⟨f-1,by omega⟩;have e:=h.eq;unfold wX at e;rw[if_pos hn]at e;exact⟨f',rfl,e,Cm hA h.ok (h.ok.lt _ (yW hn)) 256 (bJ _),GQ hA h.outs hn,by omega⟩
theorem XW{R:List Row}{tags:List Int}{f n:Nat}{Q:List Nat}{out:List Row}(h:XV R tags f n Q out)(hn:¬n<Q.length):qh (fL R tags) (eu (fL R tags))=(Q,out)/\n=Q.length:=by
 have h1:=h.outs.le;refine⟨?_,by omega⟩;rw[h.eq]
 cases f with
 |zero=>rfl
 |succ f=>unfold wX;rw[if_neg hn]
def aaQ(R:List Row)(tags:List Int):Spec (Value×Value):=⟨λ_=>True,λx=> .tuple #[iZ x.1 x.2,av az (my R tags)],λx=>[bD 257 256 x.1 (y_ R tags).length ((y_ R tags).flatMap fj),bD 3 1 x.2 (y' R tags).length ((y' R tags).flatMap dr.eV)]⟩
theorem O6(w:World):(dR 186 #[]).run aC w= .ok (iZ (ap ak 0 0) (ap ak 0 0)) w:=by kernel_rfl
set_option maxRecDepth 100000 in
theorem Ft(vr vt:Value)(R:List Row)(tags:List Int)(w:World)(h:Fs w vr vt R tags):
 Calls aC 78 #[iZ vr vt] w (cY (aaQ R tags) w):=by
 have jr:=λw' (hg:Gr w w')=>En vr vt R tags w' (h.gr hg);have Sw:=λw' (hg:Gr w w') hc=>I3 vr vt R tags w' (h.gr hg) hc;obtain⟨bt,ct,rfl,ht1,V5,JP⟩:=h.hT;obtain⟨br,cr,rfl,Za,we,Dg⟩:=h.hR;have aaR:=h.rng;unfold maxLen at we V5;clear h
 by_cases hc:my R tags=0
 ·obtain⟨hA,hlt⟩:=vC hc
  have hbo:=Sj hA;have en:(fL R tags).n=R.length:=rfl;have AA:0<R.length:=hA.pos;have hle:R.length<=200:=hA.le;obtain⟨b,off,rfl,hr⟩:=Dg AA;obtain⟨bb,tF,rfl,hrt⟩:=JP J;clear Dg JP;unfold aaQ;have er:y_ R tags=(qh (fL R tags) (eu (fL R tags))).2:=if_pos hc;have et:y' R tags=(qh (fL R tags) (eu (fL R tags))).1.map (fL R tags).tag:=if_pos hc;rw[er,et];clear er et;have aeU:=hbo.le 0 AA;rw[en]at aeU;rw[hc]at jr⊢;refine enter (args:=[iZ (ap (aj ⟨b,off,ak⟩) R.length cr) (ap (aj ⟨bb,tF,ak⟩) tags.length ct)]) (n:=113) Tryz.func78 I I I ?_;refine bC (aM (b_ I I I λg1=>?_));refine bz I λg2=>?_;refine zL ?_
  repeat(first|refine GA ?_|refine gV (aB aL.ty I (aH (i:=0) I I)) ?_|refine gV (aQ (i:=0) aL.ty I I I) ?_)
  refine a8 (ju aJ.en I I) (λw hm=>jr _ hm.below) I I I ?_;intro _ _
  repeat(first|refine GA ?_|refine gV (aQ (i:=0) aL.ty I I I) ?_)
  refine a8 (ju aJ.en I I) (λw hm=>Sw _ hm.below hc) I I I ?_;intro g5 _;refine zL ?_
  repeat(first|refine GA ?_|refine gV (aB aL.ty I (aH (i:=0) I I)) ?_)
  refine pA (m:=R.length+1) lL 0 (by rfl) (by rfl) J J I λg6=>?_;refine zL ?_
  try refine GA ?_
  refine bz I λg7=>?_;refine zL ?_
  try refine GA ?_
  refine fX I I I I I λg8=>?_;refine zL ?_;refine yr (i:=5) (m:=1) 1 I I ahk ?_;refine zL ?_
  repeat(first|refine GA ?_|refine gV (cT (j:=0) bR.eq aL.ty I I AA) ?_|refine gV (aB aL.ty I (gL (i:=2) I AA)) ?_|refine gV (cT (j:=eu (fL R tags) 0) bR.eq aL.ty I I J) ?_)
  refine jj (i:=3) (off:=eu (fL R tags) 0) (v:=1) (vH (eu (fL R tags)) [0]) aL.ty I I I I I J (λj hj=>?_) ?_
  ·by_cases e:j=eu (fL R tags) 0
   subst e;simp[vH,idx];rw[if_neg e];unfold vH;rw[if_neg (by simpa using e)]
  refine zL ?_
  try refine GA ?_
  refine jy 257 256 ?_;refine jy 3 1 ?_
  conv=>arg 7;simp only[zA,zB,zC,zD,zE,zF,zG,zH,zI,dg,ret,id_eq]
  have IG:=aeT (tags:=tags) hA;have jM:=λf n Q out=>@XW R tags f n Q out;have nh:=λf n Q out=>@Ts R tags hA f n Q out;have agj:=hbo.le;clear aeU hbo Sw jr;generalize agk:eu (fL R tags)=m_ at*;refine eK (ι:=Nat×Nat×List Nat×List Row×Value×Value×Value) (λ(f,n,Q,out,_)=>XV R tags f n Q out) (λ(_,n,_,_,vQ,_,_)=>[(1,aK (aj ⟨g1,0,ak⟩)),(2,aK (aj ⟨g2,0,ak⟩)),(5,ap (aj ⟨g5,0,ak⟩) R.length R.length),(6,ap (aj ⟨g6,0,ak⟩) (R.length+1) (R.length+1)),(7,aK (aj ⟨g7,0,ak⟩)),(8,vQ),(9,av az (n:Int))])
   (λ(_,n,Q,out,vQ,vR,vT)=>[aR g1 (iZ (ap (aj ⟨b,off,ak⟩) R.length cr) (ap (aj ⟨bb,tF,ak⟩) tags.length ct)).cells 186,aR g2 (iZ (ap ak 0 0) (ap ak 0 0)).cells 186,fO 3 lL g5 R.length λi=>(m_ i:Int),fO 3 lL g6 (R.length+1) (vH m_ Q),aR g7 (iZ vR vT).cells 186,bD 3 1 vQ Q.length (Q.map λq:Nat=>lL q),bD 257 256 vR out.length (out.flatMap fj),bD 3 1 vT n (((Q.take n).map (fL R tags).tag).flatMap dr.eV)]) (λ(f,_)=>f) (R.length+1,0,[0],[],ap (aj ⟨g8,0,ak⟩) 1 1,ap ak 0 0,ap ak 0 0) IG ?_
  rintro⟨f,n,Q,out,vQ,vR,vT⟩ hw;dsimp only at hw⊢;have hQ:=hw.ok;have hQl:=hQ.len;have ag8:=hw.outs.len;rw[agk]at hQ;rw[en]at hQl
  by_cases c1:n<Q.length
  ·obtain⟨f',rfl,A4⟩:=nh _ _ _ _ hw c1
   have hq:=hQ.lt _ (yW c1);have hqc:(Q.map λq:Nat=>lL q)[0+n]?=aj (lL (Q.getD n 0)):=by rw[du,fx,cK,bQ c1];rfl
   rw[en]at hq;have qQ:=Bp (-1);have hrw:=λk hk=>Cm (bl:=m_) hA hQ (q:=Q.getD n 0) (by rw[en];exact hq) k hk;have adm:=ID (A:=fL R tags) (bl:=m_) (Q.getD n 0) Q;have E8:=IC (A:=fL R tags) (bl:=m_) (Q.getD n 0) Q;have hst:∀k,k<256->St (fL R tags) ((fL R tags).d (Q.getD n 0) k):=λk hk=>hA.step _ hq k hk;have hd:∀(k:Nat) (hk:k<256),(fL R tags).d (Q.getD n 0) k=(R[Q.getD n 0]'hq)[k]:=λk hk=>LA hq hk;have I4:Q.getD n 0<tags.length:=by omega
   have htg:(fL R tags).tag (Q.getD n 0)=tags[Q.getD n 0]'I4:=y8 I4;have O7:=λ(L:List cU)=>iB (W:=w) (L:=L) dW hr hq;have LG:=λ(L:List cU)=>iB (W:=w) (L:=L) (c:=1) (f:=dr.eV) (λ_=>rfl) hrt I4 0 _ I;have hQn:Q.getD n 0=Q[n]:=by rw[cK,bQ c1];rfl
   clear jM nh hw;generalize hqq:Q.getD n 0=q at*;generalize hrr:R[q]=r at*
   repeat(first|refine GC ?_|refine gV (fy (i:=5) bR.eq I I) ?_|refine GB ?_)
   refine a8 (ju aJ.en I I) (λw hm=>qQ _) I I I ?_;intro _ _
   try refine GA ?_
   refine bz I λg10=>?_;refine zL ?_;refine aZ (i:=8) (cs':=(fj (eS 256 (-1))).toArray) I I I (by rw[eE,dW]) (by simpa using rR (eS 256 (-1))) (by kernel_rfl) ?_;refine zL ?_
   try refine GA ?_
   refine xC (i:=5) I J λgQ cQ hv hcQ ag9=>?_;subst hv
   (repeat refine bC ?_)
   refine eo ([aR g1 (iZ (ap (aj ⟨b,off,ak⟩) R.length cr) (ap (aj ⟨bb,tF,ak⟩) tags.length ct)).cells 186,bD 3 1 (ap (aj ⟨gQ,0,ak⟩) Q.length cQ) Q.length (Q.map λq:Nat=>lL q)]) (.calm 0 (.calm 1 (.calm 2 (.calm 3 (.calm 4 (.calm 5 (.calm 6 (.calm 7 (.calm 8 (.done)))))))))) (cH [0,5]) ?_
   repeat(first|refine GW ?_|(refine GN ?_;first|refine QW (aB aL.ty I (aH (i:=0) I I)) ?_|refine QW (cT (j:=n) bR.eq aL.ty I I c1) ?_|refine QW (aB aL.ty I (kx (i:=1) I hqc)) ?_|refine QW (a_ (j:=q) bR.eq aL.ty I I hq) ?_|refine QW (bH aL.ty I (dW r) (O7 _)) ?_))
   try refine GA ?_
   rw[<-XT];refine ue [0,1,2,3,4,6,7,8,5] ?_;refine eK (ι:=Nat×Value) (λ(k,_)=>k<=256) (λ(k,vK)=>[(1,aK (aj ⟨g1,0,ak⟩)),(2,aK (aj ⟨g2,0,ak⟩)),(5,ap (aj ⟨g5,0,ak⟩) R.length R.length),(6,ap (aj ⟨g6,0,ak⟩) (R.length+1) (R.length+1)),(7,aK (aj ⟨g7,0,ak⟩)),(8,vK),(9,av az (n:Int)),(10,aK (aj ⟨g10,0,ak⟩)),(46,BS r),(47,av az (k:Int))])
    (λ(k,vK)=>[aR g1 (iZ (ap (aj ⟨b,off,ak⟩) R.length cr) (ap (aj ⟨bb,tF,ak⟩) tags.length ct)).cells 186,aR g2 (iZ (ap ak 0 0) (ap ak 0 0)).cells 186,fO 3 lL g5 R.length λi=>(m_ i:Int),fO 3 lL g6 (R.length+1) (vH m_ (lq (fL R tags) m_ q Q k).1),aR g7 (iZ vR vT).cells 186,bD 257 256 vR out.length (out.flatMap fj),bD 3 1 vT n (((Q.take n).map (fL R tags).tag).flatMap dr.eV),aR g10 (fj (AK (lq (fL R tags) m_ q Q k).2)).toArray 257,bD 3 1 vK (lq (fL R tags) m_ q Q k).1.length ((lq (fL R tags) m_ q Q k).1.map λq:Nat=>lL q)]) (λ(k,_)=>256-k) (0,ap (aj ⟨gQ,0,ak⟩) Q.length cQ) (bO _) ?_
   rintro⟨k,vK⟩ hk;dsimp only at hk⊢
   by_cases c2:k<256
   ·have hcell:(fj r).toArray[k]?=aj (.int .i16 r[k]):=by rw[kt];exact pW r c2
    have hx:=hd k c2;have hsx:=hst k c2;have l7:=hrw k hk;have hlen:=E8 k;have Fu:=(K9 l7 hsx).len;have nh:lq (fL R tags) m_ q Q (k+1)=((pP m_ (lq (fL R tags) m_ q Q k).1 ((fL R tags).d q k)).1,(lq (fL R tags) m_ q Q k).2++[(pP m_ (lq (fL R tags) m_ q Q k).1 ((fL R tags).d q k)).2]):=rfl;rw[hx]at nh hsx Fu;clear hx hst hrw adm E8 hd O7 LG;generalize r[k]=x at*;generalize lq (fL R tags) m_ q Q k=RQ at*;obtain⟨Qk,vk⟩:=RQ;dsimp only at l7 hlen Fu nh⊢;subst hlen;unfold St at hsx;rw[en]at hsx
    by_cases c3:val m_ x=0
    ·have e:pP m_ Qk x=(Qk,-1):=by unfold pP;rw[if_pos c3]
     rw[e]at nh;have XX:∀(S:List cU),S=[aR g1 (iZ (ap (aj ⟨b,off,ak⟩) R.length cr) (ap (aj ⟨bb,tF,ak⟩) tags.length ct)).cells 186,aR g2 (iZ (ap ak 0 0) (ap ak 0 0)).cells 186,fO 3 lL g5 R.length λi=>(m_ i:Int),fO 3 lL g6 (R.length+1) (vH m_ Qk),aR g7 (iZ vR vT).cells 186,bD 257 256 vR out.length (out.flatMap fj),bD 3 1 vT n (((Q.take n).map (fL R tags).tag).flatMap dr.eV),aR g10 (fj (AK vk)).toArray 257,bD 3 1 vK Qk.length (Qk.map λq:Nat=>lL q)]->S=[aR g1 (iZ (ap (aj ⟨b,off,ak⟩) R.length cr) (ap (aj ⟨bb,tF,ak⟩) tags.length ct)).cells 186,aR g2 (iZ (ap ak 0 0) (ap ak 0 0)).cells 186,fO 3 lL g5 R.length λi=>(m_ i:Int),fO 3 lL g6 (R.length+1) (vH m_ (lq (fL R tags) m_ q Q (vk.length+1)).1),aR g7 (iZ vR vT).cells 186,bD 257 256 vR out.length (out.flatMap fj),bD 3 1 vT n (((Q.take n).map (fL R tags).tag).flatMap dr.eV),aR g10 (fj (AK (lq (fL R tags) m_ q Q (vk.length+1)).2)).toArray 257,bD 3 1 vK (lq (fL R tags) m_ q Q (vk.length+1)).1.length ((lq (fL R tags) m_ q Q (vk.length+1)).1.map λq:Nat=>lL q)]:=λS h=>by
      rw[nh];dsimp only;rw[Tr vk c2];exact h
     by_cases c4:x<0
     ·repeat(first|refine GA ?_|refine gV (jG bR.eq aL.ty I I c2 hcell) ?_)
      exact jS (vk.length+1,vK) (by show vk.length+1<=256;omega) (by show 256-(vk.length+1)<256-vk.length;omega) (by repeat' (first|exact dl|refine dh I ?_)) (XX _ I)
     obtain⟨m,rfl⟩:∃m:Nat,x=m:=⟨x.toNat,by omega⟩;have hm:m<R.length:=by omega
     rw[yX]at c3
     repeat(first|refine GC ?_|refine gV (jG bR.eq aL.ty I I c2 hcell) ?_|refine gV (cT (j:=m) bR.eq aL.ty I I hm) ?_|refine gV (aB aL.ty I (gL (i:=2) I hm)) ?_|refine gV (aX (b:=aD) I I (decide_eq_true J)) ?_|refine GB ?_)
     exact jS (vk.length+1,vK) (by show vk.length+1<=256;omega) (by show 256-(vk.length+1)<256-vk.length;omega) (by repeat' (first|exact dl|refine dh I ?_)) (XX _ I)
    have c4:¬x<0:=λe=>c3 (by unfold val;rw[if_pos e]);obtain⟨m,rfl⟩:∃m:Nat,x=m:=⟨x.toNat,by omega⟩;have hm:m<R.length:=by omega
    rw[yX]at c3;have hbm:=agj m hm;rw[en]at hbm;have e:pP m_ Qk (m:Int)=(DW m_ Qk (m:Int),(idx ((DW m_ Qk (m:Int)).map m_) (m_ m):Int)):=by unfold pP;rw[yX,if_neg c3,dP]
    rw[e]at nh Fu;dsimp only at Fu nh;rw[en]at Fu;unfold DW at nh Fu;rw[dP]at nh Fu
    by_cases c5:m_ m∈Qk.map m_
    ·rw[if_pos c5]at nh Fu
     have hid:=nu c5;rw[dX]at hid;have XY:vH m_ Qk (m_ m)=(idx (Qk.map m_) (m_ m):Int)+1:=by unfold vH;rw[if_pos c5]
     generalize idx (Qk.map m_) (m_ m)=z at*
     repeat(first|refine GC ?_|refine gV (jG bR.eq aL.ty I I c2 hcell) ?_|refine gV (cT (j:=m) bR.eq aL.ty I I hm) ?_|refine gV (aB aL.ty I (gL (i:=2) I hm)) ?_|refine gV (aX (b:=aE) I I (decide_eq_false J)) ?_|refine gV (cT (j:=m_ m) bR.eq aL.ty I I J) ?_|refine gV (aB aL.ty I (gL (i:=3) I (show m_ m<R.length+1 by omega))) ?_|refine gV (df (r:=(z:Int)) I I J J J) ?_|refine gV (jl bR.eq bR.eq I (O5 J J)) ?_|refine gV (iz bR.eq aL.ty I I c2) ?_|refine GB ?_)
     refine rS (i:=7) I I I c2 ?_;rw[Eo vk z c2];refine zL ?_
     try refine GA ?_
     exact cJ (vk.length+1,vK) (by show vk.length+1<=256;omega) (by show 256-(vk.length+1)<256-vk.length;omega) (hl:=by dsimp only;rw[nh])
    rw[if_neg c5]at nh Fu;have XY:vH m_ Qk (m_ m)=0:=by unfold vH;rw[if_neg c5]
    have Ff:=XS (q:=m) c5;have aeV:vH m_ (Qk++[m]) (m_ m)=(Qk.length:Int)+1:=by rw[Ff,if_pos I]
    have acZ:idx ((Qk++[m]).map m_) (m_ m)=Qk.length:=by
     have h1:=aeV;unfold vH at h1;rw[if_pos (by simp)]at h1;omega
    rw[acZ]at nh;rw[bT,ky]at Fu
    repeat(first|refine GC ?_|refine gV (jG bR.eq aL.ty I I c2 hcell) ?_|refine gV (cT (j:=m) bR.eq aL.ty I I hm) ?_|refine gV (aB aL.ty I (gL (i:=2) I hm)) ?_|refine gV (aX (b:=aE) I I (decide_eq_false (show ¬(m_ m:Int)=0 by omega))) ?_|refine gV (cT (j:=m_ m) bR.eq aL.ty I I J) ?_|refine gV (aB aL.ty I (gL (i:=3) I (show m_ m<R.length+1 by omega))) ?_|refine gV (aX (b:=aD) I I (decide_eq_true XY)) ?_|refine gV (jl bR.eq bR.eq I (nI J J)) ?_|refine GB ?_)
    refine kh (i:=8) I I I I I I (λz h=>by cases h;rfl) J J I λz v2=>?_;refine zL ?_
    repeat(first|refine GC ?_|refine gV (cT (j:=m) bR.eq aL.ty I I hm) ?_|refine gV (aB aL.ty I (gL (i:=2) I hm)) ?_|refine gV (cT (j:=m_ m) bR.eq aL.ty I I J) ?_|refine gV (fy (i:=8) bR.eq I I) ?_|refine GB ?_)
    refine jj (i:=3) (off:=m_ m) (v:=((Qk.length+1:Nat):Int)) (vH m_ (Qk++[m])) aL.ty I I I I I J (λj hj=>by rw[Ff];rfl) ?_;refine zL ?_
    repeat(first|refine GC ?_|refine gV (cT (j:=m) bR.eq aL.ty I I hm) ?_|refine gV (aB aL.ty I (gL (i:=2) I hm)) ?_|refine gV (cT (j:=m_ m) bR.eq aL.ty I I J) ?_|refine gV (aB aL.ty I (gL (i:=3) I (show m_ m<R.length+1 by omega))) ?_|refine gV (df (r:=(Qk.length:Int)) I I J J J) ?_|refine gV (jl bR.eq bR.eq I (O5 J J)) ?_|refine gV (iz bR.eq aL.ty I I c2) ?_|refine GB ?_)
    refine rS (i:=7) I I I c2 ?_;rw[Eo vk (Qk.length:Int) c2];refine zL ?_
    try refine GA ?_
    exact cJ (vk.length+1,v2) (by show vk.length+1<=256;omega) (by show 256-(vk.length+1)<256-vk.length;omega) (hl:=by dsimp only;rw[nh];simp)
   obtain rfl:k=256:=by omega
   have l7:=(hrw 256 (bJ _)).len;obtain⟨E,hE⟩:=adm 256;have hv:=E8 256;clear hrw adm E8 hst hd O7;generalize lq (fL R tags) m_ q Q 256=RQ at*;obtain⟨Qe,ve⟩:=RQ;dsimp only at l7 hE hv A4⊢;subst hE;rw[XU hv];rw[en]at l7;have hqe:((Q++E).map λq:Nat=>lL q)[0+n]?=aj (lL q):=by
    rw[du,fx,List.getElem?_append_left c1,bQ c1,<-hQn];rfl
   have rl:(((Q++E).take (n+1)).map (fL R tags).tag).flatMap dr.eV=((Q.take n).map (fL R tags).tag).flatMap dr.eV++[lL tags[q]]:=by
    rw[List.take_append_of_le_length J,ia c1,<-hQn,ft,fV,Ed,List.flatMap_singleton,htg];rfl
   rw[bT]at l7;have aeW:n<(Q++E).length:=by rw[bT];omega
   repeat(first|refine GA ?_|refine gV (aB aL.ty I (aH (i:=4) I I)) ?_|refine gV (aQ (i:=7) aL.ty I I (by rw[eE,dW])) ?_)
   refine jH (i:=5) I I (by rw[eE,dW]) I (by simpa using rR (vec ve)) I I (λz h=>by cases h;rfl) J J I λz v2=>?_;refine zL ?_
   try refine GA ?_
   refine aY (i:=5) I λoQ mL=>?_;refine cD (i:=4) I I I oQ mL I ?_;refine zL ?_
   try refine GA ?_
   refine xC (i:=8) I J λgQ' cQ' Sa ag_ agL=>?_;subst Sa
   (repeat refine bC ?_)
   refine eo ([aR g1 (iZ (ap (aj ⟨b,off,ak⟩) R.length cr) (ap (aj ⟨bb,tF,ak⟩) tags.length ct)).cells 186,bD 3 1 (ap (aj ⟨gQ',0,ak⟩) (Q++E).length cQ') (Q++E).length ((Q++E).map λq:Nat=>lL q)]) (.calm 0 (.calm 2 (.calm 3 (.calm 4 (.calm 5 (.calm 6 (.calm 7 (.calm 8 (.calm 9 (.two 1 (.one 10 (.one 11 (.calm 12 (.one 13 (.done))))) 10 (.one 1 (.one 11 (.calm 12 (.one 13 (.done))))))))))))))) (cH [0,8]) ?_
   repeat(first|refine GW ?_|(refine GN ?_;first|refine QW (aB aL.ty I (aH (i:=0) I I)) ?_|refine QW (cT (j:=n) bR.eq aL.ty I I aeW) ?_|refine QW (aB aL.ty I (kx (i:=1) I hqe)) ?_|refine QW (a_ (j:=q) bR.eq aL.ty I I I4) ?_|refine QW (aB aL.ty I (LG _)) ?_))
   refine e9 I I ?_ ?_
   ·refine aI (aB aL.ty I (aH (i:=4) I I)) I I I (aP (cH [0,8]) ?_)
    refine aO I (fX I I I I I λagl=>aP (cH [0,8]) ?_);refine aO I (lO (i:=6) (q:=9) I I I I I I J J I λv3=>aP (cH [0,8]) ?_)
    try refine GW ?_
    refine aO I (aY (i:=6) I λxt B9=>cD (i:=4) I I I xt B9 I (aP (cH [0,8]) ?_))
    try refine GW ?_
    try refine GA ?_
    refine dS [0,1,2,3,4,8,5,6] ?_;exact cJ (f',n+1,Q++E,out++[vec ve],ap (aj ⟨gQ',0,ak⟩) (Q++E).length cQ',v2,v3) A4 (ox f') (hl:=by dsimp only;rw[rl];simp;rfl)
   refine fX I I I I I λagl=>aP (cH [0,8]) ?_;refine aO I (aI (aB aL.ty I (aH (i:=4) I I)) I I I (aP (cH [0,8]) ?_));refine aO I (lO (i:=6) (q:=9) I I I I I I J J I λv3=>aP (cH [0,8]) ?_)
   try refine GW ?_
   refine aO I (aY (i:=6) I λxt B9=>cD (i:=4) I I I xt B9 I (aP (cH [0,8]) ?_))
   try refine GW ?_
   try refine GA ?_
   refine dS [0,1,2,3,4,8,5,6] ?_;exact cJ (f',n+1,Q++E,out++[vec ve],ap (aj ⟨gQ',0,ak⟩) (Q++E).length cQ',v2,v3) A4 (ox f') (hl:=by dsimp only;rw[rl];simp;rfl)
  obtain⟨e,rfl⟩:=jM _ _ _ _ hw c1;rw[e]
  repeat(first|refine GC ?_|refine gV (fy (i:=5) bR.eq I I) ?_|refine gV (aQ (i:=4) aL.ty I I I) ?_|refine GB ?_)
  refine aY (i:=6) I λoQ mL=>?_;refine aY (i:=7) I λxt B9=>?_;refine aZ (i:=1) (cs':=(iZ vR vT).cells) I I I I (by show([vR,vT].all fG)=aD;simp[mL,B9]) I ?_;refine zL ?_
  try refine GA ?_
  refine e8 (i:=1) I I I I I λw hm=>?_;exact hm.meets (S:=⟨λ(_:Value×Value)=>True,λx=> .tuple #[iZ x.1 x.2,av az 0],λx=>[bD 257 256 x.1 out.length (out.flatMap fj),bD 3 1 x.2 (Q.map (fL R tags).tag).length ((Q.map (fL R tags).tag).flatMap dr.eV)]⟩) (vR,vT) trivial [6,7] ahk (by simp)
 ·have er:y_ R tags=[]:=if_neg hc
  have et:y' R tags=[]:=if_neg hc;unfold aaQ;rw[er,et];generalize my R tags=e at*;refine enter (args:=[iZ (ap br R.length cr) (ap bt tags.length ct)]) (n:=113) Tryz.func78 I I I ?_;refine bC (aM (b_ I I I λg1=>?_));refine bz I λg2=>?_;refine zL ?_
  repeat(first|refine GA ?_|refine gV (aQ (i:=0) aL.ty I I I) ?_)
  refine a8 (ju aJ.en I I) (λw hm=>jr _ hm.below) I I I ?_;intro _ _
  repeat(first|refine GC ?_|refine gV (bP I O6) ?_|refine gV (bm (b:=aD) I I (decide_eq_true hc)) ?_|refine GB ?_)
  refine il 1 ?_;refine zL ?_
  try refine GA ?_
  refine ef 257 256 (ef 3 1 ?_);refine e8 (i:=1) I I I I I λw hm=>?_;exact hm.meets (S:=⟨λ(_:Value×Value)=>True,λx=> .tuple #[iZ x.1 x.2,av az e],λx=>[bD 257 256 x.1 0 [],bD 3 1 x.2 0 []]⟩) (ap ak 0 0,ap ak 0 0) trivial [2,3] ahk I
end cZ
namespace cZ
open Go.RowKit dr eH yy dq
theorem Q'{R:List Row}{tags:List Int}(h:my R tags=0):(∀r∈R,∀x∈r.toList,-32768<=x/\x<=32767)/\∀x∈tags,dr.eD x:=by
 obtain⟨hA,hl⟩:=vC h;have hle:R.length<=200:=hA.le;refine⟨λr hr x hx=>?_,λx hx=>?_⟩
 ·obtain⟨i,hi,rfl⟩:=jt.1 hr
  obtain⟨b,hb,rfl⟩:=jt.1 hx;have MH:b<256:=by simpa using hb
  have:=hA.step i hi b MH;rw[LA hi MH]at this;have e:(fL R tags).n=R.length:=rfl;rw[oy];omega
 obtain⟨i,hi,rfl⟩:=jt.1 hx;have:=hA.tags i (by show i<R.length;omega);rw[y8 hi]at this;exact⟨by omega,by omega⟩
theorem Mem.aeX{B:b9}{w:World}{L:List cU}{i j:Nat}{vr vt:Value}{R:List Row}{tags:List Int}(hm:Mem B L w)(hi:L[i]?=aj (bD 257 256 vr R.length (R.flatMap fj)))(hj:L[j]?=aj (bD 3 1 vt tags.length (tags.flatMap dr.eV)))(hc:my R tags=0):Fs w vr vt R tags:=
 ⟨l8 hi _ hm,l8 hj _ hm,(Q' hc).1,(Q' hc).2⟩
end cZ
namespace cZ
open Go.RowKit dr eH yy dq
section
end
theorem XZ{k:Nat}(h:k<256):IntKind.u8.wrap (k:Int)=(k:Int):=by
 rw[IntKind.wrap_u8];omega
end cZ
namespace cZ
open Go.RowKit dr eH aV gB
def aeY(n:Nat)(l:List aV.Prod):Prop:=∀p∈l,0<=p.1/\p.1<(n:Int)/\∀x∈p.2,dr.eD x.2
end cZ
namespace cZ
open Go.RowKit dr eH aV gB
theorem X0{g:eL}{n:Nat}(h:cL g=0)(hn:g.bM=n):aeY n g.aF/\Wk n g.aF:=by
 obtain⟨a1,a2,a3,a4,a5,a6⟩:=de h;refine⟨λp hp=>?_,λp hp x hx h2=>?_⟩
 ·obtain⟨b1,b2,b3,b4⟩:=a6 p hp
  refine⟨b2,by omega,λx hx=>?_⟩;have:=b4 x hx;unfold right at this;split at this;simp at this;exact⟨by omega,by omega⟩;split at this;simp at this;exact⟨by omega,by omega⟩;simp at this
 have:=(a6 p hp).2.2.2 x hx;unfold right at this;rw[if_neg J,if_pos h2]at this;simp at this;omega
end cZ
namespace cZ
open Go.RowKit dr eH aV ey gB eg xN BK
attribute [local irreducible] Op.shift Go.bits in
theorem Tt(t:Nat)(n:Int)(vp:Value)(col:Nat)(w:World)(ht:t<=30)(hc:col<=t)(hv:∃b m c,vp=ap b m c):
 Calls aC 85 #[ee (t:Int) n vp,av az (col:Int)] w (cY (ret (ik (N2 t col))) w):=by
 obtain⟨b,m,c,rfl⟩:=hv;have ZY:=λw=>ZW (P:=aC) col J w;unfold N2;refine enter (args:=[ee (t:Int) n (ap b m c),av az (col:Int)]) (n:=11) Tryz.func85 I I I ?_;refine bC (aM (b_ I I I λg2=>?_))
 by_cases e:col=t
 ·rw[if_pos e]
  repeat(first|refine GA ?_|refine gV (aB aL.ty I (aH (i:=0) I I)) ?_)
  exact fa
 ·rw[if_neg e]
  repeat(first|refine GA ?_|refine gV (aB aL.ty I (aH (i:=0) I I)) ?_|refine gV (CP I I ZY) ?_)
  exact fa
def clC(x:Cl):List Value:=[av az x.1,av az x.2.1,av az x.2.2.1,av az x.2.2.2]
theorem X1(a b c d:Int)(w:World):(dR 200 #[(0,av az a),(1,av az b),(2,av az c),(3,av az d)]).run aC w= .ok (aU (clC (a,b,c,d)).toArray) w:=by
 unfold clC;go_simp
abbrev vJ(v:Value):Value:=v
def adn(n:Int):Value:=av az n
def BT(T n c j:Nat):Nat:=if j<n then T+1 else if j=n then c else 0
def ni(l:List aV.Prod)(may:Nat->Nat)(T:Nat)(vs:Nat->Value)(n c:Nat)(j:Nat):cU:=bD 3 1 (vs j) (BT T n c j) ((lG (BT T n c j) (BK.rowAt l may T j)).map adn)
def X2(N T:Nat)(l:List aV.Prod)(may:Nat->Nat):Spec (Nat×(Nat->Value)×Value):=
 ⟨λ_=>True,λx=> .tuple #[ap (aj ⟨x.1,0,ak⟩) N N,x.2.2,av az 0],λx=>[fO 26 vJ x.1 N x.2.1,jB (λj=>j<N) (ni l may T x.2.1 N 0),bD 200 4 x.2.2 (mP l may T N).length ((mP l may T N).flatMap clC)]⟩
def AL(n:Nat)(l:List aV.Prod)(i:Nat):Nat:=gI (wJ n l).E (ML n l) (dC l (i:Int)).2 ((MM n l).getD (dC l (i:Int)).1.toNat 0)
section
variable{l:List aV.Prod}{may:Nat->Nat}{T:Nat}
theorem Ep(n col:Nat):∀(k:Nat) (out:List Cl),(xP l may T n col k out).length<=out.length+k
 |0,out=>by rw[xP];omega
 | k +1,out=>by
  have:=Ep n col k out;rw[xP];split
  ·split
   omega;rw[bT];simp;omega
  omega
theorem Er(n:Nat):∀(c:Nat) (out:List Cl),(BL l may T n c out).length<=out.length+c*l.length
 |0,out=>by rw[BL];omega
 |c+1,out=>by
  have h1:=Er n c out;have h2:=Ep (l:=l) (may:=may) (T:=T) n c l.length (BL l may T n c out);rw[BL,kQ];omega
theorem LH:∀(N:Nat),(mP l may T N).length<=N*((T+1)*l.length)
 |0=>by rw[mP];simp
 |N+1=>by
  have h1:=LH N;have h2:=Er (l:=l) (may:=may) (T:=T) N (T+1) (mP l may T N);rw[mP,kQ];omega
end
theorem X3{g:eL}{n:Nat}(jr:cL g=0)(hn:g.bM=n):zt n (MM n g.aF):=by
 obtain⟨_,_,a3,_⟩:=de jr;have hf:=yH jr hn;have hF:=(Ij jr hn).2;have wI:=Wp (E:=(wJ n g.aF).E) hF hf;obtain⟨s',h1,h2,h3⟩:=yG wI _ ((dJ n 0).set 0 9223372036854775808) ⟨by simp,λx hx=>by
  rcases List.mem_or_eq_of_mem_set hx with h|h
  rw[List.eq_of_mem_replicate h];decide;rw[h];decide⟩ (bJ _)
 obtain⟨_,h4,h5⟩:=A' _ _ _ h2;have h6:MM n g.aF=s':=by unfold MM wT;rw[h3];exact h4
 rw[h6];exact h1
attribute [local irreducible] Op.shift Go.bits Instr.build in
set_option maxRecDepth 100000 in
theorem I5(v:Value)(g:eL)(w:World)(h:kz (λk=>k<w.heap.size) w v g)(hg:cL g=0)(T N:Nat)(hT:g.aT=T)(hN:g.bM=N):
    Calls aC 44 #[v] w (cY (X2 N T g.aF (AL N g.aF)) w):=by
  obtain⟨a1,a2,a3,a4,a5,a6⟩:=de hg;have SA:=λw' (yC:Gr w w')=>DF v g w' (h.gr yC) hg N hN;have hbe:∀body:List dV,body∈g.aF.map (·.2)->uL g body=0/\∀b,BN g body b=gI (wJ N g.aF).E (ML N g.aF) body b:=λbody hb=>by
    obtain⟨p,hp,rfl⟩:=e7.1 hb;obtain⟨b1,b2,b3,b4⟩:=a6 p hp;have e:uL g p.2=0:=by
      unfold uL;rw[if_neg (by simpa using hg),if_neg J];exact Ii b4
    refine⟨e,λb=>?_⟩;unfold BN;rw[if_pos e,show g.bM.toNat=N by omega]
  have hBg:=λvb body b w' (hg:Gr w w') hs=>rJ v vb g body b w' (h.gr hg) hs;obtain⟨_,hF⟩:=Ij hg hN;have hWW:=X3 hg hN;have T7:=X0 hg hN;have K2:AL N g.aF=λi:Nat=>gI (wJ N g.aF).E (ML N g.aF) (dC g.aF (i:Int)).2 ((MM N g.aF).getD (dC g.aF (i:Int)).1.toNat 0):=rfl;have agm:∀i,AL N g.aF i<18446744073709551616:=λi=>by
    refine oW hF (oK hWW _) λx hx h1=>?_
    by_cases c:i<g.aF.length
    · rw[xL c]at hx
      have:=(a6 _ (cV c)).2.2.2 x hx;unfold right at this;rw[if_pos h1]at this;simp at this;omega
    unfold dC at hx;rw[dP,cK,jE J]at hx
    cases hx
  generalize tw:AL N g.aF=may at*;obtain⟨vp,rfl,h1,_⟩:=h;obtain⟨t,nn,aF⟩:=g;dsimp only at*;subst hT hN;have LI:=h1;obtain⟨bp,cp,rfl,H',E6,oC⟩:=h1;unfold maxLen at E6;refine enter (args:=[ee (T:Int) (N:Int) (ap bp aF.length cp)]) (n:=119) Tryz.func44 I I I ?_;refine bC (aM (b_ I I I λg1=>?_));refine zL ?_
  repeat(first|refine GA ?_|refine gV (aQ (i:=0) aL.ty I I I) ?_)
  refine a8 (ju aJ.en I I) (λw' hm=>(SA w' hm.below).mono λe w2 h=>DH h) I I I ?_;intro x _
  conv=>arg 8;simp only[zJ,dg,ret,id_eq,DE.val]
  refine P5 [0,3] ?_
  try refine GA ?_
  refine bz I λg5=>?_;refine il 2 ?_;refine zL ?_
  repeat(first|refine GA ?_|refine gV (aB aL.ty I (aH (i:=0) I I)) ?_)
  have hz:fm aC 114 #[ik 0]:=(inferInstance:fm aC 114 #[.int .u64 0]);refine pA ik 0 I I J J I λg7=>?_;refine zL ?_
  repeat(first|refine GA ?_|refine gV (aB aL.ty I (aH (i:=0) I I)) ?_)
  refine og (ι:=Nat) (λk=>k<=aF.length) (λk=>[(1,aK (aj ⟨g1,0,ak⟩)),(5,aK (aj ⟨g5,0,ak⟩)),(7,ap (aj ⟨g7,0,ak⟩) aF.length aF.length),(30,ap bp aF.length cp),(31,av az aF.length),(32,av az (k:Int))])
    (λk=>[aR g1 (ee (T:Int) (N:Int) (ap bp aF.length cp)).cells 33,iS N x.gW x.cW (MM N aF),aR g5 (mz (dU N x.gE x.cE) (dU N x.gF x.cF) (dU N x.gW x.cW) (dU N x.gR x.cR) (dU N x.gM x.cM)).cells 104,fO 114 ik g7 aF.length (λj=>if j<k then may j else 0)]) (λk=>aF.length-k) 0 (bO _) (by repeat' (first|exact dl|refine dh I ?_)) (by rw[show(λj=>if j<0 then may j else 0)=λ_=>0 from funext λj=>if_neg J];rfl) ?_
  intro k k1
  by_cases c7:k<aF.length
  · obtain⟨b,off,rfl,_,hr⟩:=oC J
    obtain⟨bb,cb,y1,y2,y3⟩:=lT hr c7;have d_:∀(L:List cU) (j:Nat) (v:Value),([av az aF[k].1,.slice bb aF[k].2.length cb]:List Value)[j]?=aj v->At w L ⟨b,off+k*2+j,ak⟩ v:=λL j v hj=>kw (y1 j v hj);have wI:=y3.flat ahk;obtain⟨b1,b2,b3,b4⟩:=a6 _ (cV c7);obtain⟨K0,MJ⟩:=hbe aF[k].2 (e7.2 ⟨_,cV c7,rfl⟩);have MK:may k=gI (wJ N aF).E (ML N aF) aF[k].2 ((MM N aF).getD aF[k].1.toNat 0):=by rw[K2];dsimp only;rw[xL c7]
    clear y1 y3 hr hbe oC;generalize aF[k]=pd at*;obtain⟨hd,body⟩:=pd;dsimp only at*;obtain⟨hn,rfl⟩:∃hn:Nat,hd=hn:=⟨hd.toNat,by omega⟩;have hlt:hn<N:=by omega
    rw[dP]at MK;have agn:((MM N aF).map ik)[0+hn]?=aj (ik ((MM N aF).getD hn 0)):=by rw[du];exact If (by rw[hWW.1];exact hlt)
    have ago:=oK hWW hn;have hBg:=λw' hg hs=>hBg (ap bb body.length cb) body ((MM N aF).getD hn 0) w' hg hs ago;rw[K0,MJ,<-MK]at hBg;generalize (MM N aF).getD hn 0=wv at*
    repeat(first|refine GA ?_|refine gV (a_ bR.eq aL.ty I I c7) ?_|refine gV (bH aL.ty I I (d_ _)) ?_)
    refine bz I λg9=>?_
    try refine GA ?_
    refine il 4 ?_;refine zL ?_
    try refine GA ?_
    refine eo ([aR g1 (ee (T:Int) (N:Int) (ap (aj ⟨b,off,ak⟩) aF.length cp)).cells 33,iS N x.gW x.cW (MM N aF),aR g5 (mz (dU N x.gE x.cE) (dU N x.gF x.cF) (dU N x.gW x.cW) (dU N x.gR x.cR) (dU N x.gM x.cM)).cells 104,aR g9 #[av az (hn:Int),ap bb body.length cb] 140]) (.calm 0 (.calm 1 (.calm 2 (.calm 3 (.calm 4 (.calm 5 (.calm 6 (.calm 7 (.calm 8 (.calm 9 (.calm 10 (.calm 11 (.calm 12 (.calm 13 (.calm 14 (.calm 15 (.one 16 (.done)))))))))))))))))) (cH [0,1,2,4]) ?_
    repeat(first|refine GW ?_|(refine GN ?_;first|refine QW (aQ (i:=0) aL.ty I I I) ?_|refine QW (aB aL.ty I (aH (i:=3) I I)) ?_|refine QW (aB aL.ty I (aH (i:=2) I I)) ?_|refine QW (cT bR.eq aL.ty I I hlt) ?_|refine QW (aB aL.ty I (kx (i:=1) I agn)) ?_))
    refine oF I (tH aJ.en I I I I) (λw hm=>hBg _ hm.below (wI.gr hm.below)) I I I ?_
    repeat(first|refine GW ?_|(refine GN ?_;first|refine QW (cT bR.eq aL.ty I I c7) ?_))
    refine aO I ?_;refine jj (i:=3) (v:=may k) (λj=>if j<k+1 then may j else 0) aL.ty I I I I I c7 (λj _=>by
      by_cases e:j=k
      subst e;simp
      by_cases e2:j<k
      simp[e,e2,show j<k+1 by omega];simp[e,e2,show ¬j<k+1 by omega]) ?_
    refine zL ?_;refine aP (cH [0,1,2,4]) ?_
    try refine GW ?_
    try refine GA ?_
    refine dS [0,1,2,3] ?_;exact cJ (k+1) J J
  · obtain rfl:k=aF.length:=by omega
    rw[show fO 114 ik g7 aF.length (λj=>if j<aF.length then may j else 0)=fO 114 ik g7 aF.length may from pz λj hj=>if_pos hj];clear hBg hbe SA K2
    repeat(first|refine GA ?_|refine gV (aB aL.ty I (aH (i:=0) I I)) ?_)
    refine pA vJ (ap ak 0 0) I I J J I λg10=>?_;refine zL ?_
    try refine GA ?_
    refine ue [0,3,4] ?_;refine mN (jB (λj=>j<N) (ni aF may T (λ_=>ap ak 0 0) 0 0)) (λk hk=>hk.elim (λh=>by cases h) λ⟨i,hi,h⟩=>h.elim (λh=>by cases h) id) (λw=>⟨λi hi=>?_,λi j _ _ _ k h=>h.elim (λh=>by cases h) nk⟩) ?_
    · unfold ni BT
      rw[if_neg J,ite_self];exact Xx _ _ _ _
    refine jy 200 4 ?_;refine eK (ι:=Nat×(Nat->Value)×Value) (λ(n,_,_)=>n<=N) (λ(n,_,vo)=>[(1,aK (aj ⟨g1,0,ak⟩)),(7,ap (aj ⟨g7,0,ak⟩) aF.length aF.length),(10,ap (aj ⟨g10,0,ak⟩) N N),(11,vo),(58,av az (N:Int)),(59,av az (n:Int))])
      (λ(n,vs,vo)=>[aR g1 (ee (T:Int) (N:Int) (ap bp aF.length cp)).cells 33,fO 114 ik g7 aF.length may,fO 26 vJ g10 N vs,jB (λj=>j<N) (ni aF may T vs n 0),bD 200 4 vo (mP aF may T n).length ((mP aF may T n).flatMap clC)]) (λ(n,_,_)=>N-n) (0,λ_=>ap ak 0 0,ap ak 0 0) (bO _) ?_
    rintro⟨n,vs,vo⟩ n1;dsimp only at n1⊢
    by_cases c8:n<N
    · repeat(first|refine GC ?_|refine gV (aB aL.ty I (aH (i:=0) I I)) ?_|refine gV (bL (r:=((T+1:Nat):Int)) I I J J J) ?_|refine GB ?_)
      refine eK (ι:=Nat×(Nat->Value)×Value) (λ(c,_,_)=>c<=T+1) (λ(c,_,vo)=>[(1,aK (aj ⟨g1,0,ak⟩)),(7,ap (aj ⟨g7,0,ak⟩) aF.length aF.length),(10,ap (aj ⟨g10,0,ak⟩) N N),(11,vo),(12,av az (n:Int)),(58,av az (N:Int)),(59,av az (n:Int)),(64,av az ((T+1:Nat):Int)),(65,av az (c:Int))])
        (λ(c,vs,vo)=>[aR g1 (ee (T:Int) (N:Int) (ap bp aF.length cp)).cells 33,fO 114 ik g7 aF.length may,fO 26 vJ g10 N vs,jB (λj=>j<N) (ni aF may T vs n c),bD 200 4 vo (BL aF may T n c (mP aF may T n)).length ((BL aF may T n c (mP aF may T n)).flatMap clC)]) (λ(c,_,_)=>T+1-c) (0,vs,vo) (bO _) ?_
      rintro⟨c,vs,vo⟩ cc;dsimp only at cc⊢
      by_cases c9:c<T+1
      · have agM:=Er (l:=aF) (may:=may) (T:=T) n c (mP aF may T n)
        have agN:=LH (l:=aF) (may:=may) (T:=T) n;have ZK:c*aF.length<=31*40:=Ee J a5;have U7:(T+1)*aF.length<=31*40:=Ee J a5;have hm3:n*((T+1)*aF.length)<=20*(31*40):=Ee J U7;have agp:mP aF may T (n+1)=BL aF may T n (T+1) (mP aF may T n):=rfl;have aeZ:BL aF may T n (c+1) (mP aF may T n)=xP aF may T n c aF.length (BL aF may T n c (mP aF may T n)):=rfl;have hbc:N2 T c<18446744073709551616:=by
          unfold N2;split
          decide
          exact xG (Nat.pow_le_pow_right ahk (show c<=30 by omega)) ahk
        have aaA:=λw=>Tt T (N:Int) (ap bp aF.length cp) c w J J ⟨_,_,_,rfl⟩;generalize BL aF may T n c (mP aF may T n)=vm at*
        repeat(first|refine GA ?_|refine gV (aB aL.ty I (aH (i:=0) I I)) ?_)
        refine eK (ι:=Nat×Value) (λ(k,_)=>k<=aF.length) (λ(k,vo)=>[(1,aK (aj ⟨g1,0,ak⟩)),(7,ap (aj ⟨g7,0,ak⟩) aF.length aF.length),(10,ap (aj ⟨g10,0,ak⟩) N N),(11,vo),(12,av az (n:Int)),(13,av az (c:Int)),(14,av az (iF aF may T n c k)),(58,av az (N:Int)),(59,av az (n:Int)),(64,av az ((T+1:Nat):Int)),(65,av az (c:Int)),(69,ap bp aF.length cp),(70,av az aF.length),(71,av az (k:Int))])
          (λ(k,vo)=>[aR g1 (ee (T:Int) (N:Int) (ap bp aF.length cp)).cells 33,fO 114 ik g7 aF.length may,fO 26 vJ g10 N vs,jB (λj=>j<N) (ni aF may T vs n c),bD 200 4 vo (xP aF may T n c k vm).length ((xP aF may T n c k vm).flatMap clC)]) (λ(k,_)=>aF.length-k) (0,vo) (bO _) ?_
        rintro⟨k,vo⟩ kk;dsimp only at kk⊢
        by_cases ck:k<aF.length
        · obtain⟨b,off,rfl,_,hr⟩:=oC J
          obtain⟨bb,cb,y1,y2,y3⟩:=lT hr ck;have d_:∀(L:List cU) (j:Nat) (v:Value),([av az aF[k].1,.slice bb aF[k].2.length cb]:List Value)[j]?=aj v->At w L ⟨b,off+k*2+j,ak⟩ v:=λL j v hj=>kw (y1 j v hj);have hol:=Ep (l:=aF) (may:=may) (T:=T) n c k vm;have hf:iF aF may T n c (k+1)=if iF aF may T n c k<0 then(if DB aF may T n c k=aD then(k:Int)else iF aF may T n c k)else iF aF may T n c k:=rfl
          have ho:xP aF may T n c (k+1) vm=if DB aF may T n c k=aD then(if iF aF may T n c k<0 then xP aF may T n c k vm else xP aF may T n c k vm++[((n:Int),(c:Int),iF aF may T n c k,(k:Int))])else xP aF may T n c k vm:=rfl
          have hcd:DB aF may T n c k=(decide (aF[k].1=(n:Int))&&!decide ((may k&&&N2 T c)=0)):=by unfold DB;rw[xL ck]
          have hand:=Sy (agm k) hbc;have hfk:=uI (l:=aF) (may:=may) (T:=T) n c k;clear y1 y3 hr oC;generalize aF[k]=pd at*;obtain⟨hd,body⟩:=pd;dsimp only at*;generalize hzz:may k&&&N2 T c=z at*;generalize iF aF may T n c k=fk at*;generalize xP aF may T n c k vm=ok at*
          repeat(first|refine GA ?_|refine gV (a_ bR.eq aL.ty I I ck) ?_|refine gV (bH aL.ty I I (d_ _)) ?_)
          refine bz I λg16=>?_
          try refine GA ?_
          refine il 5 ?_;refine zL ?_
          try refine GA ?_
          refine eo ([aR g1 (ee (T:Int) (N:Int) (ap (aj ⟨b,off,ak⟩) aF.length cp)).cells 33,fO 114 ik g7 aF.length may,aR g16 #[av az hd,ap bb body.length cb] 140]) (.calm 0 (.calm 1 (.calm 2 (.calm 3 (.calm 4 (.calm 5 (.calm 6 (.calm 7 (.calm 8 (.calm 9 (.calm 10 (.calm 11 (.calm 12 (.calm 13 (.calm 14 (.calm 15 (.done))))))))))))))))) (cH [0,1,5]) ?_
          by_cases e1:hd=(n:Int)
          · by_cases e2:z=0
            · rw[decide_eq_true e1,decide_eq_true e2]at hcd
              rw[hcd]at hf ho;simp only[Bool.not_true,Bool.and_false,ow,if_false,ite_self]at hf ho
              repeat(first|refine GW ?_|(refine GN ?_;first|refine QW (aB aL.ty I (aH (i:=2) I I)) ?_|refine QW (cT bR.eq aL.ty I I ck) ?_|refine QW (aB aL.ty I (gL (i:=1) I ck)) ?_|refine QW (aQ (i:=0) aL.ty I I I) ?_))
              refine J7 I (gK aJ.en I I I) (λw hm=>aaA _) I I I I I ?_
              repeat(first|refine GW ?_|(refine GN ?_;first|refine QW (nt I I hand) ?_))
              try refine GA ?_
              refine dS [0,1,2,3,4] ?_;exact jS (k+1,vo) (by show k+1<=aF.length;omega) (by show aF.length-(k+1)<aF.length-k;omega) (by dsimp only;rw[hf];repeat' (first|exact dl|refine dh I ?_)) (by dsimp only;rw[ho];rfl)
            rw[decide_eq_true e1,decide_eq_false e2]at hcd;rw[hcd]at hf ho;simp only[Bool.not_false,Bool.and_true,if_true]at hf ho
            repeat(first|refine GW ?_|(refine GN ?_;first|refine QW (aB aL.ty I (aH (i:=2) I I)) ?_|refine QW (cT bR.eq aL.ty I I ck) ?_|refine QW (aB aL.ty I (gL (i:=1) I ck)) ?_|refine QW (aQ (i:=0) aL.ty I I I) ?_))
            refine J7 I (gK aJ.en I I I) (λw hm=>aaA _) I I I I I ?_
            repeat(first|refine GW ?_|(refine GN ?_;first|refine QW (nt I I hand) ?_))
            by_cases e3:fk<0
            · rw[if_pos e3]at hf ho
              try refine GA ?_
              refine dS [0,1,2,3,4] ?_;exact jS (k+1,vo) (by show k+1<=aF.length;omega) (by show aF.length-(k+1)<aF.length-k;omega) (by dsimp only;rw[hf];repeat' (first|exact dl|refine dh I ?_)) (by dsimp only;rw[ho];rfl)
            rw[if_neg e3]at hf ho
            repeat(first|refine GA ?_|refine gV (bP I (X1 _ _ _ _)) ?_)
            refine jH (i:=4) I I I I I I I (λz h=>by cases h;rfl) J J I λz' v2=>?_;refine zL ?_
            try refine GA ?_
            refine dS [0,1,2,3,4] ?_;exact jS (k+1,v2) (by show k+1<=aF.length;omega) (by show aF.length-(k+1)<aF.length-k;omega) (by dsimp only;rw[hf];repeat' (first|exact dl|refine dh I ?_)) (by dsimp only;rw[ho,fV,bT];rfl)
          rw[decide_eq_false e1]at hcd;rw[hcd]at hf ho;simp only[Bool.false_and,ow,if_false,ite_self]at hf ho
          repeat(first|refine GW ?_|(refine GN ?_;first|refine QW (aB aL.ty I (aH (i:=2) I I)) ?_))
          try refine GA ?_
          refine dS [0,1,2,3,4] ?_;exact jS (k+1,vo) (by show k+1<=aF.length;omega) (by show aF.length-(k+1)<aF.length-k;omega) (by dsimp only;rw[hf];repeat' (first|exact dl|refine dh I ?_)) (by dsimp only;rw[ho];rfl)
        obtain rfl:k=aF.length:=by omega
        rw[<-aeZ];have hra:iF aF may T n c aF.length=BK.rowAt aF may T n c:=rfl;rw[hra];clear aeZ agp hra;have hcn:ni aF may T vs n c n=bD 3 1 (vs n) c ((lG c (BK.rowAt aF may T n)).map adn):=by
          unfold ni BT;rw[if_neg (IX n),if_pos I]
        repeat(first|refine GA ?_|refine gV (cT bR.eq aL.ty I I c8) ?_|refine gV (aB aL.ty I (gL (i:=2) I c8)) ?_)
        refine Qh (q:=3) n I c8 ?_;rw[hcn];refine zL ?_;refine P3 [av az (BK.rowAt aF may T n c)] I I I (by intro v hv;simp at hv;subst hv;rfl) I I λag'=>?_;refine zL ?_;refine lO (i:=5) (q:=6) I I I I I I J J I λv3=>?_;refine zL ?_;refine aY (i:=5) I λlm lW=>?_
        repeat(first|refine GA ?_|refine gV (cT bR.eq aL.ty I I c8) ?_)
        refine jj (i:=2) (v:=v3) (λj=>if j=n then v3 else vs j) aL.ty I I I lm lW c8 (λj _=>rfl) ?_;refine zL ?_;refine Wb (D':=λj=>j<N) (f':=ni aF may T (λj=>if j=n then v3 else vs j) n (c+1)) n 3 5 [0,1,2,4] ahk I I I (λh=>h.2 I) (λj hj=>by
          by_cases e:j=n
          exact .inr e;exact .inl ⟨hj,e⟩) (λj hj=>by
          by_cases e:j=n
          · subst e
            rw[Am];unfold ni BT;rw[if_neg (IX j),if_pos I];dsimp only;rw[if_pos I]
            congr 1
            unfold lG;rw[Ae,ft,ft];rfl
          rw[Al e];have:BT T n (c+1) j=BT T n c j:=by unfold BT;rw[if_neg e,if_neg e]
          unfold ni;rw[this];dsimp only;rw[if_neg e]) ?_
        refine zL ?_;refine P5 [0,1,2,4,3] ?_
        try refine GA ?_
        exact cJ (c+1,λj=>if j=n then v3 else vs j,vo) (by show c+1<=T+1;omega) (by show T+1-(c+1)<T+1-c;omega)
      obtain rfl:c=T+1:=by omega
      have agq:ni aF may T vs n (T+1)=ni aF may T vs (n+1) 0:=funext λj=>by
        have:BT T n (T+1) j=BT T (n+1) 0 j:=by
          unfold BT
          by_cases e:j<n
          rw[if_pos e,if_pos J];rw[if_neg e]
          by_cases e2:j=n
          rw[if_pos e2,if_pos J];rw[if_neg e2,if_neg J,ite_self]
        unfold ni;rw[this]
      try refine GA ?_
      exact cJ (n+1,vs,vo) (by show n+1<=N;omega) (by show N-(n+1)<N-n;omega) (hl:=by rw[agq];rfl)
    obtain rfl:n=N:=by omega
    try refine GA ?_
    exact mI I I I I λw hm=>hm.meets (S:=X2 n T aF may) (g10,vs,vo) trivial [2,3,4] ahk I
end cZ
namespace cZ
open Go.RowKit dr eH aV BK
def s6(l:List aV.Prod)(n:Nat):List Int->Int
 |[]=>0
 |p::r=>if p< -1 then 1 else if(l.length:Int)<=p then 1 else if 0<=p/\(l.getD p.toNat (0,[])).1≠(n:Int)then 1 else s6 l n r
def qG(l:List aV.Prod)(t:Int):Nat->List (List Int)->Int
 |_,[]=>0
 |n,r::rs=>if(r.length:Int)≠t+1 then 1 else if s6 l n r≠0 then 1 else qG l t (n+1) rs
def Es(g:eL)(ll:List (List Int)):Int:=if cL g≠0 then cL g else if(ll.length:Int)≠g.bM then 1 else qG g.aF g.aT 0 ll
abbrev za(w:World)(v:Value)(ll:List (List Int)):Prop:=kH (bW fY) (λk=>k<w.heap.size) w v ll
theorem Ra{F:Nat->Prop}{w:World}{b off:Nat}{ll:List (List Int)}(h:∀i (h:i<ll.length),∃cs,(bW fY).is F w cs ll[i]/\Rd w b (off+i*(bW fY).c) cs){k:Nat}(hk:k<ll.length):
 ∃vi,w.cell? ⟨b,off+k,ak⟩=aj vi/\Sl w vi ll[k].length (ll[k].map (.int .i64)):=by
 obtain⟨cs,⟨vi,rfl,h1⟩,hr⟩:=h k hk;refine⟨vi,?_,?_⟩
 ·have:=hr 0 vi I
  rwa [show(bW fY).c=1 from I,kR,iO]at this
 ·have:=h1.flat ahk
  rw[show(ll[k].flatMap λn=>[av .i64 n])=ll[k].map (.int .i64)from by rw[OW];induction ll[k]with
   |nil=>rfl
   |cons x r ih=>simp only[gu,zT,ih];rfl]at this
  exact this
set_option maxRecDepth 100000 in
theorem w4(v vr:Value)(g:eL)(ll:List (List Int))(w:World)(h:kz (λk=>k<w.heap.size) w v g)(hr:za w vr ll):
 Calls aC 90 #[v,vr] w (cY (ret (av az (Es g ll))) w):=by
 have jr:=λw' (hg:Gr w w')=>jY v g w' (h.gr hg);obtain⟨vp,rfl,h1,_⟩:=h;obtain⟨br,cr,rfl,Za,we,Dg⟩:=hr;unfold maxLen at we;unfold Es
 by_cases c0:cL g=0
 ·rw[if_neg (by simpa using c0)]
  obtain⟨a1,a2,a3,a4,a5,_⟩:=de c0;rw[c0]at jr;obtain⟨t,nn,aF⟩:=g;dsimp only at*;obtain⟨bp,cp,rfl,H',E6,oC⟩:=h1;unfold maxLen at E6;refine enter (args:=[ee t nn (ap bp aF.length cp),ap br ll.length cr]) (n:=64) Tryz.func90 I I I ?_;refine bC (aM (b_ I I I λg2=>?_));refine zL ?_
  repeat(first|refine GA ?_|refine gV (aQ (i:=0) aL.ty I I I) ?_)
  refine a8 (ju aJ.en I I) (λw hm=>jr _ hm.below) I I I ?_;intro _ _;refine zL ?_
  by_cases c1:(ll.length:Int)=nn
  ·rw[if_neg (by simpa using c1)]
   repeat(first|refine GA ?_|refine gV (aB aL.ty I (aH (i:=0) I I)) ?_)
   generalize na:qG aF t 0 ll=res;refine eK (ι:=Nat) (λn=>n<=ll.length/\res=qG aF t n (ll.drop n)) (λn=>[(2,aK (aj ⟨g2,0,ak⟩)),(20,ap br ll.length cr),(21,av az ll.length),(22,av az (n:Int))]) (λ_=>[aR g2 (ee t nn (ap bp aF.length cp)).cells 33]) (λn=>ll.length-n) 0 ⟨bO _,by rw[List.drop_zero];exact na.symm⟩ ?_;clear na;rintro n ⟨i1,i2⟩
   by_cases c2:n<ll.length
   ·obtain⟨b,off,rfl,_,fl⟩:=Dg J
    obtain⟨vi,y1,y2⟩:=Ra fl c2;have d_:∀L,At w L ⟨b,off+n,ak⟩ vi:=λL=>kw y1;rw[ff c2,qG]at i2;clear fl y1;generalize ll[n]=r at*;obtain⟨bi,ci,rfl,z1,z2,z3⟩:=y2;unfold maxLen at z2
    by_cases c3:(r.length:Int)=t+1
    ·rw[if_neg (by simpa using c3)]at i2
     repeat(first|refine GA ?_|refine gV (cT bR.eq aL.ty I I c2) ?_|refine gV (aB aL.ty I (d_ _)) ?_|refine gV (aB aL.ty I (aH (i:=0) I I)) ?_)
     refine eK (ι:=Nat) (λj=>j<=r.length/\s6 aF n r=s6 aF n (r.drop j)) (λj=>[(2,aK (aj ⟨g2,0,ak⟩)),(6,av az (n:Int)),(20,ap (aj ⟨b,off,ak⟩) ll.length cr),(21,av az ll.length),(22,av az (n:Int)),(33,ap bi r.length ci),(34,av az r.length),(35,av az (j:Int))]) (λ_=>[aR g2 (ee t nn (ap bp aF.length cp)).cells 33]) (λj=>r.length-j) 0 ⟨bO _,rfl⟩ ?_;rintro j ⟨j1,j2⟩
     by_cases c4:j<r.length
     ·obtain⟨b',Ag,rfl,Ns⟩:=z3 J
      have X4:=λL=>acV (L:=L) Ns c4;rw[ff c4,s6]at j2;clear Ns z3;generalize r[j]=p at*
      by_cases e1:p< -1
      ·rw[if_pos e1]at j2
       rw[j2,if_pos ahk]at i2;subst i2
       repeat(first|refine GA ?_|refine gV (cT bR.eq aL.ty I I c4) ?_|refine gV (aB aL.ty I (X4 _)) ?_|refine gV (aB aL.ty I (aH (i:=0) I I)) ?_)
       exact fa
      by_cases e2:(aF.length:Int)<=p
      ·rw[if_neg e1,if_pos e2]at j2
       rw[j2,if_pos ahk]at i2;subst i2
       repeat(first|refine GA ?_|refine gV (cT bR.eq aL.ty I I c4) ?_|refine gV (aB aL.ty I (X4 _)) ?_|refine gV (aB aL.ty I (aH (i:=0) I I)) ?_)
       exact fa
      rw[if_neg e1,if_neg e2]at j2
      by_cases e3:0<=p
      ·obtain⟨m,rfl⟩:∃m:Nat,p=m:=⟨p.toNat,by omega⟩
       have hm:m<aF.length:=by omega
       obtain⟨bq,agr,rfl,_,hrq⟩:=oC J;obtain⟨bb,cb,q1,_,_⟩:=lT hrq hm;have ae0:∀(L:List cU),At w L ⟨bq,agr+m*2+0,ak⟩ (av az aF[m].1):=λL=>kw (q1 0 _ I);rw[dP,cK,bQ hm]at j2;dsimp only[Option.getD]at j2;clear q1 hrq;generalize aF[m]=pd at*;obtain⟨hd,_⟩:=pd;dsimp only at*
       by_cases e4:hd=(n:Int)
       ·rw[if_neg (λh=>h.2 e4)]at j2
        repeat(first|refine GA ?_|refine gV (cT bR.eq aL.ty I I c4) ?_|refine gV (aB aL.ty I (X4 _)) ?_|refine gV (aB aL.ty I (aH (i:=0) I I)) ?_|refine gV (a_ bR.eq aL.ty I I hm) ?_|refine gV (aB aL.ty I (ae0 _)) ?_)
        exact cJ (j+1) ⟨by omega,j2⟩ J
       rw[if_pos ⟨e3,e4⟩]at j2;rw[j2,if_pos ahk]at i2;subst i2
       repeat(first|refine GA ?_|refine gV (cT bR.eq aL.ty I I c4) ?_|refine gV (aB aL.ty I (X4 _)) ?_|refine gV (aB aL.ty I (aH (i:=0) I I)) ?_|refine gV (a_ bR.eq aL.ty I I hm) ?_|refine gV (aB aL.ty I (ae0 _)) ?_)
       exact fa
      rw[if_neg (λh=>e3 h.1)]at j2
      repeat(first|refine GA ?_|refine gV (cT bR.eq aL.ty I I c4) ?_|refine gV (aB aL.ty I (X4 _)) ?_|refine gV (aB aL.ty I (aH (i:=0) I I)) ?_)
      exact cJ (j+1) ⟨by omega,j2⟩ J
     rw[je J,s6]at j2;rw[j2,if_neg ahk]at i2
     try refine GA ?_
     exact cJ (n+1) ⟨by omega,i2⟩ J
    rw[if_pos (by simpa using c3)]at i2;subst i2
    repeat(first|refine GA ?_|refine gV (cT bR.eq aL.ty I I c2) ?_|refine gV (aB aL.ty I (d_ _)) ?_|refine gV (aB aL.ty I (aH (i:=0) I I)) ?_)
    exact fa
   rw[je J,qG]at i2;subst i2
   try refine GA ?_
   exact fa
  rw[if_pos (by simpa using c1)]
  repeat(first|refine GA ?_|refine gV (aB aL.ty I (aH (i:=0) I I)) ?_)
  exact fa
 ·rw[if_pos (by simpa using c0)]
  generalize cL g=e at*;refine enter (args:=[ee g.aT g.bM vp,ap br ll.length cr]) (n:=64) Tryz.func90 I I I ?_;refine bC (aM (b_ I I I λg2=>?_));refine zL ?_
  repeat(first|refine GA ?_|refine gV (aQ (i:=0) aL.ty I I I) ?_)
  refine a8 (ju aJ.en I I) (λw hm=>jr _ hm.below) I I I ?_;intro _ _;refine zL ?_
  try refine GA ?_
  exact fa
theorem X5{l:List aV.Prod}{may:Nat->Nat}{T N g:Nat}{vs:Nat->Value}{w:World}(hl:l.length<=40)(hN:N<=20)(h1:(fO 26 vJ g N vs).holds w)(h2:(jB (λj=>j<N) (ni l may T vs N 0)).holds w):
 za w (ap (aj ⟨g,0,ak⟩) N N) (lG N λn=>lG (T+1) (BK.rowAt l may T n)):=by
 refine⟨aj ⟨g,0,ak⟩,N,by rw[ic],by rw[ic];exact bJ _,by unfold maxLen;omega,λh0=>⟨g,0,rfl,(fO 26 vJ g N vs).lt w h1 g (.inl I),λi hi=>?_⟩⟩;rw[ic]at hi;have hf:=h2.1 i hi;unfold ni BT at hf;rw[if_pos hi]at hf;have xU:(lG N λn=>lG (T+1) (BK.rowAt l may T n))[i]'(by rw[ic];exact hi)=lG (T+1) (BK.rowAt l may T i):=by simp[lG]
 rw[xU];refine⟨[vs i],⟨vs i,rfl,?_⟩,λj u hj=>?_⟩
 ·have hs:=Sl.dY hf
  refine kH.of_flat (p:=dr.eD) (by rw[ic];rw[show((lG (T+1) (BK.rowAt l may T i)).flatMap λn=>[av .i64 n])=(lG (T+1) (BK.rowAt l may T i)).map adn from by
   rw[OW]
   induction lG (T+1) (BK.rowAt l may T i)with
   |nil=>rfl
   |cons x r ih=>simp only[gu,zT,ih];rfl];exact hs) (λa ha=>?_) (λb hb=>(bD 3 1 (vs i) (T+1) _).lt w hf b (.inl hb)) (λa n cp he=>?_)
  ·unfold lG at ha
   obtain⟨c,_,rfl⟩:=e7.1 ha;have:=uI (l:=l) (may:=may) (T:=T) i c l.length;unfold BK.rowAt;exact⟨by omega,by omega⟩
  have hr:w.ownsRow 0 3 1 (vs i) (T+1) _:=hf;rcases hr.2 with⟨hv,h⟩|⟨gg,cap,kg,hv,_⟩
  omega;rw[hv]at he;simp only[jQ,dB]at he;rw[<-he.1];exact(bD 3 1 (vs i) (T+1) _).lt w hf gg (.inl (by rw[hv];rfl))
 ·have hj0:j=0:=by
   have:=(dv.1 hj).1;simp at this;omega
  subst hj0;simp only[List.getElem?_cons_zero,dB]at hj;subst hj;have:=An h1 hi;rw[show 0+i*(bW fY).c+0=0+i by rw[show(bW fY).c=1 from I];omega];exact this
end cZ
namespace cZ
open Go.RowKit dr eH aV ey eg bV dq
def jC(x:bV.Act):List Value:=[av az x.1,av az x.2]
theorem rU(x:bV.Act):(jC x).length=2:=rfl
def g_(l:List aV.Prod)(T:Nat)(nx:List Int)(t:Nat)(s:List bV.Item)(c:Nat):List bV.Act:=(if c<t/\0<=nx.getD c 0 then [(1,nx.getD c 0)]else [])++s.filterMap (yP l c)
theorem G7{l:List aV.Prod}{T:Nat}{nx:List Int}{s:List bV.Item}{c:Nat}:g_ l T nx T s c=kJ l T s nx c:=rfl
def oz(vs:Nat->Value)(A:Nat->List bV.Act)(j:Nat):cU:=bD 94 2 (vs j) (A j).length ((A j).flatMap jC)
def LJ(T:Nat)(A:Nat->List bV.Act):Spec (Nat×(Nat->Value)):=⟨λ_=>True,λx=>ap (aj ⟨x.1,0,ak⟩) (T+1) (T+1),λx=>[fO 92 vJ x.1 (T+1) x.2,jB (λj=>j<T+1) (oz x.2 A)]⟩
theorem O8(n:Int)(w:World):(dR 94 #[(0,av az 1),(1,av az n)]).run aC w= .ok (aU (jC (1,n)).toArray) w:=by kernel_rfl
theorem O9(n:Int)(w:World):(dR 94 #[(0,av az 2),(1,av az n)]).run aC w= .ok (aU (jC (2,n)).toArray) w:=by kernel_rfl
theorem O_(w:World):(dR 94 #[(0,av az 3)]).run aC w= .ok (aU (jC (3,0)).toArray) w:=by kernel_rfl
theorem AM{l:List aV.Prod}{T:Nat}{nx:List Int}{t:Nat}{s:List bV.Item}{c:Nat}:(g_ l T nx t s c).length<=1+s.length:=by
 unfold g_;rw[bT];have:=List.length_filterMap_le (yP l c) s;split;rw[ky];omega;rw[gJ];omega
theorem I6(v:Value)(g:eL)(T:Nat)(IE:g.aT=(T:Int))(hT:T<=30)(bS oS lS cS bN oN lN cN n:Nat)(nZ vn1:Value)(s:List bV.Item)(nx:List Int)(w:World)(hG:kz (λk=>k<w.heap.size) w v g)(Bi:g.aF.length<=40)(hnS:n<lS)(hcS:w.cell? ⟨bS,oS+n,ak⟩=aj nZ)(C_:Sl w nZ s.length (s.flatMap jk))(hnN:n<lN)(hcN:w.cell? ⟨bN,oN+n,ak⟩=aj vn1)(hn1:Sl w vn1 nx.length (nx.map (av .i64)))(hnl:T<=nx.length)(hr:∀it∈s,eU g.aF T it)(rj:s.length<=20000)(_:n<=1000000):
 Calls aC 87 #[v,aU #[ap (aj ⟨bS,oS,ak⟩) lS cS,ap (aj ⟨bN,oN,ak⟩) lN cN],av az (n:Int)] w (cY (LJ T (kJ g.aF T s nx)) w):=by
 obtain⟨vp,rfl,hp,-,-⟩:=hG;obtain⟨bp,cp,rfl,H',E6,oC⟩:=hp;obtain⟨bs,cs,rfl,-,hmS,hrS⟩:=C_;obtain⟨bn,cn,rfl,-,hmN,hrN⟩:=hn1;unfold maxLen at hmS hmN;rw[IE];have K0:=O8;have MJ:=O9;have hb3:=O_;refine enter (args:=[ee (T:Int) g.bM (ap bp g.aF.length cp),aU #[ap (aj ⟨bS,oS,ak⟩) lS cS,ap (aj ⟨bN,oN,ak⟩) lN cN],av az (n:Int)]) (n:=113) Tryz.func87 I I I ?_;refine bC (aM (b_ I I I λg3=>?_));refine zL ?_;refine b_ I I I λg4=>?_;refine zL ?_
 repeat(first|refine GC ?_|refine gV (aB (v:=av az (T:Int)) aL.ty I (aH (i:=0) I I)) ?_|refine gV (bL (r:=((T+1:Nat):Int)) I I J J J) ?_|refine GB ?_)
 refine pA (m:=T+1) vJ (ap ak 0 0) I I J J I λg7=>?_;refine zL ?_
 repeat(first|refine GA ?_|refine gV (aB (v:=av az (T:Int)) aL.ty I (aH (i:=0) I I)) ?_)
 refine mN (jB (λj=>j<T+1) (oz (λ_=>ap ak 0 0) (g_ g.aF T nx 0 []))) (λk hk=>hk.elim (λh=>by cases h) λ⟨i,hi,h⟩=>h.elim (λh=>by cases h) id) (λw=>⟨λi hi=>?_,λi j _ _ _ k h=>h.elim (λh=>by cases h) nk⟩) ?_
 ·unfold oz g_
  rw[if_neg J];exact Xx _ _ _ _
 conv=>arg 7;simp only[zA,zB,zC,zD,zE,zF,zG,zH,zI,dg,ret,id_eq]
 refine eK (ι:=Nat×(Nat->Value)) (λ(t,_)=>t<=T) (λ(t,_)=>[(2,av az (n:Int)),(3,aK (aj ⟨g3,0,ak⟩)),(4,aK (aj ⟨g4,0,ak⟩)),(7,ap (aj ⟨g7,0,ak⟩) (T+1) (T+1)),(17,av az (T:Int)),(18,av az (t:Int))])
  (λ(t,vs)=>[aR g3 (ee (T:Int) g.bM (ap bp g.aF.length cp)).cells 33,aR g4 (aU #[ap (aj ⟨bS,oS,ak⟩) lS cS,ap (aj ⟨bN,oN,ak⟩) lN cN]).cells 203,fO 92 vJ g7 (T+1) vs,jB (λj=>j<T+1) (oz vs (g_ g.aF T nx t []))]) (λ(t,_)=>T-t) (0,λ_=>ap ak 0 0) (bO _) ?_
 rintro⟨t,vs⟩ i1;dsimp only at i1⊢
 by_cases c1:t<T
 ·obtain⟨b,off,rfl,fl⟩:=hrN J
  have hny:(nx.map (av .i64))[t]?=aj (av az (nx.getD t 0)):=by
   rw[fx,cK,bQ J];rfl
  have d_:=λ(L:List cU)=>jb (W:=w) (L:=L) fl hny;have htl:t<nx.length:=by omega
  have Pa:∀j,j≠t->g_ g.aF T nx (t+1) [] j=g_ g.aF T nx t [] j:=λj hj=>by
   unfold g_;have:(j<t+1/\0<=nx.getD j 0)↔(j<t/\0<=nx.getD j 0):=by constructor<;>(rintro⟨h1,h2⟩;exact⟨by omega,h2⟩)
   simp only[this]
  have Bq:g_ g.aF T nx (t+1) [] t=if 0<=nx.getD t 0 then [(1,nx.getD t 0)]else []:=by
   unfold g_
   by_cases c:0<=nx.getD t 0
   rw[if_pos ⟨ox t,c⟩,if_pos c];rfl;rw[if_neg (λh=>c h.2),if_neg c];rfl
  have X6:g_ g.aF T nx t [] t=[]:=by unfold g_;rw[if_neg (λh=>IX t h.1)];rfl
  generalize nx.getD t 0=y at*
  repeat(first|refine GA ?_|refine gV (aB (v:=ap (aj ⟨bN,oN,ak⟩) lN cN) aL.ty I (aH (i:=1) I I)) ?_|refine gV (cT bR.eq aL.ty I I hnN) ?_|refine gV (aB (v:=ap (aj ⟨b,off,ak⟩) nx.length cn) aL.ty I (kw hcN)) ?_|refine gV (cT bR.eq aL.ty I I htl) ?_|refine gV (aB (v:=av az y) aL.ty I (d_ _)) ?_)
  by_cases c2:0<=y
  ·rw[if_pos c2]at Bq
   repeat(first|refine GC ?_|refine gV (dQ (b:=aD) I I (decide_eq_true c2)) ?_|refine gV (cT bR.eq aL.ty I I (show t<T+1 by omega)) ?_|refine gV (aB aL.ty I (gL (i:=2) I (show t<T+1 by omega))) ?_|refine gV (bP I (K0 _)) ?_|refine GB ?_)
   refine Qh (q:=3) t I (show t<T+1 by omega) ?_;have hFt:oz vs (g_ g.aF T nx t []) t=bD 94 2 (vs t) 0 []:=by unfold oz;rw[X6];rfl
   rw[hFt];refine zL ?_;refine jH (i:=4) I I I I I I I (λz h=>by cases h;rfl) J J I λz v3=>?_;refine zL ?_
   repeat(first|refine GA ?_|refine gV (cT bR.eq aL.ty I I (show t<T+1 by omega)) ?_)
   refine aY (i:=4) I λlm lW=>?_;refine jj (i:=2) (v:=v3) (λj=>if j=t then v3 else vs j) aL.ty I I I lm lW (show t<T+1 by omega) (λj _=>rfl) ?_;refine zL ?_;refine Wb (D':=λj=>j<T+1) (f':=oz (λj=>if j=t then v3 else vs j) (g_ g.aF T nx (t+1) [])) t 3 4 [0,1,2] ahk I I I (λh=>h.2 I) (λj hj=>by
    by_cases e:j=t
    exact .inr e;exact .inl ⟨hj,e⟩) (λj hj=>by
    by_cases e:j=t
    ·subst e
     rw[Am];unfold oz;dsimp only;rw[Bq,if_pos I];rfl
    rw[Al e];unfold oz;dsimp only;rw[Pa j e,if_neg e]) ?_
   refine zL ?_
   try refine GA ?_
   exact cJ (t+1,λj=>if j=t then v3 else vs j) (by show t+1<=T;omega) (by show T-(t+1)<T-t;omega)
  rw[if_neg c2]at Bq;have tf:g_ g.aF T nx (t+1) []=g_ g.aF T nx t []:=funext λj=>by
   by_cases e:j=t
   subst e;rw[Bq,X6];exact Pa j e
  repeat(first|refine GC ?_|refine gV (dQ (b:=aE) I I (decide_eq_false c2)) ?_|refine GB ?_)
  exact cJ (t+1,vs) (by show t+1<=T;omega) (by show T-(t+1)<T-t;omega) (hl:=by dsimp only;rw[tf])
 obtain rfl:t=T:=by omega
 repeat(first|refine GA ?_|refine gV (aB (v:=ap (aj ⟨bS,oS,ak⟩) lS cS) aL.ty I (aH (i:=1) I I)) ?_|refine gV (cT bR.eq aL.ty I I hnS) ?_|refine gV (aB (v:=ap bs s.length cs) aL.ty I (kw hcS)) ?_)
 refine eK (ι:=Nat×(Nat->Value)) (λ(k,_)=>k<=s.length) (λ(k,_)=>[(3,aK (aj ⟨g3,0,ak⟩)),(7,ap (aj ⟨g7,0,ak⟩) (t+1) (t+1)),(47,ap bs s.length cs),(48,av az (s.length:Int)),(49,av az (k:Int))])
  (λ(k,vs)=>[aR g3 (ee (t:Int) g.bM (ap bp g.aF.length cp)).cells 33,aR g4 (aU #[ap (aj ⟨bS,oS,ak⟩) lS cS,ap (aj ⟨bN,oN,ak⟩) lN cN]).cells 203,fO 92 vJ g7 (t+1) vs,jB (λj=>j<t+1) (oz vs (g_ g.aF t nx t (s.take k)))]) (λ(k,_)=>s.length-k) (0,vs) (bO _) ?_
 rintro⟨k,vs⟩ j1;dsimp only at j1⊢;clear K0
 by_cases c2:k<s.length
 ·obtain⟨b,off,rfl,fl⟩:=hrS J
  have d_:=λ(L:List cU)=>iB (L:=L) lU fl c2;have DS:∀(L:List cU) (j:Nat) (u:Value),(jk s[k])[j]?=aj u->At (w:b9) L ⟨b,off+k*3+j,ak⟩ u:=d_;clear d_ fl hrS;have hxr:=hr s[k] (cV c2);have rl:s.take (k+1)=s.take k++[s[k]]:=ia c2;have qQ:∀c,g_ g.aF t nx t (s.take (k+1)) c=g_ g.aF t nx t (s.take k) c++(match yP g.aF c s[k]with|some x=>[x]|none=>[]):=λc=>by
   rw[rl];unfold g_;rw[List.filterMap_append,<-eZ]
   congr 1
   rw[List.filterMap_cons]
   cases yP g.aF c s[k]<;>rfl
  have hlen:∀c,(g_ g.aF t nx t (s.take k) c).length<=20001:=λc=>fI AM (by rw[jR];omega);generalize hit:s[k]=it at*;obtain⟨p,d,lo⟩:=it;obtain⟨r1,r2,r3,r4,r5,r6⟩:=hxr;dsimp only at r1 r2 r3 r4 r5 r6;obtain⟨pn,rfl⟩:=jg r1;obtain⟨dn,rfl⟩:=jg r3;obtain⟨ln,rfl⟩:=jg r5;have wV:ln<t+1:=by omega
  have Pa:∀j,j≠ln->g_ g.aF t nx t (s.take (k+1)) j=g_ g.aF t nx t (s.take k) j:=λj hj=>by
   rw[qQ j];have:yP g.aF j ((pn:Int),(dn:Int),(ln:Int))=none:=by
    unfold yP;rw[if_pos (by show(ln:Int)≠(j:Int);omega)]
   rw[this,eB]
  have pH:=qQ ln;unfold yP at pH;rw[if_neg (by show ¬(ln:Int)≠(ln:Int);simp)]at pH;dsimp only at pH;clear qQ rl
  repeat(first|refine GA ?_|refine gV (a_ bR.eq aL.ty I I c2) ?_|refine gV (bH (cs:=jk ((pn:Int),(dn:Int),(ln:Int))) aL.ty I I (DS _)) ?_)
  refine bz I λg11=>?_;refine zL ?_;refine il 4 (cs':=(jk ((pn:Int),(dn:Int),(ln:Int))).toArray) ?_;refine zL ?_;have hFt:oz vs (g_ g.aF t nx t (s.take k)) ln=bD 94 2 (vs ln) (g_ g.aF t nx t (s.take k) ln).length ((g_ g.aF t nx t (s.take k) ln).flatMap jC):=rfl;have R5:=hlen ln
  by_cases q1:pn=g.aF.length
  ·subst q1
   by_cases q2:dn=1
   ·subst q2
    have Bq:g_ g.aF t nx t (s.take (k+1)) ln=g_ g.aF t nx t (s.take k) ln++[(3,0)]:=by
     rw[if_pos ⟨rfl,rfl⟩]at pH;exact pH
    repeat(first|refine GA ?_|refine gV (aB (v:=av az (g.aF.length:Int)) aL.ty I (aH (i:=4) I I)) ?_|refine gV (aB (v:=ap bp g.aF.length cp) aL.ty I (aH (i:=0) I I)) ?_|refine gV (aB (v:=av az 1) aL.ty I (aH (i:=4) I I)) ?_)
    refine NS (q:=3) ln I wV ?_;rw[hFt]
    conv=>arg 7;simp only[zA,zB,zC,zD,zE,zF,zG,zH,zI,dg,ret,id_eq]
    refine eo ([aR g11 (jk ((g.aF.length:Int),1,(ln:Int))).toArray 278]) (.calm 0 (.calm 1 (.calm 2 (.calm 3 (.calm 4 (.calm 5 (.calm 6 (.calm 8 (.two 7 (.one 9 (.one 10 (.calm 11 (.one 12 (.done))))) 9 (.one 7 (.one 10 (.calm 11 (.one 12 (.done)))))))))))))) (cH [4]) ?_
    repeat(first|refine GW ?_|(refine GN ?_;first|refine QW (aB (v:=av az (ln:Int)) aL.ty I (aH (i:=0) I I)) ?_|refine QW (cT bR.eq aL.ty I I wV) ?_|refine QW (bP I hb3) ?_))
    refine e9 I I ?ae1 ?ae2
    case' ae1=>
     refine aI (aB aL.ty I (gL (i:=2) I wV)) I I I (aP (cH [4]) ?_);refine aO I (fX (cs:=(jC (3,0)).toArray) I I I I I λg74=>aP (cH [4]) ?_)
    case' ae2=>
     refine fX (cs:=(jC (3,0)).toArray) I I I I I λg74=>aP (cH [4]) ?_;refine aO I (aI (aB aL.ty I (gL (i:=2) I wV)) I I I (aP (cH [4]) ?_))
    all_goals
     refine aO I (mK (i:=5) (q:=6) I I I I I I J J I λv3=>aP (cH [4]) ?_)
     repeat(first|refine GW ?_|(refine GN ?_;first|refine QW (cT bR.eq aL.ty I I wV) ?_))
     refine aO I (aY (i:=5) I λlm lW=>jj (i:=2) (v:=v3) (λj=>if j=ln then v3 else vs j) aL.ty I I I lm lW wV (λj _=>rfl) (aP (cH [4]) ?_))
     try refine GW ?_
     refine Qi (D':=λj=>j<t+1) (f':=oz (λj=>if j=ln then v3 else vs j) (g_ g.aF t nx t (s.take (k+1)))) ln 3 5 [0,1,2] ahk I I I (λh=>h.2 I) (λj hj=>by
      by_cases e:j=ln
      exact .inr e;exact .inl ⟨hj,e⟩) (λj hj=>by
      by_cases e:j=ln
      ·subst e
       rw[Am];unfold oz;dsimp only;rw[Bq,if_pos I,bT,fV];rfl
      rw[Al e];unfold oz;dsimp only;rw[Pa j e,if_neg e]) ?_
     try refine GA ?_
     exact cJ (k+1,λj=>if j=ln then v3 else vs j) (by show k+1<=s.length;omega) (by show s.length-(k+1)<s.length-k;omega)
   have tf:g_ g.aF t nx t (s.take (k+1))=g_ g.aF t nx t (s.take k):=funext λj=>by
    by_cases e:j=ln
    ·subst e
     rw[if_neg (λh=>q2 (by have:=h.2;omega)),if_neg (λh=>by have:=h.1;omega)]at pH;rw[pH];exact eB _
    exact Pa j e
   repeat(first|refine GA ?_|refine gV (aB (v:=av az (g.aF.length:Int)) aL.ty I (aH (i:=4) I I)) ?_|refine gV (aB (v:=ap bp g.aF.length cp) aL.ty I (aH (i:=0) I I)) ?_|refine gV (aB (v:=av az (dn:Int)) aL.ty I (aH (i:=4) I I)) ?_)
   refine eo ([aR g3 (ee (t:Int) g.bM (ap bp g.aF.length cp)).cells 33,aR g11 (jk ((g.aF.length:Int),(dn:Int),(ln:Int))).toArray 278]) (.calm 0 (.calm 1 (.calm 2 (.calm 3 (.calm 4 (.calm 5 (.calm 6 (.calm 7 (.calm 8 (.calm 9 (.calm 10 (.calm 11 (.calm 12 (.calm 13 (.calm 14 (.calm 15 (.calm 16 (.calm 17 (.calm 18 (.calm 19 (.done))))))))))))))))))))) (cH [0,4]) ?_
   repeat(first|refine GW ?_|(refine GN ?_;first|refine QW (aB (v:=av az (g.aF.length:Int)) aL.ty I (aH (i:=1) I I)) ?_|refine QW (aB (v:=ap bp g.aF.length cp) aL.ty I (aH (i:=0) I I)) ?_))
   try refine GA ?_
   refine dS [0,1,2,3] ?_;exact cJ (k+1,vs) (by show k+1<=s.length;omega) (by show s.length-(k+1)<s.length-k;omega) (hl:=by dsimp only;rw[tf];rfl)
  have hpn:pn<g.aF.length:=by omega
  obtain⟨pb,po,rfl,hFb,hpr⟩:=oC J;obtain⟨bb,cb,hq1,hq2,hq3⟩:=lT hpr hpn;have hpg:g.aF[pn]=dC g.aF (pn:Int):=by
   unfold dC;rw[dP,cK,bQ hpn];rfl
  rw[hpg]at hq1 hq2 hq3;have ae3:∀(L:List cU) (j:Nat) (v:Value),([av az (dC g.aF (pn:Int)).1,ap bb (dC g.aF (pn:Int)).2.length cb]:List Value)[j]?=aj v->At w L ⟨pb,po+pn*2+j,ak⟩ v:=λL j v hj=>jb hq1 hj;clear hpr oC hq1 hq3
  by_cases q2:dn=(dC g.aF (pn:Int)).2.length
  ·subst q2
   have Bq:g_ g.aF t nx t (s.take (k+1)) ln=g_ g.aF t nx t (s.take k) ln++[(2,(pn:Int))]:=by
    rw[if_neg (λh=>q1 (by have:=h.1;omega)),if_pos ⟨by omega,rfl⟩]at pH;exact pH
   repeat(first|refine GA ?_|refine gV (aB (v:=av az (pn:Int)) aL.ty I (aH (i:=4) I I)) ?_|refine gV (aB (v:=ap (aj ⟨pb,po,ak⟩) g.aF.length cp) aL.ty I (aH (i:=0) I I)) ?_)
   refine eo ([aR g3 (ee (t:Int) g.bM (ap (aj ⟨pb,po,ak⟩) g.aF.length cp)).cells 33,aR g11 (jk ((pn:Int),((dC g.aF (pn:Int)).2.length:Int),(ln:Int))).toArray 278]) (.calm 0 (.calm 1 (.calm 2 (.calm 3 (.calm 4 (.calm 5 (.calm 6 (.calm 7 (.calm 8 (.calm 9 (.calm 10 (.calm 11 (.calm 12 (.calm 13 (.calm 14 (.calm 15 (.calm 16 (.calm 17 (.calm 18 (.calm 19 (.done))))))))))))))))))))) (cH [0,4]) ?_
   repeat(first|refine GW ?_|(refine GN ?_;first|refine QW (aB (v:=av az (pn:Int)) aL.ty I (aH (i:=1) I I)) ?_|refine QW (aB (v:=av az ((dC g.aF (pn:Int)).2.length:Int)) aL.ty I (aH (i:=1) I I)) ?_|refine QW (aB (v:=ap (aj ⟨pb,po,ak⟩) g.aF.length cp) aL.ty I (aH (i:=0) I I)) ?_|refine QW (a_ bR.eq aL.ty I I hpn) ?_|refine QW (aB (v:=ap bb (dC g.aF (pn:Int)).2.length cb) aL.ty I (ae3 _ 1 _ I)) ?_))
   try refine GA ?_
   refine NS (q:=3) ln I wV ?_;rw[hFt]
   conv=>arg 7;simp only[zA,zB,zC,zD,zE,zF,zG,zH,zI,dg,ret,id_eq]
   refine eo ([aR g11 (jk ((pn:Int),((dC g.aF (pn:Int)).2.length:Int),(ln:Int))).toArray 278]) (.calm 0 (.calm 1 (.calm 2 (.calm 3 (.calm 4 (.calm 5 (.calm 6 (.calm 8 (.calm 9 (.calm 10 (.two 7 (.one 11 (.one 12 (.calm 13 (.one 14 (.done))))) 11 (.one 7 (.one 12 (.calm 13 (.one 14 (.done)))))))))))))))) (cH [4]) ?_
   repeat(first|refine GW ?_|(refine GN ?_;first|refine QW (aB (v:=av az (ln:Int)) aL.ty I (aH (i:=0) I I)) ?_|refine QW (aB (v:=av az (pn:Int)) aL.ty I (aH (i:=0) I I)) ?_|refine QW (cT bR.eq aL.ty I I wV) ?_|refine QW (bP I (MJ _)) ?_))
   refine e9 I I ?ae4 ?ae5
   case' ae4=>
    refine aI (aB aL.ty I (gL (i:=2) I wV)) I I I (aP (cH [4]) ?_);refine aO I (fX (cs:=(jC (2,(pn:Int))).toArray) I I I I I λg74=>aP (cH [4]) ?_)
   case' ae5=>
    refine fX (cs:=(jC (2,(pn:Int))).toArray) I I I I I λg74=>aP (cH [4]) ?_;refine aO I (aI (aB aL.ty I (gL (i:=2) I wV)) I I I (aP (cH [4]) ?_))
   all_goals
    refine aO I (mK (i:=5) (q:=6) I I I I I I J J I λv3=>aP (cH [4]) ?_)
    repeat(first|refine GW ?_|(refine GN ?_;first|refine QW (cT bR.eq aL.ty I I wV) ?_))
    refine aO I (aY (i:=5) I λlm lW=>jj (i:=2) (v:=v3) (λj=>if j=ln then v3 else vs j) aL.ty I I I lm lW wV (λj _=>rfl) (aP (cH [4]) ?_))
    try refine GW ?_
    refine Qi (D':=λj=>j<t+1) (f':=oz (λj=>if j=ln then v3 else vs j) (g_ g.aF t nx t (s.take (k+1)))) ln 3 5 [0,1,2] ahk I I I (λh=>h.2 I) (λj hj=>by
     by_cases e:j=ln
     exact .inr e;exact .inl ⟨hj,e⟩) (λj hj=>by
     by_cases e:j=ln
     ·subst e
      rw[Am];unfold oz;dsimp only;rw[Bq,if_pos I,bT,fV];rfl
     rw[Al e];unfold oz;dsimp only;rw[Pa j e,if_neg e]) ?_
    try refine GA ?_
    exact cJ (k+1,λj=>if j=ln then v3 else vs j) (by show k+1<=s.length;omega) (by show s.length-(k+1)<s.length-k;omega)
  have tf:g_ g.aF t nx t (s.take (k+1))=g_ g.aF t nx t (s.take k):=funext λj=>by
   by_cases e:j=ln
   ·subst e
    rw[if_neg (λh=>q1 (by have:=h.1;omega)),if_neg (λh=>q2 (by have:=h.2;omega))]at pH;rw[pH];exact eB _
   exact Pa j e
  repeat(first|refine GA ?_|refine gV (aB (v:=av az (pn:Int)) aL.ty I (aH (i:=4) I I)) ?_|refine gV (aB (v:=ap (aj ⟨pb,po,ak⟩) g.aF.length cp) aL.ty I (aH (i:=0) I I)) ?_)
  refine eo ([aR g3 (ee (t:Int) g.bM (ap (aj ⟨pb,po,ak⟩) g.aF.length cp)).cells 33,aR g11 (jk ((pn:Int),(dn:Int),(ln:Int))).toArray 278]) (.calm 0 (.calm 1 (.calm 2 (.calm 3 (.calm 4 (.calm 5 (.calm 6 (.calm 7 (.calm 8 (.calm 9 (.calm 10 (.calm 11 (.calm 12 (.calm 13 (.calm 14 (.calm 15 (.calm 16 (.calm 17 (.calm 18 (.calm 19 (.done))))))))))))))))))))) (cH [0,4]) ?_
  repeat(first|refine GW ?_|(refine GN ?_;first|refine QW (aB (v:=av az (pn:Int)) aL.ty I (aH (i:=1) I I)) ?_|refine QW (aB (v:=av az (dn:Int)) aL.ty I (aH (i:=1) I I)) ?_|refine QW (aB (v:=ap (aj ⟨pb,po,ak⟩) g.aF.length cp) aL.ty I (aH (i:=0) I I)) ?_|refine QW (a_ bR.eq aL.ty I I hpn) ?_|refine QW (aB (v:=ap bb (dC g.aF (pn:Int)).2.length cb) aL.ty I (ae3 _ 1 _ I)) ?_))
  try refine GA ?_
  refine dS [0,1,2,3] ?_;exact cJ (k+1,vs) (by show k+1<=s.length;omega) (by show s.length-(k+1)<s.length-k;omega) (hl:=by dsimp only;rw[tf];rfl)
 ·obtain rfl:k=s.length:=by omega
  rw[List.take_length]
  try refine GA ?_
  exact da I I λw hm=>hm.meets (S:=LJ t (kJ g.aF t s nx)) (g7,vs) trivial [2,3] ahk I
end cZ
namespace cZ
open Go.RowKit dr eH aV ey eg bV dq
section
variable{P:Program}{n:Nat}{W:b9}{fr:Fr}{L:List cU}{Q:Exit->Act->World->Prop}{ops:Array Oper}{rest:List Oper}{d:Nat}{ty:TypeId}{pos:String}{after:Array Edge}
theorem LK{α:Type}{f:α->List Value}{c:Nat}(hc:∀a,(f a).length=c)(h0:0<c)(z:α){t e:TypeId}{x y:Operand}{bytes m:Nat}{k k':IntKind}{zs:Array Value}[tA P t e c bytes][fm P e zs](hz:zs.toList=f z)(hx:ev fr x=aj (.int k (m:Int)))(hy:ev fr y=aj (.int k' (m:Int)))(hb:bytes*m<=281474976710656)(r9:m<=9223372036854775807)(hn:dM d n=aD)
 (h:∀g,TL P n W ops Q rest ((d,ap (aj ⟨g,0,ak⟩) m m)::fr) (L++[bD e c (ap (aj ⟨g,0,ak⟩) m m) m ((dJ m z).flatMap f)])):TL P n W ops Q (⟨aj d,.makeSlice t x y,ty,pos,after,ak⟩::rest) fr L:=by
 refine um hx hy (bJ _) hb r9 hn λg=>F5 (i:=L.length) c (List.getElem?_concat_length ..) (by rw[size_madeCells]) (bJ _) r9 ?_;have hsz:zs.size=c:=by rw[<-Array.length_toList,hz,hc]
 have hl:(madeCells zs (m*c)).toList.take (m*c)=(dJ m z).flatMap f:=by
  rw[abL hsz h0,gj (by simp[hz,hc]),hz,OW,AH]
 rw[hl];have:=h g
 rwa [List.set_append_right _ _ (bJ _),px,List.set_cons_zero]
end
abbrev Ue:=Int×Int×bV.Act×bV.Act
def LL(x:Ue):List Value:=[av az x.1,av az x.2.1,av az x.2.2.1.1,av az x.2.2.1.2,av az x.2.2.2.1,av az x.2.2.2.2]
def oM:wF bV.Act:=yv jC 2 (λ_=>rfl) (λ_=>True)
section
variable(l:List aV.Prod)(T:Nat)(Nx:List (List Int))(S:List (List bV.Item))
abbrev Et(q c:Nat):List bV.Act:=kJ l T (S.getD q []) (Nx.getD q []) c
def wx(q c:Nat):List Ue:=(Et l T Nx S q c).tail.map λx=>((q:Int),(c:Int),(Et l T Nx S q c).headD (0,0),x)
def iX(q:Nat):Nat->List Ue
 |0=>[]
 |c+1=>iX q c++wx l T Nx S q c
def iY:Nat->List Ue
 |0=>[]
 |q+1=>iY q++iX l T Nx S q (T+1)
def ix(q c:Nat):List bV.Act:=(eG (T+1)).map λj=>if j<c then pI l T Nx S q j else(0,0)
def iH(n:Nat):List (List bV.Act):=(eG n).map λq=>ix l T Nx S q (T+1)
def fT(n:Nat):List (List Int):=(eG n).map λq=>(Nx.getD q []).drop T
end
def i_(g:eL):List (List bV.Act)×List (List Int)×List Ue×Int:=if(jJ g).2.2≠0 then([],[],[],(jJ g).2.2)else(iH g.aF g.aT.toNat (jJ g).1 (jJ g).2.1 (jJ g).2.1.length,fT g.aT.toNat (jJ g).1 (jJ g).2.1.length,iY g.aF g.aT.toNat (jJ g).1 (jJ g).2.1 (jJ g).2.1.length,0)
structure Pb where
 vA:Value
 BU:List Value
 FA:Nat->Prop
 vG:Value
 BV:List Value
 FG:Nat->Prop
def Tu(x:Pb)(A:List (List bV.Act))(G:List (List Int)):List cU:=[bD 92 1 x.vA A.length x.BU,eO (bW oM) x.FA (x.BU.map λv=>[v]) A,bD 26 1 x.vG G.length x.BV,eO (bW fY) x.FG (x.BV.map λv=>[v]) G]
def Pc(g:eL):Spec (Pb×Value):=⟨λ_=>True,λx=> .tuple #[aU #[x.1.vA,x.1.vG],x.2,av az (i_ g).2.2.2],λx=>Tu x.1 (i_ g).1 (i_ g).2.1++[bD 208 6 x.2 (i_ g).2.2.1.length ((i_ g).2.2.1.flatMap LL)]⟩
theorem Pd(w:World):(dR 36 (#[]:Array (Nat×Value))).run aC w= .ok (aU #[ap ak 0 0,ap ak 0 0]) w:=by kernel_rfl
theorem Tv(q c:Int)(a b:bV.Act)(w:World):(dR 208 #[(0,av az q),(1,av az c),(2,aU (jC a).toArray),(3,aU (jC b).toArray)]).run aC w= .ok (aU (LL (q,c,a,b)).toArray) w:=by kernel_rfl
theorem Eu{w:World}{v:Value}{l:List bV.Act}(h:(bD 94 2 v l.length (l.flatMap jC)).holds w):(bW oM).is (λk=>v.ownBlock=aj k) w [v] l:=
 ⟨v,rfl,kH.of_flat (Sl.dY h) (λ_ _=>trivial) (λ_ h=>h) (λa n cp hv=>by rw[hv];rfl)⟩
theorem pX{l:List aV.Prod}{T:Nat}{Nx:List (List Int)}{S:List (List bV.Item)}{q c:Nat}:(ix l T Nx S q c).length=T+1:=by unfold ix;rw[dX,pw]
theorem X7{l:List aV.Prod}{T:Nat}{Nx:List (List Int)}{S:List (List bV.Item)}{q:Nat}:ix l T Nx S q 0=dJ (T+1) (0,0):=by
 unfold ix;apply mG;intro j
 by_cases h:j<T+1
 simp[h];simp[h]
theorem Pe{l:List aV.Prod}{T:Nat}{Nx:List (List Int)}{S:List (List bV.Item)}{q c:Nat}(hc:c<T+1):(ix l T Nx S q c).set c (pI l T Nx S q c)=ix l T Nx S q (c+1):=by
 unfold ix;apply mG;intro j;rw[List.getElem?_set]
 by_cases h:j<T+1
 ·by_cases e:c=j
  subst e;simp[h];rw[if_neg e];simp only[fx,De h,Option.map_some]
  by_cases e2:j<c
  rw[if_pos e2,if_pos J];rw[if_neg e2,if_neg J]
 have h1:(eG (T+1))[j]?=none:=jE (by rw[pw];omega);simp only[fx,h1,Option.map_none];split
 ·rename_i e;subst e;exact absurd hc h
 rfl
theorem LM{l:List aV.Prod}{T:Nat}{Nx:List (List Int)}{S:List (List bV.Item)}{q c:Nat}(h:Et l T Nx S q c=[]):ix l T Nx S q (c+1)=ix l T Nx S q c:=by
 unfold ix;apply List.map_congr_left;intro j hj
 by_cases e:j=c
 ·subst e
  rw[if_pos (ox _),if_neg (IX _)];unfold pI;rw[show kJ l T (S.getD q []) (Nx.getD q []) j=[]from h];rfl
 by_cases e2:j<c
 rw[if_pos e2,if_pos J];rw[if_neg e2,if_neg J]
theorem Ew{l:List aV.Prod}{T:Nat}{Nx:List (List Int)}{S:List (List bV.Item)}{q:Nat}{M:Nat}(h:(S.getD q []).length<=M):∀c,(iX l T Nx S q c).length<=c*(M+1)
 |0=>bO _
 | c +1=>by
  rw[iX,bT,kQ];have h2:(wx l T Nx S q c).length<=M+1:=by
   unfold wx;rw[dX,IV];have:(Et l T Nx S q c).length<=1+(S.getD q []).length:=by rw[Et,<-G7];exact AM
   omega
  have:=Ew (l:=l) (T:=T) (Nx:=Nx) h c;omega
theorem Br{l:List aV.Prod}{T:Nat}{Nx:List (List Int)}{S:List (List bV.Item)}{M:Nat}(h:∀q,(S.getD q []).length<=M):∀q,(iY l T Nx S q).length<=q*((T+1)*(M+1))
 |0=>bO _
 |q+1=>by
  rw[iY,bT,kQ];have:=Br (l:=l) (T:=T) (Nx:=Nx) h q;have:=Ew (l:=l) (T:=T) (Nx:=Nx) (h q) (T+1);omega
theorem zb{l:List aV.Prod}{T:Nat}{Nx:List (List Int)}{S:List (List bV.Item)}{q c:Nat}:∀{d:Nat},c<=d->(iX l T Nx S q c).length<=(iX l T Nx S q d).length
  | 0, h => by obtain rfl:c=0:=by omega
               exact bJ _
  | d+1,h=>by
    by_cases e:c=d+1
    subst e;exact bJ _;rw[iX,bT];have:=zb (l:=l) (T:=T) (Nx:=Nx) (S:=S) (q:=q) (c:=c) (d:=d) J;omega
theorem LN{l:List aV.Prod}{T:Nat}{Nx:List (List Int)}{S:List (List bV.Item)}(n:Nat):iH l T Nx S (n+1)=iH l T Nx S n++[ix l T Nx S n (T+1)]:=by unfold iH;rw[Ae,ft];rfl
theorem I7{T:Nat}{Nx:List (List Int)}(n:Nat):fT T Nx (n+1)=fT T Nx n++[(Nx.getD n []).drop T]:=by unfold fT;rw[Ae,ft];rfl
theorem jw{l:List aV.Prod}{T:Nat}{Nx:List (List Int)}{S:List (List bV.Item)}(n:Nat):(iH l T Nx S n).length=n:=by unfold iH;rw[dX,pw]
theorem mu{T:Nat}{Nx:List (List Int)}(n:Nat):(fT T Nx n).length=n:=by unfold fT;rw[dX,pw]
theorem I8(v:Value)(g:eL)(w:World)(hG:kz (λk=>k<w.heap.size) w v g):
 Calls aC 45 #[v] w (cY (Pc g) w):=by
 have hG0:=hG;have hal:=λw' (hg:Gr w w')=>Tc v g w' (hG.gr hg);have hac:=λT IE hT bS oS lS cS bN oN lN cN n nZ vn1 s nx w' (hg:Gr w w')=>I6 v g T IE hT bS oS lS cS bN oN lN cN n nZ vn1 s nx w' (hG.gr hg);obtain⟨vp,rfl,-⟩:=hG;have FV:=Pd;have hO:i_ g=if(jJ g).2.2≠0 then([],[],[],(jJ g).2.2)else(iH g.aF g.aT.toNat (jJ g).1 (jJ g).2.1 (jJ g).2.1.length,fT g.aT.toNat (jJ g).1 (jJ g).2.1.length,iY g.aF g.aT.toNat (jJ g).1 (jJ g).2.1 (jJ g).2.1.length,0):=rfl
 unfold Pc Tu;refine enter (args:=[ee g.aT g.bM vp]) (n:=92) Tryz.func45 I I I ?_;refine bC (aM (b_ I I I λg1=>?_));refine zL ?_
 try refine GA ?_
 refine bz I λg2=>?_;refine zL ?_
 repeat(first|refine GA ?_|refine gV (aQ (i:=0) aL.ty I I I) ?_)
 refine a8 (ju aJ.en I I) (λw hm=>hal w hm.below) I I I ?_;rintro⟨vS,vN,ww,F,Bk,FN⟩ _
 conv=>arg 8;simp only[zJ,dg,ret,id_eq,aal]
 conv=>arg 7;simp only[aal]
 have l7:=QO (g:=g);have hno:=aao (g:=g);obtain⟨⟨Nx,S,e⟩,hOA⟩:∃R,jJ g=R:=⟨_,rfl⟩;rw[hOA]at l7 hno hO;rw[hOA];dsimp only at l7 hno hO⊢;refine qw (i:=2) I gO λij=>?_;obtain⟨aS,cS,rfl,-,haS⟩:=ij;refine qw (i:=4) I gO λij=>?_;obtain⟨aN,cN,rfl,-,haN⟩:=ij;clear hOA hal
 try refine GA ?_
 refine bz I λg5=>?_;refine zL ?_;refine il 6 (cs':=#[ap aS S.length cS,ap aN Nx.length cN]) ?_;refine zL ?_
 try refine GA ?_
 by_cases c0:e=0
 ·subst c0
  rw[if_neg (by simp)]at hO;obtain⟨hg,hA⟩:=l7 rfl;obtain⟨hT1,hT2,hN1,hN2,Bi,hgb⟩:=de hg;have JT:∀q∈g.aF,q.2.length<=8:=λq hq=>(hgb q hq).1;obtain⟨T,IE⟩:∃T:Nat,g.aT=(T:Int):=⟨g.aT.toNat,by omega⟩;obtain⟨N,hNn⟩:∃N:Nat,g.bM=(N:Int):=⟨g.bM.toNat,by omega⟩;have hTn:g.aT.toNat=T:=by omega
  rw[hTn,show g.bM.toNat=N by omega]at hA;rw[hTn]at hO;have hT:T<=30:=by omega
  have hI:=KV JT Bi hT hA;have OJ:=aan JT Bi hT hA;have hS0:0<S.length:=(dv.1 hI.start).1;have hS2:=hI.BO;have hNl:=hI.len;have hac:=hac T IE hT;obtain⟨gS,rfl⟩:=haS hS0;obtain⟨gN,rfl⟩:=haN J;clear l7 hno haS haN;rw[IE,hO];rw[IE]at hac
  try refine GA ?_
  refine bz I λg7=>?_;refine zL ?_
  repeat(first|refine GA ?_|refine gV (aB (v:=ap (aj ⟨gS,0,ak⟩) S.length cS) aL.ty I (aH (i:=6) I I)) ?_)
  refine jy 92 1 (mN (eO (bW oM) (λ_=>False) [] []) (λk hk=>hk.elim (λh=>by cases h) id) (λw=>jD) (jy 26 1 (mN (eO (bW fY) (λ_=>False) [] []) (λk hk=>hk.elim (λh=>by cases h) id) (λw=>jD) (jy 208 6 ?_))))
  conv=>arg 7;simp only[zA,zB,zC,zD,zE,zF,zG,zH,zI,dg,ret,id_eq]
  refine eK (ι:=Nat×Pb×Value) (λ(n,_,_)=>n<=S.length) (λ(n,_,vf)=>[(1,aK (aj ⟨g1,0,ak⟩)),(2,aK (aj ⟨g2,0,ak⟩)),(5,aK (aj ⟨g5,0,ak⟩)),(7,aK (aj ⟨g7,0,ak⟩)),(8,vf),(26,av az (S.length:Int)),(27,av az (n:Int))])
   (λ(n,x,vf)=>[aR g1 (ee (T:Int) g.bM vp).cells 33,aR g2 #[ap ak 0 0,ap ak 0 0] 36,bD 273 1 (ap (aj ⟨gS,0,ak⟩) S.length cS) S.length ww,eO (bW IA) F (ww.map λv=>[v]) S,bD 26 1 (ap (aj ⟨gN,0,ak⟩) Nx.length cN) Nx.length Bk,eO (bW fY) FN (Bk.map λv=>[v]) Nx,aR g5 #[ap (aj ⟨gS,0,ak⟩) S.length cS,ap (aj ⟨gN,0,ak⟩) Nx.length cN] 203,aR g7 #[x.vA,x.vG] 36,bD 92 1 x.vA (iH g.aF T Nx S n).length x.BU,eO (bW oM) x.FA (x.BU.map λv=>[v]) (iH g.aF T Nx S n),bD 26 1 x.vG (fT T Nx n).length x.BV,eO (bW fY) x.FG (x.BV.map λv=>[v]) (fT T Nx n),bD 208 6 vf (iY g.aF T Nx S n).length ((iY g.aF T Nx S n).flatMap LL)]) (λ(n,_,_)=>S.length-n) (0,⟨ap ak 0 0,[],λ_=>False,ap ak 0 0,[],λ_=>False⟩,ap ak 0 0) (bO _) ?_
  rintro⟨n,x,vf⟩ i1;dsimp only at i1⊢
  by_cases c1:n<S.length
  ·have hnN:n<Nx.length:=by omega
   have hSn:S.getD n []=S[n]:=by rw[cK,bQ c1];rfl
   have ado:Nx.getD n []=Nx[n]:=by rw[cK,bQ hnN];rfl
   have Ub:=hI.ss.right S[n] (cV c1);have hwd:=hI.wide n c1;rw[ado]at hwd;have rj:=OJ S[n] (cV c1);refine iR (i:=3) I (λw h=>GR h) λZc=>?_;refine iR (i:=5) I (λw h=>GR h) λhnl=>?_;have hvq:ww[0+n]?=aj (ww[n]' J):=by rw[du];exact bQ _
   have ae6:ww[n]?=aj (ww[n]' J):=bQ _;generalize ww[n]' J=vq at hvq ae6;have hnq:Bk[0+n]?=aj (Bk[n]' J):=by rw[du];exact bQ _
   have X8:Bk[n]?=aj (Bk[n]' J):=bQ _;generalize Bk[n]' J=nq at hnq X8;refine iR (i:=5) I (λw h=>dh (W9 h hnN X8) (kH.okp (OE h hnN X8))) λae7=>?_;obtain⟨⟨aq,cq,rfl,hcq,aha,-⟩,ags⟩:=ae7;have wI:(iY g.aF T Nx S n++iX g.aF T Nx S n (T+1)).length<=100000000:=by
    have h1:=Br (l:=g.aF) (T:=T) (Nx:=Nx) (S:=S) (M:=11439) (λq=>by
     by_cases hq:q<S.length
     rw[cK,bQ hq];exact OJ _ (cV hq);rw[cK,jE J];exact bO _) (n+1)
    rw[iY]at h1;exact fI h1 (fI (Ee (show n+1<=200 by omega) (Ee (show T+1<=31 by omega) (bJ _))) ahk)
   have hS1:=λ(L:List cU) (i:Nat) (hL:L[i]?=aj (eO (bW IA) F (ww.map λv=>[v]) S))=>OF (W:=(w:b9)) (L:=L) (f:=jk) (c:=3) ahk hL c1 ae6;have hN1:∀(L:List cU) (i:Nat) (hL:L[i]?=aj (eO (bW fY) FN (Bk.map λv=>[v]) Nx)),Y8 (w:b9) L (.slice aq Nx[n].length cq) Nx[n].length (Nx[n].map (av .i64)):=λL i hL w' rB=>by
    have:=OF (W:=(w:b9)) (L:=L) (f:=λn=>[av .i64 n]) (c:=1) ahk hL hnN X8 w' rB
    rwa [<-Xy]at this
   repeat(first|refine GC ?_|refine gV (aB (v:=av az (T:Int)) aL.ty I (aH (i:=0) I I)) ?_|refine gV (bL (r:=((T+1:Nat):Int)) I I J J J) ?_|refine GB ?_)
   refine LK rU ahk (0,0) I I I J J I λg10=>?_;rw[<-X7 (l:=g.aF) (Nx:=Nx) (S:=S) (q:=n)];refine zL ?_
   repeat(first|refine GA ?_|refine gV (aQ (i:=0) aL.ty I I I) ?_|refine gV (aQ (i:=6) aL.ty I I I) ?_)
   refine a8 (S:=LJ T (kJ g.aF T S[n] Nx[n])) (tH aJ.en I I I I) (λw hm=>hac gS 0 S.length cS gN 0 Nx.length cN n vq (.slice aq Nx[n].length cq) S[n] Nx[n] w hm.below Bi c1 (yB (hm.get (i:=2) I) hvq) (hS1 _ 3 I w hm) hnN (yB (hm.get (i:=4) I) hnq) (hN1 _ 5 I w hm) J Ub J J) I I I ?_;rintro⟨ga,vs⟩ _
   conv=>arg 8;simp only[zJ,dg,ret,id_eq,LJ]
   conv=>arg 7;simp only[LJ]
   rw[<-hSn,<-ado];clear hac
   try refine GA ?_
   refine og (ι:=Nat×Value) (λ(c,_)=>c<=T+1) (λ(c,vf)=>[(1,aK (aj ⟨g1,0,ak⟩)),(2,aK (aj ⟨g2,0,ak⟩)),(5,aK (aj ⟨g5,0,ak⟩)),(7,aK (aj ⟨g7,0,ak⟩)),(8,vf),(26,av az (S.length:Int)),(27,av az (n:Int)),(9,av az (n:Int)),(10,ap (aj ⟨g10,0,ak⟩) (T+1) (T+1)),(37,ap (aj ⟨ga,0,ak⟩) (T+1) (T+1)),(38,av az ((T+1:Nat):Int)),(39,av az (c:Int))])
    (λ(c,vf)=>[aR g1 (ee (T:Int) g.bM vp).cells 33,aR g2 #[ap ak 0 0,ap ak 0 0] 36,bD 273 1 (ap (aj ⟨gS,0,ak⟩) S.length cS) S.length ww,eO (bW IA) F (ww.map λv=>[v]) S,bD 26 1 (ap (aj ⟨gN,0,ak⟩) Nx.length cN) Nx.length Bk,eO (bW fY) FN (Bk.map λv=>[v]) Nx,aR g5 #[ap (aj ⟨gS,0,ak⟩) S.length cS,ap (aj ⟨gN,0,ak⟩) Nx.length cN] 203,aR g7 #[x.vA,x.vG] 36,bD 92 1 x.vA (iH g.aF T Nx S n).length x.BU,eO (bW oM) x.FA (x.BU.map λv=>[v]) (iH g.aF T Nx S n),bD 26 1 x.vG (fT T Nx n).length x.BV,eO (bW fY) x.FG (x.BV.map λv=>[v]) (fT T Nx n),bD 208 6 vf (iY g.aF T Nx S n++iX g.aF T Nx S n c).length ((iY g.aF T Nx S n++iX g.aF T Nx S n c).flatMap LL),bD 94 2 (ap (aj ⟨g10,0,ak⟩) (T+1) (T+1)) (T+1) ((ix g.aF T Nx S n c).flatMap jC),fO 92 vJ ga (T+1) vs,jB (λj=>j<T+1) (oz vs (kJ g.aF T (S.getD n []) (Nx.getD n [])))]) (λ(c,_)=>T+1-c) (0,vf) (bO _) (by repeat' (first|exact dl|refine dh I ?_)) (by dsimp only;rw[iX,eB]) ?_
   rintro⟨c,vf⟩ j1;dsimp only at j1⊢
   by_cases c2:c<T+1
   ·obtain⟨X,hX⟩:∃X,kJ g.aF T (S.getD n []) (Nx.getD n []) c=X:=⟨_,rfl⟩
    have hXl:X.length<=11440:=by
     rw[<-hX,<-G7];have:=AM (l:=g.aF) (T:=T) (nx:=Nx.getD n []) (t:=T) (s:=S.getD n []) (c:=c);rw[hSn]at this⊢;omega
    have ae8:=Pe (l:=g.aF) (Nx:=Nx) (S:=S) (q:=n) c2;have ae9:X=[]->ix g.aF T Nx S n (c+1)=ix g.aF T Nx S n c:=λh=>LM (by unfold Et;rw[hX,h]);have hhd:pI g.aF T Nx S n c=X.headD (0,0):=by unfold pI;rw[hX]
    have Qd:iX g.aF T Nx S n (c+1)=iX g.aF T Nx S n c++X.tail.map λx=>(((n:Int),(c:Int),X.headD (0,0),x):Ue):=by
     rw[iX,wx];unfold Et;rw[hX]
    have ahb:(iY g.aF T Nx S n++iX g.aF T Nx S n c).length<=100000000:=by
     rw[bT]at wI⊢;have:=zb (l:=g.aF) (T:=T) (Nx:=Nx) (S:=S) (q:=n) (show c<=T+1 by omega);omega
    generalize ae_:iY g.aF T Nx S n++iX g.aF T Nx S n c=base at*;refine iR (i:=15) I (λw h=>gO w (h.1 c c2)) λij=>?_;obtain⟨ax,cx,hvc,-,hax⟩:=ij;rw[hX]at hvc hax;have X9:∀(L:List cU) (i:Nat) (gx:Nat),ax=aj ⟨gx,0,ak⟩->L[i]?=aj (jB (λj=>j<T+1) (oz vs (kJ g.aF T (S.getD n []) (Nx.getD n []))))->∀k (hk:k<X.length) (j:Nat) (u:Value),(jC X[k])[j]?=aj u->At (w:b9) L ⟨gx,0+k*2+j,ak⟩ u:=λL i gx hgx hL k hk j u hu=>ZN hL λw h=>by
     have h2:=h.1 c c2;unfold oz at h2;rw[hvc,hX,hgx]at h2;have hj2:j<2:=by rw[<-rU X[k]];exact(dv.1 hu).1
     exact yB h2 (by rw[du,ui rU X k j hk hj2];exact hu)
    repeat(first|refine GA ?_|refine gV (cT bR.eq aL.ty I I c2) ?_|refine gV (aB (v:=ap ax X.length cx) aL.ty I (by have:=gL (W:=(w:b9)) (val:=vJ) (i:=14) (f:=vs) (e:=92) (g:=ga) (len:=T+1) (L:=[aR g1 (ee (T:Int) g.bM vp).cells 33,aR g2 #[ap ak 0 0,ap ak 0 0] 36,bD 273 1 (ap (aj ⟨gS,0,ak⟩) S.length cS) S.length ww,eO (bW IA) F (ww.map λv=>[v]) S,bD 26 1 (ap (aj ⟨gN,0,ak⟩) Nx.length cN) Nx.length Bk,eO (bW fY) FN (Bk.map λv=>[v]) Nx,aR g5 #[ap (aj ⟨gS,0,ak⟩) S.length cS,ap (aj ⟨gN,0,ak⟩) Nx.length cN] 203,aR g7 #[x.vA,x.vG] 36,bD 92 1 x.vA (iH g.aF T Nx S n).length x.BU,eO (bW oM) x.FA (x.BU.map λv=>[v]) (iH g.aF T Nx S n),bD 26 1 x.vG (fT T Nx n).length x.BV,eO (bW fY) x.FG (x.BV.map λv=>[v]) (fT T Nx n),bD 208 6 vf (base).length ((base).flatMap LL),bD 94 2 (ap (aj ⟨g10,0,ak⟩) (T+1) (T+1)) (T+1) ((ix g.aF T Nx S n c).flatMap jC),fO 92 vJ ga (T+1) vs,jB (λj=>j<T+1) (oz vs (kJ g.aF T (S.getD n []) (Nx.getD n [])))]) I c2;rw[hvc]at this;exact this)) ?_)
    refine og (ι:=Nat×Value) (λ(i,_)=>i<=X.length) (λ(i,vf)=>[(1,aK (aj ⟨g1,0,ak⟩)),(2,aK (aj ⟨g2,0,ak⟩)),(5,aK (aj ⟨g5,0,ak⟩)),(7,aK (aj ⟨g7,0,ak⟩)),(8,vf),(26,av az (S.length:Int)),(27,av az (n:Int)),(9,av az (n:Int)),(10,ap (aj ⟨g10,0,ak⟩) (T+1) (T+1)),(37,ap (aj ⟨ga,0,ak⟩) (T+1) (T+1)),(38,av az ((T+1:Nat):Int)),(11,av az (c:Int)),(12,ap ax X.length cx),(39,av az (c:Int)),(44,ap ax X.length cx),(45,av az (X.length:Int)),(46,av az (i:Int))])
     (λ(i,vf)=>[aR g1 (ee (T:Int) g.bM vp).cells 33,aR g2 #[ap ak 0 0,ap ak 0 0] 36,bD 273 1 (ap (aj ⟨gS,0,ak⟩) S.length cS) S.length ww,eO (bW IA) F (ww.map λv=>[v]) S,bD 26 1 (ap (aj ⟨gN,0,ak⟩) Nx.length cN) Nx.length Bk,eO (bW fY) FN (Bk.map λv=>[v]) Nx,aR g5 #[ap (aj ⟨gS,0,ak⟩) S.length cS,ap (aj ⟨gN,0,ak⟩) Nx.length cN] 203,aR g7 #[x.vA,x.vG] 36,bD 92 1 x.vA (iH g.aF T Nx S n).length x.BU,eO (bW oM) x.FA (x.BU.map λv=>[v]) (iH g.aF T Nx S n),bD 26 1 x.vG (fT T Nx n).length x.BV,eO (bW fY) x.FG (x.BV.map λv=>[v]) (fT T Nx n),bD 208 6 vf ((base++(X.tail.take (i-1)).map λx=>(((n:Int),(c:Int),X.headD (0,0),x):Ue))).length (((base++(X.tail.take (i-1)).map λx=>(((n:Int),(c:Int),X.headD (0,0),x):Ue))).flatMap LL),bD 94 2 (ap (aj ⟨g10,0,ak⟩) (T+1) (T+1)) (T+1) ((if i=0 then ix g.aF T Nx S n c else ix g.aF T Nx S n (c+1)).flatMap jC),fO 92 vJ ga (T+1) vs,jB (λj=>j<T+1) (oz vs (kJ g.aF T (S.getD n []) (Nx.getD n [])))]) (λ(i,_)=>X.length-i) (0,vf) (bO _) (by repeat' (first|exact dl|refine dh I ?_)) (by simp) ?_
    rintro⟨i,vf⟩ k1;dsimp only at k1⊢
    by_cases c3:i<X.length
    ·have agt:=λ(L:List cU) (k:Nat) (gx:Nat) (hgx:ax=aj ⟨gx,0,ak⟩) (hL:L[k]?=aj (jB (λj=>j<T+1) (oz vs (kJ g.aF T (S.getD n []) (Nx.getD n [])))))=>X9 L k gx hgx hL i c3
     obtain⟨gx,rfl⟩:=hax J;have adp:∀(L:List cU) (k:Nat),L[k]?=aj (jB (λj=>j<T+1) (oz vs (kJ g.aF T (S.getD n []) (Nx.getD n []))))->∀(j:Nat) (u:Value),(jC (X.headD (0,0)))[j]?=aj u->At (w:b9) L ⟨gx,0+0*2+j,ak⟩ u:=λL k hL j u hu=>X9 L k gx I hL 0 J j u (by
      have:X.headD (0,0)=X[0]' J:=by
       cases X with
       |nil=>exact absurd c3 (Nat.not_lt_zero _)
       |cons y r=>rfl
      rwa [this]at hu)
     have hXi:i=0->X[i]=pI g.aF T Nx S n c:=λe=>by
      subst e;rw[hhd]
      cases X with
      |nil=>exact absurd c3 (mc _)
      |cons y r=>rfl
     have hXt:i≠0->X.tail.take (i+1-1)=X.tail.take (i-1)++[X[i]]:=λe=>by
      obtain⟨m,rfl⟩:∃m,i=m+1:=⟨i-1,by omega⟩
      cases X with
      |nil=>exact absurd c3 (mc _)
      | cons y r=>
       have hm:m<r.length:=by simpa using c3
       show r.take (m+1)=r.take m++[r[m]]
       exact ia hm
     have agO:(base++(X.tail.take (i-1)).map λx=>(((n:Int),(c:Int),X.headD (0,0),x):Ue)).length<=100100000:=by
      rw[bT,dX,jR,IV];omega
     have hbf:=Tv (n:Int) (c:Int) (X.headD (0,0));generalize hXX:X[i]=xa at*;clear X9 hS1 hN1
     repeat(first|refine GA ?_|refine gV (a_ bR.eq aL.ty I I c3) ?_|refine gV (bH (cs:=jC xa) aL.ty I I (agt _ 15 gx I I)) ?_)
     refine bz I λg14=>?_;refine zL ?_
     try refine GA ?_
     refine il 16 (cs':=(jC xa).toArray) ?_;refine zL ?_
     by_cases q1:i=0
     ·subst q1
      rw[if_pos I];have hXi:=hXi I
      repeat(first|refine GA ?_|refine gV (aQ (i:=16) aL.ty I I I) ?_|refine gV (a_ bR.eq aL.ty I I c2) ?_)
      refine z_ rU (k:=c) (a:=xa) (i:=13) aL.ty I I J (by rw[pX];exact c2) pX.symm I I I ?_;rw[hXi,ae8];refine zL ?_
      try refine GA ?_
      refine dS [0,1,2,3,4,5,6,7,8,9,10,11,12,13,14,15] ?_;exact cJ (0+1,vf) (by show 0+1<=X.length;omega) (by show X.length-(0+1)<X.length-0;omega) (hl:=by dsimp only;rw[if_neg J];rfl)
     rw[if_neg q1];have nh:base++(X.tail.take (i+1-1)).map (λx=>(((n:Int),(c:Int),X.headD (0,0),x):Ue))=(base++(X.tail.take (i-1)).map λx=>(((n:Int),(c:Int),X.headD (0,0),x):Ue))++[((n:Int),(c:Int),X.headD (0,0),xa)]:=by rw[hXt q1,ft,<-eZ];rfl
     clear hXt;generalize (base++(X.tail.take (i-1)).map λx=>(((n:Int),(c:Int),X.headD (0,0),x):Ue))=fb at*
     try refine GA ?_
     refine eo ([jB (λj=>j<T+1) (oz vs (kJ g.aF T (S.getD n []) (Nx.getD n []))),aR g14 (jC xa).toArray 94]) (.calm 0 (.calm 1 (.calm 2 (.calm 3 (.calm 4 (.calm 5 (.calm 6 (.calm 7 (.one 8 (.one 9 (.calm 10 (.done)))))))))))) (cH [15,16]) ?_
     repeat(first|refine GW ?_|(refine GN ?_;first|refine QW (a_ (j:=0) bR.eq aL.ty I I (show 0<X.length by omega)) ?_|refine QW (bH (cs:=jC (X.headD (0,0))) aL.ty I I (adp _ 0 I)) ?_|refine QW (aQ (i:=1) aL.ty I I I) ?_|refine QW (bP I (hbf _)) ?_))
     refine aO I (fX (cs:=(LL ((n:Int),(c:Int),X.headD (0,0),xa)).toArray) I I I I I λg65=>aP (cH [15,16]) ?_);refine aO I (mK (i:=12) (q:=17) I I I I I I J J I λvf2=>aP (cH [15,16]) ?_)
     try refine GW ?_
     try refine GA ?_
     refine dS [0,1,2,3,4,5,6,7,8,9,10,11,12,13,14,15] ?_;exact cJ (i+1,vf2) (by show i+1<=X.length;omega) (by show X.length-(i+1)<X.length-i;omega) (hl:=by dsimp only;rw[if_neg J,nh,bT,fV];rfl)
    obtain rfl:i=X.length:=by omega
    have ae':(if X.length=0 then ix g.aF T Nx S n c else ix g.aF T Nx S n (c+1))=ix g.aF T Nx S n (c+1):=by
     by_cases e:X.length=0
     rw[if_pos e];exact(ae9 (List.eq_nil_of_length_eq_zero e)).symm;rw[if_neg e]
    have htt:X.tail.take (X.length-1)=X.tail:=gj (by rw[IV];exact bJ _);rw[ae',htt]
    try refine GA ?_
    exact cJ (c+1,vf) (by show c+1<=T+1;omega) (by show T+1-(c+1)<T+1-c;omega) (hl:=by dsimp only;rw[Qd,<-eZ,ae_])
   obtain rfl:c=T+1:=by omega
   have hTN:T<=Nx[n].length:=by omega
   have X_:(Nx[n].drop T).length=Nx[n].length-T:=iv;have rl:(Nx[n].drop T).take (Nx[n].length-T)=Nx[n].drop T:=gj (by rw[X_];exact bJ _);have hSub:∀(L:List cU) (i:Nat),L[i]?=aj (eO (bW fY) FN (Bk.map λv=>[v]) Nx)->Y8 (w:b9) L (tB aq cq 1 T Nx[n].length) (Nx[n].length-T) ((Nx[n].drop T).map (av .i64)):=λL i hL w' rB=>by
    have h1:=OF (W:=(w:b9)) (L:=L) (f:=λn=>[av .i64 n]) (c:=1) ahk hL hnN X8 w' rB;have h2:=CZ (i:=T) (j:=Nx[n].length) (f:=λn=>[av .i64 n]) (λ_=>rfl) h1 hTN (bJ _);rw[rl,X_,<-Xy]at h2;exact h2
   have abY:((Nx[n].drop T).map (av .i64)).length=(Nx[n].length-T)*1:=by rw[dX,X_,kR]
   have abZ:∀u∈(Nx[n].drop T).map (av .i64),u.oneCell'=true:=λu hu=>by obtain⟨y,_,rfl⟩:=e7.1 hu;rfl
   have hgo:∀{v:Value} {w':World},(bD 3 1 v (0+(Nx[n].length-T)) ([]++(Nx[n].drop T).map (av .i64))).holds w'->(bW fY).is (λk=>v.ownBlock=aj k) w' [v] ((Nx.getD n []).drop T):=λ{v w'} h=>by
    rw[ado];rw[du,fg,<-X_]at h;exact Bj (λy hy=>ags y (uz hy)) h
   repeat(first|refine GA ?_|refine gV (aB (v:=x.vA) aL.ty I (aH (i:=7) I I)) ?_)
   have hAl:=jw (l:=g.aF) (T:=T) (Nx:=Nx) (S:=S) n;have hGl:=mu (T:=T) (Nx:=Nx) n;refine kh (i:=8) I I I I I I (λz h=>by cases h;rfl) J J I λz vA2=>?_;refine zL ?_;refine pj (eO (bW oM) (λk=>x.FA k\/(ap (aj ⟨g10,0,ak⟩) (T+1) (T+1)).ownBlock=aj k) ((x.BU.map λv=>[v])++[[ap (aj ⟨g10,0,ak⟩) (T+1) (T+1)]]) (iH g.aF T Nx S n++[ix g.aF T Nx S n (T+1)])) 13 9 [0,1,2,3,4,5,6,7,8,10,11,12] ahk I I I (λk hk=>hk.elim (λh=>by cases h) λh=>h.elim (λh=> .inr (.inr h)) λh=> .inl (.inl h)) (λw hr he=>mM he (Eu (by rw[pX];exact hr)) (yV hr)) ?_;refine zL ?_
   try refine GA ?_
   refine aY (i:=8) I λlm lW=>cD (i:=7) I I I lm lW I ?_;refine zL ?_
   try refine GA ?_
   refine jy 3 1 ?_
   conv=>arg 7;simp only[zA,zB,zC,zD,zE,zF,zG,zH,zI,dg,ret,id_eq]
   refine eo ([aR g1 (ee (T:Int) g.bM vp).cells 33,bD 26 1 (ap (aj ⟨gN,0,ak⟩) Nx.length cN) Nx.length Bk,eO (bW fY) FN (Bk.map λv=>[v]) Nx,aR g5 #[ap (aj ⟨gS,0,ak⟩) S.length cS,ap (aj ⟨gN,0,ak⟩) Nx.length cN] 203]) (.calm 0 (.calm 2 (.calm 3 (.calm 4 (.calm 5 (.calm 6 (.calm 7 (.calm 8 (.calm 9 (.two 1 (.one 10 (.one 11 (.one 12 (.calm 13 (.one 14 (.done)))))) 10 (.two 1 (.one 11 (.one 12 (.calm 13 (.one 14 (.done))))) 11 (.one 1 (.one 12 (.calm 13 (.one 14 (.done)))))))))))))))) (cH [0,4,5,6]) ?_
   repeat(first|(refine GN ?_;first|refine QW QP ?_|refine QW (aB (v:=ap (aj ⟨gN,0,ak⟩) Nx.length cN) aL.ty I (aH (i:=3) I I)) ?_|refine QW (cT bR.eq aL.ty I I hnN) ?_|refine QW (aB (v:= .slice aq Nx[n].length cq) aL.ty I (kx (i:=1) I hnq)) ?_|refine QW (aB (v:=av az (T:Int)) aL.ty I (aH (i:=0) I I)) ?_|refine QW (oR (i:=T) bR.eq aL.ty I I hTN hcq) ?_|refine GX ?_)|refine GW ?_)
   refine e9 I I ?afa ?afb
   case' afa=>
    refine aI (aB (v:=x.vG) aL.ty I (aH (i:=7) I I)) I I I (aP (cH [0,4,5,6]) ?_);refine aO I (fc (i:=13) (k:=Nx[n].length-T) I (hSub _ 5 I) I I abY abZ J J I λvI=>aP (cH [0,4,5,6]) ?_);refine aO I (aY (i:=13) I λhw1 hw2=>fX (cs:=#[vI]) I hw1 I I I λg86=>aP (cH [0,4,5,6]) ?_)
   case' afb=>
    refine fc (i:=13) (k:=Nx[n].length-T) I (hSub _ 5 I) I I abY abZ J J I λvI=>aP (cH [0,4,5,6]) ?_;refine e9 I I ?afc ?afd
   case' afc=>
    refine aI (aB (v:=x.vG) aL.ty I (aH (i:=7) I I)) I I I (aP (cH [0,4,5,6]) ?_);refine aO I (aY (i:=13) I λhw1 hw2=>fX (cs:=#[vI]) I hw1 I I I λg86=>aP (cH [0,4,5,6]) ?_)
   case' afd=>
    refine aY (i:=13) I λhw1 hw2=>fX (cs:=#[vI]) I hw1 I I I λg86=>aP (cH [0,4,5,6]) ?_;refine aO I (aI (aB (v:=x.vG) aL.ty I (aH (i:=7) I I)) I I I (aP (cH [0,4,5,6]) ?_))
   all_goals
    refine aO I (lO (i:=9) (q:=14) I I I I I hw2 J J I λvG2=>aP (cH [0,4,5,6]) ?_)
    try refine GW ?_
    refine aO I (aY (i:=9) I λlm lW=>cD (i:=7) I I I lm lW I (aP (cH [0,4,5,6]) ?_))
    try refine GW ?_
    refine wm (eO (bW fY) (λk=>x.FG k\/vI.ownBlock=aj k) ((x.BV.map λv=>[v])++[[vI]]) (fT T Nx n++[(Nx.getD n []).drop T])) 13 10 [0,1,2,3,4,5,6,7,8,9,11,12] ahk I I I (λk hk=>hk.elim (λh=>by cases h) λh=>h.elim (λh=> .inr (.inr h)) λh=> .inl (.inl h)) (λw hr he=>mM he (hgo hr) (yV hr)) ?_
    try refine GA ?_
    refine dS [0,1,2,3,4,5,6,7,8,11,9,12,10] ?_;exact cJ (n+1,⟨vA2,x.BU++[ap (aj ⟨g10,0,ak⟩) (T+1) (T+1)],λk=>x.FA k\/(ap (aj ⟨g10,0,ak⟩) (T+1) (T+1)).ownBlock=aj k,vG2,x.BV++[vI],λk=>x.FG k\/vI.ownBlock=aj k⟩,vf) (by show n+1<=S.length;omega) (by show S.length-(n+1)<S.length-n;omega) (hl:=by dsimp only;rw[show(iH g.aF T Nx S (n+1)).length=(iH g.aF T Nx S n).length+1 by rw[jw,jw],show(fT T Nx (n+1)).length=(fT T Nx n).length+1 by rw[mu,mu],LN,I7,ft,ft];rfl)
  obtain rfl:n=S.length:=by omega
  refine iR (i:=8) I (λw h=>gO w h) λij=>?_;obtain⟨aA,cA,hvA,-⟩:=ij;refine iR (i:=10) I (λw h=>gO w h) λij=>?_;obtain⟨aG,cG,hvG,-⟩:=ij;obtain⟨vA,BU,FA,vG,BV,FG⟩:=x;dsimp only at hvA hvG⊢;subst hvA hvG
  repeat(first|refine GA ?_|refine gV (aQ (i:=7) aL.ty I I I) ?_)
  refine il 1 ?_;refine zL ?_
  try refine GA ?_
  exact fN (i:=1) I I I I I I λw hm=>hm.meets (S:=⟨λ(_:Pb×Value)=>True,λx=> .tuple #[aU #[x.1.vA,x.1.vG],x.2,av az 0],λx=>[bD 92 1 x.1.vA (iH g.aF T Nx S S.length).length x.1.BU,eO (bW oM) x.1.FA (x.1.BU.map λv=>[v]) (iH g.aF T Nx S S.length),bD 26 1 x.1.vG (fT T Nx S.length).length x.1.BV,eO (bW fY) x.1.FG (x.1.BV.map λv=>[v]) (fT T Nx S.length),bD 208 6 x.2 (iY g.aF T Nx S S.length).length ((iY g.aF T Nx S S.length).flatMap LL)]⟩) (⟨ap aA _ cA,BU,FA,ap aG _ cG,BV,FG⟩,vf) trivial [8,9,10,11,12] ahk I
 ·rw[if_pos c0]at hO
  rw[hO]
  repeat(first|refine GC ?_|refine gV (bm (b:=aD) I I (decide_eq_true c0)) ?_|refine gV (bP I FV) ?_|refine GB ?_)
  refine il 1 ?_;refine zL ?_
  try refine GA ?_
  refine ef 92 1 (qu (eO (bW oM) (λ_=>False) [] []) (λk hk=>hk.elim (λh=>by cases h) id) (λw=>jD) (ef 26 1 (qu (eO (bW fY) (λ_=>False) [] []) (λk hk=>hk.elim (λh=>by cases h) id) (λw=>jD) (ef 208 6 ?_))));exact fN (i:=1) I I I I I I λw hm=>hm.meets (S:=⟨λ(_:Pb×Value)=>True,λx=> .tuple #[aU #[x.1.vA,x.1.vG],x.2,av az e],λx=>[bD 92 1 x.1.vA 0 x.1.BU,eO (bW oM) x.1.FA (x.1.BU.map λv=>[v]) [],bD 26 1 x.1.vG 0 x.1.BV,eO (bW fY) x.1.FG (x.1.BV.map λv=>[v]) [],bD 208 6 x.2 0 []]⟩) (⟨ap ak 0 0,[],λ_=>False,ap ak 0 0,[],λ_=>False⟩,ap ak 0 0) trivial [7,8,9,10,11] ahk I
end cZ
namespace cZ
open Go.RowKit dr eH aV ey eg bV dq
def AN(w:World)(t:Value)(A:List (List bV.Act))(G:List (List Int)):Prop:=∃vA vG,t=aU #[vA,vG]/\kH (bW oM) (λk=>k<w.heap.size) w vA A/\kH (bW fY) (λk=>k<w.heap.size) w vG G
theorem AN.gr{w w':World}{t:Value}{A:List (List bV.Act)}{G:List (List Int)}(h:AN w t A G)(hg:Gr w w'):AN w' t A G:=let ⟨a,b,h1,h2,h3⟩:=h;⟨a,b,h1,h2.gr hg,h3.gr hg⟩
theorem aaS{w:World}{x:Pb}{A:List (List bV.Act)}{G:List (List Int)}(h1:(bD 92 1 x.vA A.length x.BU).holds w)(h2:(eO (bW oM) x.FA (x.BU.map λv=>[v]) A).holds w)(h3:(bD 26 1 x.vG G.length x.BV).holds w)(h4:(eO (bW fY) x.FG (x.BV.map λv=>[v]) G).holds w):AN w (aU #[x.vA,x.vG]) A G:=by
 have h1':(bD 92 (bW oM).c x.vA A.length (x.BU.map λv=>[v]).flatten).holds w:=by rw[D0];exact h1
 have h3':(bD 26 (bW fY).c x.vG G.length (x.BV.map λv=>[v]).flatten).holds w:=by rw[D0];exact h3
 exact⟨x.vA,x.vG,rfl,(xw h1' h2 ahk).mono λk hk=>xy h1' h2 k hk,(xw h3' h4 ahk).mono λk hk=>xy h3' h4 k hk⟩
theorem I9{α:Type}{s:wF α}{F:Nat->Prop}{w:World}{base:Option Addr}{n cap:Nat}{l:List (List α)}(h:kH (bW s) F w (ap base n cap) l){i:Nat}(hi:i<l.length):∃b off vi,base=aj ⟨b,off,ak⟩/\w.cell? ⟨b,off+i,ak⟩=aj vi/\kH s F w vi l[i]:=by
 obtain⟨abV,HP,e,_,_,h3⟩:=h
 cases e
 obtain⟨b,off,rfl,_,h4⟩:=h3 J;obtain⟨cs,⟨vi,rfl,h5⟩,h6⟩:=h4 i hi;refine⟨b,off,vi,rfl,?_,h5⟩;have:=h6 0 vi I
 rwa [show off+i*(bW s).c+0=off+i by show off+i*1+0=_;omega]at this
theorem mV{α:Type}{s:wF α}{F:Nat->Prop}{w:World}{v:Value}{l:List α}(h:kH s F w v l):∃base cap,v=ap base l.length cap/\l.length<=cap/\cap<=9223372036854775807:=let ⟨b,c,h1,h2,h3,_⟩:=h;⟨b,c,h1,h2,by unfold maxLen at h3;omega⟩
def vO(T P n:Nat)(x:bV.Act)(c:Nat):Prop:=(x.1=0/\x.2=0)\/(x.1=1/\c<T/\0<=x.2/\x.2<(n:Int))\/(x.1=2/\0<=x.2/\x.2<(P:Int))\/(x.1=3/\x.2=0/\c=T)
theorem I_(T P n:Nat)(nn:Int)(bp:Option Addr)(cp:Nat)(aA:Option Addr)(cA:Nat)(vG:Value)(x:bV.Act)(c:Nat)(h:vO T P n x c)(w:World):
 Calls aC 132 #[ee (T:Int) nn (ap bp P cp),aU #[ap aA n cA,vG],aU (jC x).toArray,av az (c:Int)] w (cY (ret (.bool aD)) w):=by
 obtain⟨k,m⟩:=x;unfold vO at h;dsimp only at h;refine enter (args:=[ee (T:Int) nn (ap bp P cp),aU #[ap aA n cA,vG],aU (jC (k,m)).toArray,av az (c:Int)]) (n:=59) Tryz.func132 I I I ?_;refine bC (aM (b_ I I I λg4=>?_));refine zL ?_;refine b_ I I I λg5=>?_;refine zL ?_;refine b_ I I I λg6=>?_;refine zL ?_;rcases h with⟨rfl,rfl⟩|⟨rfl,h1,h2,h3⟩|⟨rfl,h1,h2⟩|⟨rfl,rfl,rfl⟩
 ·repeat(first|refine GA ?_|refine gV (aB (v:=av az 0) aL.ty I (aH (i:=2) I I)) ?_)
  exact fa
 ·repeat(first|refine GA ?_|refine gV (aB (v:=av az 1) aL.ty I (aH (i:=2) I I)) ?_|refine gV (aB (v:=av az m) aL.ty I (aH (i:=2) I I)) ?_|refine gV (aB (v:=av az (T:Int)) aL.ty I (aH (i:=0) I I)) ?_|refine gV (aB (v:=ap aA n cA) aL.ty I (aH (i:=1) I I)) ?_)
  exact fa
 ·repeat(first|refine GA ?_|refine gV (aB (v:=av az 2) aL.ty I (aH (i:=2) I I)) ?_|refine gV (aB (v:=av az m) aL.ty I (aH (i:=2) I I)) ?_|refine gV (aB (v:=ap bp P cp) aL.ty I (aH (i:=0) I I)) ?_)
  exact fa
 ·repeat(first|refine GA ?_|refine gV (aB (v:=av az 3) aL.ty I (aH (i:=2) I I)) ?_|refine gV (aB (v:=av az 0) aL.ty I (aH (i:=2) I I)) ?_|refine gV (aB (v:=av az (c:Int)) aL.ty I (aH (i:=0) I I)) ?_)
  exact fa
structure rW(g:eL)(T N:Nat)(A:List (List bV.Act))(G:List (List Int)):Prop where
 I':cL g=0
 aT:g.aT=(T:Int)
 bM:g.bM=(N:Int)
 pos:0<A.length
 BO:A.length<=200
 same:G.length=A.length
 wA:∀i (h:i<A.length),A[i].length=T+1
 ed:∀i (h:i<A.length),∀c (hc:c<A[i].length),vO T g.aF.length A.length A[i][c] c
 wG:∀i (h:i<G.length),G[i].length=N
 gos:∀i (h:i<G.length),∀y∈G[i],-1<=y/\y<(A.length:Int)
theorem w5(v t:Value)(g:eL)(T N:Nat)(A:List (List bV.Act))(G:List (List Int))(h:rW g T N A G)(w:World)(hG:kz (λk=>k<w.heap.size) w v g)(ht:AN w t A G):
 Calls aC 91 #[v,t] w (cY (ret (av az 0)) w):=by
 have jr:=λw' (hg:Gr w w')=>jY v g w' (hG.gr hg);obtain⟨vp,rfl,hp,-,-⟩:=hG;obtain⟨bp,cp,rfl,-⟩:=hp;obtain⟨vA,vG,rfl,hA,hGo⟩:=ht;obtain⟨aA,cA,rfl,-,-⟩:=mV hA;obtain⟨aG,cG,rfl,-,-⟩:=mV hGo;obtain⟨hg,IE,hNn,AA,OJ,tf,hwA,aaT,hwG,X'⟩:=h;obtain⟨hT1,hT2,-,hN2,Bi,-⟩:=de hg;rw[hg]at jr;rw[IE,hNn]at jr⊢;refine enter (args:=[ee (T:Int) (N:Int) (ap bp g.aF.length cp),aU #[ap aA A.length cA,ap aG G.length cG]]) (n:=93) Tryz.func91 I I I ?_;refine bC (aM (b_ I I I λg2=>?_));refine zL ?_;refine b_ I I I λg3=>?_;refine zL ?_
 repeat(first|refine GA ?_|refine gV (aQ (i:=0) aL.ty I I I) ?_)
 refine a8 (ju aJ.en I I) (λw hm=>jr w hm.below) I I I ?_;intro _ _;refine zL ?_
 repeat(first|refine GA ?_|refine gV (aB (v:=ap aA A.length cA) aL.ty I (aH (i:=1) I I)) ?_|refine gV (aB (v:=ap aG G.length cG) aL.ty I (aH (i:=1) I I)) ?_)
 clear jr;refine eK (ι:=Nat) (λi=>i<=A.length) (λi=>[(2,aK (aj ⟨g2,0,ak⟩)),(3,aK (aj ⟨g3,0,ak⟩)),(6,av az (A.length:Int)),(31,av az (A.length:Int)),(32,av az (i:Int))])
  (λ_=>[aR g2 (ee (T:Int) (N:Int) (ap bp g.aF.length cp)).cells 33,aR g3 (aU #[ap aA A.length cA,ap aG G.length cG]).cells 36]) (λi=>A.length-i) 0 (bO _) ?_
 intro i i1
 by_cases c1:i<A.length
 ·have c1G:i<G.length:=by omega
  obtain⟨bA,oA,vi,rfl,hcA,hsA⟩:=I9 hA c1;obtain⟨bG,oG,wi,rfl,hcG,hsG⟩:=I9 hGo c1G;obtain⟨ai,ci,rfl,hci,ahc⟩:=mV hsA;obtain⟨ei,di,rfl,hdi,afe⟩:=mV hsG;have hfA:=hsA.flat (f:=jC) ahk;have hfG:=hsG.flat (f:=λn=>[av .i64 n]) ahk;have ahd:=hwA i c1;have ahe:=hwG i c1G;have aff:=aaT i c1;have afg:=X' i c1G;obtain⟨_,_,e1,-,-,hrA⟩:=hfA
  cases e1
  obtain⟨_,_,e2,-,-,hrG⟩:=hfG
  cases e2
  clear hsA hsG aaT X' hwA hwG;have aaU:∀L,At (w:b9) L ⟨bA,oA+i,ak⟩ (.slice ai A[i].length ci):=λL=>kw hcA;have aaV:∀L,At (w:b9) L ⟨bG,oG+i,ak⟩ (.slice ei G[i].length di):=λL=>kw hcG;generalize A[i]=X at*;generalize G[i]=Y at*
  try refine GA ?_
  refine eo ([aR g2 (ee (T:Int) (N:Int) (ap bp g.aF.length cp)).cells 33,aR g3 (aU #[ap (aj ⟨bA,oA,ak⟩) A.length cA,ap (aj ⟨bG,oG,ak⟩) G.length cG]).cells 36]) (.calm 0 (.calm 1 (.calm 2 (.calm 3 (.calm 4 (.calm 5 (.calm 6 (.calm 7 (.calm 8 (.calm 9 (.calm 10 (.calm 11 (.calm 12 (.calm 13 (.calm 14 (.calm 15 (.calm 16 (.calm 17 (.calm 18 (.calm 19 (.calm 20 (.done)))))))))))))))))))))) (λ_ h=>h) ?_
  repeat(first|refine GW ?_|(refine GN ?_;first|refine QW (aB (v:=ap (aj ⟨bA,oA,ak⟩) A.length cA) aL.ty I (aH (i:=1) I I)) ?_|refine QW (cT bR.eq aL.ty I I c1) ?_|refine QW (aB (v:=ap ai X.length ci) aL.ty I (aaU _)) ?_|refine QW (aB (v:=av az (T:Int)) aL.ty I (aH (i:=0) I I)) ?_|refine QW (aB (v:=ap (aj ⟨bG,oG,ak⟩) G.length cG) aL.ty I (aH (i:=1) I I)) ?_|refine QW (cT bR.eq aL.ty I I c1G) ?_|refine QW (aB (v:=ap ei Y.length di) aL.ty I (aaV _)) ?_|refine QW (aB (v:=av az (N:Int)) aL.ty I (aH (i:=0) I I)) ?_))
  repeat(first|refine GA ?_|refine gV (aB (v:=ap (aj ⟨bA,oA,ak⟩) A.length cA) aL.ty I (aH (i:=1) I I)) ?_|refine gV (cT bR.eq aL.ty I I c1) ?_|refine gV (aB (v:=ap ai X.length ci) aL.ty I (aaU _)) ?_)
  refine eK (ι:=Nat) (λc=>c<=X.length) (λc=>[(2,aK (aj ⟨g2,0,ak⟩)),(3,aK (aj ⟨g3,0,ak⟩)),(6,av az (A.length:Int)),(7,av az (i:Int)),(31,av az (A.length:Int)),(32,av az (i:Int)),(60,ap ai X.length ci),(61,av az (X.length:Int)),(62,av az (c:Int))])
   (λ_=>[aR g2 (ee (T:Int) (N:Int) (ap bp g.aF.length cp)).cells 33,aR g3 (aU #[ap (aj ⟨bA,oA,ak⟩) A.length cA,ap (aj ⟨bG,oG,ak⟩) G.length cG]).cells 36]) (λc=>X.length-c) 0 (bO _) ?_
  intro c j1
  by_cases c2:c<X.length
  ·obtain⟨b,off,rfl,fl⟩:=hrA J
   have d_:=λL=>iB (L:=L) rU fl c2;have DS:∀(L:List cU) (j:Nat) (u:Value),(jC X[c])[j]?=aj u->At (w:b9) L ⟨b,off+c*2+j,ak⟩ u:=d_;have Xf:=aff c c2;clear d_;generalize X[c]=x at*;have hrc:=I_ T g.aF.length A.length (N:Int) bp cp (aj ⟨bA,oA,ak⟩) cA (ap (aj ⟨bG,oG,ak⟩) G.length cG) x c Xf
   repeat(first|refine GA ?_|refine gV (a_ bR.eq aL.ty I I c2) ?_|refine gV (bH (cs:=jC x) aL.ty I I (DS _)) ?_)
   refine bz I λg9=>?_;refine zL ?_
   try refine GA ?_
   refine il 2 (cs':=(jC x).toArray) ?_;refine zL ?_
   repeat(first|refine GA ?_|refine gV (aQ (i:=0) aL.ty I I I) ?_|refine gV (aQ (i:=1) aL.ty I I I) ?_|refine gV (aQ (i:=2) aL.ty I I I) ?_)
   refine a8 (RT aJ.en I I I I I) (λw hm=>hrc w) I I I ?_;intro _ _;refine zL ?_
   try refine GA ?_
   refine dS [0,1] ?_;exact cJ (c+1) J (by show X.length-(c+1)<X.length-c;omega)
  obtain rfl:c=X.length:=by omega
  repeat(first|refine GA ?_|refine gV (aB (v:=ap (aj ⟨bG,oG,ak⟩) G.length cG) aL.ty I (aH (i:=1) I I)) ?_|refine gV (cT bR.eq aL.ty I I c1G) ?_|refine gV (aB (v:=ap ei Y.length di) aL.ty I (aaV _)) ?_)
  refine eK (ι:=Nat) (λc=>c<=Y.length) (λc=>[(2,aK (aj ⟨g2,0,ak⟩)),(3,aK (aj ⟨g3,0,ak⟩)),(6,av az (A.length:Int)),(31,av az (A.length:Int)),(32,av az (i:Int)),(78,ap ei Y.length di),(79,av az (Y.length:Int)),(80,av az (c:Int))])
   (λ_=>[aR g2 (ee (T:Int) (N:Int) (ap bp g.aF.length cp)).cells 33,aR g3 (aU #[ap (aj ⟨bA,oA,ak⟩) A.length cA,ap (aj ⟨bG,oG,ak⟩) G.length cG]).cells 36]) (λc=>Y.length-c) 0 (bO _) ?_
  intro c k1
  by_cases c3:c<Y.length
  ·obtain⟨b,off,rfl,fl⟩:=hrG J
   have d_:=λL=>iB (L:=L) (f:=λn=>[av .i64 n]) (c:=1) (λ_=>rfl) fl c3 0 _ I;have DS:∀(L:List cU),At (w:b9) L ⟨b,off+c*1+0,ak⟩ (av az Y[c]):=d_;have hgo:=afg Y[c] (cV c3);clear d_;generalize Y[c]=y at*
   repeat(first|refine GA ?_|refine gV (a_ bR.eq aL.ty I I c3) ?_|refine gV (aB (v:=av az y) aL.ty I (DS _)) ?_)
   exact cJ (c+1) J (by show Y.length-(c+1)<Y.length-c;omega)
  obtain rfl:c=Y.length:=by omega
  try refine GA ?_
  exact cJ (i+1) J (by show A.length-(i+1)<A.length-i;omega)
 ·obtain rfl:i=A.length:=by omega
  try refine GA ?_
  exact fa
def ab0(g:eL):Bool:=decide ((i_ g).2.2.2=0)&&decide ((i_ g).2.2.1.length=0)
end cZ
namespace cZ
open Go.RowKit dr eH aV ey fJ
theorem Pf(w:World):(dR 148 (#[]:Array (Nat×Value))).run aC w= .ok (aU (eX (0,0)).toArray) w:=by
 unfold eX;go_simp
set_option maxRecDepth 100000 in
theorem Fv(g:eL)(b:Option Addr)(cp:Nat)(d:TD)(w:World)(hd:qZ g d):Calls aC 182 #[ee g.aT g.bM (ap b g.aF.length cp),JV d] w (cY (ret (.bool aD)) w):=by
 cases d with
 | close p=>
  obtain⟨h1,h2⟩:=hd;refine enter (args:=[ee g.aT g.bM (ap b g.aF.length cp),JV (.close p)]) (n:=65) Tryz.func182 I I I ?_;refine bC (aM (b_ I I I λg0=>b_ I I I λg1=>?_))
  repeat(first|refine GC ?_|refine gV (aB (v:= .bool aD) aL.ty I (aH (i:=1) I I)) ?_|refine gV (aB (v:=av az p) aL.ty I (aH (i:=1) I I)) ?_|refine gV (aB aL.ty I (aH (i:=0) I I)) ?_|refine gV (bH (cs:=eX (0,0)) aL.ty I I (λj v hj=>aH (i:=1) I (by match j,hj with|0,h=>exact h|1,h=>exact h))) ?_|refine gV (bP I (Pf)) ?_|refine gV (CT (b:=aD) I I (by kernel_rfl) (λw=>by rw[Wg];rfl)) ?_|refine GB ?_)
  exact fa
 | sym x=>
  obtain⟨k,m⟩:=x;have hd:right g.aT g.bM (k,m)=true:=hd;unfold right at hd;dsimp only at hd
  by_cases c1:k=1
  ·subst c1
   rw[if_pos I]at hd;simp only[fU,decide_eq_true_eq]at hd;refine enter (args:=[ee g.aT g.bM (ap b g.aF.length cp),JV (.sym (1,m))]) (n:=65) Tryz.func182 I I I ?_;refine bC (aM (b_ I I I λg0=>b_ I I I λg1=>?_))
   repeat(first|refine GA ?_|refine gV (aB (v:= .bool aE) aL.ty I (aH (i:=1) I I)) ?_|refine gV (aB (v:=av az 1) aL.ty I (aH (i:=1) I I)) ?_|refine gV (aB (v:=av az 0) aL.ty I (aH (i:=1) I I)) ?_|refine gV (aB (v:=av az m) aL.ty I (aH (i:=1) I I)) ?_|refine gV (aB aL.ty I (aH (i:=0) I I)) ?_)
   exact fa
  rw[if_neg c1]at hd
  by_cases c2:k=2
  ·subst c2
   rw[if_pos I]at hd;simp only[fU,decide_eq_true_eq]at hd;refine enter (args:=[ee g.aT g.bM (ap b g.aF.length cp),JV (.sym (2,m))]) (n:=65) Tryz.func182 I I I ?_;refine bC (aM (b_ I I I λg0=>b_ I I I λg1=>?_))
   repeat(first|refine GA ?_|refine gV (aB (v:= .bool aE) aL.ty I (aH (i:=1) I I)) ?_|refine gV (aB (v:=av az 2) aL.ty I (aH (i:=1) I I)) ?_|refine gV (aB (v:=av az 0) aL.ty I (aH (i:=1) I I)) ?_|refine gV (aB (v:=av az m) aL.ty I (aH (i:=1) I I)) ?_|refine gV (aB aL.ty I (aH (i:=0) I I)) ?_)
   exact fa
  rw[if_neg c2]at hd;cases hd
theorem Ex(g:eL)(b:Option Addr)(cp:Nat)(d:TD)(gg:Nat)(w:World)(hd:qZ g d)(hg:w.heap[gg]?=aj (.cells (ee g.aT g.bM (ap b g.aF.length cp)).cells 33 (0,0))):
 Calls aC 181 #[JV d,aK (aj ⟨gg,0,ak⟩)] w (cY (ret (.bool aE)) w):=by
 have hcell:∀(L:List cU) (j:Nat) (v:Value),([av az g.aT,av az g.bM,ap b g.aF.length cp]:List Value)[j]?=aj v->At w L ⟨gg,0+j,ak⟩ v:=λL j v hj=>kw (by
  rw[cell_of_row w gg (0+j) _ _ _ hg,du];show(#[av az g.aT,av az g.bM,ap b g.aF.length cp]:Array Value)[j]?=aj v
  simpa using hj)
 have hr:=Fv g b cp d;refine enter (args:=[JV d,aK (aj ⟨gg,0,ak⟩)]) (n:=8) Tryz.func181 I I I ?_;refine bC (aM (b_ I I I λg0=>?_))
 repeat(first|refine GA ?_|refine gV (bH aL.ty I I (hcell _)) ?_|refine gV (aQ (i:=0) aL.ty I I I) ?_)
 refine a8 (gK aJ.en I I I) (λw hm=>hr w hd) I I I ?_;intro _ _
 try refine GA ?_
 exact fa
abbrev TdR(w:World)(vt:Value)(st:List TD):Prop:=Sl w vt st.length (st.reverse.flatMap wY)
theorem rX(v vr vt:Value)(g:eL)(ll:List (List Int))(st:List TD)(seen col:Int)(w:World)(h:kz (λk=>k<w.heap.size) w v g)(hr:za w vr ll)(ht:TdR w vt st)(h0:Es g ll=0)(hs:∀d∈st,qZ g d)(hl:st.length<=60)(h1:0<=seen)(h2:seen<=1099511627776)(h3:0<=col)(h4:col<=g.aT):
 Calls aC 163 #[v,vr,tk vt seen 0 aE,av az col] w (cY (ret (av az 0)) w):=by
 have jr:=λw' (hg:Gr w w')=>w4 v vr g ll w' (h.gr hg) (hr.gr hg);rw[h0]at jr;obtain⟨vp,rfl,hp,_⟩:=h;obtain⟨bp,cp,rfl,_⟩:=hp;have JQ:=λw' (hg:Gr w w') gg (hb:w'.heap[gg]?=aj (.cells (ee g.aT g.bM (ap bp g.aF.length cp)).cells 33 (0,0)))=>tD vt st.reverse w' (by rw[List.length_reverse];exact ht.gr hg) 181 #[] #[aK (aj ⟨gg,0,ak⟩)] (λ_=>aE) aJ.en (λa ha B7 yC=>Ex g bp cp a gg B7 (hs a (Xz.1 ha)) (by rw[yC.block gg (lA.1 hb).1];exact hb));have Ey:st.reverse.any (λ_=>aE)=false:=by rw[sV];intro _ _ h;cases h
 rw[Ey]at JQ;obtain⟨bt,ct,rfl,_⟩:=ht;refine enter (args:=[ee g.aT g.bM (ap bp g.aF.length cp),vr,tk (ap bt st.length ct) seen 0 aE,av az col]) (n:=54) Tryz.func163 I I I ?_;refine bC (aM (b_ I I I λg0=>b_ I I I λg1=>?_))
 repeat(first|refine GA ?_|refine gV (aQ (i:=0) aL.ty I I I) ?_)
 refine a8 (gK aJ.en I I I) (λw hm=>jr _ hm.below) I I I ?_;intro _ _;refine zL ?_
 repeat(first|refine GA ?_|refine gV (aB (v:=ap bt st.length ct) aL.ty I (aH (i:=1) I I)) ?_|refine gV (aB (v:=av az seen) aL.ty I (aH (i:=1) I I)) ?_|refine gV (aB (v:=av az 0) aL.ty I (aH (i:=1) I I)) ?_|refine gV (aB (v:= .bool aE) aL.ty I (aH (i:=1) I I)) ?_|refine gV (aB aL.ty I (aH (i:=0) I I)) ?_|refine gV (wk I I) ?_)
 refine a8 (gK aJ.en I I I) (λw hm=>JQ _ hm.below _ (hm.get (i:=0) I)) I I I ?_;intro _ _;refine zL ?_
 repeat(first|refine GA ?_|refine gV (aB (v:=av az 0) aL.ty I (aH (i:=1) I I)) ?_|refine gV (aB (v:= .bool aE) aL.ty I (aH (i:=1) I I)) ?_)
 exact fa
end cZ
namespace cZ
open Go.RowKit dr eH aV ey fJ
def ja(ll:List (List Int))(col:Nat)(n:Int):Int:=(ll.getD n.toNat []).getD col (-1)
structure Ez(g:eL)(ll:List (List Int))(T N:Nat):Prop where
 aT:g.aT=T
 bM:g.bM=N
 len:ll.length=N
 row:∀r∈ll,r.length=T+1
 nx:∀col,aas g.aF (ja ll col)
theorem Ya{l:List aV.Prod}{nx:Int->Int}{f:Nat}{st:List TD}{out:List dV}{a:Nat}(h:(bZ st out a).2.2.2=aE):f_ l nx (f+1) st out a=((bZ st out a).1,(bZ st out a).2.1,(bZ st out a).2.2.1,14):=by
 rw[f_,if_pos h]
theorem Yb{l:List aV.Prod}{nx:Int->Int}{f:Nat}{st:List TD}{out:List dV}{a:Nat}(h:(bZ st out a).2.2.2=aD)(h2:(bZ st out a).1=[]):f_ l nx (f+1) st out a=([],(bZ st out a).2.1,(bZ st out a).2.2.1,0):=by
 rw[f_,if_neg (by simp[h])];simp only[h2]
theorem Yc{l:List aV.Prod}{nx:Int->Int}{f:Nat}{st:List TD}{out:List dV}{a:Nat}{x:dV}{r:List TD}(h:(bZ st out a).2.2.2=aD)(h2:(bZ st out a).1= .sym x::r):
 f_ l nx (f+1) st out a=if x.1=1 then(.sym x::r,(bZ st out a).2.1,(bZ st out a).2.2.1,0)else if nx x.2<0 then(.sym x::r,(bZ st out a).2.1,(bZ st out a).2.2.1,13)
  else if(bZ st out a).2.2.1+1<=2000/\(opened l (nx x.2) r).length<=60 then f_ l nx f (opened l (nx x.2) r) ((bZ st out a).2.1++[(1,nx x.2)]) ((bZ st out a).2.2.1+1)
  else(opened l (nx x.2) r,(bZ st out a).2.1++[(1,nx x.2)],(bZ st out a).2.2.1+1,14):=by
 rw[f_,if_neg (by simp[h])];simp only[h2]
def Ze(gw:Nat)(t n:Int)(vp:Value)(R:List TD×List dV×Nat×Int):Spec (Value×Value):=⟨λ_=>True,λ_=>av az R.2.2.2,λx=>[x7 gw t n vp x.1 x.2 R.2.2.1,wK x.1 R.1,lu x.2 R.2.1]⟩
theorem Bt(w0:World)(gw:Nat)(t n:Int)(vp vr:Value)(g:eL)(ll:List (List Int))(T N col:Nat)(hG:kH oB (λk=>k<w0.heap.size) w0 vp g.aF)(hR:za w0 vr ll)(hg:cL g=0)(hT:Ez g ll T N)(ahf:col<=T)
 (Xg Xh:Value) (Uc:List TD) (w:World) (B:b9) (T5:∀d∈Uc,qZ g d) (hl0:Uc.length<=60) (ho:p_ w0 B) (hm:Mem B [x7 gw t n vp Xg Xh 0,wK Xg Uc,lu Xh []] w):
 Calls aC 166 #[aK (aj ⟨gw,0,ak⟩),vr,av az (col:Int)] w (dF (Ze gw t n vp (f_ g.aF (ja ll col) 2001 Uc [] 0)) B):=by
 obtain⟨a1,a2,a3,a4,a5,a6⟩:=de hg;have QU:=λp hp vt vo d r out ed w B h1 h2 h3 ho hm=>OO w0 gw t n vp g.aF hG J p hp (a6 _ (cV hp)).1 vt vo d r out ed w B h1 h2 h3 ho hm;have uV:=hT.nx col;obtain⟨br,cr,rfl,Za,we,Dg⟩:=hR;unfold maxLen at we;refine dZ hm (args:=[aK (aj ⟨gw,0,ak⟩),ap br ll.length cr,av az (col:Int)]) (n:=60) Tryz.func166 I I I ?_;clear hm
 try refine GA ?_
 generalize hD:f_ g.aF (ja ll col) 2001 Uc [] 0=D;refine eK (ι:=Nat×List TD×List dV×Nat×Value×Value) (λ(f,st,out,ed,_,_)=>f_ g.aF (ja ll col) f st out ed=D/\2001<=f+ed/\st.length<=60/\ed<=2000/\out.length=ed/\∀d∈st,qZ g d) (λ_=>[(0,aK (aj ⟨gw,0,ak⟩)),(1,ap br ll.length cr),(2,av az (col:Int))])
  (λ(_,st,out,ed,vt,vo)=>[x7 gw t n vp vt vo ed,wK vt st,lu vo out]) (λ(f,_,_,_,_,_)=>f) (2001,Uc,[],0,Xg,Xh) ⟨hD,by omega,hl0,by omega,rfl,T5⟩ ?_
 clear hD T5 hl0;rintro⟨f,st,out,ed,vt,vo⟩ ⟨hD,h1,h2,h3,h4,h5⟩;dsimp only at hD h1 h2 h3 h4 h5⊢;obtain⟨f,rfl⟩:∃f',f=f'+1:=⟨f-1,by omega⟩
 try refine GA ?_
 refine bK [0,1,2] [] ahk I I (ju aJ.en I I) (λw hm hb=>rN gw t n vp vt vo st out ed w _ J h3 h4 hb) I I I ?_;obtain⟨z1,z2,z3,z4⟩:=@sQ st out ed;have z5:=rM (out:=out) (a:=ed) h5;rintro⟨Xj,vo1⟩ _
 conv=>arg 8;simp only[zJ,dg,ret,id_eq,clS,fg]
 have hno:=@Ya g.aF (ja ll col) f st out ed;have afh:=@Yb g.aF (ja ll col) f st out ed;have afi:=λx r=>@Yc g.aF (ja ll col) f st out ed x r;have afj:=@xY st out ed;generalize bZ st out ed=C at*;obtain⟨st1,ig,Rb,ok⟩:=C;dsimp only at*
 cases ok with
 | false=>
  rw[hno I]at hD;subst hD
  try refine GA ?_
  exact da I I λw hm=>hm.cX (S:=Ze gw t n vp (st1,ig,Rb,14)) (Xj,vo1) trivial [0,1,2] ahk I
 | true=>
  have zz3:=z3 I h3;clear z3;rcases afj rfl with rfl|⟨x,r,rfl⟩
  ·rw[afh I I]at hD
   subst hD
   try refine GA ?_
   refine eo ([x7 gw t n vp Xj vo1 Rb,wK Xj []]) (.calm 0 (.calm 1 (.calm 2 (.calm 3 (.calm 4 (.calm 5 (.calm 6 (.calm 7 (.calm 8 (.calm 9 (.calm 10 (.calm 11 (.calm 12 (.calm 13 (.calm 14 (.calm 15 (.calm 16 (.calm 17 (.calm 18 (.calm 19 (.calm 20 (.calm 21 (.calm 22 (.done)))))))))))))))))))))))) (cH [0,1]) ?_
   repeat(first|(refine GN ?_;first|refine QW QP ?_|refine QW (aB (v:=Xj) aL.ty I (aH (i:=0) I I)) ?_|refine QW (fy (i:=1) bR.eq I I) ?_|refine QW (aX (b:=aD) I I I) ?_|refine GX ?_)|refine GW ?_)
   try refine GA ?_
   exact da I I λw hm=>hm.cX (S:=Ze gw t n vp ([],ig,Rb,0)) (Xj,vo1) trivial [0,1,2] ahk I
  have JU:=afi x r I I;simp only[dE]at z1;have z6:right g.aT g.bM x=true:=z5 _ (ir ..);have z7:=λd hd=>z5 d (List.mem_cons_of_mem _ hd);clear hno afh afj afi
  try refine GA ?_
  refine xC (i:=1) I (by simp) λgt ct hv q1 q2=>?_;subst hv;simp only[dE]at*;obtain⟨k,m⟩:=x
  by_cases c1:k=1
  ·subst c1
   rw[if_pos I]at JU;rw[JU]at hD;subst hD;refine eo ([x7 gw t n vp (ap (aj ⟨gt,0,ak⟩) (r.length+1) ct) vo1 Rb,wK (ap (aj ⟨gt,0,ak⟩) (r.length+1) ct) (.sym (1,m)::r)]) (.calm 0 (.calm 1 (.calm 2 (.calm 3 (.calm 4 (.calm 5 (.calm 6 (.calm 7 (.calm 8 (.calm 9 (.calm 10 (.calm 11 (.calm 12 (.calm 13 (.calm 14 (.calm 15 (.calm 16 (.calm 17 (.calm 18 (.calm 19 (.calm 20 (.calm 21 (.calm 22 (.done)))))))))))))))))))))))) (cH [0,1]) ?_
   repeat(first|(refine GN ?_;first|refine QW QP ?_|refine QW (aB (v:=ap (aj ⟨gt,0,ak⟩) (r.length+1) ct) aL.ty I (aH (i:=0) I I)) ?_|refine QW (df (r:=(r.length:Int)) I I J J J) ?_|refine QW (a_ (j:=r.length) bR.eq aL.ty I I J) ?_|refine QW (aB (v:=av az 1) aL.ty I (Bm (i:=1) I 2 _ I)) ?_|refine QW (aX (b:=aE) I I (decide_eq_false J)) ?_|refine QW (aX (b:=aD) I I I) ?_|refine GX ?_)|refine GW ?_)
   try refine GA ?_
   exact da I I λw hm=>hm.cX (S:=Ze gw t n vp (.sym (1,m)::r,ig,Rb,0)) (_,vo1) trivial [0,1,2] ahk I
  rw[if_neg c1]at JU;unfold right at z6;dsimp only at z6;rw[if_neg c1]at z6
  by_cases c2:k=2
  ·subst c2
   rw[if_pos I]at z6;simp only[fU,decide_eq_true_eq]at z6;obtain⟨q,rfl⟩:∃q:Nat,m=q:=⟨m.toNat,by omega⟩;have hq:q<ll.length:=by rw[hT.len];have:=hT.bM;omega
   obtain⟨b,off,rfl,_,fl⟩:=Dg J;obtain⟨vi,y1,y2⟩:=Ra fl hq;have E8:=hT.row _ (cV hq);have afk:ja ll col (q:Int)=ll[q].getD col (-1):=by unfold ja;rw[dP,cK (l:=ll),bQ hq];rfl
   have l7:=uV (q:Int);rw[afk]at l7;dsimp only at JU;rw[afk]at JU;generalize ll[q]=row at*;obtain⟨bi,ci,rfl,w1,w2,w3⟩:=y2;obtain⟨b3,aaW,rfl,LO⟩:=w3 J;have hc:row[col]?=aj (row.getD col (-1)):=by rw[cK,bQ J];rfl
   have Iw:∀L,At B L ⟨b,off+q,ak⟩ (ap (aj ⟨b3,aaW,ak⟩) row.length ci):=λL=>iW ho y1;have tC:∀L,At B L ⟨b3,aaW+col,ak⟩ (av az (row.getD col (-1))):=λL=>iW ho (LO col _ (by rw[fx,hc];rfl));clear fl y1 LO w3 Dg;generalize row.getD col (-1)=p at*;refine eo ([x7 gw t n vp (ap (aj ⟨gt,0,ak⟩) (r.length+1) ct) vo1 Rb,wK (ap (aj ⟨gt,0,ak⟩) (r.length+1) ct) (.sym (2,(q:Int))::r)]) (.calm 0 (.calm 1 (.calm 2 (.calm 3 (.calm 4 (.calm 5 (.calm 6 (.calm 7 (.calm 8 (.calm 9 (.calm 10 (.calm 11 (.calm 12 (.calm 13 (.calm 14 (.calm 15 (.calm 16 (.calm 17 (.calm 18 (.calm 19 (.calm 20 (.calm 21 (.calm 22 (.done)))))))))))))))))))))))) (cH [0,1]) ?_
   repeat(first|(refine GN ?_;first|refine QW QP ?_|refine QW (aB (v:=ap (aj ⟨gt,0,ak⟩) (r.length+1) ct) aL.ty I (aH (i:=0) I I)) ?_|refine QW (df (r:=(r.length:Int)) I I J J J) ?_|refine QW (a_ (j:=r.length) bR.eq aL.ty I I J) ?_|refine QW (aB (v:=av az 2) aL.ty I (Bm (i:=1) I 2 _ I)) ?_|refine QW (aX (b:=aE) I I (decide_eq_false J)) ?_|refine GX ?_)|refine GW ?_)
   try refine GA ?_
   refine eo ([x7 gw t n vp (ap (aj ⟨gt,0,ak⟩) (r.length+1) ct) vo1 Rb,wK (ap (aj ⟨gt,0,ak⟩) (r.length+1) ct) (.sym (2,(q:Int))::r)]) (.calm 0 (.calm 1 (.calm 2 (.calm 3 (.calm 4 (.calm 5 (.calm 6 (.calm 7 (.calm 8 (.calm 9 (.calm 10 (.calm 11 (.calm 12 (.calm 13 (.calm 14 (.calm 15 (.calm 16 (.calm 17 (.calm 18 (.calm 19 (.calm 20 (.done)))))))))))))))))))))) (cH [0,1]) ?_
   repeat(first|(refine GN ?_;first|refine QW QP ?_|refine QW (aB (v:=ap (aj ⟨gt,0,ak⟩) (r.length+1) ct) aL.ty I (aH (i:=0) I I)) ?_|refine QW (df (r:=(r.length:Int)) I I J J J) ?_|refine QW (a_ (j:=r.length) bR.eq aL.ty I I J) ?_|refine QW (aB (v:=av az (q:Int)) aL.ty I (Bm (i:=1) I 3 _ I)) ?_|refine QW (cT (j:=q) bR.eq aL.ty I I hq) ?_|refine QW (aB aL.ty I (Iw _)) ?_|refine QW (cT (j:=col) bR.eq aL.ty I I J) ?_|refine QW (aB aL.ty I (tC _)) ?_|refine GX ?_)|refine GW ?_)
   by_cases c3:p<0
   ·rw[if_pos c3]at JU
    rw[JU]at hD;subst hD
    try refine GA ?_
    exact da I I λw hm=>hm.cX (S:=Ze gw t n vp (.sym (2,(q:Int))::r,ig,Rb,13)) (_,vo1) trivial [0,1,2] ahk I
   rw[if_neg c3]at JU;obtain⟨pn,rfl⟩:∃pn:Nat,p=pn:=⟨p.toNat,by omega⟩;have hpn:pn<g.aF.length:=by have:=(l7 J).1;omega
   have hop:=QU pn hpn;have hoo:=AC hg (p:=(pn:Int)) J J z7
   try refine GA ?_
   refine bK [0,1,2] [] ahk I I (gK aJ.en I I I) (λw hm hb=>hop _ vo1 (.sym (2,(q:Int))) r ig Rb w _ J zz3 J (ho.on hm λo h=>DG h) hb) I I I ?_;rintro⟨QX,Uf⟩ _
   conv=>arg 8;simp only[zJ,dg,ret,id_eq,opS,fg]
   conv=>arg 7;simp only[opS]
   have P1:(opened g.aF (pn:Int) r).length=(opened g.aF (pn:Int) r).length:=rfl;generalize adh:opened g.aF (pn:Int) r=st2 at*
   by_cases c4:Rb+1<=2000/\st2.length<=60
   ·rw[if_pos c4]at JU
    rw[JU]at hD;rw[decide_eq_true c4]
    try refine GA ?_
    refine dS [0,1,2] ?_;exact cJ (f,st2,ig++[(1,(pn:Int))],Rb+1,QX,Uf) ⟨hD,(by show 2001<=f+(Rb+1);omega),c4.2,c4.1,(by show(ig++[(1,(pn:Int))]).length=Rb+1;simp;omega),hoo⟩ (by show f<f+1;omega)
   rw[if_neg c4]at JU;rw[JU]at hD;subst hD;rw[decide_eq_false c4]
   try refine GA ?_
   exact da I I λw hm=>hm.cX (S:=Ze gw t n vp (st2,ig++[(1,(pn:Int))],Rb+1,14)) (QX,Uf) trivial [0,1,2] ahk I
  rw[if_neg c2]at z6;cases z6
end cZ
namespace bV
open aV ey gB eg dq xN
open BK (DC)
section
variable(l:List aV.Prod)(act:Nat->Nat->Act)(gt:Nat->Int->Int)
def BW(σ:List Nat)(p:Int):Option (List Nat):=match σ.drop (dC l p).2.length with
 |r::ρ=>if 0<=gt r (dC l p).1 then aj ((gt r (dC l p).1).toNat::r::ρ)else ak
 |[]=>ak
def hJ(col a:Nat):Nat->List Nat->List dV->Int×List Nat×List dV
 |0,_,_=>(14,[],[])
 | f +1,σ,o=>
  if f=0/\(act (σ.headD 0) col).1≠0 then(14,[],[])
  else if(act (σ.headD 0) col).1=3 then(0,σ,o)
  else if(act (σ.headD 0) col).1=1 then(if 60<σ.length+1 then(14,[],[])else(0,(act (σ.headD 0) col).2.toNat::σ,o++[(2,(a:Int))]))
  else if(act (σ.headD 0) col).1=2 then(match BW l gt σ (act (σ.headD 0) col).2 with
   |none=>(13,[],[])
   |some σ'=>if 60<σ'.length then(14,[],[])else hJ col a f σ' (o++[(4,(act (σ.headD 0) col).2)]))
  else(13,[],[])
end
section
variable{l:List aV.Prod}{act:Nat->Nat->Act}{gt:Nat->Int->Int}{T N:Nat}{lk:Int->Int->Nat}{Nx:List (List Int)}{S:List (List Item)}
structure agu(l:List aV.Prod)(act:Nat->Nat->Act)(gt:Nat->Int->Int)(T N:Nat)(Nx:List (List Int))(S:List (List Item)):Prop where
 act:∀q c,q<S.length->c<=T->act q c=pI l T Nx S q c
 gt:∀q n,q<S.length->0<=n->n<(N:Int)->gt q n=aev T Nx q n
theorem adq{q c:Nat}{x:Act}(h:pI l T Nx S q c=x)(h0:x.1≠0):x∈kJ l T (S.getD q []) (Nx.getD q []) c:=by
 unfold pI at h
 cases e:kJ l T (S.getD q []) (Nx.getD q []) c with
 |nil=>rw[e]at h;subst h;exact absurd I h0
 |cons y r=>rw[e]at h;subst h;exact ir ..
theorem G8{q c:Nat}{x:Act}(h:x∈kJ l T (S.getD q []) (Nx.getD q []) c):
 (x.1=1/\c<T/\0<=(Nx.getD q []).getD c 0/\x.2=(Nx.getD q []).getD c 0)\/(x=(3,0)/\(((l.length:Int),1,(c:Int)):Item)∈S.getD q [])\/(x.1=2/\x.2<(l.length:Int)/\((x.2,((dC l x.2).2.length:Int),(c:Int)):Item)∈S.getD q []):=by
 unfold kJ at h;rcases fC.1 h with h|h
 ·split at h
  ·rename_i c1
   rw[ep]at h;subst h;exact .inl ⟨rfl,c1.1,c1.2,rfl⟩
  cases h
 ·obtain⟨it,hit,e⟩:=List.mem_filterMap.1 h
  obtain⟨p,d,k⟩:=it;unfold yP at e;dsimp only at e
  by_cases c1:k≠(c:Int)
  rw[if_pos c1]at e;cases e;rw[if_neg c1]at e;have c1:k=(c:Int):=Xw.1 c1;subst c1
  by_cases c2:p=(l.length:Int)/\d=1
  ·rw[if_pos c2]at e
   obtain⟨rfl,rfl⟩:=c2;exact .inr (.inl ⟨(o9 e).symm,hit⟩)
  rw[if_neg c2]at e
  by_cases c3:p<(l.length:Int)/\d=((dC l p).2.length:Int)
  ·rw[if_pos c3]at e
   obtain⟨c3,rfl⟩:=c3;obtain rfl:=o9 e;exact .inr (.inr ⟨rfl,c3,hit⟩)
  rw[if_neg c3]at e;cases e
section
variable(hB:agu l act gt T N Nx S)(hI:SI l T N lk S.length Nx S)(hw:∀q∈l,q.2.length<=8)(hl:l.length<=40)(hT:T<=30)(hh:∀q∈l,0<=q.1/\q.1<(N:Int))
include hB hI hw hl hT hh
omit hB hw hl hT hh in
theorem Tw{q k s:Nat}{x:dV}(hq:q<S.length)(hk:(mS T N)[k]?=aj x)(hs:(Nx.getD q []).getD k 0=(s:Int)):s<S.length/\S.getD s []=jn l T lk (S.getD q []) x/\jn l T lk (S.getD q []) x≠[]:=by
 rcases hI.cell q hq k x hk with⟨_,h2⟩|⟨h1,h2,h3⟩
 rw[hs]at h2;omega;rw[hs]at h3;obtain rfl:s=idx S (jn l T lk (S.getD q []) x):=by omega
 refine⟨nu h2,?_,h1⟩;rw[cK,bQ (nu h2)];exact Cc (nu h2)
end
end
end bV
namespace cZ
open aV ey gB eg bV dq xN
open BK (DC)
structure n0(g:eL)(T N:Nat)(Nx:List (List Int))(S:List (List bV.Item)):Prop where
 I':cL g=0
 aT:g.aT=(T:Int)
 bM:g.bM=(N:Int)
 all:allI g.aF T N (kr g)=aj (Nx,S)
 ed:(i_ g).1=iH g.aF T Nx S S.length
 gos:(i_ g).2.1=fT T Nx S.length
 adr:(i_ g).2.2.1=iY g.aF T Nx S S.length
theorem G9{g:eL}(h:(i_ g).2.2.2=0):∃T N Nx S,n0 g T N Nx S:=by
 unfold i_ at h
 by_cases c:(jJ g).2.2≠0
 rw[if_pos c]at h;exact absurd h c;have c2:(jJ g).2.2=0:=Xw.1 c;obtain⟨hg,hA⟩:=QO c2;obtain⟨hT1,hT2,hN1,hN2,-⟩:=de hg;exact⟨g.aT.toNat,g.bM.toNat,(jJ g).1,(jJ g).2.1,hg,by omega,by omega,hA,by unfold i_;rw[if_neg c],by unfold i_;rw[if_neg c],by unfold i_;rw[if_neg c]⟩
section
variable{g:eL}{T N:Nat}{Nx:List (List Int)}{S:List (List bV.Item)}
theorem n0.wide(h:n0 g T N Nx S):∀q∈g.aF,q.2.length<=8:=λq hq=>((de h.I').2.2.2.2.2 q hq).1
theorem n0.BO(h:n0 g T N Nx S):g.aF.length<=40:=(de h.I').2.2.2.2.1
theorem n0.t30(h:n0 g T N Nx S):T<=30:=by have:=(de h.I').2.1;have:=h.aT;omega
theorem n0.law(h:n0 g T N Nx S):SI g.aF T N (kr g) S.length Nx S:=KV h.wide h.BO h.t30 h.all
theorem EA{l:List aV.Prod}{i n:Nat}(h:i<n):(iH l T Nx S n)[i]?=aj (ix l T Nx S i (T+1)):=by unfold iH;simp[h]
theorem Bu{i n:Nat}(h:i<n):(fT T Nx n)[i]?=aj ((Nx.getD i []).drop T):=by unfold fT;simp[h]
theorem Pg{l:List aV.Prod}{q c:Nat}(h:c<T+1):(ix l T Nx S q (T+1))[c]?=aj (pI l T Nx S q c):=by
 unfold ix;rw[fx,De h];simp[h]
theorem n0.right(h:n0 g T N Nx S){q c:Nat}(hq:q<S.length)(_:c<T+1):vO T g.aF.length S.length (pI g.aF T Nx S q c) c:=by
 have hI:=h.law
 by_cases h0:(pI g.aF T Nx S q c).1=0
 ·left
  refine⟨h0,?_⟩;unfold pI at h0⊢
  cases e:kJ g.aF T (S.getD q []) (Nx.getD q []) c with
  |nil=>rfl
  |cons y r=>
   rw[e]at h0;have hm:y∈kJ g.aF T (S.getD q []) (Nx.getD q []) c:=by rw[e];exact ir ..
   rcases G8 hm with h'|h'|h'
   have:=h'.1;have h0:y.1=0:=h0;omega;have h0:y.1=0:=h0;rw[h'.1]at h0;cases h0;have:=h'.1;have h0:y.1=0:=h0;omega
 rcases G8 (adq rfl h0)with h'|h'|h'
 ·obtain⟨h1,h2,h3,h4⟩:=h'
  obtain⟨s,hs⟩:=jg h3;obtain⟨k1,-,-⟩:=Tw hI hq (SH h2) hs;exact .inr (.inl ⟨h1,h2,by omega,by rw[h4,hs];omega⟩)
 ·obtain⟨h1,h2⟩:=h'
  have ht:=aam h.wide h.BO h.t30 h.all q hq _ h2 I;have ht:(c:Int)=(T:Int):=ht;exact .inr (.inr (.inr ⟨by rw[h1],by rw[h1],by omega⟩))
 obtain⟨h1,h2,h3⟩:=h';exact .inr (.inr (.inl ⟨h1,(Lh hI hq _ h3).1,h2⟩))
theorem n0.py(h:n0 g T N Nx S):rW g T N (iH g.aF T Nx S S.length) (fT T Nx S.length) where
 I':=h.I'
 aT:=h.aT
 bM:=h.bM
 pos:=by rw[jw];exact(dv.1 h.law.start).1
 BO:=by rw[jw];exact h.law.BO
 same:=by rw[jw,mu]
 wA:=λi hi=>by
  obtain⟨h1,h2⟩:=dv.1 (EA (T:=T) (Nx:=Nx) (S:=S) (l:=g.aF) (show i<S.length by rw[jw]at hi;exact hi));rw[h2];exact pX
 ed:=λi hi c hc=>by
  have qN:i<S.length:=by rw[jw]at hi;exact hi
  obtain⟨h1,h2⟩:=dv.1 (EA (T:=T) (Nx:=Nx) (S:=S) (l:=g.aF) qN);simp only[h2]at hc⊢;rw[pX]at hc;obtain⟨h3,h4⟩:=dv.1 (Pg (l:=g.aF) (T:=T) (Nx:=Nx) (S:=S) (q:=i) hc);rw[h4,jw];exact h.right qN hc
 wG:=λi hi=>by
  have qN:i<S.length:=by rw[mu]at hi;exact hi
  obtain⟨h1,h2⟩:=dv.1 (Bu (T:=T) (Nx:=Nx) qN);rw[h2,iv,h.law.wide i qN];omega
 gos:=λi hi y hy=>by
  have qN:i<S.length:=by rw[mu]at hi;exact hi
  obtain⟨h1,h2⟩:=dv.1 (Bu (T:=T) (Nx:=Nx) qN);rw[h2]at hy;obtain⟨k,hk,rfl⟩:=List.getElem_of_mem hy;rw[jw];rw[iv,h.law.wide i qN]at hk;rw[List.getElem_drop];have hw:=h.law.wide i qN;have hg:(Nx.getD i [])[T+k]'(by rw[hw];omega)=(Nx.getD i []).getD (T+k) 0:=by rw[cK (l:=Nx.getD i []),bQ (by rw[hw];omega)];rfl
  rw[hg];rcases h.law.cell i qN (T+k) _ (WE J)with⟨_,e⟩|⟨_,e1,e2⟩
  rw[e];omega;rw[e2];have:=nu e1;omega
def ji(A:List (List bV.Act))(q c:Nat):bV.Act:=(A.getD q []).getD c (0,0)
def fB(G:List (List Int))(q:Nat)(n:Int):Int:=(G.getD q []).getD n.toNat 0
theorem Bv{l:List aV.Prod}:∀n,(iY l T Nx S n).length=0->∀q,q<n->∀c,c<=T->(kJ l T (S.getD q []) (Nx.getD q []) c).length<=1
 |0,_,q,hq,_,_=>absurd hq (mc _)
 | n + 1,h,q,hq,c,hc=>by
  rw[iY,bT]at h
  by_cases e:q=n
  ·subst e
   have row:∀d,(iX l T Nx S q d).length=0->∀c,c<d->(wx l T Nx S q c).length=0:=λd=>by
    induction d with
    |zero=>exact λ_ c hc=>absurd hc (mc _)
    | succ d ih=>
     intro h c hc;rw[iX,bT]at h
     by_cases e2:c=d
     subst e2;omega;exact ih J c J
   have:=row (T+1) J c J;unfold wx at this;rw[dX,IV]at this;have h2:(kJ l T (S.getD q []) (Nx.getD q []) c).length-1=0:=this;omega
  exact Bv n J q J c hc
theorem n0.calm(h:n0 g T N Nx S)(hc:ab0 g=aD):aew g.aF T Nx S:=by
 unfold ab0 at hc;rw[fU,decide_eq_true_eq,decide_eq_true_eq,h.adr]at hc;exact λq hq c hcT=>Bv S.length hc.2 q hq c hcT
theorem Ph(hg:cL g=0){p:Int}:∀x∈fZ g.aF p,right g.aT g.bM x=true:=λx hx=>by
 unfold fZ at hx;split at hx
 ·rw[ep.1 hx]
  have:=(de hg).2.2.1;unfold right;rw[if_neg ahk,if_pos I];simp only[Int.le_refl,decide_true,Bool.true_and,decide_eq_true_eq];omega
 by_cases h2:p.toNat<g.aF.length
 ·have:dC g.aF p∈g.aF:=by unfold dC;rw[cK,bQ h2];exact cV h2
  exact((de hg).2.2.2.2.2 _ this).2.2.2 x hx
 unfold dC at hx;rw[cK,jE J]at hx
 cases hx
theorem n0.looks(h:n0 g T N Nx S)(p d:Int):kr g p d=gI (wJ N g.aF).E (ML N g.aF) ((fZ g.aF p).drop (d.toNat+1)) (2^62):=by
 unfold kr BN;have hb8:=mQ (l:=g.aF) (p:=p) h.wide;have hE:uL g ((fZ g.aF p).drop (d.toNat+1))=0:=by
  unfold uL;rw[if_neg (by rw[h.I'];simp),if_neg (by rw[iv];omega)];exact Ii λx hx=>Ph h.I' x (uz hx)
 rw[if_pos hE,show g.bM.toNat=N by rw[h.bM];rfl]
end
end cZ
namespace cZ
open Go.RowKit dr eH aV ey eg bV dq
def sI(σ:List Nat):List Int:=σ.reverse.map λq:Nat=>(q:Int)
theorem vP(σ:List Nat):(sI σ).length=σ.length:=by unfold sI;simp
theorem zc(q:Nat)(σ:List Nat):sI (q::σ)=sI σ++[(q:Int)]:=by unfold sI;simp
theorem Rf(b:Nat)(σ:List Nat):sI (σ.drop b)=(sI σ).take (σ.length-b):=by
 unfold sI;rw[<-XA,List.take_reverse]
 by_cases h:b<=σ.length
 rw[show σ.length-(σ.length-b)=b by omega];rw[pO J,pO J]
theorem Yd{b:Nat}{σ ρ:List Nat}{r n:Nat}(h:σ.drop b=r::ρ)(hn:σ.length=n+1+b):(sI σ)[n]?=aj (r:Int):=by
 have h1:=Rf b σ;rw[h,zc,show σ.length-b=n+1 by omega]at h1;have h2:ρ.length=n:=by
  have:=congrArg OX h;rw[iv,dE]at this;omega
 have h3:((sI σ).take (n+1))[n]?=aj (r:Int):=by
  rw[<-h1,List.getElem?_append_right (by rw[vP];omega),vP,h2,px];rfl
 rwa [List.getElem?_take_of_lt (ox n)]at h3
abbrev skR(w:World)(vs:Value)(σ:List Nat):Prop:=Sl w vs σ.length ((sI σ).flatMap dr.eV)
abbrev Rg(vs:Value)(σ:List Nat):cU:=bD 3 1 vs σ.length ((sI σ).flatMap dr.eV)
def vU(vs:Value)(seen over:Int)(done:Bool):Value:=aU #[vs,av az seen,av az over,.bool done]
theorem EB(aA:Option Addr)(nA cA:Nat)(vG:Value)(q:Int)(g5:Nat)(w:World)(h0:0<=q)(h1:q<(nA:Int))(hg:w.heap[g5]?=aj (.cells (aU #[ap aA nA cA,vG]).cells 36 (0,0))):
 Calls aC 186 #[av az q,aK (aj ⟨g5,0,ak⟩)] w (cY (ret (.bool aE)) w):=by
 have hcell:∀(L:List cU),At w L ⟨g5,0,ak⟩ (ap aA nA cA):=λL=>kw (by
  rw[cell_of_row w g5 0 _ _ _ hg];rfl)
 clear hg;refine enter (args:=[av az q,aK (aj ⟨g5,0,ak⟩)]) (n:=13) Tryz.func186 I I I ?_
 repeat(first|refine GC ?_|refine gV (aW (b:=aE) I I (decide_eq_false J)) ?_|refine gV (aB (v:=ap aA nA cA) aL.ty I (hcell _)) ?_|refine gV (dQ (b:=aE) I I (decide_eq_false J)) ?_|refine GB ?_)
 exact fa
theorem w6(v t vs:Value)(g:eL)(T N:Nat)(A:List (List bV.Act))(G:List (List Int))(σ:List Nat)(seen col:Int)(w:World)(hG:kz (λk=>k<w.heap.size) w v g)(ht:AN w t A G)(hs:skR w vs σ)(hT:rW g T N A G)(hq:∀q∈σ,q<A.length)(h0:0<σ.length)(hl:σ.length<=60)(h1:0<=seen)(h2:seen<=1099511627776)(h3:0<=col)(h4:col<=g.aT):
 Calls aC 170 #[v,t,vU vs seen 0 aE,av az col] w (cY (ret (av az 0)) w):=by
 have jr:=λw' (hg:Gr w w')=>w5 v t g T N A G hT w' (hG.gr hg) (ht.gr hg);obtain⟨vp,rfl,hp,-,-⟩:=hG;obtain⟨bp,cp,rfl,-⟩:=hp;obtain⟨vA,vG,rfl,hA,hGo⟩:=ht;obtain⟨aA,cA,rfl,-,-⟩:=mV hA;clear hA hGo;have JQ:=λw' (hg:Gr w w') g5 (hb:w'.heap[g5]?=aj (.cells (aU #[ap aA A.length cA,vG]).cells 36 (0,0)))=>sT vs (sI σ) w' (by rw[vP];exact hs.gr hg) 186 #[] #[aK (aj ⟨g5,0,ak⟩)] (λ_=>aE) aJ.en (λa ha B7 yC=>by
  unfold sI at ha;obtain⟨q,hq1,rfl⟩:=e7.1 ha;have:=hq q (Xz.1 hq1);exact EB aA A.length cA vG (q:Int) g5 B7 J J (by rw[yC.block g5 (lA.1 hb).1];exact hb))
 have Ey:(sI σ).any (λ_=>aE)=false:=by rw[sV];intro _ _ h;cases h
 rw[Ey]at JQ;obtain⟨bs,cs,rfl,-⟩:=hs;refine enter (args:=[ee g.aT g.bM (ap bp g.aF.length cp),aU #[ap aA A.length cA,vG],vU (ap bs σ.length cs) seen 0 aE,av az col]) (n:=66) Tryz.func170 I I I ?_;refine bC (aM (b_ I I I λg4=>?_));refine zL ?_;refine b_ I I I λg5=>?_;refine zL ?_;refine b_ I I I λg6=>?_;refine zL ?_
 repeat(first|refine GA ?_|refine gV (aQ (i:=0) aL.ty I I I) ?_|refine gV (aQ (i:=1) aL.ty I I I) ?_)
 refine a8 (gK aJ.en I I I) (λw hm=>jr w hm.below) I I I ?_;intro _ _;refine zL ?_
 repeat(first|refine GA ?_|refine gV (aB (v:=ap bs σ.length cs) aL.ty I (aH (i:=2) I I)) ?_|refine gV (aB (v:=av az seen) aL.ty I (aH (i:=2) I I)) ?_|refine gV (aB (v:=av az 0) aL.ty I (aH (i:=2) I I)) ?_|refine gV (aB (v:= .bool aE) aL.ty I (aH (i:=2) I I)) ?_|refine gV (aB (v:=av az g.aT) aL.ty I (aH (i:=0) I I)) ?_|refine gV (wk I I) ?_)
 refine a8 (gK aJ.en I I I) (λw hm=>JQ _ hm.below _ (hm.get (i:=1) I)) I I I ?_;intro _ _;refine zL ?_
 repeat(first|refine GA ?_|refine gV (aB (v:=av az 0) aL.ty I (aH (i:=2) I I)) ?_|refine gV (aB (v:= .bool aE) aL.ty I (aH (i:=2) I I)) ?_)
 exact fa
theorem Tz(g:Nat)(w:World):(dR 161 #[(0,ap (aj ⟨g,0,ak⟩) 1 1)]).run aC w= .ok (vU (ap (aj ⟨g,0,ak⟩) 1 1) 0 0 aE) w:=by
 unfold vU;go_simp
theorem G_(seen e:Int)(w:World):(dR 161 #[(1,av az seen),(2,av az e)]).run aC w= .ok (vU (ap ak 0 0) seen e aE) w:=by
 unfold vU;go_simp
theorem TA(b:Option Addr)(m c:Nat)(seen:Int)(w:World):(dR 161 #[(0,ap b m c),(1,av az seen)]).run aC w= .ok (vU (ap b m c) seen 0 aE) w:=by
 unfold vU;go_simp
theorem TB(seen:Int)(w:World):(dR 161 #[(1,av az seen),(3,.bool aD)]).run aC w= .ok (vU (ap ak 0 0) seen 0 aD) w:=by
 unfold vU;go_simp
def Cp:Spec Value:=⟨λ_=>True,λvt=>vU vt 0 0 aE,λvt=>[Rg vt [0]]⟩
theorem Fw(w:World):Calls aC 66 #[] w (cY Cp w):=by
 refine enter (args:=[]) (n:=3) Tryz.func66 I I I ?_;refine bC (aM (bz I λg2=>?_));refine zL ?_
 try refine GA ?_
 refine im (cs:=#[av az 0]) [av az 0] I I I (by intro v hv;simp at hv;subst hv;rfl) I I I λg3=>?_;refine zL ?_
 repeat(first|refine QZ ?_|refine QV (bP I (Tz _)) ?_)
 refine il 0 (cs':=#[ap (aj ⟨g3,0,ak⟩) 1 1,av az 0,av az 0,.bool aE]) ?_;refine zL ?_;refine yr (i:=1) 1 I I J ?_;refine zL ?_
 try refine GA ?_
 exact h_ (i:=0) I I I I λw hm=>hm.meets (S:=Cp) (ap (aj ⟨g3,0,ak⟩) 1 1) trivial [1] ahk I
def LP(R:Option (List Nat)):Spec Value:=⟨λ_=>True,λv=> .tuple #[v,.bool R.isSome],λv=>match R with|some σ'=>[Rg v σ']|none=>[]⟩
theorem EC(v t vs:Value)(g:eL)(T N:Nat)(A:List (List bV.Act))(G:List (List Int))(σ:List Nat)(p:Nat)(w:World)(hG:kz (λk=>k<w.heap.size) w v g)(ht:AN w t A G)(hs:skR w vs σ)(hT:rW g T N A G)(hq:∀q∈σ,q<A.length)(hl:σ.length<=60)(hp:p<g.aF.length):
 Calls aC 187 #[v,t,vs,av az (p:Int)] w (cY (LP (BW g.aF (fB G) σ (p:Int))) w):=by
 obtain⟨hg,IE,hNn,AA,OJ,tf,hwA,aaT,hwG,X'⟩:=hT;obtain⟨hT1,hT2,-,hN2,Bi,hpr⟩:=de hg;have hpe:dC g.aF (p:Int)=g.aF[p]:=by unfold dC;rw[dP,cK,bQ hp];rfl
 have hpp:=hpr _ (cV hp);obtain⟨vp,rfl,hpg,-,-⟩:=hG;obtain⟨bp,cp,rfl,-,-,oC⟩:=hpg;obtain⟨b1,o1,rfl,-,oC⟩:=oC J;obtain⟨base,cap,fl,-,-⟩:=lT oC hp;clear oC;unfold BW;rw[hpe];have agv:∀L,At (w:b9) L ⟨b1,o1+p*2+0,ak⟩ (av az g.aF[p].1):=λL=>jb fl I;have afl:∀L,At (w:b9) L ⟨b1,o1+p*2+1,ak⟩ (.slice base g.aF[p].2.length cap):=λL=>jb fl I;clear fl hpe hpr;generalize g.aF[p]=pr at*;obtain⟨hd,bd⟩:=pr;dsimp only at*;obtain⟨vA,vG,rfl,-,hGo⟩:=ht;obtain⟨aG,cG,rfl,-,-⟩:=mV hGo;obtain⟨bs,cs,rfl,hcs,hms,hrS⟩:=hs;unfold maxLen at hms;refine enter (args:=[ee g.aT g.bM (ap (aj ⟨b1,o1,ak⟩) g.aF.length cp),aU #[vA,ap aG G.length cG],ap bs σ.length cs,av az (p:Int)]) (n:=50) Tryz.func187 I I I ?_;refine bC (aM (b_ I I I λg4=>?_));refine zL ?_;refine b_ I I I λg5=>?_;refine zL ?_
 by_cases c:σ.length<=bd.length
 ·rw[pO c]
  repeat(first|refine GC ?_|refine gV (aB (v:=ap (aj ⟨b1,o1,ak⟩) g.aF.length cp) aL.ty I (aH (i:=0) I I)) ?_|refine gV (a_ bR.eq aL.ty I I hp) ?_|refine gV (aB (v:=ap base bd.length cap) aL.ty I (afl _)) ?_|refine gV (df (r:=(σ.length:Int)-(bd.length:Int)) I I I J J) ?_|refine gV (aW (b:=aD) I I (decide_eq_true J)) ?_|refine GB ?_)
  exact sn I I I λw hm=>hm.meets (S:=LP ak) (ap ak 0 0) trivial [] ahk I
 obtain⟨n,hn⟩:∃n,σ.length=n+1+bd.length:=⟨σ.length-bd.length-1,by omega⟩;obtain⟨r,ρ,hdr⟩:∃r ρ,σ.drop bd.length=r::ρ:=OV λe=>by
  have:=congrArg OX e;rw[iv,gJ]at this;omega
 have LQ:=Yd hdr hn;have hdI:=Rf bd.length σ;rw[hdr,zc,show σ.length-bd.length=n+1 by omega]at hdI;have hrA:r<A.length:=hq r (uz (i:=bd.length) (by rw[hdr];exact ir ..));rw[hdr];dsimp only;have hrG:r<G.length:=by omega
 obtain⟨b2,o2,rfl,ED⟩:=hrS J;rw[KG]at ED;have tC:∀L,At (w:b9) L ⟨b2,o2+n,ak⟩ (av az (r:Int)):=λL=>jb ED (by rw[fx,LQ];rfl);have afm:∀L j u,(((sI σ).take (n+1)).flatMap dr.eV)[j]?=aj u->At (w:b9) L ⟨b2,o2+j,ak⟩ u:=λL j u hj=>jb ED (by
  rw[KG,XA,List.getElem?_take]at hj
  by_cases cc:j<n+1
  rwa [if_pos cc]at hj
  rw[if_neg cc]at hj;cases hj)
 clear ED hrS;obtain⟨bG,oG,wi,rfl,hcG,hsG⟩:=I9 hGo hrG;have aaV:∀L,At (w:b9) L ⟨bG,oG+r,ak⟩ wi:=λL=>kw hcG;clear hcG;obtain⟨ei,di,rfl,hdi,afe⟩:=mV hsG;have hfG:=hsG.flat (f:=λn=>[av .i64 n]) ahk;obtain⟨_,_,e2,-,-,hrY⟩:=hfG
 cases e2
 have ahg:=hwG r hrG;have hgo:=X' r hrG;have J9:fB G r hd=G[r].getD hd.toNat 0:=by unfold fB;rw[cK (l:=G),bQ hrG];rfl
 rw[J9];clear hsG J9 X' hwG hwA aaT hGo;generalize G[r]=Y at*;obtain⟨h,rfl⟩:=jg hpp.2.1;have hhY:h<Y.length:=by omega
 obtain⟨b3,o3,rfl,LO⟩:=hrY J;have hYh:Y[h]?=aj (Y.getD h 0):=by rw[cK,bQ hhY];rfl
 have ac8:∀L,At (w:b9) L ⟨b3,o3+h,ak⟩ (av az (Y.getD h 0)):=λL=>jb LO (by
  rw[show(Y.flatMap λn=>[av .i64 n])=Y.map (.int .i64)from KG Y,fx,hYh];rfl)
 have hto:=hgo _ (List.mem_of_getElem? hYh);clear LO hrY hYh hgo;rw[show Y.getD ((h:Int)).toNat 0=Y.getD h 0 from I];generalize Y.getD h 0=to1 at*
 repeat(first|refine GC ?_|refine gV (aB (v:=ap (aj ⟨b1,o1,ak⟩) g.aF.length cp) aL.ty I (aH (i:=0) I I)) ?_|refine gV (a_ bR.eq aL.ty I I hp) ?_|refine gV (aB (v:=ap base bd.length cap) aL.ty I (afl _)) ?_|refine gV (df (r:=((n+1:Nat):Int)) I I J J J) ?_|refine gV (aW (b:=aE) I I (decide_eq_false J)) ?_|refine GB ?_)
 refine eo ([aR g4 (ee g.aT g.bM (ap (aj ⟨b1,o1,ak⟩) g.aF.length cp)).cells 33,aR g5 (aU #[vA,ap (aj ⟨bG,oG,ak⟩) G.length cG]).cells 36]) (.calm 0 (.calm 1 (.calm 2 (.calm 3 (.calm 4 (.calm 5 (.calm 6 (.calm 7 (.calm 8 (.calm 9 (.calm 10 (.calm 11 (.calm 12 (.calm 13 (.calm 14 (.calm 15 (.calm 16 (.calm 17 (.done))))))))))))))))))) (λ_ h=>h) ?_
 repeat(first|(refine GN ?_;first|refine QW QP ?_|refine QW (aB (v:=ap (aj ⟨bG,oG,ak⟩) G.length cG) aL.ty I (aH (i:=1) I I)) ?_|refine QW (df (r:=(n:Int)) I I J J J) ?_|refine QW (cT (j:=n) bR.eq aL.ty I I J) ?_|refine QW (aB (v:=av az (r:Int)) aL.ty I (tC _)) ?_|refine QW (cT (j:=r) bR.eq aL.ty I I hrG) ?_|refine QW (aB (v:=ap (aj ⟨b3,o3,ak⟩) Y.length di) aL.ty I (aaV _)) ?_|refine QW (aB (v:=ap (aj ⟨b1,o1,ak⟩) g.aF.length cp) aL.ty I (aH (i:=0) I I)) ?_|refine QW (a_ bR.eq aL.ty I I hp) ?_|refine QW (aB (v:=av az (h:Int)) aL.ty I (agv _)) ?_|refine QW (cT (j:=h) bR.eq aL.ty I I hhY) ?_|refine QW (aB (v:=av az to1) aL.ty I (ac8 _)) ?_|refine GX ?_)|refine GW ?_)
 repeat(first|refine GC ?_|refine gV (acL (j:=n+1) bR.eq aL.ty I I I J) ?_|refine GB ?_)
 refine fX (cs:=#[av az to1]) I I I I I λg46=>?_;refine zL ?_;refine NA (q:=2) (m:=n+1) (olds:=((sI σ).take (n+1)).flatMap dr.eV) I (afm _) (by rw[KG,dX,jR,vP];show _=(n+1)*1;omega) I I I J J I λv'=>?_;refine zL ?_
 by_cases c2:0<=to1
 ·rw[if_pos c2]
  have e:bD 3 1 v' (n+1+1) (((sI σ).take (n+1)).flatMap dr.eV++[av az to1])=Rg v' (to1.toNat::r::ρ):=by
   have Nv:(to1.toNat::r::ρ).length=n+1+1:=by
    have:=congrArg OX hdr;rw[iv]at this;simp only[dE]at this⊢;omega
   show _=bD 3 1 v' (to1.toNat::r::ρ).length ((sI (to1.toNat::r::ρ)).flatMap dr.eV)
   rw[Nv,zc,zc,hdI,fV,uy c2];rfl
  repeat(first|refine GC ?_|refine gV (dQ (b:=aD) I I (decide_eq_true c2)) ?_|refine GB ?_)
  exact sn I I I λw hm=>hm.meets (S:=LP (aj (to1.toNat::r::ρ))) v' trivial [3] ahk (by show[_]=[_];rw[<-e];rfl)
 ·rw[if_neg c2]
  repeat(first|refine GC ?_|refine gV (dQ (b:=aE) I I (decide_eq_false c2)) ?_|refine GB ?_)
  exact sn I I I λw hm=>hm.meets (S:=LP ak) v' trivial [] ahk I
end cZ
namespace cZ
open Go.RowKit dr eH aV ey eg bV dq
theorem rW.right{g:eL}{T N:Nat}{A:List (List bV.Act)}{G:List (List Int)}(h:rW g T N A G){q c:Nat}(hq:q<A.length)(hc:c<=T):vO T g.aF.length A.length (ji A q c) c:=by
 have h1:c<A[q].length:=by rw[h.wA q hq];omega
 have:=h.ed q hq c h1;unfold ji;rw[cK (l:=A),bQ hq,lf,cK,bQ h1];exact this
theorem rW.go{g:eL}{T N:Nat}{A:List (List bV.Act)}{G:List (List Int)}(h:rW g T N A G){q:Nat}{n:Int}(hq:q<A.length)(h0:0<=n)(h1:n<(N:Int)):fB G q n<(A.length:Int):=by
 have hqG:q<G.length:=by rw[h.same];exact hq
 have h2:n.toNat<G[q].length:=by rw[h.wG q hqG];omega
 have:=(h.gos q hqG _ (cV h2)).2;unfold fB;rw[cK (l:=G),bQ hqG,lf,cK,bQ h2];exact this
theorem Ja{g:eL}{T N:Nat}{A:List (List bV.Act)}{G:List (List Int)}(h:rW g T N A G){σ σ':List Nat}{p:Int}(h0:0<=p)(h1:p<(g.aF.length:Int))(hq:∀q∈σ,q<A.length)(hr:BW g.aF (fB G) σ p=aj σ'):σ'≠[]/\σ'.length<=σ.length+1/\∀q∈σ',q<A.length:=by
 unfold BW at hr
 cases e:σ.drop (dC g.aF p).2.length with
 |nil=>rw[e]at hr;cases hr
 | cons r ρ=>
  rw[e]at hr;dsimp only at hr;have lP:∀q∈r::ρ,q<A.length:=λq CM=>hq q (uz (i:=(dC g.aF p).2.length) (by rw[e];exact CM));have hlen:(r::ρ).length<=σ.length:=by rw[<-e,iv];omega
  split at hr
  ·rename_i c
   obtain rfl:=o9 hr;have hh:=(de h.I').2.2.2.2.2 _ (gB.xK h0 h1);have:=h.go (lP r (ir ..)) hh.2.1 (by have:=h.bM;omega);refine⟨by simp,by simp only[dE]at hlen⊢;omega,λq CM=>?_⟩;rcases ez.1 CM with rfl|CM
   omega;exact lP q CM
  cases hr
section
variable{l:List aV.Prod}{act:Nat->Nat->bV.Act}{gt:Nat->Int->Int}{col a f q:Nat}{σ:List Nat}{o:List dV}
theorem afn{m:Int}(h:act q col=(0,m)):hJ l act gt col a (f+1) (q::σ) o=(13,[],[]):=by
 rw[hJ,show(q::σ).headD 0=q from I,h,if_neg (by simp),if_neg (by simp),if_neg (by simp),if_neg (by simp)]
theorem Ye{x:bV.Act}(h:act q col=x)(h0:x.1≠0):hJ l act gt col a 1 (q::σ) o=(14,[],[]):=by
 rw[hJ,show(q::σ).headD 0=q from I,h,if_pos ⟨rfl,h0⟩]
theorem afp{m:Int}(h:act q col=(3,m)):hJ l act gt col a (f+1+1) (q::σ) o=(0,q::σ,o):=by
 rw[hJ,show(q::σ).headD 0=q from I,h,if_neg (λh=>IW _ h.1),if_pos I]
theorem afq{m:Int}(h:act q col=(1,m)):hJ l act gt col a (f+1+1) (q::σ) o=if 60<(q::σ).length+1 then(14,[],[])else(0,m.toNat::q::σ,o++[(2,(a:Int))]):=by
 rw[hJ,show(q::σ).headD 0=q from I,h,if_neg (λh=>IW _ h.1),if_neg (by simp),if_pos I]
theorem ab1{m:Int}(h:act q col=(2,m))(hr:BW l gt (q::σ) m=ak):hJ l act gt col a (f+1+1) (q::σ) o=(13,[],[]):=by
 rw[hJ,show(q::σ).headD 0=q from I,h,if_neg (λh=>IW _ h.1),if_neg (by simp),if_neg (by simp),if_pos I];dsimp only;rw[hr]
theorem afr{m:Int}{σ':List Nat}(h:act q col=(2,m))(hr:BW l gt (q::σ) m=aj σ'):hJ l act gt col a (f+1+1) (q::σ) o=if 60<σ'.length then(14,[],[])else hJ l act gt col a (f+1) σ' (o++[(4,m)]):=by
 rw[hJ,show(q::σ).headD 0=q from I,h,if_neg (λh=>IW _ h.1),if_neg (by simp),if_neg (by simp),if_pos I];dsimp only;rw[hr]
end
theorem Cq{g:eL}{T N:Nat}{A:List (List bV.Act)}{G:List (List Int)}(h:rW g T N A G){col a:Nat}(hc:col<=T):∀(f:Nat) {σ:List Nat} {o:List dV},σ≠[]->(∀q∈σ,q<A.length)->σ.length<=60->(hJ g.aF (ji A) (fB G) col a f σ o).1=0->
 (hJ g.aF (ji A) (fB G) col a f σ o).2.1≠[]/\(∀q∈(hJ g.aF (ji A) (fB G) col a f σ o).2.1,q<A.length)/\(hJ g.aF (ji A) (fB G) col a f σ o).2.1.length<=60/\(hJ g.aF (ji A) (fB G) col a f σ o).2.2.length<=o.length+f
 |0,_,_,_,_,_,h0=>by cases h0
 | f + 1,σ,o,hne,hq,hl,h0=>by
  obtain⟨q,σ,rfl⟩:=OV hne;have Xf:=h.right (hq q (ir ..)) hc;generalize hx:ji A q col=x at Xf;obtain⟨k,m⟩:=x
  by_cases ck:k=0
  subst ck;rw[afn hx]at h0;cases h0
  cases f with
  |zero=>rw[Ye hx ck]at h0;cases h0
  | succ f=>
   rcases Xf with⟨e,_⟩|⟨e,h1,h2,h3⟩|⟨e,h1,h2⟩|⟨e,_⟩<;>dsimp only at e<;>subst e
   exact absurd I ck
   ·rw[afq hx]at h0⊢
    by_cases c:60<(q::σ).length+1
    rw[if_pos c]at h0;cases h0;rw[if_neg c];refine⟨by simp,λy hy=>?_,by simp only[dE]at c⊢;omega,by simp⟩;rcases ez.1 hy with rfl|hy
    dsimp only at h2 h3;omega;exact hq y hy
   ·dsimp only at h1 h2
    cases hr:BW g.aF (fB G) (q::σ) m with
    |none=>rw[ab1 hx hr]at h0;cases h0
    | some σ'=>
     rw[afr hx hr]at h0⊢
     by_cases c:60<σ'.length
     rw[if_pos c]at h0;cases h0;rw[if_neg c]at h0⊢;obtain⟨r1,r2,r3⟩:=Ja h h1 h2 hq hr;have:=Cq h hc (f+1) (o:=o++[(4,m)]) r1 r3 J h0;refine⟨this.1,this.2.1,this.2.2.1,fI this.2.2.2 ?_⟩;rw[bT,ky];omega
   rw[afp hx];exact⟨hne,hq,hl,by show o.length<=_;omega⟩
theorem afs{B:b9}{L:List cU}{i g cap:Nat}{q:Nat}{σ:List Nat}(hi:L[i]?=aj (Rg (ap (aj ⟨g,0,ak⟩) (σ.length+1) cap) (q::σ))):At B L ⟨g,0+σ.length*1,ak⟩ (av az (q:Int)):=
 ru (f:=dr.eV) KW hi (k:=σ.length) (by rw[vP];simp) 0 _ (by
  have:(sI (q::σ))[σ.length]?=aj (q:Int):=Yd (b:=0) (ρ:=σ) I I;rw[dv]at this;obtain⟨_,h⟩:=this;rw[h];rfl)
theorem aaX{v:Value}{m:Int}{q:Nat}{σ:List Nat}(h:0<=m):bD 3 1 v (σ.length+1+1) ((sI (q::σ)).flatMap dr.eV++[av az m])=Rg v (m.toNat::q::σ):=by
 show _=bD 3 1 v (m.toNat::q::σ).length ((sI (m.toNat::q::σ)).flatMap dr.eV)
 rw[zc m.toNat,fV,uy h];rfl
theorem Rh{v:Value}{x:dV}{o:List dV}:bD 55 2 v (o.length+1) (o.flatMap eX++eX x)=lu v (o++[x]):=by
 show _=bD 55 2 v (o++[x]).length ((o++[x]).flatMap eX)
 rw[bT,fV];simp
def rY(R:Int×List Nat×List dV):Spec (Value×Value):=⟨λ_=>True,λx=>if R.1=0 then .tuple #[x.1,x.2,av az 0]else .tuple #[ap ak 0 0,ap ak 0 0,av az R.1],λx=>if R.1=0 then [Rg x.1 R.2.1,lu x.2 R.2.2]else []⟩
theorem LR{σ:List Nat}{o:List dV}:rY (0,σ,o)=⟨λ_=>True,λx=> .tuple #[x.1,x.2,av az 0],λx=>[Rg x.1 σ,lu x.2 o]⟩:=by unfold rY;simp
theorem LS{e:Int}(he:e≠0){x:List Nat×List dV}:rY (e,x)=⟨λ_=>True,λ_=> .tuple #[ap ak 0 0,ap ak 0 0,av az e],λ_=>[]⟩:=by unfold rY;simp[he]
attribute [local irreducible] Instr.build in
theorem Bw(v t vs:Value)(g:eL)(T N:Nat)(A:List (List bV.Act))(G:List (List Int))(sb:List Nat)(seen col:Nat)(w:World)(hG:kz (λk=>k<w.heap.size) w v g)(ht:AN w t A G)(hs:skR w vs sb)(hT:rW g T N A G)(hq:∀q∈sb,q<A.length)(hne:sb≠[])(hl:sb.length<=60)(hc:col<=T):
 Calls aC 172 #[v,t,vU vs (seen:Int) 0 aE,av az (col:Int)] w (cY (rY (hJ g.aF (ji A) (fB G) col seen 2001 sb [])) w):=by
 have lz:=λw' (hg:Gr w w')=>kj vs (sI sb) w' (by rw[vP];exact hs.gr hg) (by rw[vP];omega);rw[vP]at lz;have fl:=λpJ σ p w' (hg:Gr w w') xo CM ZA hp=>EC v t pJ g T N A G σ p w' (hG.gr hg) (ht.gr hg) xo hT CM ZA hp;have aft:=λσ σ' p h0 h1 hq hr=>Ja (σ:=σ) (σ':=σ') (p:=p) hT h0 h1 hq hr;have Xf:=λq (hq:q<A.length)=>hT.right hq hc;have hwA:=hT.wA;clear hT;obtain⟨vp,rfl,-⟩:=hG;obtain⟨vA,vG,rfl,hA,-⟩:=ht;obtain⟨aA,cA,rfl,-,-⟩:=mV hA;refine enter (args:=[ee g.aT g.bM vp,aU #[ap aA A.length cA,vG],vU vs (seen:Int) 0 aE,av az (col:Int)]) (n:=87) Tryz.func172 I I I ?_;refine bC (aM (b_ I I I λg4=>?_));refine zL ?_;refine b_ I I I λg5=>?_;refine zL ?_;refine b_ I I I λg6=>?_;refine zL ?_
 repeat(first|refine GA ?_|refine gV (aB (v:=vs) aL.ty I (aH (i:=2) I I)) ?_)
 refine a8 (ju aJ.en I I) (λw hm=>lz w hm.below) I I I ?_;intro nZ _;refine zL ?_
 try refine GA ?_
 refine jy 55 2 ?_;generalize hR:hJ g.aF (ji A) (fB G) col seen 2001 sb []=R;clear lz hs;refine eK (ι:=Nat×List Nat×List dV×Value×Value) (λ(f,σ,o,_,_)=>hJ g.aF (ji A) (fB G) col seen f σ o=R/\f<=2001/\1<=f/\o.length+f<=2001/\σ≠[]/\σ.length<=60/\∀q∈σ,q<A.length)
  (λ(f,_,_,vs,vo)=>[(3,av az (col:Int)),(4,aK (aj ⟨g4,0,ak⟩)),(5,aK (aj ⟨g5,0,ak⟩)),(6,aK (aj ⟨g6,0,ak⟩)),(11,vs),(12,vo),(13,av az ((2001-f:Nat):Int))])
  (λ(_,σ,o,pJ,vo)=>[aR g4 (ee g.aT g.bM vp).cells 33,aR g5 (aU #[ap aA A.length cA,vG]).cells 36,aR g6 (vU vs (seen:Int) 0 aE).cells 161,Rg pJ σ,lu vo o]) (λ(f,_,_,_,_)=>f) (2001,sb,[],nZ,ap ak 0 0) ⟨hR,by omega,by omega,by simp,hne,hl,hq⟩ ?_
 clear hR hne hl hq;rintro⟨f,σ,o,pJ,vo⟩ ⟨i1,i2,i3,i4,i5,i6,i7⟩;dsimp only at i1 i2 i3 i4 i5 i6 i7⊢;obtain⟨q,σ,rfl⟩:=OV i5;obtain⟨f,rfl⟩:∃f',f=f'+1:=⟨f-1,by omega⟩;have hqA:=i7 q (ir ..);have agw:=Xf q hqA;obtain⟨bA,oA,wi,rfl,hcA,hsA⟩:=I9 hA hqA;have aaU:∀L,At (w:b9) L ⟨bA,oA+q,ak⟩ wi:=λL=>kw hcA;obtain⟨ei,di,rfl,hdi,afe⟩:=mV hsA;have hfA:=hsA.flat (f:=jC) ahk;obtain⟨_,_,e2,-,-,hrX⟩:=hfA
 cases e2
 have ahh:=hwA q hqA;have hxe:ji A q col=A[q].getD col (0,0):=by unfold ji;rw[cK (l:=A),bQ hqA];rfl
 have hcX:col<A[q].length:=by omega
 obtain⟨b3,o3,rfl,LO⟩:=hrX J;have d_:=λL=>iB (L:=L) rU LO hcX;have afu:A[q][col]=ji A q col:=by rw[hxe,cK,bQ hcX];rfl
 rw[afu]at d_;have DS:∀(L:List cU) (j:Nat) (u:Value),(jC (ji A q col))[j]?=aj u->At (w:b9) L ⟨b3,o3+col*2+j,ak⟩ u:=d_;clear d_ LO hrX hxe afu hsA hcA hwA hA Xf;generalize A[q]=X at*;generalize hx:ji A q col=x at*;refine xC (i:=3) I (by simp) λgs cs hv q1 q2=>?_;subst hv;simp only[dE]at i4 i6 q1⊢
 try refine GA ?_
 refine eo ([aR g5 (aU #[ap (aj ⟨bA,oA,ak⟩) A.length cA,vG]).cells 36,Rg (ap (aj ⟨gs,0,ak⟩) (σ.length+1) cs) (q::σ)]) (.calm 0 (.calm 1 (.calm 2 (.calm 3 (.calm 4 (.calm 5 (.calm 6 (.calm 7 (.calm 8 (.calm 9 (.calm 10 (.calm 11 (.calm 12 (.one 13 (.one 14 (.done)))))))))))))))) (cH [1,3]) ?_
 repeat(first|(refine GN ?_;first|refine QW QP ?_|refine QW (aB (v:=ap (aj ⟨bA,oA,ak⟩) A.length cA) aL.ty I (aH (i:=0) I I)) ?_|refine QW (df (r:=(σ.length:Int)) I I J J J) ?_|refine QW (a_ (j:=σ.length) bR.eq aL.ty I I J) ?_|refine QW (aB (v:=av az (q:Int)) aL.ty I (afs (i:=1) I)) ?_|refine QW (cT (j:=q) bR.eq aL.ty I I hqA) ?_|refine QW (aB (v:=ap (aj ⟨b3,o3,ak⟩) X.length di) aL.ty I (aaU _)) ?_|refine QW (a_ (j:=col) bR.eq aL.ty I I hcX) ?_|refine QW (bH (cs:=jC x) aL.ty I I (DS _)) ?_|refine GX ?_)|refine GW ?_)
 refine aO I (bz I λg14=>?_);refine zL ?_;refine aP (cH [1,3]) ?_;refine aO I (aZ (i:=5) (cs':=(jC x).toArray) I I I I I I ?_);refine zL ?_;refine aP (cH [1,3]) ?_
 try refine GW ?_
 obtain⟨k,m⟩:=x;have Jb:((2001-(f+1):Nat):Int)=2000↔f=0:=by omega
 by_cases ck:k=0
 ·subst ck
  rw[afn hx]at i1;subst i1
  by_cases c0:f=0
  ·repeat(first|refine GC ?_|refine gV (aX (b:=aD) I I (decide_eq_true (Jb.2 c0))) ?_|refine gV (aB (v:=av az 0) aL.ty I (aH (i:=5) I I)) ?_|refine GB ?_)
   exact mI I I I I λw hm=>hm.meets (S:=rY (13,[],[])) (ap ak 0 0,ap ak 0 0) trivial [] ahk I
  repeat(first|refine GC ?_|refine gV (aX (b:=aE) I I (decide_eq_false λh=>c0 (Jb.1 h))) ?_|refine gV (aB (v:=av az 0) aL.ty I (aH (i:=5) I I)) ?_|refine GB ?_)
  exact mI I I I I λw hm=>hm.meets (S:=rY (13,[],[])) (ap ak 0 0,ap ak 0 0) trivial [] ahk I
 by_cases c0:f=0
 ·subst c0
  rw[Ye hx ck]at i1;subst i1
  repeat(first|refine GC ?_|refine gV (aX (b:=aD) I I (decide_eq_true (Jb.2 I))) ?_|refine gV (aB (v:=av az k) aL.ty I (aH (i:=5) I I)) ?_|refine gV (bm (b:=aD) I I (decide_eq_true ck)) ?_|refine GB ?_)
  exact mI I I I I λw hm=>hm.meets (S:=rY (14,[],[])) (ap ak 0 0,ap ak 0 0) trivial [] ahk I
 have Jb:¬((2001-(f+1):Nat):Int)=2000:=λh=>c0 (Jb.1 h);obtain⟨f,rfl⟩:∃f',f=f'+1:=⟨f-1,by omega⟩;rcases agw with⟨e,_⟩|⟨e,h1,h2,h3⟩|⟨e,h1,h2⟩|⟨e,_⟩<;>dsimp only at e<;>subst e
 ·exact absurd I ck
 ·dsimp only at h1 h2 h3
  rw[afq hx]at i1
  repeat(first|refine GC ?_|refine gV (aX (b:=aE) I I (decide_eq_false Jb)) ?_|refine gV (aB (v:=av az 1) aL.ty I (aH (i:=5) I I)) ?_|refine GB ?_)
  refine eo ([aR g6 (vU vs (seen:Int) 0 aE).cells 161,aR g14 (jC (1,m)).toArray 94]) (.calm 0 (.calm 1 (.calm 2 (.calm 5 (.calm 6 (.calm 7 (.calm 8 (.two 3 (.two 4 (.one 9 (.one 10 (.calm 11 (.calm 12 (.done))))) 9 (.one 4 (.one 10 (.calm 11 (.calm 12 (.done)))))) 9 (.one 3 (.one 4 (.one 10 (.calm 11 (.calm 12 (.done)))))))))))))) (cH [2,5]) ?_
  repeat(first|refine GW ?_|(refine GN ?_;first|refine QW (aB (v:=av az m) aL.ty I (aH (i:=1) I I)) ?_|refine QW (aB (v:=av az (seen:Int)) aL.ty I (aH (i:=0) I I)) ?_|refine QW (bP I (AD _ _)) ?_))
  refine e9 I I ?bw1 ?bw2
  case' bw1=>
   refine fX (cs:=#[av az m]) I I I I I λg52=>aP (cH [2,5]) ?_;refine e9 I I ?bw3 ?bw4
  case' bw3=>
   refine lO (i:=3) (q:=6) I I I I I I (by simp only[dE];omega) (by simp only[dE];omega) I λv3=>aP (cH [2,5]) ?_;refine aO I (fX (cs:=(eX (2,(seen:Int))).toArray) I I I I I λg58=>aP (cH [2,5]) ?_);refine aO I (mK (i:=4) (q:=7) I I I I I I J J I λv4=>aP (cH [2,5]) ?_)
  case' bw4=>
   refine fX (cs:=(eX (2,(seen:Int))).toArray) I I I I I λg58=>aP (cH [2,5]) ?_;refine aO I (lO (i:=3) (q:=6) I I I I I I (by simp only[dE];omega) (by simp only[dE];omega) I λv3=>aP (cH [2,5]) ?_);refine aO I (mK (i:=4) (q:=7) I I I I I I J J I λv4=>aP (cH [2,5]) ?_)
  case' bw2=>
   refine fX (cs:=(eX (2,(seen:Int))).toArray) I I I I I λg58=>aP (cH [2,5]) ?_;refine aO I (fX (cs:=#[av az m]) I I I I I λg52=>aP (cH [2,5]) ?_);refine aO I (lO (i:=3) (q:=7) I I I I I I (by simp only[dE];omega) (by simp only[dE];omega) I λv3=>aP (cH [2,5]) ?_);refine aO I (mK (i:=4) (q:=6) I I I I I I J J I λv4=>aP (cH [2,5]) ?_)
  all_goals
   try refine GW ?_
   by_cases c6:60<(q::σ).length+1
   ·rw[if_pos c6]at i1
    subst i1
    repeat(first|refine GC ?_|refine gV (fy (i:=3) bR.eq I I) ?_|refine gV (bB (b:=aD) I I (decide_eq_true J)) ?_|refine GB ?_)
    exact mI I I I I λw hm=>hm.meets (S:=rY (14,[],[])) (ap ak 0 0,ap ak 0 0) trivial [] ahk I
   ·rw[if_neg c6]at i1
    subst i1
    repeat(first|refine GC ?_|refine gV (fy (i:=3) bR.eq I I) ?_|refine gV (bB (b:=aE) I I (decide_eq_false J)) ?_|refine gV (aB (v:=av az 1) aL.ty I (aH (i:=5) I I)) ?_|refine GB ?_)
    exact mI I I I I λw hm=>hm.meets (S:=rY (0,m.toNat::q::σ,o++[(2,(seen:Int))])) (v3,v4) trivial [3,4] ahk (by
     show[Rg v3 (m.toNat::q::σ),lu v4 (o++[(2,(seen:Int))])]=_
     rw[<-aaX h2,<-Rh];rfl)
 ·dsimp only at h1 h2
  obtain⟨pn,rfl⟩:=jg h1;have afv:=λw' yC xo=>fl (ap (aj ⟨gs,0,ak⟩) (σ.length+1) cs) (q::σ) pn w' yC xo i7 (by simp only[dE];omega) J;have R_:=λσ'=>aft (q::σ) σ' (pn:Int) h1 h2 i7;have agx:=λhr=>@ab1 g.aF (ji A) (fB G) col seen f q σ o (pn:Int) hx hr;have MJ:=λσ' hr=>@afr g.aF (ji A) (fB G) col seen f q σ o (pn:Int) σ' hx hr;generalize BW g.aF (fB G) (q::σ) (pn:Int)=R2 at*;clear fl aft
  cases R2 with
  | none=>
   rw[agx I]at i1;subst i1
   repeat(first|refine GC ?_|refine gV (aX (b:=aE) I I (decide_eq_false Jb)) ?_|refine gV (aB (v:=av az 2) aL.ty I (aH (i:=5) I I)) ?_|refine gV (aQ (i:=0) aL.ty I I I) ?_|refine gV (aQ (i:=1) aL.ty I I I) ?_|refine gV (aB (v:=av az (pn:Int)) aL.ty I (aH (i:=5) I I)) ?_|refine GB ?_)
   refine a8 (RT aJ.en I I I I I) (λw' hm=>afv w' hm.below (Sl.dY (hm.get (i:=3) I))) I I I ?_;intro v2 _
   conv=>arg 8;simp only[zJ,dg,ret,id_eq,LP]
   conv=>arg 7;simp only[LP]
   try refine GA ?_
   exact mI I I I I λw hm=>hm.meets (S:=rY (13,[],[])) (ap ak 0 0,ap ak 0 0) trivial [] ahk I
  | some σ'=>
   rw[MJ σ' I]at i1;obtain⟨k1,k2,k3⟩:=R_ σ' rfl;simp only[dE]at k2
   repeat(first|refine GC ?_|refine gV (aX (b:=aE) I I (decide_eq_false Jb)) ?_|refine gV (aB (v:=av az 2) aL.ty I (aH (i:=5) I I)) ?_|refine gV (aQ (i:=0) aL.ty I I I) ?_|refine gV (aQ (i:=1) aL.ty I I I) ?_|refine gV (aB (v:=av az (pn:Int)) aL.ty I (aH (i:=5) I I)) ?_|refine GB ?_)
   refine a8 (RT aJ.en I I I I I) (λw' hm=>afv w' hm.below (Sl.dY (hm.get (i:=3) I))) I I I ?_;intro v2 _
   conv=>arg 8;simp only[zJ,dg,ret,id_eq,LP]
   conv=>arg 7;simp only[LP]
   repeat(first|refine GA ?_|refine gV (aB (v:=av az (pn:Int)) aL.ty I (aH (i:=5) I I)) ?_|refine gV (bP I (AD _ _)) ?_)
   refine jH (i:=4) I I I I I I I (λz h=>by cases h;rfl) J J I λz4 v4=>?_;refine zL ?_
   by_cases c6:60<σ'.length
   ·rw[if_pos c6]at i1
    subst i1
    repeat(first|refine GC ?_|refine gV (fy (i:=6) bR.eq I I) ?_|refine gV (bB (b:=aD) I I (decide_eq_true J)) ?_|refine GB ?_)
    exact mI I I I I λw hm=>hm.meets (S:=rY (14,[],[])) (ap ak 0 0,ap ak 0 0) trivial [] ahk I
   rw[if_neg c6]at i1
   repeat(first|refine GC ?_|refine gV (fy (i:=6) bR.eq I I) ?_|refine gV (bB (b:=aE) I I (decide_eq_false J)) ?_|refine gV (aB (v:=av az 2) aL.ty I (aH (i:=5) I I)) ?_|refine gV (bL (r:=((2001-(f+1):Nat):Int)) I I J J J) ?_|refine GB ?_)
   refine dS [0,1,2,6,4] ?_;exact cJ (f+1,σ',o++[(4,(pn:Int))],v2,v4) ⟨i1,by omega,by omega,by show(o++[(4,(pn:Int))]).length+(f+1)<=2001;rw[bT,ky];omega,k1,by show σ'.length<=60;omega,k3⟩ (by show f+1<f+1+1;omega) (hl:=by rw[<-Rh];rfl)
 ·rw[afp hx]at i1
  subst i1
  repeat(first|refine GC ?_|refine gV (aX (b:=aE) I I (decide_eq_false Jb)) ?_|refine gV (aB (v:=av az 3) aL.ty I (aH (i:=5) I I)) ?_|refine GB ?_)
  exact mI I I I I λw hm=>hm.meets (S:=rY (0,q::σ,o)) (ap (aj ⟨gs,0,ak⟩) (σ.length+1) cs,vo) trivial [3,4] ahk I
end cZ
end Go.Proofs.YtdmgcnggnejnnaaGreat

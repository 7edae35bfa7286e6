/- Part 5 of what WholePlace needs: SpecU, LlN, LlC, LrC, SmUp, SmCk, SpecRt, SpecH, ClimbA, TdS, ClimbB, ClimbC, ClimbD, BeginW, ClimbM, ClimbE, LexL, LexA, LexB, SmBk, LexN, LrM, LrN, LrP, LrT, SpecG, SpecV, SpecLst, AbcL, SpecOneL, LexV, LexW, LxRl, WhE, Bun, IntS, BuA, BuB, WhL, Mk2. -/
import Derived.Test.YtdmgcnggnejnnaaGreatMgD
namespace Go.Proofs.YtdmgcnggnejnnaaGreat
set_option linter.unusedVariables false
set_option linter.unusedSimpArgs false
open _root_.And renaming intro->cK
open _root_.Array renaming getElem?_eq_some_iff->kq
open _root_.Bool renaming true->aB,false->aD,and_eq_true->ff,true_and->rP
open _root_.Classical renaming not_not->Ln
open _root_.Decidable renaming of_not_not->rQ
open _root_.Go.Instr renaming build->dm
open _root_.Go.IntKind renaming i64->av
open _root_.Go.Proofs.Tryz renaming prog->aC
open _root_.Go.Value renaming slice->ak,int->ap,pointer->aH,agg->aP,oneCell'->f_
open _root_.Go.Value.slice renaming injEq->kr
open _root_.Go.World renaming block_lt_of_cell?->oP
open _root_.Int renaming toNat_natCast->cX,eq_ofNat_of_zero_le->fz,toNat_of_nonneg->oY,le_refl->kz,not_lt->aby
open _root_.List renaming getElem?_eq_getElem->bm,getD_eq_getElem?_getD->bD,length_append->bK,getElem?_eq_some_iff->cU,getElem_mem->bV,length_cons->cO,drop_eq_getElem_cons->dJ,all_cons->cV,mem_singleton->dH,length_map->dw,mem_cons->df,all_nil->dc,append_assoc->dL,getElem?_append_left->fR,append_nil->dQ,take_succ_eq_append_getElem->ir,mem_cons_self->fc,map_append->eb,getElem?_map->eQ,drop_of_length_le->fS,flatMap_append->fH,mem_cons_of_mem->iI,getElem?_eq_none->ii,not_mem_nil->fI,getElem?_append_right->kN,mem_map->eI,getElem?_toArray->jh,map_cons->fw,length_drop->ik,nil_append->fN,length_take->gZ,mem_append->gH,mem_of_getElem?->kO,flatMap_cons->jF,mem_iff_getElem->jG,drop_drop->iQ,mem_of_mem_drop->o9,take_length->nk,take_succ_cons->mV,length_singleton->nT,getElem?_cons_zero->sS,cons_append->kt,exists_cons_of_ne_nil->Gy,drop_eq_nil_of_le->uS,length_nil->nU,drop_zero->pf,getElem?_of_mem->x7,drop_length->wq,map_nil->mu,reverse_cons->Gz,length_reverse->Lo,flatten_cons->Ba,length->nV,getElem_of_mem->abz,getD_cons_succ->abA,any_eq_false->abB,flatMap_def->abC,mem_reverse->abD,take_take->abE,map_take->abF
open _root_.List.cons renaming injEq->fg,inj->oc
open _root_.Nat renaming le_refl->aT,zero_le->bC,zero_add->cI,le_trans->eC,add_assoc->jH,add_zero->ji,not_lt_zero->ni,lt_succ_self->o_,mul_one->kQ,lt_irrefl->wt,sub_self->qk,succ_ne_zero->Lp,le_add_right->Bo,lt_or_ge->x9,add_comm->x_,le_succ->Bp,sub_zero->GD
open _root_.Option renaming some->ah,none->aj,getD_some->iz,map_some->abG
open _root_.Option.some renaming injEq->dg,inj->nO
open _root_.Prod renaming ext->nP,fst->Sh,snd->Si
open _root_.True renaming intro->cY
open _root_.Vector renaming getElem_ofFn->jk,getElem_toList->mF,ofFn->rK
set_option maxHeartbeats 16000000
namespace cg
open Go.RowKit cT ey dj gu je aM c_ wZ
def B1(g:dF):List Bool:=(mS g.bB.toNat g.az).R
def y9(g:dF):List Bool:=(mS g.bB.toNat g.az).M
def y_(g:dF):List Cl:=lp g.az (oe g.bB.toNat g.az) g.aQ.toNat g.bB.toNat
def CI(s:Sp)(e:Int):Int×Int:=
 if qz s≠0 then(qz s,0)else if s.words.length=0\/s.rules.length=0 then(1,0)else if e≠0 then(e,0)
 else if(B1 (cL s)).any (· ==aD)=aB\/(y9 (cL s)).any (· ==aD)=aB then(4,0)
 else if(y_ (cL s)).length=0 then(0,1)
 else if(iN (cL s)).2.2.2≠0 then((iN (cL s)).2.2.2,0)else if 0<(iN (cL s)).2.2.1.length then(12,0)else(0,2)
structure HH where
 vo:Value
 vp:Value
 F:Nat->Prop
 gP:Nat
 vsP:Nat->Value
 vT:Value
 gR:Nat
 vsR:Nat->Value
 tx:Sb
def CJ:HH:=⟨ak aj 0 0,ak aj 0 0,fun _=>False,0,fun _=>ak aj 0 0,ak aj 0 0,0,fun _=>ak aj 0 0,⟨ak aj 0 0,[],fun _=>False,ak aj 0 0,[],fun _=>False⟩⟩
def HH.pk(x:HH)(R:List Row):List Value:=jm (uu R 256) (ak (ah ⟨x.gP,0,aj⟩) R.length R.length) x.vT
structure aiC(x:HH):Prop where
 o:x.vo.oneCell'=aB
 p:x.vp.oneCell'=aB
 t:x.vT.oneCell'=aB
def HH.lex(x:HH)(s:Sp)(R:List Row)(T:List Int):List b9:=
 [bx 3 1 x.vo s.words.length ((Lf s.words).1.map (ap .i64)),tj x.F x.vp (cL s).az,dI 26 y7 x.gP R.length x.vsP,WO R.length (nB R 256) x.vsP,bx 3 1 x.vT T.length (T.flatMap cT.eX)]
def wC(e:Int):Spec HH:=⟨fun _=>True,fun _=> .tuple #[aP HD.toArray,ap av e],fun _=>[]⟩
def HH.cLL(x:HH)(g:dF)(R:List Row):Array Value:=(kp x.vo (x.pk R) (jE g.aQ g.bB x.vp 1 (ak (ah ⟨x.gR,0,aj⟩) g.bB.toNat g.bB.toNat) (ak aj 0 0) (ak aj 0 0))).toArray
def HH.cLR(x:HH)(g:dF)(R:List Row):Array Value:=(kp x.vo (x.pk R) (jE g.aQ g.bB x.vp 2 (ak aj 0 0) x.tx.vA x.tx.vG)).toArray
def HH.rows(x:HH)(g:dF):List b9:=[dI 26 wB x.gR g.bB.toNat x.vsR,ia (fun j=>j<g.bB.toNat) (nJ g.az (oe g.bB.toNat g.az) g.aQ.toNat x.vsR g.bB.toNat 0)]
def aeh(s:Sp)(R:List Row)(T:List Int):Spec HH:=
 ⟨aiC,fun x=> .tuple #[.agg (x.cLL (cL s) R),ap av 0],fun x=>x.lex s R T++x.rows (cL s)⟩
def aei(s:Sp)(R:List Row)(T:List Int):Spec HH:=
 ⟨fun x=>aiC x/\x.tx.vA.oneCell'=aB/\x.tx.vG.oneCell'=aB,fun x=> .tuple #[.agg (x.cLR (cL s) R),ap av 0],fun x=>x.lex s R T++WU x.tx (iN (cL s)).1 (iN (cL s)).2.1⟩
def qD(s:Sp)(r:Int×List Row×List Int):Spec HH:=
 if(CI s r.1).1≠0 then wC (CI s r.1).1 else if(CI s r.1).2=1 then aeh s r.2.1 r.2.2 else aei s r.2.1 r.2.2
theorem wD{s:Sp}{r:Int×List Row×List Int}(h:Uo s r)(h0:r.1=0):cD (cL s)=0/\lC r.2.1 r.2.2=0:=by
 have hn:wz s=0->cD (cL s)=0:=fun h=>by
  unfold wz at h;generalize cD (cL s)=e at*
  by_cases c:e≠0
  rw[if_pos c]at h;cases h;exact rQ c
 rcases h with⟨k,hk,-,rfl⟩|⟨es,m,-,-,h3,h4,h5,-,⟨h,rfl⟩|⟨-,h,rfl⟩|⟨h,-,hc,rfl⟩⟩
 exact absurd h0 hk;exact absurd h0 h;exact absurd h0 h;refine⟨hn h,?_⟩;have:=DJ hc;dsimp only;exact this
set_option maxRecDepth 100000 in
theorem AK(v:Value)(s:Sp)(r:Int×List Row×List Int)(hx:Uo s r)(w:World)(hv:WE (sa w) w v s)(IQ:∀r∈s.rules,r.2.length<=8796093021952):
 Calls aC 12 #[v] w (cJ (qD s r) w):=by
 have h_:=fun w' (hg:Gr w w')=>HG v s w' (hv.gr hg);have hv0:=hv;obtain⟨vw,vr,rfl,hw,hr⟩:=hv;obtain⟨bw,cw,rfl,-⟩:=hw;obtain⟨br,cr,rfl,-⟩:=hr;have hM:CI s r.1=if qz s≠0 then(qz s,0)else if s.words.length=0\/s.rules.length=0 then(1,0)else if r.1≠0 then(r.1,0)
  else if(B1 (cL s)).any (· ==aD)=aB\/(y9 (cL s)).any (· ==aD)=aB then(4,0)
  else if(y_ (cL s)).length=0 then(0,1)
  else if(iN (cL s)).2.2.2≠0 then((iN (cL s)).2.2.2,0)else if 0<(iN (cL s)).2.2.1.length then(12,0)else(0,2):=rfl
 have oF:∀e m,CI s r.1=(e,m)->e≠0->qD s r=wC e:=fun e m h he=>by unfold qD;rw[h,if_pos he]
 have hLL:CI s r.1=(0,1)->qD s r=aeh s r.2.1 r.2.2:=fun h=>by unfold qD;rw[h];rfl
 have hLR:CI s r.1=(0,2)->qD s r=aei s r.2.1 r.2.2:=fun h=>by unfold qD;rw[h];rfl
 have xl:=WL;have jB:HD.toArray.toList.all f_=true:=BV I Um I;have hsz:HD.toArray.size=266:=kJ jV I;refine enter (args:=[aP #[ak bw s.words.length cw,ak br s.rules.length cr]]) (n:=86) Tryz.func12 I I I ?_;refine bY (a_ (bQ I I I fun g1=>aY I fun g2=>?_));rw[xc];refine zL ?_
 repeat(first|refine GA ?_|refine gV (aL (i:=0) aI.ty I I I) ?_)
 refine aW (kZ aF.en I I) (fun w hm=>h_ _ hm.below) I I I ?_;intro _ _;refine zL ?_
 by_cases c0:qz s≠0
 ·rw[if_pos c0]at hM
  rw[oF _ _ hM c0]
  repeat(first|refine GC ?_|refine gV (dz (b:=aB) I I (decide_eq_true c0)) ?_|refine gV (bz I xl) ?_|refine GB ?_)
  refine aX (i:=1) (cs':=HD.toArray) I I I hsz jB hsz ?_;refine zL ?_
  try refine GA ?_
  exact ez (i:=1) I I I hsz I fun w hm=>hm.meets (S:=wC (qz s)) CJ trivial [] akV I
 rw[if_neg c0]at hM;have abH:qz s=0:=rQ c0;have IS:s.words.length<=60/\s.rules.length<=60:=by
  unfold qz at abH
  by_cases c:60<s.words.length\/60<s.words.length+s.rules.length
  rw[if_pos c]at abH;cases abH;omega
 rw[abH];clear h_ abH
 by_cases c1:s.words.length=0\/s.rules.length=0
 ·rw[if_pos c1]at hM
  rw[oF _ _ hM akV]
  by_cases c2:s.words.length=0
  ·repeat(first|refine GC ?_|refine gV (dz (b:=aD) I I (decide_eq_false (by simp))) ?_|refine gV (aw (v:=ak bw s.words.length cw) aI.ty I (aE (i:=0) I I)) ?_|refine gV (cP (b:=aB) I I (decide_eq_true J)) ?_|refine gV (bz I xl) ?_|refine GB ?_)
   refine aX (i:=1) (cs':=HD.toArray) I I I hsz jB hsz ?_;refine zL ?_
   try refine GA ?_
   exact ez (i:=1) I I I hsz I fun w hm=>hm.meets (S:=wC 1) CJ trivial [] akV I
  repeat(first|refine GC ?_|refine gV (dz (b:=aD) I I (decide_eq_false (by simp))) ?_|refine gV (aw (v:=ak bw s.words.length cw) aI.ty I (aE (i:=0) I I)) ?_|refine gV (aw (v:=ak br s.rules.length cr) aI.ty I (aE (i:=0) I I)) ?_|refine gV (cP (b:=aD) I I (decide_eq_false J)) ?_|refine gV (cP (b:=aB) I I (decide_eq_true J)) ?_|refine gV (bz I xl) ?_|refine GB ?_)
  refine aX (i:=1) (cs':=HD.toArray) I I I hsz jB hsz ?_;refine zL ?_
  try refine GA ?_
  exact ez (i:=1) I I I hsz I fun w hm=>hm.meets (S:=wC 1) CJ trivial [] akV I
 rw[if_neg c1]at hM;have PI:=fun gp w' B ho hm=>Oq (ak bw s.words.length cw) (ak br s.rules.length cr) s r hx gp w hv0 IS.1 IS.2 IQ w' B ho hm
 repeat(first|refine GC ?_|refine gV (dz (b:=aD) I I (decide_eq_false (by simp))) ?_|refine gV (aw (v:=ak bw s.words.length cw) aI.ty I (aE (i:=0) I I)) ?_|refine gV (aw (v:=ak br s.rules.length cr) aI.ty I (aE (i:=0) I I)) ?_|refine gV (cP (b:=aD) I I (decide_eq_false J)) ?_|refine GB ?_)
 refine aY I fun g5=>?_;rw[xc];refine zL ?_
 repeat(first|refine GA ?_|refine gV (aL (i:=0) aI.ty I I I) ?_)
 by_cases c2:r.1≠0
 ·rw[if_pos c2]at hM
  rw[oF _ _ hM c2];have kL:∀gp,Ja gp s r=⟨fun _=>True,fun _=>ap av r.1,fun _=>[]⟩:=fun gp=>if_neg c2;simp only[kL]at PI;refine bH [2] [0,1] akV I I (fP aF.en I I I) (fun w' pV hb=>PI g5 w' _ (mv.on (mv.self w) pV (fun o ho=>by simp at ho;subst ho;simp)) hb) I I I ?_;intro _ _;refine zL ?_
  repeat(first|refine GC ?_|refine gV (dz (b:=aB) I I (decide_eq_true c2)) ?_|refine gV (bz I xl) ?_|refine GB ?_)
  refine aX (i:=1) (cs':=HD.toArray) I I I hsz jB hsz ?_;refine zL ?_
  try refine GA ?_
  exact ez (i:=1) I I I hsz I fun w hm=>hm.meets (S:=wC r.1) CJ trivial [] akV I
 rw[if_neg c2]at hM;have hr0:r.1=0:=rQ c2;obtain⟨hG,OB⟩:=wD hx hr0;have kL:∀gp,Ja gp s r=Oo gp s r.2.1 r.2.2:=fun gp=>if_pos hr0;simp only[kL]at PI;clear hx kL c2;obtain⟨e,R,T⟩:=r;dsimp only at*;subst hr0;generalize CI s 0=M at*;generalize hgr:cL s=g at*;refine bH [2] [0,1] akV I I (fP aF.en I I I) (fun w' pV hb=>PI g5 w' _ (mv.on (mv.self w) pV (fun o ho=>by simp at ho;subst ho;simp)) hb) I I I ?_;clear PI;rintro⟨vo,vp,F,gP,vsP,vT⟩ ⟨k1,k2,k3⟩;dsimp only at k1 k2 k3;unfold Oo;rw[hgr];refine zL ?_;have jb:(jm (uu R 256) (ak (ah ⟨gP,0,aj⟩) R.length R.length) vT).length=258:=iA _ _ _;have hpo:(jm (uu R 256) (ak (ah ⟨gP,0,aj⟩) R.length R.length) vT).all f_=true:=by
  have:=y0 (uu R 256) (vn:=ak (ah ⟨gP,0,aj⟩) R.length R.length) (vt:=vT) I k3
  simpa using this
 have hpx:∀x:HH,x.gP=gP->x.vT=vT->jm (uu R 256) (ak (ah ⟨gP,0,aj⟩) R.length R.length) vT=x.pk R:=fun x h1 h2=>by unfold HH.pk;rw[h1,h2]
 generalize hPK:jm (uu R 256) (ak (ah ⟨gP,0,aj⟩) R.length R.length) vT=PK at*;obtain⟨a1,a2,a3,a4,a5,a6⟩:=cz hG;have agV:∀w',(tj F vp g.az).holds w'->kw (fun k=>k<w'.heap.size) w' (dD g.aQ g.bB vp) g:=fun w' h=>y6 (gok ⟨a1,by omega⟩) (gok ⟨by omega,by omega⟩) h
 repeat(first|refine GC ?_|refine gV (dz (b:=aD) I I (decide_eq_false (by simp))) ?_|refine gV (aU (cs:=[ap av g.aQ,ap av g.bB,vp]) aI.ty I I (fun j v h=>aE (i:=2) I (lO jb h))) ?_|refine GB ?_)
 have hN:g.bB=(g.bB.toNat:Int):=by omega
 have hT:g.aQ=(g.aQ.toNat:Int):=by omega
 obtain⟨⟨-,hRl,hMl⟩,-⟩:=o8.Gx hG hN;have DB:=fun w' h=>Al (dD g.aQ g.bB vp) g w' h hG g.bB.toNat hN;have Ve:=fun w' h=>Li (dD g.aQ g.bB vp) g w' h hG g.aQ.toNat g.bB.toNat hT hN;have SU:=fun w' h=>Ll (dD g.aQ g.bB vp) g w' h;unfold Sc WU at SU;refine aW (kZ aF.en I I) (fun w' hm=>(DB w' (agV w' (hm.get (i:=4) I))).mono fun e w2 h=>Am h) I I I ?_;intro x5 _
 conv=>arg 8;simp only[zJ,dr,ret,id_eq,FJ.val]
 try refine GA ?_
 refine aY I fun g7=>?_;refine gG 13 ?_;refine zL ?_
 repeat(first|refine GA ?_|refine gV (aw aI.ty I (aE (i:=13) I I)) ?_)
 have abI:B1 g=(mS g.bB.toNat g.az).R:=rfl;have abJ:y9 g=(mS g.bB.toNat g.az).M:=rfl;generalize (mS g.bB.toNat g.az).R=Rc at*;generalize (mS g.bB.toNat g.az).M=Mk at*;rw[abI,abJ]at hM;clear abI abJ DB;refine aW (fP aF.en I I I) (fun w' hm=>qm _ Rc aD w' (by have:=Sl.dy (hm.get (i:=11) I);rw[hRl];exact this)) I I I ?_;intro _ _;refine zL ?_
 cases Dd:Rc.any (· ==aD)with
 |true=>
  rw[if_pos (.inl Dd)]at hM;rw[oF _ _ hM akV]
  repeat(first|refine GA ?_|refine gV (bz I xl) ?_)
  refine aX (i:=1) (cs':=HD.toArray) I I I hsz jB hsz ?_;refine zL ?_
  try refine GA ?_
  exact ez (i:=1) I I I hsz I fun w hm=>hm.meets (S:=wC 4) CJ trivial [] akV I
 |false=>
 repeat(first|refine GA ?_|refine gV (aw aI.ty I (aE (i:=13) I I)) ?_)
 refine kV (fP aF.en I I I) (fun w' hm=>qm _ Mk aD w' (by have:=Sl.dy (hm.get (i:=12) I);rw[hMl];exact this)) I I I I I ?_;intro _ _;refine zL ?_
 cases afi:Mk.any (· ==aD)with
 |true=>
  rw[if_pos (.inr afi)]at hM;rw[oF _ _ hM akV]
  repeat(first|refine GA ?_|refine gV (bz I xl) ?_)
  refine aX (i:=1) (cs':=HD.toArray) I I I hsz jB hsz ?_;refine zL ?_
  try refine GA ?_
  exact ez (i:=1) I I I hsz I fun w hm=>hm.meets (S:=wC 4) CJ trivial [] akV I
 |false=>
 rw[if_neg (by rw[Dd,afi];decide)]at hM;have jZ:y_ g=lp g.az (oe g.bB.toNat g.az) g.aQ.toNat g.bB.toNat:=rfl
 repeat(first|refine GA ?_|refine gV (aU (cs:=[ap av g.aQ,ap av g.bB,vp]) aI.ty I I (fun j v h=>aE (i:=2) I (lO jb h))) ?_)
 refine aW (kZ aF.en I I) (fun w' hm=>Ve w' (agV w' (hm.get (i:=4) I))) I I I ?_;rintro⟨gR,vsR,vcl⟩ _;unfold abq;rw[<-jZ];refine zL ?_
 by_cases c3:(y_ g).length=0
 ·rw[if_pos c3]at hM
  rw[hLL hM]
  repeat(first|refine GC ?_|refine gV (dV (i:=16) bI.eq I I) ?_|refine gV (cP (b:=aB) I I (decide_eq_true J)) ?_|refine GB ?_)
  refine od 3 (i:=2) I I I I I I jb I ?_;refine zL ?_
  try refine GA ?_
  refine od 4 (i:=2) I I I I I I jb I ?_;refine zL ?_
  repeat(first|refine GA ?_|refine gV (aL (i:=2) aI.ty I I (kJ jb I)) ?_)
  refine aX (i:=1) (cs':=(kp vo PK (jE g.aQ g.bB vp 1 (ak (ah ⟨gR,0,aj⟩) g.bB.toNat g.bB.toNat) (ak aj 0 0) (ak aj 0 0))).toArray) I I I (kJ jb I) (BV k1 hpo (by simp only[jE,cV,dc,k2];rfl)) hsz ?_;refine zL ?_
  try refine GA ?_
  subst hPK;subst hgr;exact ez (i:=1) I I I (kJ jb I) I fun w hm=>hm.meets (S:=aeh s R T) ⟨vo,vp,F,gP,vsP,vT,gR,vsR,⟨ak aj 0 0,[],fun _=>False,ak aj 0 0,[],fun _=>False⟩⟩ ⟨k1,k2,k3⟩ [3,4,5,6,7,14,15] akV I
 rw[if_neg c3]at hM
 repeat(first|refine GC ?_|refine gV (dV (i:=16) bI.eq I I) ?_|refine gV (cP (b:=aD) I I (decide_eq_false J)) ?_|refine gV (aU (cs:=[ap av g.aQ,ap av g.bB,vp]) aI.ty I I (fun j v h=>aE (i:=2) I (lO jb h))) ?_|refine GB ?_)
 refine aW (kZ aF.en I I) (fun w' hm=>SU w' (agV w' (hm.get (i:=4) I))) I I I ?_;rintro⟨⟨vA,Da,FA,vG,Db,FG⟩,vfi⟩ _;have hO:iN g=iN g:=rfl;refine zL ?_;generalize hOT:iN g=O at*;obtain⟨A,G,fi,e⟩:=O;dsimp only at hM⊢;refine aV (i:=17) I fun _ b1=>aV (i:=19) I fun _ b2=>?_
 try refine GA ?_
 refine aY I fun g12=>?_;refine zL ?_;refine aX (i:=22) (cs':=#[vA,vG]) I I I I (by simp only[cV,dc,b1,b2];rfl) I ?_;refine zL ?_
 by_cases c4:e≠0
 ·rw[if_pos c4]at hM
  rw[oF _ _ hM c4]
  repeat(first|refine GC ?_|refine gV (dz (b:=aB) I I (decide_eq_true c4)) ?_|refine gV (bz I xl) ?_|refine GB ?_)
  refine aX (i:=1) (cs':=HD.toArray) I I I hsz jB hsz ?_;refine zL ?_
  try refine GA ?_
  exact ez (i:=1) I I I hsz I fun w hm=>hm.meets (S:=wC e) CJ trivial [] akV I
 rw[if_neg c4]at hM
 repeat(first|refine GC ?_|refine gV (dz (b:=aD) I I (decide_eq_false c4)) ?_|refine GB ?_)
 by_cases c5:0<fi.length
 ·rw[if_pos c5]at hM
  rw[oF _ _ hM akV]
  repeat(first|refine GC ?_|refine gV (dV (i:=21) bI.eq I I) ?_|refine gV (eP (b:=aB) I I (decide_eq_true J)) ?_|refine gV (bz I xl) ?_|refine GB ?_)
  refine aX (i:=1) (cs':=HD.toArray) I I I hsz jB hsz ?_;refine zL ?_
  try refine GA ?_
  exact ez (i:=1) I I I hsz I fun w hm=>hm.meets (S:=wC 12) CJ trivial [] akV I
 rw[if_neg c5]at hM;rw[hLR hM]
 repeat(first|refine GC ?_|refine gV (dV (i:=21) bI.eq I I) ?_|refine gV (eP (b:=aD) I I (decide_eq_false J)) ?_|refine GB ?_)
 (repeat refine bY ?_)
 refine dK ([aO g12 #[vA,vG] 36]) (.calm 0 (.calm 1 (.one 2 (.calm 3 (.one 4 (.done)))))) (bZ [22]) ?_
 repeat(first|refine GW ?_|(refine GN ?_;first|refine QW (aL (i:=0) aI.ty I I I) ?_))
 refine aJ I (od 3 (i:=2) I I I I I I jb I (aK (bZ [22]) ?_));refine zL ?_
 try refine GW ?_
 refine aJ I (RP (i:=2) I I I b1 b2 I jb (aK (bZ [22]) ?_));refine zL ?_
 try refine GW ?_
 repeat(first|refine GA ?_|refine gV (aL (i:=2) aI.ty I I (kJ jb I)) ?_)
 refine aX (i:=1) (cs':=(kp vo PK (jE g.aQ g.bB vp 2 (ak aj 0 0) vA vG)).toArray) I I I (kJ jb I) (BV k1 hpo (by simp only[jE,cV,dc,k2,b1,b2];rfl)) hsz ?_;refine zL ?_
 try refine GA ?_
 subst hPK;subst hgr;refine ez (i:=1) I I I (kJ jb I) I fun w hm=>hm.meets (S:=aei s R T) ⟨vo,vp,F,gP,vsP,vT,gR,vsR,⟨vA,Da,FA,vG,Db,FG⟩⟩ ⟨⟨k1,k2,k3⟩,b1,b2⟩ [3,4,5,6,7,17,18,19,20] akV ?_;show _++WU _ (iN (cL s)).1 (iN (cL s)).2.1=_
 rw[hOT];rfl
end cg
namespace cg
open Go.RowKit cT ey aM dN ee dx o8 wZ
def Jc(l:List aM.Prod)(may:Nat->Nat)(T N:Nat):Bool:=decide ((lp l may T N).length=0)
def nxG(g:dF)(T N:Nat)(word:List Int):Int->Nat->Int:=fun h a=>wZ.rowAt g.az (oe N g.az) T h.toNat (dW T word a)
theorem abK{g:dF}{T N:Nat}(hg:cD g=0)(hT:g.aQ=T)(hN:g.bB=N)(hf:Jc g.az (oe N g.az) T N=aB){t:Tree}{word:List Int}(h:eH g.az t (2,0) 0)(hy:fU g.az t=word)(hw:∀x∈word,0<=x/\x<(T:Int)):Qr g.az (nxG g T N word) t 0:=by
 obtain⟨_,a2,_⟩:=cz hg;have hC:=BI hg hN;have hs:=pG hg hN;have hp:0<=t.prod:=by
  obtain⟨p,k,kids⟩:=t;rw[eH]at h;rcases h with⟨e,_⟩|⟨_,e,_⟩
  cases e
  exact e
 have hl:=wT h hp;have aej:lp g.az (oe N g.az) T N=[]:=List.eq_nil_of_length_eq_zero (of_decide_eq_true hf);have Hl:Ir g.az (mS N g.az).E (BH N g.az) (Ct N g.az) (mS N g.az).R (mS N g.az).M word t 0:=by
  refine Co hC hs h hp hC.top ?_ ⟨[],by rw[hy];simp⟩;have e:p5 word (0+leaves t)=63:=by unfold p5;rw[if_neg (by rw[<-hy];omega)]
  rw[e];exact hC.last
 exact ZH hC hs J hw (fun i _=>rfl) (Iu N aej) h hp Hl ⟨[],by rw[hy];simp⟩
end cg
namespace cg
open Go.RowKit cT ey aM wZ
def tP(l:List aM.Prod)(n:Nat):List Int->Int
 |[]=>0
 |p::r=>if p< -1 then 1 else if(l.length:Int)<=p then 1 else if 0<=p/\(l.getD p.toNat (0,[])).1≠(n:Int)then 1 else tP l n r
def rf(l:List aM.Prod)(t:Int):Nat->List (List Int)->Int
 |_,[]=>0
 |n,r::rs=>if(r.length:Int)≠t+1 then 1 else if tP l n r≠0 then 1 else rf l t (n+1) rs
def Lr(g:dF)(ll:List (List Int)):Int:=if cD g≠0 then cD g else if(ll.length:Int)≠g.bB then 1 else rf g.az g.aQ 0 ll
abbrev GF(w:World)(v:Value)(ll:List (List Int)):Prop:=kK (cB iE) (fun k=>k<w.heap.size) w v ll
theorem Uq{F:Nat->Prop}{w:World}{b off:Nat}{ll:List (List Int)}(h:∀i (h:i<ll.length),∃cs,(cB iE).is F w cs ll[i]/\Rd w b (off+i*(cB iE).c) cs){k:Nat}(hk:k<ll.length):
 ∃vi,w.cell? ⟨b,off+k,aj⟩=ah vi/\Sl w vi ll[k].length (ll[k].map (.int .i64)):=by
 obtain⟨cs,⟨vi,rfl,h1⟩,hr⟩:=h k hk;refine⟨vi,?_,?_⟩
 ·have:=hr 0 vi I
  rwa [show(cB iE).c=1 from I,kQ,ji]at this
 ·have:=h1.flat akV
  rw[show(ll[k].flatMap fun n=>[ap .i64 n])=ll[k].map (.int .i64)from by rw[abC];induction ll[k]with
   |nil=>rfl
   |cons x r ih=>simp only[fw,Ba,ih];rfl]at this
  exact this
set_option maxRecDepth 100000 in
theorem xP(v vr:Value)(g:dF)(ll:List (List Int))(w:World)(h:kw (fun k=>k<w.heap.size) w v g)(hr:GF w vr ll):
 Calls aC 90 #[v,vr] w (cJ (ret (ap av (Lr g ll))) w):=by
 have h_:=fun w' (hg:Gr w w')=>iX v g w' (h.gr hg);obtain⟨vp,rfl,h1,_⟩:=h;obtain⟨br,cr,rfl,Pd,pC,EP⟩:=hr;unfold maxLen at pC;unfold Lr
 by_cases c0:cD g=0
 ·rw[if_neg (by simpa using c0)]
  obtain⟨a1,a2,a3,a4,a5,_⟩:=cz c0;rw[c0]at h_;obtain⟨t,nn,az⟩:=g;dsimp only at*;obtain⟨bp,cp,rfl,Qg,He,ow⟩:=h1;unfold maxLen at He;refine enter (args:=[dD t nn (ak bp az.length cp),ak br ll.length cr]) (n:=64) Tryz.func90 I I I ?_;refine bY (a_ (bQ I I I fun g2=>?_));refine zL ?_
  repeat(first|refine GA ?_|refine gV (aL (i:=0) aI.ty I I I) ?_)
  refine aW (kZ aF.en I I) (fun w hm=>h_ _ hm.below) I I I ?_;intro _ _;refine zL ?_
  by_cases c1:(ll.length:Int)=nn
  ·rw[if_neg (by simpa using c1)]
   repeat(first|refine GA ?_|refine gV (aw aI.ty I (aE (i:=0) I I)) ?_)
   generalize nQ:rf az t 0 ll=res;refine dU (ι:=Nat) (fun n=>n<=ll.length/\res=rf az t n (ll.drop n)) (fun n=>[(2,aH (ah ⟨g2,0,aj⟩)),(20,ak br ll.length cr),(21,ap av ll.length),(22,ap av (n:Int))]) (fun _=>[aO g2 (dD t nn (ak bp az.length cp)).cells 33]) (fun n=>ll.length-n) 0 ⟨bC _,by rw[pf];exact nQ.symm⟩ ?_;clear nQ;rintro n ⟨i1,i2⟩
   by_cases c2:n<ll.length
   ·obtain⟨b,off,rfl,_,fZ⟩:=EP J
    obtain⟨vi,y1,y2⟩:=Uq fZ c2;have eK:∀L,At w L ⟨b,off+n,aj⟩ vi:=fun L=>hJ y1;rw[dJ c2,rf]at i2;clear fZ y1;generalize ll[n]=r at*;obtain⟨bi,ci,rfl,z1,z2,z3⟩:=y2;unfold maxLen at z2
    by_cases c3:(r.length:Int)=t+1
    ·rw[if_neg (by simpa using c3)]at i2
     repeat(first|refine GA ?_|refine gV (a8 bI.eq aI.ty I I c2) ?_|refine gV (aw aI.ty I (eK _)) ?_|refine gV (aw aI.ty I (aE (i:=0) I I)) ?_)
     refine dU (ι:=Nat) (fun j=>j<=r.length/\tP az n r=tP az n (r.drop j)) (fun j=>[(2,aH (ah ⟨g2,0,aj⟩)),(6,ap av (n:Int)),(20,ak (ah ⟨b,off,aj⟩) ll.length cr),(21,ap av ll.length),(22,ap av (n:Int)),(33,ak bi r.length ci),(34,ap av r.length),(35,ap av (j:Int))]) (fun _=>[aO g2 (dD t nn (ak bp az.length cp)).cells 33]) (fun j=>r.length-j) 0 ⟨bC _,rfl⟩ ?_;rintro j ⟨j1,j2⟩
     by_cases c4:j<r.length
     ·obtain⟨b',Br,rfl,Ca⟩:=z3 J
      have abL:=fun L=>Q6 (L:=L) Ca c4;rw[dJ c4,tP]at j2;clear Ca z3;generalize r[j]=p at*
      by_cases e1:p< -1
      ·rw[if_pos e1]at j2
       rw[j2,if_pos akV]at i2;subst i2
       repeat(first|refine GA ?_|refine gV (a8 bI.eq aI.ty I I c4) ?_|refine gV (aw aI.ty I (abL _)) ?_|refine gV (aw aI.ty I (aE (i:=0) I I)) ?_)
       exact dR
      by_cases e2:(az.length:Int)<=p
      ·rw[if_neg e1,if_pos e2]at j2
       rw[j2,if_pos akV]at i2;subst i2
       repeat(first|refine GA ?_|refine gV (a8 bI.eq aI.ty I I c4) ?_|refine gV (aw aI.ty I (abL _)) ?_|refine gV (aw aI.ty I (aE (i:=0) I I)) ?_)
       exact dR
      rw[if_neg e1,if_neg e2]at j2
      by_cases e3:0<=p
      ·obtain⟨m,rfl⟩:∃m:Nat,p=m:=⟨p.toNat,by omega⟩
       have hm:m<az.length:=by omega
       obtain⟨bq,aj8,rfl,_,hrq⟩:=ow J;obtain⟨bb,cb,q1,_,_⟩:=lI hrq hm;have aiD:∀(L:List b9),At w L ⟨bq,aj8+m*2+0,aj⟩ (ap av az[m].1):=fun L=>hJ (q1 0 _ I);rw[cX,bD,bm hm]at j2;dsimp only[Option.getD]at j2;clear q1 hrq;generalize az[m]=pd at*;obtain⟨hd,_⟩:=pd;dsimp only at*
       by_cases e4:hd=(n:Int)
       ·rw[if_neg (fun h=>h.2 e4)]at j2
        repeat(first|refine GA ?_|refine gV (a8 bI.eq aI.ty I I c4) ?_|refine gV (aw aI.ty I (abL _)) ?_|refine gV (aw aI.ty I (aE (i:=0) I I)) ?_|refine gV (aR bI.eq aI.ty I I hm) ?_|refine gV (aw aI.ty I (aiD _)) ?_)
        exact bO (j+1) ⟨by omega,j2⟩ J
       rw[if_pos ⟨e3,e4⟩]at j2;rw[j2,if_pos akV]at i2;subst i2
       repeat(first|refine GA ?_|refine gV (a8 bI.eq aI.ty I I c4) ?_|refine gV (aw aI.ty I (abL _)) ?_|refine gV (aw aI.ty I (aE (i:=0) I I)) ?_|refine gV (aR bI.eq aI.ty I I hm) ?_|refine gV (aw aI.ty I (aiD _)) ?_)
       exact dR
      rw[if_neg (fun h=>e3 h.1)]at j2
      repeat(first|refine GA ?_|refine gV (a8 bI.eq aI.ty I I c4) ?_|refine gV (aw aI.ty I (abL _)) ?_|refine gV (aw aI.ty I (aE (i:=0) I I)) ?_)
      exact bO (j+1) ⟨by omega,j2⟩ J
     rw[fS J,tP]at j2;rw[j2,if_neg akV]at i2
     try refine GA ?_
     exact bO (n+1) ⟨by omega,i2⟩ J
    rw[if_pos (by simpa using c3)]at i2;subst i2
    repeat(first|refine GA ?_|refine gV (a8 bI.eq aI.ty I I c2) ?_|refine gV (aw aI.ty I (eK _)) ?_|refine gV (aw aI.ty I (aE (i:=0) I I)) ?_)
    exact dR
   rw[fS J,rf]at i2;subst i2
   try refine GA ?_
   exact dR
  rw[if_pos (by simpa using c1)]
  repeat(first|refine GA ?_|refine gV (aw aI.ty I (aE (i:=0) I I)) ?_)
  exact dR
 ·rw[if_pos (by simpa using c0)]
  generalize cD g=e at*;refine enter (args:=[dD g.aQ g.bB vp,ak br ll.length cr]) (n:=64) Tryz.func90 I I I ?_;refine bY (a_ (bQ I I I fun g2=>?_));refine zL ?_
  repeat(first|refine GA ?_|refine gV (aL (i:=0) aI.ty I I I) ?_)
  refine aW (kZ aF.en I I) (fun w hm=>h_ _ hm.below) I I I ?_;intro _ _;refine zL ?_
  try refine GA ?_
  exact dR
theorem abM{l:List aM.Prod}{may:Nat->Nat}{T N g:Nat}{vs:Nat->Value}{w:World}(hl:l.length<=40)(hN:N<=20)(h1:(dI 26 wB g N vs).holds w)(h2:(ia (fun j=>j<N) (nJ l may T vs N 0)).holds w):
 GF w (ak (ah ⟨g,0,aj⟩) N N) (lH N fun n=>lH (T+1) (wZ.rowAt l may T n)):=by
 refine⟨ah ⟨g,0,aj⟩,N,by rw[hY],by rw[hY];exact aT _,by unfold maxLen;omega,fun h0=>⟨g,0,rfl,(dI 26 wB g N vs).lt w h1 g (.inl I),fun i hi=>?_⟩⟩;rw[hY]at hi;have hf:=h2.1 i hi;unfold nJ C' at hf;rw[if_pos hi]at hf;have rI:(lH N fun n=>lH (T+1) (wZ.rowAt l may T n))[i]'(by rw[hY];exact hi)=lH (T+1) (wZ.rowAt l may T i):=by simp[lH]
 rw[rI];refine⟨[vs i],⟨vs i,rfl,?_⟩,fun j u hj=>?_⟩
 ·have hs:=Sl.dy hf
  refine kK.of_flat (p:=cT.dM) (by rw[hY];rw[show((lH (T+1) (wZ.rowAt l may T i)).flatMap fun n=>[ap .i64 n])=(lH (T+1) (wZ.rowAt l may T i)).map agS from by
   rw[abC]
   induction lH (T+1) (wZ.rowAt l may T i)with
   |nil=>rfl
   |cons x r ih=>simp only[fw,Ba,ih];rfl];exact hs) (fun a ha=>?_) (fun b hb=>(bx 3 1 (vs i) (T+1) _).lt w hf b (.inl hb)) (fun a n cp he=>?_)
  ·unfold lH at ha
   obtain⟨c,_,rfl⟩:=eI.1 ha;have:=p6 (l:=l) (may:=may) (T:=T) i c l.length;unfold wZ.rowAt;exact⟨by omega,by omega⟩
  have hr:w.ownsRow 0 3 1 (vs i) (T+1) _:=hf;rcases hr.2 with⟨hv,h⟩|⟨gg,cap,oU,hv,_⟩
  omega;rw[hv]at he;simp only[kr,dg]at he;rw[<-he.1];exact(bx 3 1 (vs i) (T+1) _).lt w hf gg (.inl (by rw[hv];rfl))
 ·have hj0:j=0:=by
   have:=(cU.1 hj).1;simp at this;omega
  subst hj0;simp only[sS,dg]at hj;subst hj;have:=nY h1 hi;rw[show 0+i*(cB iE).c+0=0+i by rw[show(cB iE).c=1 from I];omega];exact this
end cg
namespace cg
open Go.RowKit cT ey aM dN dx bP c_
def GG(w:World)(t:Value)(A:List (List bP.Act))(G:List (List Int)):Prop:=∃vA vG,t=aP #[vA,vG]/\kK (cB y8) (fun k=>k<w.heap.size) w vA A/\kK (cB iE) (fun k=>k<w.heap.size) w vG G
theorem GG.gr{w w':World}{t:Value}{A:List (List bP.Act)}{G:List (List Int)}(h:GG w t A G)(hg:Gr w w'):GG w' t A G:=let ⟨a,b,h1,h2,h3⟩:=h;⟨a,b,h1,h2.gr hg,h3.gr hg⟩
theorem aek{w:World}{x:Sb}{A:List (List bP.Act)}{G:List (List Int)}(h1:(bx 92 1 x.vA A.length x.Da).holds w)(h2:(eY (cB y8) x.FA (x.Da.map fun v=>[v]) A).holds w)(h3:(bx 26 1 x.vG G.length x.Db).holds w)(h4:(eY (cB iE) x.FG (x.Db.map fun v=>[v]) G).holds w):GG w (aP #[x.vA,x.vG]) A G:=by
 have h1':(bx 92 (cB y8).c x.vA A.length (x.Da.map fun v=>[v]).flatten).holds w:=by rw[F9];exact h1
 have h3':(bx 26 (cB iE).c x.vG G.length (x.Db.map fun v=>[v]).flatten).holds w:=by rw[F9];exact h3
 exact⟨x.vA,x.vG,rfl,(JY h1' h2 akV).mono fun k hk=>JZ h1' h2 k hk,(JY h3' h4 akV).mono fun k hk=>JZ h3' h4 k hk⟩
theorem Lt{α:Type}{s:zk α}{F:Nat->Prop}{w:World}{base:Option Addr}{n cap:Nat}{l:List (List α)}(h:kK (cB s) F w (ak base n cap) l){i:Nat}(hi:i<l.length):∃b off vi,base=ah ⟨b,off,aj⟩/\w.cell? ⟨b,off+i,aj⟩=ah vi/\kK s F w vi l[i]:=by
 obtain⟨afd,PT,e,_,_,h3⟩:=h
 cases e
 obtain⟨b,off,rfl,_,h4⟩:=h3 J;obtain⟨cs,⟨vi,rfl,h5⟩,h6⟩:=h4 i hi;refine⟨b,off,vi,rfl,?_,h5⟩;have:=h6 0 vi I
 rwa [show off+i*(cB s).c+0=off+i by show off+i*1+0=_;omega]at this
theorem nl{α:Type}{s:zk α}{F:Nat->Prop}{w:World}{v:Value}{l:List α}(h:kK s F w v l):∃base cap,v=ak base l.length cap/\l.length<=cap/\cap<=9223372036854775807:=let ⟨b,c,h1,h2,h3,_⟩:=h;⟨b,c,h1,h2,by unfold maxLen at h3;omega⟩
def wE(T P n:Nat)(x:bP.Act)(c:Nat):Prop:=(x.1=0/\x.2=0)\/(x.1=1/\c<T/\0<=x.2/\x.2<(n:Int))\/(x.1=2/\0<=x.2/\x.2<(P:Int))\/(x.1=3/\x.2=0/\c=T)
theorem Lu(T P n:Nat)(nn:Int)(bp:Option Addr)(cp:Nat)(aA:Option Addr)(cA:Nat)(vG:Value)(x:bP.Act)(c:Nat)(h:wE T P n x c)(w:World):
 Calls aC 132 #[dD (T:Int) nn (ak bp P cp),aP #[ak aA n cA,vG],aP (lP x).toArray,ap av (c:Int)] w (cJ (ret (.bool aB)) w):=by
 obtain⟨k,m⟩:=x;unfold wE at h;dsimp only at h;refine enter (args:=[dD (T:Int) nn (ak bp P cp),aP #[ak aA n cA,vG],aP (lP (k,m)).toArray,ap av (c:Int)]) (n:=59) Tryz.func132 I I I ?_;refine bY (a_ (bQ I I I fun g4=>?_));refine zL ?_;refine bQ I I I fun g5=>?_;refine zL ?_;refine bQ I I I fun g6=>?_;refine zL ?_;rcases h with⟨rfl,rfl⟩|⟨rfl,h1,h2,h3⟩|⟨rfl,h1,h2⟩|⟨rfl,rfl,rfl⟩
 ·repeat(first|refine GA ?_|refine gV (aw (v:=ap av 0) aI.ty I (aE (i:=2) I I)) ?_)
  exact dR
 ·repeat(first|refine GA ?_|refine gV (aw (v:=ap av 1) aI.ty I (aE (i:=2) I I)) ?_|refine gV (aw (v:=ap av m) aI.ty I (aE (i:=2) I I)) ?_|refine gV (aw (v:=ap av (T:Int)) aI.ty I (aE (i:=0) I I)) ?_|refine gV (aw (v:=ak aA n cA) aI.ty I (aE (i:=1) I I)) ?_)
  exact dR
 ·repeat(first|refine GA ?_|refine gV (aw (v:=ap av 2) aI.ty I (aE (i:=2) I I)) ?_|refine gV (aw (v:=ap av m) aI.ty I (aE (i:=2) I I)) ?_|refine gV (aw (v:=ak bp P cp) aI.ty I (aE (i:=0) I I)) ?_)
  exact dR
 ·repeat(first|refine GA ?_|refine gV (aw (v:=ap av 3) aI.ty I (aE (i:=2) I I)) ?_|refine gV (aw (v:=ap av 0) aI.ty I (aE (i:=2) I I)) ?_|refine gV (aw (v:=ap av (c:Int)) aI.ty I (aE (i:=0) I I)) ?_)
  exact dR
structure wF(g:dF)(T N:Nat)(A:List (List bP.Act))(G:List (List Int)):Prop where
 xw:cD g=0
 aQ:g.aQ=(T:Int)
 bB:g.bB=(N:Int)
 pos:0<A.length
 Cq:A.length<=200
 same:G.length=A.length
 wA:∀i (h:i<A.length),A[i].length=T+1
 dG:∀i (h:i<A.length),∀c (hc:c<A[i].length),wE T g.az.length A.length A[i][c] c
 wG:∀i (h:i<G.length),G[i].length=N
 gos:∀i (h:i<G.length),∀y∈G[i],-1<=y/\y<(A.length:Int)
theorem xQ(v t:Value)(g:dF)(T N:Nat)(A:List (List bP.Act))(G:List (List Int))(h:wF g T N A G)(w:World)(hG:kw (fun k=>k<w.heap.size) w v g)(ht:GG w t A G):
 Calls aC 91 #[v,t] w (cJ (ret (ap av 0)) w):=by
 have h_:=fun w' (hg:Gr w w')=>iX v g w' (hG.gr hg);obtain⟨vp,rfl,hp,-,-⟩:=hG;obtain⟨bp,cp,rfl,-⟩:=hp;obtain⟨vA,vG,rfl,hA,hGo⟩:=ht;obtain⟨aA,cA,rfl,-,-⟩:=nl hA;obtain⟨aG,cG,rfl,-,-⟩:=nl hGo;obtain⟨hg,K',hNn,BN,RG,tZ,hwA,ael,hwG,abN⟩:=h;obtain⟨hT1,hT2,-,hN2,xF,-⟩:=cz hg;rw[hg]at h_;rw[K',hNn]at h_⊢;refine enter (args:=[dD (T:Int) (N:Int) (ak bp g.az.length cp),aP #[ak aA A.length cA,ak aG G.length cG]]) (n:=93) Tryz.func91 I I I ?_;refine bY (a_ (bQ I I I fun g2=>?_));refine zL ?_;refine bQ I I I fun g3=>?_;refine zL ?_
 repeat(first|refine GA ?_|refine gV (aL (i:=0) aI.ty I I I) ?_)
 refine aW (kZ aF.en I I) (fun w hm=>h_ w hm.below) I I I ?_;intro _ _;refine zL ?_
 repeat(first|refine GA ?_|refine gV (aw (v:=ak aA A.length cA) aI.ty I (aE (i:=1) I I)) ?_|refine gV (aw (v:=ak aG G.length cG) aI.ty I (aE (i:=1) I I)) ?_)
 clear h_;refine dU (ι:=Nat) (fun i=>i<=A.length) (fun i=>[(2,aH (ah ⟨g2,0,aj⟩)),(3,aH (ah ⟨g3,0,aj⟩)),(6,ap av (A.length:Int)),(31,ap av (A.length:Int)),(32,ap av (i:Int))])
  (fun _=>[aO g2 (dD (T:Int) (N:Int) (ak bp g.az.length cp)).cells 33,aO g3 (aP #[ak aA A.length cA,ak aG G.length cG]).cells 36]) (fun i=>A.length-i) 0 (bC _) ?_
 intro i i1
 by_cases c1:i<A.length
 ·have c1G:i<G.length:=by omega
  obtain⟨bA,oA,vi,rfl,hcA,hsA⟩:=Lt hA c1;obtain⟨bG,oG,wi,rfl,hcG,hsG⟩:=Lt hGo c1G;obtain⟨ai,ci,rfl,hci,akO⟩:=nl hsA;obtain⟨ei,di,rfl,hdi,aiE⟩:=nl hsG;have hfA:=hsA.flat (f:=lP) akV;have hfG:=hsG.flat (f:=fun n=>[ap .i64 n]) akV;have akP:=hwA i c1;have akQ:=hwG i c1G;have aiF:=ael i c1;have aiG:=abN i c1G;obtain⟨_,_,e1,-,-,hrA⟩:=hfA
  cases e1
  obtain⟨_,_,e2,-,-,hrG⟩:=hfG
  cases e2
  clear hsA hsG ael abN hwA hwG;have aem:∀L,At (w:b_) L ⟨bA,oA+i,aj⟩ (.slice ai A[i].length ci):=fun L=>hJ hcA;have aen:∀L,At (w:b_) L ⟨bG,oG+i,aj⟩ (.slice ei G[i].length di):=fun L=>hJ hcG;generalize A[i]=X at*;generalize G[i]=Y at*
  try refine GA ?_
  refine dK ([aO g2 (dD (T:Int) (N:Int) (ak bp g.az.length cp)).cells 33,aO g3 (aP #[ak (ah ⟨bA,oA,aj⟩) A.length cA,ak (ah ⟨bG,oG,aj⟩) G.length cG]).cells 36]) (.calm 0 (.calm 1 (.calm 2 (.calm 3 (.calm 4 (.calm 5 (.calm 6 (.calm 7 (.calm 8 (.calm 9 (.calm 10 (.calm 11 (.calm 12 (.calm 13 (.calm 14 (.calm 15 (.calm 16 (.calm 17 (.calm 18 (.calm 19 (.calm 20 (.done)))))))))))))))))))))) (fun _ h=>h) ?_
  repeat(first|refine GW ?_|(refine GN ?_;first|refine QW (aw (v:=ak (ah ⟨bA,oA,aj⟩) A.length cA) aI.ty I (aE (i:=1) I I)) ?_|refine QW (a8 bI.eq aI.ty I I c1) ?_|refine QW (aw (v:=ak ai X.length ci) aI.ty I (aem _)) ?_|refine QW (aw (v:=ap av (T:Int)) aI.ty I (aE (i:=0) I I)) ?_|refine QW (aw (v:=ak (ah ⟨bG,oG,aj⟩) G.length cG) aI.ty I (aE (i:=1) I I)) ?_|refine QW (a8 bI.eq aI.ty I I c1G) ?_|refine QW (aw (v:=ak ei Y.length di) aI.ty I (aen _)) ?_|refine QW (aw (v:=ap av (N:Int)) aI.ty I (aE (i:=0) I I)) ?_))
  repeat(first|refine GA ?_|refine gV (aw (v:=ak (ah ⟨bA,oA,aj⟩) A.length cA) aI.ty I (aE (i:=1) I I)) ?_|refine gV (a8 bI.eq aI.ty I I c1) ?_|refine gV (aw (v:=ak ai X.length ci) aI.ty I (aem _)) ?_)
  refine dU (ι:=Nat) (fun c=>c<=X.length) (fun c=>[(2,aH (ah ⟨g2,0,aj⟩)),(3,aH (ah ⟨g3,0,aj⟩)),(6,ap av (A.length:Int)),(7,ap av (i:Int)),(31,ap av (A.length:Int)),(32,ap av (i:Int)),(60,ak ai X.length ci),(61,ap av (X.length:Int)),(62,ap av (c:Int))])
   (fun _=>[aO g2 (dD (T:Int) (N:Int) (ak bp g.az.length cp)).cells 33,aO g3 (aP #[ak (ah ⟨bA,oA,aj⟩) A.length cA,ak (ah ⟨bG,oG,aj⟩) G.length cG]).cells 36]) (fun c=>X.length-c) 0 (bC _) ?_
  intro c j1
  by_cases c2:c<X.length
  ·obtain⟨b,off,rfl,fZ⟩:=hrA J
   have eK:=fun L=>hU (L:=L) sA fZ c2;have FV:∀(L:List b9) (j:Nat) (u:Value),(lP X[c])[j]?=ah u->At (w:b_) L ⟨b,off+c*2+j,aj⟩ u:=eK;have ZU:=aiF c c2;clear eK;generalize X[c]=x at*;have hrc:=Lu T g.az.length A.length (N:Int) bp cp (ah ⟨bA,oA,aj⟩) cA (ak (ah ⟨bG,oG,aj⟩) G.length cG) x c ZU
   repeat(first|refine GA ?_|refine gV (aR bI.eq aI.ty I I c2) ?_|refine gV (aU (cs:=lP x) aI.ty I I (FV _)) ?_)
   refine aY I fun g9=>?_;refine zL ?_
   try refine GA ?_
   refine gG 2 (cs':=(lP x).toArray) ?_;refine zL ?_
   repeat(first|refine GA ?_|refine gV (aL (i:=0) aI.ty I I I) ?_|refine gV (aL (i:=1) aI.ty I I I) ?_|refine gV (aL (i:=2) aI.ty I I I) ?_)
   refine aW (Hi aF.en I I I I I) (fun w hm=>hrc w) I I I ?_;intro _ _;refine zL ?_
   try refine GA ?_
   refine dv [0,1] ?_;exact bO (c+1) J (by show X.length-(c+1)<X.length-c;omega)
  obtain rfl:c=X.length:=by omega
  repeat(first|refine GA ?_|refine gV (aw (v:=ak (ah ⟨bG,oG,aj⟩) G.length cG) aI.ty I (aE (i:=1) I I)) ?_|refine gV (a8 bI.eq aI.ty I I c1G) ?_|refine gV (aw (v:=ak ei Y.length di) aI.ty I (aen _)) ?_)
  refine dU (ι:=Nat) (fun c=>c<=Y.length) (fun c=>[(2,aH (ah ⟨g2,0,aj⟩)),(3,aH (ah ⟨g3,0,aj⟩)),(6,ap av (A.length:Int)),(31,ap av (A.length:Int)),(32,ap av (i:Int)),(78,ak ei Y.length di),(79,ap av (Y.length:Int)),(80,ap av (c:Int))])
   (fun _=>[aO g2 (dD (T:Int) (N:Int) (ak bp g.az.length cp)).cells 33,aO g3 (aP #[ak (ah ⟨bA,oA,aj⟩) A.length cA,ak (ah ⟨bG,oG,aj⟩) G.length cG]).cells 36]) (fun c=>Y.length-c) 0 (bC _) ?_
  intro c k1
  by_cases c3:c<Y.length
  ·obtain⟨b,off,rfl,fZ⟩:=hrG J
   have eK:=fun L=>hU (L:=L) (f:=fun n=>[ap .i64 n]) (c:=1) (fun _=>rfl) fZ c3 0 _ I;have FV:∀(L:List b9),At (w:b_) L ⟨b,off+c*1+0,aj⟩ (ap av Y[c]):=eK;have hgo:=aiG Y[c] (bV c3);clear eK;generalize Y[c]=y at*
   repeat(first|refine GA ?_|refine gV (aR bI.eq aI.ty I I c3) ?_|refine gV (aw (v:=ap av y) aI.ty I (FV _)) ?_)
   exact bO (c+1) J (by show Y.length-(c+1)<Y.length-c;omega)
  obtain rfl:c=Y.length:=by omega
  try refine GA ?_
  exact bO (i+1) J (by show A.length-(i+1)<A.length-i;omega)
 ·obtain rfl:i=A.length:=by omega
  try refine GA ?_
  exact dR
def AL(g:dF):Bool:=decide ((iN g).2.2.2=0)&&decide ((iN g).2.2.1.length=0)
end cg
namespace cg
open Go.RowKit cT ey zS c_
structure PkM(w:World)(vn vt:Value)(N:List (List Int))(tags:List Int):Prop where
 ex:∃(b off cap:Nat) (vs:Nat->Value),vn=ak (ah ⟨b,off,aj⟩) N.length cap/\∀i (h:i<N.length),w.cell? ⟨b,off+i,aj⟩=ah (vs i)/\Sl w (vs i) N[i].length (N[i].flatMap cT.eX)
 hT:Sl w vt tags.length (tags.flatMap cT.eX)
structure abO(o:Of)(N:List (List Int))(tags:List Int)(wide:Nat):Prop where
 pos:0<N.length
 le:N.length<=200
 len:tags.length=N.length
 w0:0<wide
 w1:wide<=256
 row:∀i (h:i<N.length),N[i].length=wide
 tag:∀i (h:i<tags.length),-1<=tags[i]/\tags[i]<20
 rng:∀i (h:i<N.length),∀j (h':j<N[i].length),-1<=N[i][j]/\N[i][j]<N.length
 of:∀b (h:b<256),o[b]<wide
theorem PkM.gr{w w':World}{vn vt:Value}{N:List (List Int)}{tags:List Int}(h:PkM w vn vt N tags)(hg:Gr w w'):PkM w' vn vt N tags:=by
 obtain⟨b,off,cap,vs,h1,h2⟩:=h.ex;refine⟨⟨b,off,cap,vs,h1,fun i hi=>⟨?_,(h2 i hi).2.gr hg⟩⟩,h.hT.gr hg⟩;rw[hg.cell (oP w _ (h2 i hi).1)];exact(h2 i hi).1
def ofC(o:Of):List Value:=o.toList.map fun n:Nat=> .int .u8 (n:Int)
theorem aeo(o:Of):(ofC o).length=256:=by simp[ofC]
theorem aep(o:Of){b:Nat}(h:b<256):(ofC o).toArray[b]?=ah (.int .u8 (o[b]:Int)):=by
 rw[jh];unfold ofC;rw[eQ,bm (by simpa using h),mF];rfl
theorem agW(o:Of)(vn vt:Value){j:Nat}{v:Value}(h:(ofC o)[j]?=ah v):(jm o vn vt).toArray[0+j]?=ah v:=by
 have hj:j<(ofC o).length:=(cU.1 h).1;rw[cI,jh];show(ofC o++[vn,vt])[j]?=_
 rw[fR hj];exact h
def unR(o:Of)(N:List (List Int)):List Row:=N.map fun l=>rK fun b:Fin 256=>l.getD o[b] 0
theorem Ur(o:Of)(N:List (List Int)):(unR o N).length=N.length:=dw ..
end cg
namespace cg
open Go.RowKit cT ey c_
structure PkI(w:World)(vn vt:Value)(N:List (List Int))(tags:List Int):Prop where
 hN:kK (cB iE) (sa w) w vn N
 hT:Sl w vt tags.length (tags.flatMap cT.eX)
theorem PkI.gr{w w':World}{vn vt:Value}{N:List (List Int)}{tags:List Int}(h:PkI w vn vt N tags)(hg:Gr w w'):PkI w' vn vt N tags:=⟨Dz h.hN hg,h.hT.gr hg⟩
abbrev np(o:Of)(N:List (List Int))(tags:List Int):Prop:=abO o N tags (N.headD []).length
open Classical in
noncomputable def sB(o:Of)(N:List (List Int))(tags:List Int):Int:=if 200<N.length then 2 else if np o N tags then 0 else 1
def OC(N:List (List Int))(tags:List Int)(wide i:Nat):Prop:=(N.getD i []).length=wide/\ -1<=tags.getD i 0/\tags.getD i 0<20/\∀x∈N.getD i [],-1<=x/\x<N.length
theorem aeq{o:Of}{N:List (List Int)}{tags:List Int}{wide:Nat}(h:abO o N tags wide){i:Nat}(hi:i<N.length):OC N tags wide i:=by
 have hit:i<tags.length:=by rw[h.len];exact hi
 unfold OC;rw[bD,bm hi,bD,bm hit];refine⟨h.row i hi,(h.tag i hit).1,(h.tag i hit).2,fun x hx=>?_⟩;obtain⟨j,hj,rfl⟩:=jG.1 hx;exact h.rng i hi j hj
theorem aer{o:Of}{N:List (List Int)}{tags:List Int}{wide:Nat}(h0:0<N.length)(h1:N.length<=200)(h2:tags.length=N.length)(h3:0<wide)(h4:wide<=256)(h5:∀i,i<N.length->OC N tags wide i)(h6:∀b (h:b<256),o[b]<wide):abO o N tags wide:=by
 have g:∀i (hi:i<N.length),N.getD i []=N[i]:=fun i hi=>by rw[bD,bm hi];rfl
 have gt:∀i (hi:i<tags.length),tags.getD i 0=tags[i]:=fun i hi=>by rw[bD,bm hi];rfl
 refine⟨h0,h1,h2,h3,h4,fun i hi=>?_,fun i hi=>?_,fun i hi j hj=>?_,h6⟩;have:=(h5 i hi).1;rwa [g i hi]at this;have:=h5 i J;unfold OC at this;rw[gt i hi]at this;exact⟨this.2.1,this.2.2.1⟩;have:=(h5 i hi).2.2.2;rw[g i hi]at this;exact this _ (bV hj)
theorem agX{o:Of}{N:List (List Int)}{tags:List Int}(h:200<N.length):sB o N tags=2:=if_pos h
theorem agY{o:Of}{N:List (List Int)}{tags:List Int}(h:¬200<N.length)(hg:¬np o N tags):sB o N tags=1:=by unfold sB;rw[if_neg h,if_neg hg]
theorem Sj{o:Of}{N:List (List Int)}{tags:List Int}(hg:np o N tags):sB o N tags=0:=by unfold sB;rw[if_neg (by have:=hg.le;omega),if_pos hg]
theorem WX{o:Of}{N:List (List Int)}{tags:List Int}(h:sB o N tags=0):np o N tags:=by
 unfold sB at h;split at h
 cases h
 split at h
 assumption
 cases h
theorem CK(o:Of)(vn vt:Value)(N:List (List Int))(tags:List Int)(w:World)(h:PkI w vn vt N tags)(ho:∀b (h:b<256),o[b]<256):
 Calls aC 89 #[Pf o vn vt] w (cJ (ret (ap av (sB o N tags))) w):=by
 obtain⟨⟨an,cn,rfl,hn1,hn2,hn3⟩,at',ct,rfl,ht1,Zk,L4⟩:=h;unfold maxLen at hn2 Zk;have hE1:=fun h hg=>agY (o:=o) (N:=N) (tags:=tags) h hg;have hE2:=fun h=>agX (o:=o) (N:=N) (tags:=tags) h;have hE0:=fun h=>Sj (o:=o) (N:=N) (tags:=tags) h;generalize sB o N tags=e at*;refine enter (args:=[Pf o (ak an N.length cn) (ak at' tags.length ct)]) (n:=92) Tryz.func89 I I I ?_;refine bY (a_ (bQ I I I fun g1=>?_))
 by_cases c1:200<N.length
 ·rw[hE2 c1]
  repeat(first|refine GC ?_|refine gV (aw aI.ty I (aE (i:=0) I (oz _ _ _))) ?_|refine gV (eP (b:=aB) I I (decide_eq_true J)) ?_|refine GB ?_)
  exact eU I I I
 by_cases c2:N.length=0
 ·rw[hE1 c1 (fun h=>by have:=h.pos;omega)]
  repeat(first|refine GC ?_|refine gV (aw aI.ty I (aE (i:=0) I (oz _ _ _))) ?_|refine gV (eP (b:=aD) I I (decide_eq_false J)) ?_|refine gV (cP (b:=aB) I I (decide_eq_true J)) ?_|refine GB ?_)
  exact eU I I I
 by_cases c3:tags.length=N.length
 case neg=>
  rw[hE1 c1 (fun h=>c3 h.len)]
  repeat(first|refine GC ?_|refine gV (aw aI.ty I (aE (i:=0) I (oz _ _ _))) ?_|refine gV (aw aI.ty I (aE (i:=0) I (pA _ _ _))) ?_|refine gV (eP (b:=aD) I I (decide_eq_false J)) ?_|refine gV (cP (b:=aD) I I (decide_eq_false J)) ?_|refine gV (dz (b:=aB) I I (decide_eq_true J)) ?_|refine GB ?_)
  exact eU I I I
 obtain⟨bn,OD,rfl,_,PG⟩:=hn3 J;obtain⟨bt,Lv,rfl,htd⟩:=L4 J;clear hn3 L4;obtain⟨u0,⟨a0,c0,rfl,-⟩,hd0⟩:=Fv PG (show 0<N.length by omega);have agU:=fun(L:List b9)=>jp (L:=L) hd0 (j:=0) (v:=ak a0 (N[0]' J).length c0) I;have hw:(N.headD []).length=(N[0]' J).length:=by cases N with
  |nil=>simp at c2
  |cons x r=>rfl
 have uT:np o N tags↔abO o N tags (N[0]' J).length:=by unfold np;rw[hw]
 clear hd0 hw;generalize (N[0]' J).length=wide at*
 repeat(first|refine GC ?_|refine gV (aw aI.ty I (aE (i:=0) I (oz _ _ _))) ?_|refine gV (aw aI.ty I (aE (i:=0) I (pA _ _ _))) ?_|refine gV (eP (b:=aD) I I (decide_eq_false J)) ?_|refine gV (cP (b:=aD) I I (decide_eq_false J)) ?_|refine gV (dz (b:=aD) I I (decide_eq_false J)) ?_|refine gV (aR (j:=0) bI.eq aI.ty I I J) ?_|refine gV (aw (v:=ak a0 wide c0) aI.ty I (agU _)) ?_|refine GB ?_)
 by_cases c4:wide=0
 ·rw[hE1 c1 (fun h=>by have:=(uT.1 h).w0;omega)]
  repeat(first|refine GC ?_|refine gV (cP (b:=aB) I I (decide_eq_true J)) ?_|refine GB ?_)
  exact eU I I I
 by_cases c5:256<wide
 ·rw[hE1 c1 (fun h=>by have:=(uT.1 h).w1;omega)]
  repeat(first|refine GC ?_|refine gV (cP (b:=aD) I I (decide_eq_false J)) ?_|refine gV (eP (b:=aB) I I (decide_eq_true J)) ?_|refine GB ?_)
  exact eU I I I
 repeat(first|refine GC ?_|refine gV (cP (b:=aD) I I (decide_eq_false J)) ?_|refine gV (eP (b:=aD) I I (decide_eq_false J)) ?_|refine GB ?_)
 refine dU (ι:=Nat) (fun i=>i<=N.length/\∀j,j<i->OC N tags wide j) (fun i=>[(1,aH (ah ⟨g1,0,aj⟩)),(3,ap av (N.length:Int)),(4,ap av (wide:Int)),(35,ap av (N.length:Int)),(36,ap av (i:Int))])
  (fun _=>[aO g1 (jm o (ak (ah ⟨bn,OD,aj⟩) N.length cn) (ak (ah ⟨bt,Lv,aj⟩) tags.length ct)).toArray 30]) (fun i=>N.length-i) 0 ⟨bC _,fun j h=>by omega⟩ ?_
 rintro i ⟨hi,hgi⟩
 by_cases q1:i<N.length
 ·have hit:i<tags.length:=by omega
  obtain⟨u,⟨au,cu,rfl,hcu,hmu,hru⟩,hdu⟩:=Fv PG q1;unfold maxLen at hmu;have WY:=fun(L:List b9)=>jp (L:=L) hdu (j:=0) (v:= .slice au N[i].length cu) I;have Oh:=fun(L:List b9)=>hU (L:=L) kh htd hit 0 _ I;have hG:OC N tags wide i↔(N[i].length=wide/\ -1<=tags[i]/\tags[i]<20/\∀x∈N[i],-1<=x/\x<N.length):=by
   unfold OC;rw[bD,bm q1,bD,bm hit];rfl
  have oF:¬OC N tags wide i->e=1:=fun hg=>hE1 c1 fun h=>hg (aeq (uT.1 h) q1);clear hdu hE1 hE2;generalize tags[i]=tg at*;generalize N[i]=l at*
  by_cases r1:l.length=wide
  case neg=>
   rw[oF (fun h=>r1 (hG.1 h).1)]
   repeat(first|refine GC ?_|refine gV (aw aI.ty I (aE (i:=0) I (oz _ _ _))) ?_|refine gV (aw aI.ty I (aE (i:=0) I (pA _ _ _))) ?_|refine gV (aR (j:=i) bI.eq aI.ty I I q1) ?_|refine gV (aw (v:=ak au l.length cu) aI.ty I (WY _)) ?_|refine gV (dz (b:=aB) I I (decide_eq_true J)) ?_|refine GB ?_)
   exact eU I I I
  by_cases r2:tg< -1
  ·rw[oF (fun h=>by have:=(hG.1 h).2.1;omega)]
   repeat(first|refine GC ?_|refine gV (aw aI.ty I (aE (i:=0) I (oz _ _ _))) ?_|refine gV (aw aI.ty I (aE (i:=0) I (pA _ _ _))) ?_|refine gV (aR (j:=i) bI.eq aI.ty I I q1) ?_|refine gV (aw (v:=ak au l.length cu) aI.ty I (WY _)) ?_|refine gV (dz (b:=aD) I I (decide_eq_false J)) ?_|refine gV (aR (j:=i) bI.eq aI.ty I I hit) ?_|refine gV (aw (v:=ap av tg) aI.ty I (Oh _)) ?_|refine gV (dT (b:=aB) I I (decide_eq_true r2)) ?_|refine GB ?_)
   exact eU I I I
  by_cases r3:20<=tg
  ·rw[oF (fun h=>by have:=(hG.1 h).2.2.1;omega)]
   repeat(first|refine GC ?_|refine gV (aw aI.ty I (aE (i:=0) I (oz _ _ _))) ?_|refine gV (aw aI.ty I (aE (i:=0) I (pA _ _ _))) ?_|refine gV (aR (j:=i) bI.eq aI.ty I I q1) ?_|refine gV (aw (v:=ak au l.length cu) aI.ty I (WY _)) ?_|refine gV (dz (b:=aD) I I (decide_eq_false J)) ?_|refine gV (aR (j:=i) bI.eq aI.ty I I hit) ?_|refine gV (aw (v:=ap av tg) aI.ty I (Oh _)) ?_|refine gV (dT (b:=aD) I I (decide_eq_false r2)) ?_|refine gV (fx (b:=aB) I I (decide_eq_true r3)) ?_|refine GB ?_)
   exact eU I I I
  repeat(first|refine GC ?_|refine gV (aw aI.ty I (aE (i:=0) I (oz _ _ _))) ?_|refine gV (aw aI.ty I (aE (i:=0) I (pA _ _ _))) ?_|refine gV (aR (j:=i) bI.eq aI.ty I I q1) ?_|refine gV (aw (v:=ak au l.length cu) aI.ty I (WY _)) ?_|refine gV (dz (b:=aD) I I (decide_eq_false J)) ?_|refine gV (aR (j:=i) bI.eq aI.ty I I hit) ?_|refine gV (aw (v:=ap av tg) aI.ty I (Oh _)) ?_|refine gV (dT (b:=aD) I I (decide_eq_false r2)) ?_|refine gV (fx (b:=aD) I I (decide_eq_false r3)) ?_|refine GB ?_)
  refine dU (ι:=Nat) (fun j=>j<=l.length/\∀x∈l.take j,-1<=x/\x<N.length) (fun j=>[(1,aH (ah ⟨g1,0,aj⟩)),(3,ap av (N.length:Int)),(4,ap av (wide:Int)),(35,ap av (N.length:Int)),(36,ap av (i:Int)),(67,ak au l.length cu),(68,ap av (l.length:Int)),(69,ap av (j:Int))])
   (fun _=>[aO g1 (jm o (ak (ah ⟨bn,OD,aj⟩) N.length cn) (ak (ah ⟨bt,Lv,aj⟩) tags.length ct)).toArray 30]) (fun j=>l.length-j) 0 ⟨bC _,fun x h=>by simp at h⟩ ?_
  rintro j ⟨hj,hgj⟩
  by_cases s1:j<l.length
  ·obtain⟨bu,aiH,rfl,fZ⟩:=hru J
   have WZ:=fun(L:List b9)=>hU (L:=L) kh fZ s1 0 _ I;have hxm:=bV s1;have NP:=ir s1;clear fZ;generalize l[j]=x at*
   by_cases t1:x< -1
   ·rw[oF (fun h=>by have:=((hG.1 h).2.2.2 x hxm).1;omega)]
    repeat(first|refine GC ?_|refine gV (aR (j:=j) bI.eq aI.ty I I s1) ?_|refine gV (aw (v:=ap av x) aI.ty I (WZ _)) ?_|refine gV (dT (b:=aB) I I (decide_eq_true t1)) ?_|refine GB ?_)
    exact eU I I I
   by_cases t2:(N.length:Int)<=x
   ·rw[oF (fun h=>by have:=((hG.1 h).2.2.2 x hxm).2;omega)]
    repeat(first|refine GC ?_|refine gV (aR (j:=j) bI.eq aI.ty I I s1) ?_|refine gV (aw (v:=ap av x) aI.ty I (WZ _)) ?_|refine gV (dT (b:=aD) I I (decide_eq_false t1)) ?_|refine gV (fx (b:=aB) I I (decide_eq_true t2)) ?_|refine GB ?_)
    exact eU I I I
   repeat(first|refine GC ?_|refine gV (aR (j:=j) bI.eq aI.ty I I s1) ?_|refine gV (aw (v:=ap av x) aI.ty I (WZ _)) ?_|refine gV (dT (b:=aD) I I (decide_eq_false t1)) ?_|refine gV (fx (b:=aD) I I (decide_eq_false t2)) ?_|refine GB ?_)
   exact iU (j+1) ⟨by omega,fun y hy=>by
    rw[NP,gH,dH]at hy;rcases hy with hy|rfl
    exact hgj y hy;omega⟩ (by show l.length-(j+1)<l.length-j;omega) (by repeat' (first|exact cY|refine cK I ?_)) I
  rw[List.take_of_length_le J]at hgj
  try refine GA ?_
  exact iU (i+1) ⟨by omega,fun j hj2=>by
   by_cases e:j=i
   subst e;exact hG.2 ⟨r1,by omega,by omega,hgj⟩;exact hgi j J⟩ (by show N.length-(i+1)<N.length-i;omega) (by repeat' (first|exact cY|refine cK I ?_)) I
 ·repeat(first|refine GA ?_|refine gV (aU (cs:=ofC o) aI.ty I (aeo o) (fun j v hj=>aE (i:=0) I (agW _ _ _ hj))) ?_)
  refine dU (ι:=Nat) (fun j=>j<=256/\∀b (h:b<256),b<j->o[b]<wide) (fun j=>[(4,ap av (wide:Int)),(83,aP (ofC o).toArray),(84,ap av (j:Int))]) (fun _=>[aO g1 (jm o (ak (ah ⟨bn,OD,aj⟩) N.length cn) (ak (ah ⟨bt,Lv,aj⟩) tags.length ct)).toArray 30]) (fun j=>256-j) 0 ⟨bC _,fun b _ h=>by omega⟩ ?_;rintro j ⟨hj,SP⟩
  by_cases s1:j<256
  ·have hcell:=aep o s1
   have hz:=ho j s1;have oF:¬o[j]<wide->e=1:=fun hg=>hE1 c1 fun h=>hg ((uT.1 h).of j s1);have pJ:o[j]<wide->∀b (h:b<256),b<j+1->o[b]<wide:=fun hw b h hb=>by
    by_cases e:b=j
    subst e;exact hw;exact SP b h J
   clear hE1 hE2;generalize o[j]=z at*
   by_cases t1:z<wide
   ·repeat(first|refine GC ?_|refine gV (jv bI.eq aI.ty I I s1 hcell) ?_|refine gV (iV bI.eq bI.eq I (om J J)) ?_|refine gV (fx (b:=aD) I I (decide_eq_false J)) ?_|refine GB ?_)
    exact bO (j+1) ⟨by omega,pJ t1⟩ (by show 256-(j+1)<256-j;omega)
   rw[oF t1]
   repeat(first|refine GC ?_|refine gV (jv bI.eq aI.ty I I s1 hcell) ?_|refine gV (iV bI.eq bI.eq I (om J J)) ?_|refine gV (fx (b:=aB) I I (decide_eq_true J)) ?_|refine GB ?_)
   exact eU I I I
  rw[hE0 (uT.2 (aer J J c3 J J (fun i h=>hgi i J) fun b h=>SP b h J))]
  try refine GA ?_
  exact eU I I I
end cg
namespace cg
open Go.RowKit cT ey dj gu je aM c_
structure Md where
 of:List Int
 o:Of
 N:List (List Int)
 tags:List Int
 g:dF
 mode:Int
 rows:List (List Int)
 A:List (List bP.Act)
 G:List (List Int)
structure Jd(w:World)(v:Value)(m:Md)(vo vn vt vp vr va vg:Value):Prop where
 val:v=aP (kp vo (jm m.o vn vt) (jE m.g.aQ m.g.bB vp m.mode vr va vg)).toArray
 of:Sl w vo m.of.length (m.of.flatMap cT.eX)
 pk:PkI w vn vt m.N m.tags
 De:kw (fun k=>k<w.heap.size) w (dD m.g.aQ m.g.bB vp) m.g
 rows:GF w vr m.rows
 l_:GG w (aP #[va,vg]) m.A m.G
structure MdGood(m:Md):Prop where
 byte:∀b (h:b<256),m.o[b]<256
 lC:sB m.o m.N m.tags=0
 De:cD m.g=0
 some:0<m.of.length
 adm:m.of.length<=20
 ofs:∀t∈m.of,-1<=t/\t<m.g.aQ
 tag:∀t∈m.tags,t<(m.of.length:Int)
 mode:(m.mode=1/\Lr m.g m.rows=0)\/(m.mode=2/\∃T N,wF m.g T N m.A m.G)
theorem Us{vo:Value}{pk tl:List Value}(hp:pk.length=258){j:Nat}{v:Value}(h:pk[j]?=ah v):(kp vo pk tl).toArray[0+1+j]?=ah v:=by
 rw[jh,kp,show 0+1+j=j+1 by omega,List.getElem?_cons_succ,fR (cU.1 h).1];exact h
theorem agZ{vo:Value}{pk:List Value}(hp:pk.length=258){a b c d e f f' v:Value}{j:Nat}(h:[f,f'][j]?=ah v):(kp vo pk [a,b,c,d,e,f,f']).toArray[0+264+j]?=ah v:=by
 match j,h with
 |0,h=>exact kI 5 hp h I
 |1,h=>exact kI 6 hp h I
 |n+2,h=>cases h
theorem Lw(x:Int):(cT.eX x).length=1:=rfl
set_option maxRecDepth 100000 in
theorem AM(v:Value)(m:Md)(w:World){vo vn vt vp vr va vg:Value}(h:Jd w v m vo vn vt vp vr va vg)(hg:MdGood m):
 Calls aC 47 #[v] w (cJ (ret (ap av 0)) w):=by
 have h_:=fun w' (hw:Gr w w')=>CK m.o vn vt m.N m.tags w' (h.pk.gr hw) hg.byte;rw[hg.lC]at h_;have hcg:=fun w' (hw:Gr w w')=>iX (dD m.g.aQ m.g.bB vp) m.g w' (h.De.gr hw);rw[hg.De]at hcg;have Ve:=fun w' (hw:Gr w w')=>xP (dD m.g.aQ m.g.bB vp) vr m.g m.rows w' (h.De.gr hw) (Dz h.rows hw);have SU:=fun T N hT w' (hw:Gr w w')=>xQ (dD m.g.aQ m.g.bB vp) (aP #[va,vg]) m.g T N m.A m.G hT w' (h.De.gr hw) (h.l_.gr hw);have DB:=h.of;have htg:=h.pk.hT;have hv:=h.val;obtain⟨b1,b2,b3,b4,b5,b6,b7,b8⟩:=hg;clear h b1 b2 b3;have jb:(jm m.o vn vt).length=258:=iA _ _ _;have hpt:(jm m.o vn vt)[257]?=ah vt:=by have:=pA m.o vn vt;simpa using this
 obtain⟨of,o,N,tags,g,mode,rows,A,G⟩:=m;dsimp only at*;rw[show Pf o vn vt=aP (jm o vn vt).toArray from I]at h_;generalize jm o vn vt=PK at*;obtain⟨a1,c1,rfl,Hf,hm1,Pd⟩:=DB;obtain⟨a2,c2,rfl,Xx,Hc,pC⟩:=htg;unfold maxLen at hm1 Hc;subst hv;refine enter (args:=[aP (kp (ak a1 of.length c1) PK (jE g.aQ g.bB vp mode vr va vg)).toArray]) (n:=77) Tryz.func47 I I I ?_;refine bY (a_ (bQ I I I fun g1=>?_));refine zL ?_
 repeat(first|refine GA ?_|refine gV (aU (cs:=PK) aI.ty I jb (fun j v h=>aE (i:=0) I (Us jb h))) ?_)
 refine aW (kZ aF.en I I) (fun w hm=>h_ _ hm.below) I I I ?_;intro _ _;refine zL ?_
 repeat(first|refine GC ?_|refine gV (dz (b:=aD) I I (decide_eq_false (by simp))) ?_|refine gV (aU (cs:=[ap av g.aQ,ap av g.bB,vp]) aI.ty I I (fun j v h=>aE (i:=0) I (lO jb h))) ?_|refine GB ?_)
 refine aW (kZ aF.en I I) (fun w hm=>hcg _ hm.below) I I I ?_;intro _ _;refine zL ?_
 repeat(first|refine GC ?_|refine gV (dz (b:=aD) I I (decide_eq_false (by simp))) ?_|refine gV (aw (v:=ak a1 of.length c1) aI.ty I (aE (i:=0) I I)) ?_|refine GB ?_)
 have hz:(1:Nat)<=of.length:=b4;refine dU (ι:=Nat) (fun k=>k<=of.length) (fun k=>[(1,aH (ah ⟨g1,0,aj⟩)),(31,ak a1 of.length c1),(32,ap av of.length),(33,ap av (k:Int))])
  (fun _=>[aO g1 (kp (ak a1 of.length c1) PK (jE g.aQ g.bB vp mode vr va vg)).toArray 38]) (fun k=>of.length-k) 0 (bC _) ?_
 intro k k1
 by_cases d1:k<of.length
 ·obtain⟨b,off,rfl,hr⟩:=Pd J
  have eK:=fun(L:List b9)=>hU (L:=L) Lw hr d1 0 _ I;obtain⟨y1,y2⟩:=b6 of[k] (bV d1);generalize of[k]=x at*
  repeat(first|refine GA ?_|refine gV (aR bI.eq aI.ty I I d1) ?_|refine gV (aw (v:=ap av x) aI.ty I (eK _)) ?_|refine gV (aw (v:=ap av g.aQ) aI.ty I (aE (i:=0) I (kI 0 jb I I))) ?_)
  exact bO (k+1) J (by show of.length-(k+1)<of.length-k;omega)
 obtain rfl:k=of.length:=by omega
 repeat(first|refine GA ?_|refine gV (aw (v:=ak a2 tags.length c2) aI.ty I (aE (i:=0) I (Us jb hpt))) ?_)
 refine dU (ι:=Nat) (fun k=>k<=tags.length) (fun k=>[(1,aH (ah ⟨g1,0,aj⟩)),(49,ak a2 tags.length c2),(50,ap av tags.length),(51,ap av (k:Int))])
  (fun _=>[aO g1 (kp (ak a1 of.length c1) PK (jE g.aQ g.bB vp mode vr va vg)).toArray 38]) (fun k=>tags.length-k) 0 (bC _) ?_
 intro k k2
 by_cases d2:k<tags.length
 ·obtain⟨b,off,rfl,hr⟩:=pC J
  have eK:=fun(L:List b9)=>hU (L:=L) Lw hr d2 0 _ I;have y1:=b7 tags[k] (bV d2);generalize tags[k]=x at*
  repeat(first|refine GA ?_|refine gV (aR bI.eq aI.ty I I d2) ?_|refine gV (aw (v:=ap av x) aI.ty I (eK _)) ?_|refine gV (aw (v:=ak a1 of.length c1) aI.ty I (aE (i:=0) I I)) ?_)
  exact bO (k+1) J (by show tags.length-(k+1)<tags.length-k;omega)
 obtain rfl:k=tags.length:=by omega
 rcases b8 with⟨rfl,hc⟩|⟨rfl,T,N',hc⟩
 ·rw[hc]at Ve
  repeat(first|refine GA ?_|refine gV (aw (v:=ap av 1) aI.ty I (aE (i:=0) I (kI 3 jb I I))) ?_|refine gV (aU (cs:=[ap av g.aQ,ap av g.bB,vp]) aI.ty I I (fun j v h=>aE (i:=0) I (lO jb h))) ?_|refine gV (aw (v:=vr) aI.ty I (aE (i:=0) I (kI 4 jb I I))) ?_)
  refine aW (fP aF.en I I I) (fun w hm=>Ve _ hm.below) I I I ?_;intro _ _;refine zL ?_
  try refine GA ?_
  exact dR
 ·have SU:=fun w' hw=>SU T N' hc w' hw
  repeat(first|refine GA ?_|refine gV (aw (v:=ap av 2) aI.ty I (aE (i:=0) I (kI 3 jb I I))) ?_|refine gV (aU (cs:=[ap av g.aQ,ap av g.bB,vp]) aI.ty I I (fun j v h=>aE (i:=0) I (lO jb h))) ?_|refine gV (aU (cs:=[va,vg]) aI.ty I I (fun j v h=>aE (i:=0) I (agZ jb h))) ?_)
  refine aW (fP aF.en I I I) (fun w hm=>SU _ hm.below) I I I ?_;intro _ _;refine zL ?_
  try refine GA ?_
  exact dR
end cg
namespace cg
open Go.RowKit cT ey dj gu je aM c_
theorem GH{s:Sp}{e m:Int}(h:CI s e=(0,m)):e=0/\(B1 (cL s)).any (· ==aD)=aD/\(y9 (cL s)).any (· ==aD)=aD/\(((y_ (cL s)).length=0/\m=1)\/((y_ (cL s)).length≠0/\(iN (cL s)).2.2.2=0/\(iN (cL s)).2.2.1.length=0/\m=2)):=by
 unfold CI at h
 by_cases c0:qz s≠0
 rw[if_pos c0]at h;exact absurd (congrArg Sh h) c0;rw[if_neg c0]at h
 by_cases c1:s.words.length=0\/s.rules.length=0
 rw[if_pos c1]at h;cases h;rw[if_neg c1]at h
 by_cases c2:e≠0
 rw[if_pos c2]at h;exact absurd (congrArg Sh h) c2;rw[if_neg c2]at h
 by_cases c3:(B1 (cL s)).any (· ==aD)=aB\/(y9 (cL s)).any (· ==aD)=aB
 rw[if_pos c3]at h;cases h;rw[if_neg c3]at h;refine⟨rQ c2,?_,?_,?_⟩
 ·cases hb:(B1 (cL s)).any (· ==aD)with
  |true=>exact absurd (.inl hb) c3
  |false=>rfl
 ·cases hb:(y9 (cL s)).any (· ==aD)with
  |true=>exact absurd (.inr hb) c3
  |false=>rfl
 by_cases c4:(y_ (cL s)).length=0
 rw[if_pos c4]at h;exact .inl ⟨c4,(congrArg Si h).symm⟩;rw[if_neg c4]at h
 by_cases c5:(iN (cL s)).2.2.2≠0
 rw[if_pos c5]at h;exact absurd (congrArg Sh h) c5;rw[if_neg c5]at h
 by_cases c6:0<(iN (cL s)).2.2.1.length
 rw[if_pos c6]at h;cases h;rw[if_neg c6]at h;exact .inr ⟨c4,rQ c5,by omega,(congrArg Si h).symm⟩
theorem abP{x:HH}(h:x.vT.oneCell'=aB)(R:List Row):(x.pk R).all f_=true:=by
 have:=y0 (uu R 256) (vn:=ak (ah ⟨x.gP,0,aj⟩) R.length R.length) (vt:=x.vT) I h;rw[HH.pk,<-this]
end cg
namespace cg
open Go.RowKit cT ey aM dN gK
attribute [local irreducible] Instr.build in
theorem B2(gw:Nat)(t n:Int)(vp vt vo:Value)(out:List bX)(dG:Nat)(kd m:Int)(w:World)(B:b_)(h1:out.length<=100000)(h2:dG<=100000)(hm:Mem B [yO gw t n vp vt vo dG,rT vo out] w):
 Calls aC 168 #[aH (ah ⟨gw,0,aj⟩),ap av kd,ap av m] w (dX ⟨fun(_:Value)=>True,fun _=> .bool (decide (((dG+1:Nat):Int)<=2000)),fun GI=>[yO gw t n vp vt GI (dG+1),rT GI (out++[(kd,m)])]⟩ B):=by
 refine eR hm (args:=[aH (ah ⟨gw,0,aj⟩),ap av kd,ap av m]) (n:=31) Tryz.func168 I I I ?_;refine S7 (i:=1) I fun jM nG=>?_
 repeat(first|refine GC ?_|refine gV (aw aI.ty I (aE (i:=0) I I)) ?_|refine gV (dh (r:=((dG+1:Nat):Int)) I I J J J) ?_|refine GB ?_)
 refine bT (i:=0) I I I I I I ?_;rw[show(Na t n vp vt vo dG).setIfInBounds (0+5) (ap av ((dG+1:Nat):Int))=Na t n vp vt vo (dG+1)from I];refine zL ?_
 repeat(first|refine GA ?_|refine gV (aw aI.ty I (aE (i:=0) I I)) ?_|refine gV (bz I (BB _ _)) ?_)
 refine k7 (i:=1) I I I I I I I (fun z h=>by cases h;rfl) J J I fun z' v'=>?_;refine zL ?_;refine aV (i:=1) I fun jM nG=>?_
 try refine GA ?_
 refine bT (i:=0) I I I jM nG I ?_;rw[show(Na t n vp vt vo (dG+1)).setIfInBounds (0+4) v'=Na t n vp vt v' (dG+1)from I];refine zL ?_
 repeat(first|refine GC ?_|refine gV (aw (v:=ap av ((dG+1:Nat):Int)) aI.ty I (aE (i:=0) I I)) ?_|refine gV (Bg I I I) ?_|refine GB ?_)
 exact dq I I fun w hm=>hm.cZ (S:=⟨fun(_:Value)=>True,fun _=> .bool (decide (((dG+1:Nat):Int)<=2000)),fun GI=>[yO gw t n vp vt GI (dG+1),rT GI (out++[(kd,m)])]⟩) v' trivial [0,1] akV (by simp[yO,rT])
theorem CL{B:b_}{L:List b9}{i g cap:Nat}{d:TD}{r:List TD}(hi:L[i]?=ah (xt (ak (ah ⟨g,0,aj⟩) (r.length+1) cap) (d::r)))(j:Nat)(u:Value)(hu:(xH d)[j]?=ah u):At B L ⟨g,0+r.length*4+j,aj⟩ u:=
 oC Kn hi (k:=r.length) (by simp) j u (by simpa using hu)
theorem Ut{d:TD}{r:List TD}{g cap:Nat}{w:World}(h:(xt (ak (ah ⟨g,0,aj⟩) (r.length+1) cap) (d::r)).holds w):(xt (ak (ah ⟨g,0,aj⟩) r.length cap) r).holds w:=by
 obtain⟨h1,h2⟩:=h;refine⟨by rw[nS Kn];simp,?_⟩;rcases h2 with⟨h2,_⟩|⟨g',PT,oU,e,h3,h4,h5,h6,h7,h8⟩
 cases h2
 cases e
 refine .inr ⟨g,cap,oU,rfl,h3,h4,by simp at h5;omega,h6,h7,?_⟩;have:(oU.toList.take ((d::r).length*4)).take (r.length*4)=((d::r).reverse.flatMap xH).take (r.length*4):=by rw[h8]
 rw[abE,Nat.min_eq_left (by simp;omega),Gz,fH,List.take_left' (by rw[nS Kn];simp)]at this;exact this
attribute [local irreducible] Instr.build in
theorem B3(gw:Nat)(t n:Int)(vp vt vo:Value)(d:TD)(r:List TD)(dG:Nat)(w:World)(B:b_)(h1:r.length<=100000)(hm:Mem B [yO gw t n vp vt vo dG,xt vt (d::r)] w):
 Calls aC 167 #[aH (ah ⟨gw,0,aj⟩)] w (dX ⟨fun(_:Value)=>True,fun _=>L5 d,fun zl=>[yO gw t n vp zl vo dG,xt zl r]⟩ B):=by
 refine eR hm (args:=[aH (ah ⟨gw,0,aj⟩)]) (n:=31) Tryz.func167 I I I ?_;refine yp (i:=1) I (by simp) fun g cap hv q1 q2=>?_;subst hv;simp only[cO]at*;refine bY (a_ (aY I fun g2=>?_));refine zL ?_
 try refine GA ?_
 refine dK ([yO gw t n vp (ak (ah ⟨g,0,aj⟩) (r.length+1) cap) vo dG,xt (ak (ah ⟨g,0,aj⟩) (r.length+1) cap) (d::r)]) (.calm 0 (.calm 1 (.calm 2 (.calm 3 (.calm 4 (.calm 5 (.calm 6 (.calm 7 (.calm 8 (.calm 9 (.calm 10 (.calm 11 (.one 12 (.one 13 (.done))))))))))))))) (bZ [0,1]) ?_
 repeat(first|(refine GN ?_;first|refine QW QP ?_|refine QW (aw (v:=ak (ah ⟨g,0,aj⟩) (r.length+1) cap) aI.ty I (aE (i:=0) I I)) ?_|refine QW (eD (r:=(r.length:Int)) I I J J J) ?_|refine QW (aR (j:=r.length) bI.eq aI.ty I I J) ?_|refine QW (aU aI.ty I I (CL (i:=1) I)) ?_|refine GX ?_)|refine GW ?_)
 refine aJ I (aY I fun g3=>?_);refine aK (bZ [0,1]) ?_;refine aJ I (aX (i:=3) (cs':=(xH d).toArray) I I I I I I (aK (bZ [0,1]) ?_))
 try refine GW ?_
 try refine GA ?_
 refine dK ([]) (.calm 0 (.calm 1 (.calm 2 (.calm 3 (.calm 5 (.calm 6 (.calm 7 (.two 4 (.one 8 (.calm 9 (.calm 10 (.calm 11 (.calm 12 (.calm 13 (.one 14 (.done)))))))) 8 (.calm 9 (.calm 10 (.one 4 (.calm 11 (.calm 12 (.calm 13 (.one 14 (.done)))))))))))))))) (bZ []) ?_
 try refine GW ?_
 refine fe I I ?_ ?_
 ·refine dC (aw (v:=ak (ah ⟨g,0,aj⟩) (r.length+1) cap) aI.ty I (aE (i:=0) I I)) I I I (aK (bZ []) ?_)
  refine aJ I (dC (aw (v:=ak (ah ⟨g,0,aj⟩) (r.length+1) cap) aI.ty I (aE (i:=0) I I)) I I I (aK (bZ []) ?_))
  repeat(first|(refine GN ?_;first|refine QW QP ?_|refine QW (eD (r:=(r.length:Int)) I I J J J) ?_|refine QW (Mw (j:=r.length) bI.eq aI.ty I I J) ?_|refine GX ?_)|refine GW ?_)
  refine aJ I (bT (i:=0) I I I I I I (aK (bZ []) ?_));rw[show(Na t n vp (ak (ah ⟨g,0,aj⟩) (r.length+1) cap) vo dG).setIfInBounds (0+3) (ak (ah ⟨g,0,aj⟩) r.length cap)=Na t n vp (ak (ah ⟨g,0,aj⟩) r.length cap) vo dG from I]
  try refine GW ?_
  repeat(first|refine GA ?_|refine gV (aL (i:=3) aI.ty I I I) ?_)
  refine gG 2 (cs':=(xH d).toArray) ?_;refine zL ?_
  try refine GA ?_
  refine pw (i:=1) (xt (ak (ah ⟨g,0,aj⟩) r.length cap) r) I (fun w h=>Ut h) (fun k hk=>hk) ?_;exact gU (i:=2) I I I I fun w hm=>hm.cZ (S:=⟨fun(_:Value)=>True,fun _=>L5 d,fun zl=>[yO gw t n vp zl vo dG,xt zl r]⟩) (ak (ah ⟨g,0,aj⟩) r.length cap) trivial [0,1] akV I
 ·refine dC (aw (v:=ak (ah ⟨g,0,aj⟩) (r.length+1) cap) aI.ty I (aE (i:=0) I I)) I I I (aK (bZ []) ?_)
  repeat(first|(refine GN ?_;first|refine QW QP ?_|refine QW (eD (r:=(r.length:Int)) I I J J J) ?_|refine GX ?_)|refine GW ?_)
  refine aJ I (dC (aw (v:=ak (ah ⟨g,0,aj⟩) (r.length+1) cap) aI.ty I (aE (i:=0) I I)) I I I (aK (bZ []) ?_))
  repeat(first|(refine GN ?_;first|refine QW QP ?_|refine QW (Mw (j:=r.length) bI.eq aI.ty I I J) ?_|refine GX ?_)|refine GW ?_)
  refine aJ I (bT (i:=0) I I I I I I (aK (bZ []) ?_));rw[show(Na t n vp (ak (ah ⟨g,0,aj⟩) (r.length+1) cap) vo dG).setIfInBounds (0+3) (ak (ah ⟨g,0,aj⟩) r.length cap)=Na t n vp (ak (ah ⟨g,0,aj⟩) r.length cap) vo dG from I]
  try refine GW ?_
  repeat(first|refine GA ?_|refine gV (aL (i:=3) aI.ty I I I) ?_)
  refine gG 2 (cs':=(xH d).toArray) ?_;refine zL ?_
  try refine GA ?_
  refine pw (i:=1) (xt (ak (ah ⟨g,0,aj⟩) r.length cap) r) I (fun w h=>Ut h) (fun k hk=>hk) ?_;exact gU (i:=2) I I I I fun w hm=>hm.cZ (S:=⟨fun(_:Value)=>True,fun _=>L5 d,fun zl=>[yO gw t n vp zl vo dG,xt zl r]⟩) (ak (ah ⟨g,0,aj⟩) r.length cap) trivial [0,1] akV I
theorem Sk(out:List bX)(a:Nat):bL [] out a=([],out,a,aB):=rfl
theorem Sm(x:bX)(r:List TD)(out:List bX)(a:Nat):bL (.sym x::r) out a=(.sym x::r,out,a,aB):=rfl
theorem Sn(p:Int)(r:List TD)(out:List bX){a:Nat}(h:a+1<=2000):bL (.close p::r) out a=bL r (out++[(3,p)]) (a+1):=by rw[bL,if_pos h]
theorem W1(p:Int)(r:List TD)(out:List bX){a:Nat}(h:¬a+1<=2000):bL (.close p::r) out a=(r,out++[(3,p)],a+1,aD):=by rw[bL,if_neg h]
def clS(gw:Nat)(t n:Int)(vp:Value)(c:List TD×List bX×Nat×Bool):Spec (Value×Value):=⟨fun _=>True,fun _=> .bool c.2.2.2,fun x=>[yO gw t n vp x.1 x.2 c.2.2.1,xt x.1 c.1,rT x.2 c.2.1]⟩
theorem sC(gw:Nat)(t n:Int)(vp vt0 vo0:Value)(XC:List TD)(AI:List bX)(Je:Nat)(w:World)(B:b_)(h1:XC.length<=100000)(h2:Je<=2000)(h3:AI.length=Je)(hm:Mem B [yO gw t n vp vt0 vo0 Je,xt vt0 XC,rT vo0 AI] w):
 Calls aC 169 #[aH (ah ⟨gw,0,aj⟩)] w (dX (clS gw t n vp (bL XC AI Je)) B):=by
 refine eR hm (args:=[aH (ah ⟨gw,0,aj⟩)]) (n:=30) Tryz.func169 I I I ?_;clear hm
 try refine GA ?_
 generalize hC:bL XC AI Je=C;refine dU (ι:=List TD×List bX×Nat×Value×Value) (fun(st,out,dG,_,_)=>bL st out dG=C/\st.length<=100000/\dG<=2000/\out.length=dG) (fun _=>[(0,aH (ah ⟨gw,0,aj⟩))]) (fun(st,out,dG,vt,vo)=>[yO gw t n vp vt vo dG,xt vt st,rT vo out]) (fun(st,_,_,_,_)=>st.length) (XC,AI,Je,vt0,vo0) ⟨hC,h1,h2,h3⟩ ?_;clear h1 h2 h3 hC;rintro⟨st,out,dG,vt,vo⟩ ⟨hC,h1,h2,h3⟩;dsimp only at hC h1 h2 h3⊢
 cases st with
 | nil=>
  rw[Sk]at hC;subst hC
  (repeat refine bY ?_)
  refine dK ([yO gw t n vp vt vo dG,xt vt []]) (.calm 0 (.calm 1 (.calm 2 (.calm 3 (.calm 4 (.calm 5 (.calm 6 (.calm 7 (.calm 8 (.calm 9 (.calm 10 (.calm 11 (.calm 12 (.calm 13 (.calm 14 (.calm 15 (.calm 16 (.calm 17 (.calm 18 (.calm 19 (.calm 20 (.done)))))))))))))))))))))) (bZ [0,1]) ?_
  repeat(first|(refine GN ?_;first|refine QW QP ?_|refine QW (aw (v:=vt) aI.ty I (aE (i:=0) I I)) ?_|refine QW (dV (i:=1) bI.eq I I) ?_|refine QW (eP (b:=aD) I I I) ?_|refine GX ?_)|refine GW ?_)
  try refine GA ?_
  exact dq I I fun w hm=>hm.cZ (S:=clS gw t n vp ([],out,dG,aB)) (vt,vo) trivial [0,1,2] akV I
 | cons d r=>
  simp only[cO]at h1;refine yp (i:=1) I (by simp) fun g cap hv q1 q2=>?_;subst hv;simp only[cO]at*
  cases d with
  | sym x=>
   rw[Sm]at hC;subst hC
   (repeat refine bY ?_)
   refine dK ([yO gw t n vp (ak (ah ⟨g,0,aj⟩) (r.length+1) cap) vo dG,xt (ak (ah ⟨g,0,aj⟩) (r.length+1) cap) (.sym x::r)]) (.calm 0 (.calm 1 (.calm 2 (.calm 3 (.calm 4 (.calm 5 (.calm 6 (.calm 7 (.calm 8 (.calm 9 (.calm 10 (.calm 11 (.calm 12 (.calm 13 (.calm 14 (.calm 15 (.calm 16 (.calm 17 (.calm 18 (.calm 19 (.calm 20 (.done)))))))))))))))))))))) (bZ [0,1]) ?_
   repeat(first|(refine GN ?_;first|refine QW QP ?_|refine QW (aw (v:=ak (ah ⟨g,0,aj⟩) (r.length+1) cap) aI.ty I (aE (i:=0) I I)) ?_|refine QW (aw (v:= .bool aD) aI.ty I (CL (i:=1) I 0 _ I)) ?_|refine QW (eD (r:=(r.length:Int)) I I J J J) ?_|refine QW (aR (j:=r.length) bI.eq aI.ty I I J) ?_|refine GX ?_)|refine GW ?_)
   try refine GA ?_
   exact dq I I fun w hm=>hm.cZ (S:=clS gw t n vp (.sym x::r,out,dG,aB)) (_,vo) trivial [0,1,2] akV I
  | close p=>
   (repeat refine bY ?_)
   refine dK ([yO gw t n vp (ak (ah ⟨g,0,aj⟩) (r.length+1) cap) vo dG,xt (ak (ah ⟨g,0,aj⟩) (r.length+1) cap) (.close p::r)]) (.calm 0 (.calm 1 (.calm 2 (.calm 3 (.calm 4 (.calm 5 (.calm 6 (.calm 7 (.calm 8 (.calm 9 (.calm 10 (.calm 11 (.calm 12 (.calm 13 (.calm 14 (.calm 15 (.calm 16 (.calm 17 (.calm 18 (.calm 19 (.calm 20 (.done)))))))))))))))))))))) (bZ [0,1]) ?_
   repeat(first|(refine GN ?_;first|refine QW QP ?_|refine QW (aw (v:=ak (ah ⟨g,0,aj⟩) (r.length+1) cap) aI.ty I (aE (i:=0) I I)) ?_|refine QW (aw (v:= .bool aB) aI.ty I (CL (i:=1) I 0 _ I)) ?_|refine QW (eD (r:=(r.length:Int)) I I J J J) ?_|refine QW (aR (j:=r.length) bI.eq aI.ty I I J) ?_|refine GX ?_)|refine GW ?_)
   try refine GA ?_
   refine bH [0,1] [2] akV I I (kZ aF.en I I) (fun w hm hb=>B3 gw t n vp _ vo (.close p) r dG w _ J hb) I I I ?_;intro zl _;refine zL ?_;dsimp only
   repeat(first|refine GA ?_|refine gV (Tu I (VQ (.close p))) ?_)
   refine bH [1,0] [2] akV I I (ye aF.en I I I I) (fun w hm hb=>B2 gw t n vp zl vo out dG 3 p w _ J J hb) I I I ?_;intro GI _;refine zL ?_;dsimp only
   by_cases c:dG+1<=2000
   ·rw[Sn p r out c]at hC
    rw[decide_eq_true (show((dG+1:Nat):Int)<=2000 by omega)]
    try refine GA ?_
    refine dv [1,0,2] ?_;exact bO (r,out++[(3,p)],dG+1,zl,GI) ⟨hC,(by show r.length<=100000;omega),c,by simp[h3]⟩ (by show r.length<r.length+1;omega)
   rw[W1 p r out c]at hC;subst hC;rw[decide_eq_false (show ¬((dG+1:Nat):Int)<=2000 by omega)]
   try refine GA ?_
   exact dq I I fun w hm=>hm.cZ (S:=clS gw t n vp (r,out++[(3,p)],dG+1,aD)) (zl,GI) trivial [1,0,2] akV I
theorem Ly(r:List TD)(d:TD):(r.reverse.flatMap xH)++xH d=(d::r).reverse.flatMap xH:=by simp
def stO(p:Nat)(r:List TD)(body:List bX)(j:Nat):List TD:=(body.drop (body.length-j)).map .sym++ .close (p:Int)::r
theorem aiI(p:Nat)(r:List TD)(body:List bX):stO p r body 0= .close (p:Int)::r:=by unfold stO;rw[GD,wq];rfl
theorem aes(p:Nat)(r:List TD)(body:List bX):stO p r body body.length=body.map .sym++ .close (p:Int)::r:=by unfold stO;rw[qk,pf]
theorem abQ(p:Nat)(r:List TD){body:List bX}{k:Nat}(hk:k<body.length):stO p r body (body.length-k)= .sym body[k]::stO p r body (body.length-k-1):=by
 unfold stO;rw[show body.length-(body.length-k)=k by omega,show body.length-(body.length-k-1)=k+1 by omega,dJ hk];rfl
def opS(gw:Nat)(t n:Int)(vp:Value)(st:List TD)(out:List bX)(dG:Nat):Spec (Value×Value):=⟨fun _=>True,fun _=> .bool (decide (dG<=2000/\st.length<=60)),fun x=>[yO gw t n vp x.1 x.2 dG,xt x.1 st,rT x.2 out]⟩
attribute [local irreducible] Instr.build in
theorem Sq(w0:World)(gw:Nat)(t n:Int)(vp:Value)(az:List aM.Prod)(hG:kK q6 (fun k=>k<w0.heap.size) w0 vp az)(hlen:az.length<=100000)(p:Nat)(hp:p<az.length)(h8:az[p].2.length<=8)(vt vo:Value)(d:TD)(r:List TD)(out:List bX)(dG:Nat)(w:World)(B:b_)(h1:r.length<=100)(h2:dG<=2000)(h3:out.length=dG)(ho:mv w0 B)(hm:Mem B [yO gw t n vp vt vo dG,xt vt (d::r),rT vo out] w):
 Calls aC 184 #[aH (ah ⟨gw,0,aj⟩),ap av (p:Int)] w (dX (opS gw t n vp (opened az p r) (out++[(1,(p:Int))]) (dG+1)) B):=by
 obtain⟨bp,cp,rfl,Qg,He,ow⟩:=hG;unfold maxLen at He;obtain⟨b,off,rfl,_,hr⟩:=ow J;obtain⟨bb,cb,y1,y2,y3⟩:=lI hr hp;have Uu:opened az (p:Int) r=az[p].2.map .sym++ .close (p:Int)::r:=by unfold opened bJ;rw[cX,bD,bm hp];rfl
 rw[Uu];clear Uu ow hr;have Kz:∀(L:List b9),At B L ⟨b,off+p*2+1,aj⟩ (.slice bb az[p].2.length cb):=fun L=>iv ho (y1 1 _ I);have AX:=y3.flat akV;generalize az[p].2=body at*;clear y1 y2 y3;obtain⟨b2,cb2,he,hb4,hb5,hb6⟩:=AX;simp only[kr,true_and]at he;obtain⟨rfl,rfl⟩:=he;refine eR hm (args:=[aH (ah ⟨gw,0,aj⟩),ap av (p:Int)]) (n:=61) Tryz.func184 I I I ?_;clear hm
 try refine GA ?_
 refine bH [0,1] [2] akV I I (kZ aF.en I I) (fun w hm hb=>B3 gw t n _ vt vo d r dG w _ J hb) I I I ?_;intro vt1 _;refine zL ?_;dsimp only;refine aV (i:=2) I fun jM nG=>?_
 repeat(first|refine GA ?_|refine gV (aw aI.ty I (aE (i:=1) I I)) ?_|refine gV (bz I (VP _)) ?_)
 refine k7 (i:=2) I I I I I I I (fun z h=>by cases h;rfl) J J I fun z' Uv=>?_;refine zL ?_;refine aV (i:=2) I fun jM nG=>?_
 try refine GA ?_
 refine bT (i:=1) I I I jM nG I ?_;rw[show(Na t n (ak (ah ⟨b,off,aj⟩) az.length cp) vt1 vo dG).setIfInBounds (0+3) Uv=Na t n (ak (ah ⟨b,off,aj⟩) az.length cp) Uv vo dG from I];refine zL ?_
 repeat(first|refine GC ?_|refine gV (aw (v:=ak (ah ⟨b,off,aj⟩) az.length cp) aI.ty I (aE (i:=1) I I)) ?_|refine gV (aR bI.eq aI.ty I I hp) ?_|refine gV (aw aI.ty I (Kz _)) ?_|refine gV (eD (r:=(body.length:Int)-1) I I J J I) ?_|refine GB ?_)
 rw[Ly r (.close (p:Int))];refine lX (ι:=Nat×Value) (fun(j,_)=>j<=body.length) (fun(j,_)=>[(0,aH (ah ⟨gw,0,aj⟩)),(1,ap av (p:Int)),(5,ak bb body.length cb),(6,ap av (((body.length-j:Nat):Int)-1))])
  (fun(j,vt)=>[rT vo out,yO gw t n (ak (ah ⟨b,off,aj⟩) az.length cp) vt vo dG,bx 231 4 vt (r.length+1+j) ((stO p r body j).reverse.flatMap xH)]) (fun(j,_)=>body.length-j) (0,Uv) (bC _) (by repeat' (first|exact cY|refine cK I ?_)) (by dsimp only;rw[aiI]) ?_
 rintro⟨j,Uw⟩ hj;dsimp only at hj⊢
 by_cases c:j<body.length
 ·obtain⟨b4,akR,rfl,hr4⟩:=hb6 J
  have hk:body.length-1-j<body.length:=by omega
  have V8:=fun L=>rz (W:=B) (L:=L) (f:=dS) (c:=2) (fun _=>rfl) (fun q x hq=>iv ho (hr4 q x hq)) hk;have hst:=abQ p r hk;rw[show body.length-(body.length-1-j)=j+1 by omega,Nat.add_sub_cancel]at hst;rw[show(((body.length-j:Nat):Int)-1)=((body.length-1-j:Nat):Int)by omega];generalize body[body.length-1-j]=x at*;obtain⟨xq,xm⟩:=x;refine S7 (i:=2) I fun jM nG=>?_
  repeat(first|refine GC ?_|refine gV (fx (b:=aB) I I (decide_eq_true J)) ?_|refine GB ?_)
  refine dK ([]) (.calm 0 (.calm 1 (.calm 2 (.calm 3 (.calm 5 (.calm 6 (.calm 7 (.calm 8 (.calm 9 (.two 4 (.one 10 (.one 11 (.calm 12 (.calm 13 (.one 14 (.done)))))) 10 (.one 4 (.one 11 (.calm 12 (.calm 13 (.one 14 (.done)))))))))))))))) (bZ []) ?_
  repeat(first|refine GW ?_|(refine GN ?_;first|refine QW (aR (j:=body.length-1-j) bI.eq aI.ty I I hk) ?_|refine QW (aU aI.ty I I (V8 _)) ?_|refine QW (bz I (Iv (xq,xm))) ?_))
  refine fe I I ?_ ?_
  ·refine dC (aw (v:=Uw) aI.ty I (aE (i:=1) I I)) I I I (aK (bZ []) ?_)
   refine aJ I (fF (cs:=(xH (.sym (xq,xm))).toArray) [L5 (.sym (xq,xm))] I I I (by intro v hv;simp at hv;subst hv;rfl) I I I fun g46=>(aK (bZ []) ?_));refine aJ I (eT (i:=2) (k:=1) (ys:=xH (.sym (xq,xm))) I (k9 (i:=3) I (fun j u h=>by simpa using h) (aT 1) akV) I I I (fun u hu=>Ko [.sym (xq,xm)] u (by simpa using hu)) J J I fun v'=>(aK (bZ []) ?_))
   try refine GW ?_
   refine aJ I (aV (i:=2) I fun jM nG=>bT (i:=1) I I I jM nG I (aK (bZ []) ?_));rw[show(Na t n (ak (ah ⟨b,off,aj⟩) az.length cp) Uw vo dG).setIfInBounds (0+3) v'=Na t n (ak (ah ⟨b,off,aj⟩) az.length cp) v' vo dG from I]
   try refine GW ?_
   repeat(first|refine GC ?_|refine gV (eD (r:=((body.length-(j+1):Nat):Int)-1) I I J J J) ?_|refine GB ?_)
   refine dv [0,1,2] ?_;exact bO (j+1,v') (by show j+1<=body.length;omega) (by show body.length-(j+1)<body.length-j;omega) (hl:=by dsimp only;rw[hst,<-Ly];rfl)
  refine fF (cs:=(xH (.sym (xq,xm))).toArray) [L5 (.sym (xq,xm))] I I I (by intro v hv;simp at hv;subst hv;rfl) I I I fun g46=>(aK (bZ []) ?_);refine aJ I (dC (aw (v:=Uw) aI.ty I (aE (i:=1) I I)) I I I (aK (bZ []) ?_));refine aJ I (eT (i:=2) (k:=1) (ys:=xH (.sym (xq,xm))) I (k9 (i:=3) I (fun j u h=>by simpa using h) (aT 1) akV) I I I (fun u hu=>Ko [.sym (xq,xm)] u (by simpa using hu)) J J I fun v'=>(aK (bZ []) ?_))
  try refine GW ?_
  refine aJ I (aV (i:=2) I fun jM nG=>bT (i:=1) I I I jM nG I (aK (bZ []) ?_));rw[show(Na t n (ak (ah ⟨b,off,aj⟩) az.length cp) Uw vo dG).setIfInBounds (0+3) v'=Na t n (ak (ah ⟨b,off,aj⟩) az.length cp) v' vo dG from I]
  try refine GW ?_
  repeat(first|refine GC ?_|refine gV (eD (r:=((body.length-(j+1):Nat):Int)-1) I I J J J) ?_|refine GB ?_)
  refine dv [0,1,2] ?_;exact bO (j+1,v') (by show j+1<=body.length;omega) (by show body.length-(j+1)<body.length-j;omega) (hl:=by dsimp only;rw[hst,<-Ly];rfl)
 ·obtain rfl:j=body.length:=by omega
  rw[aes];have F_:(body.map TD.sym++ .close (p:Int)::r).length=r.length+1+body.length:=by simp;omega
  repeat(first|refine GC ?_|refine gV (fx (b:=aD) I I (decide_eq_false J)) ?_|refine GB ?_)
  refine bH [1,0] [2] akV I I (ye aF.en I I I I) (fun w hm hb=>B2 gw t n _ Uw vo out dG 1 (p:Int) w _ J J hb) I I I ?_;intro GI _;refine zL ?_;dsimp only;have fin:∀(x:Bool),x=decide (dG+1<=2000/\(body.map TD.sym++ .close (p:Int)::r).length<=60)->(Value.bool x)=(opS gw t n (ak (ah ⟨b,off,aj⟩) az.length cp) (body.map .sym++ .close (p:Int)::r) (out++[(1,(p:Int))]) (dG+1)).val (Uw,GI):=fun x h=>by rw[h];rfl
  rw[F_]at fin
  by_cases c2:dG+1<=2000
  ·rw[decide_eq_true (show((dG+1:Nat):Int)<=2000 by omega)]
   by_cases c3:r.length+1+body.length<=60
   ·repeat(first|refine GC ?_|refine gV (aw (v:=Uw) aI.ty I (aE (i:=1) I I)) ?_|refine gV (dV (i:=0) bI.eq I I) ?_|refine gV (Bg (b:=aB) I I (decide_eq_true J)) ?_|refine GB ?_)
    refine dq I I fun w hm=>?_;rw[fin aB (by simp[c2,c3])];exact hm.cZ (S:=opS gw t n (ak (ah ⟨b,off,aj⟩) az.length cp) (body.map .sym++ .close (p:Int)::r) (out++[(1,(p:Int))]) (dG+1)) (Uw,GI) trivial [1,0,2] akV (by rw[<-F_];rfl)
   repeat(first|refine GC ?_|refine gV (aw (v:=Uw) aI.ty I (aE (i:=1) I I)) ?_|refine gV (dV (i:=0) bI.eq I I) ?_|refine gV (Bg (b:=aD) I I (decide_eq_false J)) ?_|refine GB ?_)
   refine dq I I fun w hm=>?_;rw[fin aD (by simp[c3])];exact hm.cZ (S:=opS gw t n (ak (ah ⟨b,off,aj⟩) az.length cp) (body.map .sym++ .close (p:Int)::r) (out++[(1,(p:Int))]) (dG+1)) (Uw,GI) trivial [1,0,2] akV (by rw[<-F_];rfl)
  rw[decide_eq_false (show ¬((dG+1:Nat):Int)<=2000 by omega)]
  try refine GA ?_
  refine dq I I fun w hm=>?_;rw[fin aD (by simp[c2])];exact hm.cZ (S:=opS gw t n (ak (ah ⟨b,off,aj⟩) az.length cp) (body.map .sym++ .close (p:Int)::r) (out++[(1,(p:Int))]) (dG+1)) (Uw,GI) trivial [1,0,2] akV (by rw[<-F_];rfl)
end cg
namespace cg
open Go.RowKit cT ey gK
theorem Ux(a:gK.TD):(xH a).length=4:=rfl
theorem y'(v:Value)(l:List gK.TD)(w:World)(hs:Sl w v l.length (l.flatMap xH))(uY:FuncId)(first cp:Array Value)(p:gK.TD->Bool)(Kc:Enters aC uY)
 (hp:∀a∈l,∀w',Gr w w'->Calls aC uY (first++#[(aP (xH a).toArray)]++cp) w' (cJ (ret (.bool (p a))) w')):
 Calls aC 208 #[v,.func (.func uY) first cp] w (cJ (ret (ap av (ug p l))) w):=by
 obtain⟨base,cap,rfl,tb,sc,fZ⟩:=hs;unfold maxLen at sc;refine enter (args:=[ak base l.length cap,.func (.func uY) first cp]) (n:=19) Tryz.func208 I I I ?_
 try refine GA ?_
 refine dU (ι:=Nat) (fun k=>k<=l.length/\∀j (hj:j<l.length),j<k->p l[j]=aD) (fun k=>[(0,ak base l.length cap),(1,.func (.func uY) first cp),(7,ap av l.length),(8,ap av (k:Int))]) (fun _=>[]) (fun k=>l.length-k) 0 ⟨by omega,fun j hj h=>by omega⟩ ?_;rintro k ⟨h1,h2⟩
 by_cases c2:k<l.length
 ·obtain⟨b,off,rfl,hr⟩:=fZ J
  have eK:=hU (L:=([]:List b9)) Ux hr c2;have jZ:=hp l[k] (bV c2)
  by_cases c3:p l[k]=aB
  ·rw[wQ c2 c3 h2]
   rw[c3]at jZ;clear hp h2 fZ
   repeat(first|refine GA ?_|refine gV (aR bI.eq aI.ty I I c2) ?_|refine gV (aU aI.ty I I eK) ?_)
   refine aW (Ep Kc I I) (fun w hm=>jZ w hm.below) I I I ?_;intro _ _
   try refine GA ?_
   exact dR
  have Tf:p l[k]=false:=by simpa using c3
  rw[Tf]at jZ;clear hp fZ c3
  repeat(first|refine GA ?_|refine gV (aR bI.eq aI.ty I I c2) ?_|refine gV (aU aI.ty I I eK) ?_)
  refine aW (Ep Kc I I) (fun w hm=>jZ w hm.below) I I I ?_;intro _ _
  try refine GA ?_
  exact bO (k+1) ⟨by omega,fun j hj h=>if e:j<k then h2 j hj e else(by obtain rfl:j=k:=J;exact Tf)⟩ (by show l.length-(k+1)<l.length-k;omega)
 ·rw[wR fun j hj=>h2 j hj J]
  clear hp h2 fZ
  try refine GA ?_
  exact dR
theorem uk(v:Value)(l:List gK.TD)(w:World)(hs:Sl w v l.length (l.flatMap xH))(uY:FuncId)(first cp:Array Value)(p:gK.TD->Bool)(Kc:Enters aC uY)
 (hp:∀a∈l,∀w',Gr w w'->Calls aC uY (first++#[(aP (xH a).toArray)]++cp) w' (cJ (ret (.bool (p a))) w')):
 Calls aC 180 #[v,.func (.func uY) first cp] w (cJ (ret (.bool (l.any p))) w):=by
 refine enter (args:=[v,.func (.func uY) first cp]) (n:=9) Tryz.func180 I I I ?_;have hh:=fun w' (hg:Gr w w')=>y' v l w' (hs.gr hg) uY first cp p Kc fun a ha L2 yA=>hp a ha L2 (hg.trans yA);have hr:=s9 p l;rw[<-zK p l];generalize ug p l=r at*
 try refine GA ?_
 refine aW (fP aF.en I I I) (fun w hm=>hh _ hm.below) I I I ?_;intro _ _
 repeat(first|refine GC ?_|refine gV (fx I I I) ?_|refine GB ?_)
 exact dR
theorem GJ(v:Value)(l:List gK.TD)(w:World)(hs:Sl w v l.length (l.flatMap xH))(hl:l.length*40<=140737488355328):
 Calls aC 183 #[v] w (cJ (dr 231 4 l.length (l.flatMap xH) id) w):=by
 obtain⟨base,cap,rfl,tb,sc,fZ⟩:=hs;unfold maxLen at sc;refine enter (args:=[ak base l.length cap]) (n:=8) Tryz.func183 I I I ?_;have vD:∀w',Gr w w'->Sl w' (ak base l.length cap) l.length (l.flatMap xH):=fun w' hg=>Sl.gr ⟨base,cap,rfl,tb,sc,fZ⟩ hg;clear fZ
 cases base with
 | none=>
  repeat(first|refine GC ?_|refine gV (r7 bI.eq I I I) ?_|refine GB ?_)
  have h0:l=[]:=by
   cases l with
   |nil=>rfl
   |cons x l=>obtain⟨_,_,h,_,_,h2⟩:=vD w (Gr.refl w);simp only[kr]at h;obtain⟨rfl,_⟩:=h;obtain⟨b,off,h,_⟩:=h2 (by simp);cases h
  subst h0;refine eL 231 4 ?_;exact dq I I fun w hm=>hm.meets (S:=dr 231 4 0 [] id) _ trivial [0] akV I
 |some p=>
  repeat(first|refine GC ?_|refine gV (r7 bI.eq I I I) ?_|refine GB ?_)
  refine JU I fun g=>?_
  try refine GA ?_
  refine eT (i:=0) I (fun w' hm=>vD w' hm.below) I I (nS Ux l) (Ko l) J J I fun v'=>?_;rw[fN]
  try refine GA ?_
  refine dq I I fun w hm=>?_;exact hm.meets (S:=dr 231 4 l.length (l.flatMap xH) id) v' trivial [0] akV (by simp[dr])
end cg
namespace cg
open Go.RowKit cT ey aM dN gK
theorem Sr(w:World):(dm 148 (#[]:Array (Nat×Value))).run aC w= .ok (aP (dS (0,0)).toArray) w:=by
 unfold dS;go_simp
set_option maxRecDepth 100000 in
theorem HJ(g:dF)(b:Option Addr)(cp:Nat)(d:TD)(w:World)(hd:pz g d):Calls aC 182 #[dD g.aQ g.bB (ak b g.az.length cp),L5 d] w (cJ (ret (.bool aB)) w):=by
 cases d with
 | close p=>
  obtain⟨h1,h2⟩:=hd;refine enter (args:=[dD g.aQ g.bB (ak b g.az.length cp),L5 (.close p)]) (n:=65) Tryz.func182 I I I ?_;refine bY (a_ (bQ I I I fun g0=>bQ I I I fun g1=>?_))
  repeat(first|refine GC ?_|refine gV (aw (v:= .bool aB) aI.ty I (aE (i:=1) I I)) ?_|refine gV (aw (v:=ap av p) aI.ty I (aE (i:=1) I I)) ?_|refine gV (aw aI.ty I (aE (i:=0) I I)) ?_|refine gV (aU (cs:=dS (0,0)) aI.ty I I (fun j v hj=>aE (i:=1) I (by match j,hj with|0,h=>exact h|1,h=>exact h))) ?_|refine gV (bz I (Sr)) ?_|refine gV (Er (b:=aB) I I (by kernel_rfl) (fun w=>by rw[Zw];rfl)) ?_|refine GB ?_)
  exact dR
 | sym x=>
  obtain⟨k,m⟩:=x;have hd:right g.aQ g.bB (k,m)=true:=hd;unfold right at hd;dsimp only at hd
  by_cases c1:k=1
  ·subst c1
   rw[if_pos I]at hd;simp only[ff,decide_eq_true_eq]at hd;refine enter (args:=[dD g.aQ g.bB (ak b g.az.length cp),L5 (.sym (1,m))]) (n:=65) Tryz.func182 I I I ?_;refine bY (a_ (bQ I I I fun g0=>bQ I I I fun g1=>?_))
   repeat(first|refine GA ?_|refine gV (aw (v:= .bool aD) aI.ty I (aE (i:=1) I I)) ?_|refine gV (aw (v:=ap av 1) aI.ty I (aE (i:=1) I I)) ?_|refine gV (aw (v:=ap av 0) aI.ty I (aE (i:=1) I I)) ?_|refine gV (aw (v:=ap av m) aI.ty I (aE (i:=1) I I)) ?_|refine gV (aw aI.ty I (aE (i:=0) I I)) ?_)
   exact dR
  rw[if_neg c1]at hd
  by_cases c2:k=2
  ·subst c2
   rw[if_pos I]at hd;simp only[ff,decide_eq_true_eq]at hd;refine enter (args:=[dD g.aQ g.bB (ak b g.az.length cp),L5 (.sym (2,m))]) (n:=65) Tryz.func182 I I I ?_;refine bY (a_ (bQ I I I fun g0=>bQ I I I fun g1=>?_))
   repeat(first|refine GA ?_|refine gV (aw (v:= .bool aD) aI.ty I (aE (i:=1) I I)) ?_|refine gV (aw (v:=ap av 2) aI.ty I (aE (i:=1) I I)) ?_|refine gV (aw (v:=ap av 0) aI.ty I (aE (i:=1) I I)) ?_|refine gV (aw (v:=ap av m) aI.ty I (aE (i:=1) I I)) ?_|refine gV (aw aI.ty I (aE (i:=0) I I)) ?_)
   exact dR
  rw[if_neg c2]at hd;cases hd
theorem GK(g:dF)(b:Option Addr)(cp:Nat)(d:TD)(gg:Nat)(w:World)(hd:pz g d)(hg:w.heap[gg]?=ah (.cells (dD g.aQ g.bB (ak b g.az.length cp)).cells 33 (0,0))):
 Calls aC 181 #[L5 d,aH (ah ⟨gg,0,aj⟩)] w (cJ (ret (.bool aD)) w):=by
 have hcell:∀(L:List b9) (j:Nat) (v:Value),([ap av g.aQ,ap av g.bB,ak b g.az.length cp]:List Value)[j]?=ah v->At w L ⟨gg,0+j,aj⟩ v:=fun L j v hj=>hJ (by
  rw[cell_of_row w gg (0+j) _ _ _ hg,cI];show(#[ap av g.aQ,ap av g.bB,ak b g.az.length cp]:Array Value)[j]?=ah v
  simpa using hj)
 have hr:=HJ g b cp d;refine enter (args:=[L5 d,aH (ah ⟨gg,0,aj⟩)]) (n:=8) Tryz.func181 I I I ?_;refine bY (a_ (bQ I I I fun g0=>?_))
 repeat(first|refine GA ?_|refine gV (aU aI.ty I I (hcell _)) ?_|refine gV (aL (i:=0) aI.ty I I I) ?_)
 refine aW (fP aF.en I I I) (fun w hm=>hr w hd) I I I ?_;intro _ _
 try refine GA ?_
 exact dR
abbrev TdR(w:World)(vt:Value)(st:List TD):Prop:=Sl w vt st.length (st.reverse.flatMap xH)
theorem sD(v vr vt:Value)(g:dF)(ll:List (List Int))(st:List TD)(seen col:Int)(w:World)(h:kw (fun k=>k<w.heap.size) w v g)(hr:GF w vr ll)(ht:TdR w vt st)(h0:Lr g ll=0)(hs:∀d∈st,pz g d)(hl:st.length<=60)(h1:0<=seen)(h2:seen<=1099511627776)(h3:0<=col)(h4:col<=g.aQ):
 Calls aC 163 #[v,vr,AW vt seen 0 aD,ap av col] w (cJ (ret (ap av 0)) w):=by
 have h_:=fun w' (hg:Gr w w')=>xP v vr g ll w' (h.gr hg) (hr.gr hg);rw[h0]at h_;obtain⟨vp,rfl,hp,_⟩:=h;obtain⟨bp,cp,rfl,_⟩:=hp;have hco:=fun w' (hg:Gr w w') gg (hb:w'.heap[gg]?=ah (.cells (dD g.aQ g.bB (ak bp g.az.length cp)).cells 33 (0,0)))=>uk vt st.reverse w' (by rw[Lo];exact ht.gr hg) 181 #[] #[aH (ah ⟨gg,0,aj⟩)] (fun _=>aD) aF.en (fun a ha L2 yA=>GK g bp cp a gg L2 (hs a (abD.1 ha)) (by rw[yA.block gg (kq.1 hb).1];exact hb));have Dd:st.reverse.any (fun _=>aD)=false:=by rw[abB];intro _ _ h;cases h
 rw[Dd]at hco;obtain⟨bt,ct,rfl,_⟩:=ht;refine enter (args:=[dD g.aQ g.bB (ak bp g.az.length cp),vr,AW (ak bt st.length ct) seen 0 aD,ap av col]) (n:=54) Tryz.func163 I I I ?_;refine bY (a_ (bQ I I I fun g0=>bQ I I I fun g1=>?_))
 repeat(first|refine GA ?_|refine gV (aL (i:=0) aI.ty I I I) ?_)
 refine aW (fP aF.en I I I) (fun w hm=>h_ _ hm.below) I I I ?_;intro _ _;refine zL ?_
 repeat(first|refine GA ?_|refine gV (aw (v:=ak bt st.length ct) aI.ty I (aE (i:=1) I I)) ?_|refine gV (aw (v:=ap av seen) aI.ty I (aE (i:=1) I I)) ?_|refine gV (aw (v:=ap av 0) aI.ty I (aE (i:=1) I I)) ?_|refine gV (aw (v:= .bool aD) aI.ty I (aE (i:=1) I I)) ?_|refine gV (aw aI.ty I (aE (i:=0) I I)) ?_|refine gV (qV I I) ?_)
 refine aW (fP aF.en I I I) (fun w hm=>hco _ hm.below _ (hm.get (i:=0) I)) I I I ?_;intro _ _;refine zL ?_
 repeat(first|refine GA ?_|refine gV (aw (v:=ap av 0) aI.ty I (aE (i:=1) I I)) ?_|refine gV (aw (v:= .bool aD) aI.ty I (aE (i:=1) I I)) ?_)
 exact dR
end cg
namespace cg
open Go.RowKit cT ey aM dN gK
def jW(ll:List (List Int))(col:Nat)(n:Int):Int:=(ll.getD n.toNat []).getD col (-1)
structure OE(g:dF)(ll:List (List Int))(T N:Nat):Prop where
 aQ:g.aQ=T
 bB:g.bB=N
 len:ll.length=N
 row:∀r∈ll,r.length=T+1
 nx:∀col,Qs g.az (jW ll col)
theorem abR{l:List aM.Prod}{nx:Int->Int}{f:Nat}{st:List TD}{out:List bX}{a:Nat}(h:(bL st out a).2.2.2=aD):fW l nx (f+1) st out a=((bL st out a).1,(bL st out a).2.1,(bL st out a).2.2.1,14):=by
 rw[fW,if_pos h]
theorem abS{l:List aM.Prod}{nx:Int->Int}{f:Nat}{st:List TD}{out:List bX}{a:Nat}(h:(bL st out a).2.2.2=aB)(h2:(bL st out a).1=[]):fW l nx (f+1) st out a=([],(bL st out a).2.1,(bL st out a).2.2.1,0):=by
 rw[fW,if_neg (by simp[h])];simp only[h2]
theorem abT{l:List aM.Prod}{nx:Int->Int}{f:Nat}{st:List TD}{out:List bX}{a:Nat}{x:bX}{r:List TD}(h:(bL st out a).2.2.2=aB)(h2:(bL st out a).1= .sym x::r):
 fW l nx (f+1) st out a=if x.1=1 then(.sym x::r,(bL st out a).2.1,(bL st out a).2.2.1,0)else if nx x.2<0 then(.sym x::r,(bL st out a).2.1,(bL st out a).2.2.1,13)
  else if(bL st out a).2.2.1+1<=2000/\(opened l (nx x.2) r).length<=60 then fW l nx f (opened l (nx x.2) r) ((bL st out a).2.1++[(1,nx x.2)]) ((bL st out a).2.2.1+1)
  else(opened l (nx x.2) r,(bL st out a).2.1++[(1,nx x.2)],(bL st out a).2.2.1+1,14):=by
 rw[fW,if_neg (by simp[h])];simp only[h2]
def dwS(gw:Nat)(t n:Int)(vp:Value)(R:List TD×List bX×Nat×Int):Spec (Value×Value):=⟨fun _=>True,fun _=>ap av R.2.2.2,fun x=>[yO gw t n vp x.1 x.2 R.2.2.1,xt x.1 R.1,rT x.2 R.2.1]⟩
theorem CM(w0:World)(gw:Nat)(t n:Int)(vp vr:Value)(g:dF)(ll:List (List Int))(T N col:Nat)(hG:kK q6 (fun k=>k<w0.heap.size) w0 vp g.az)(hR:GF w0 vr ll)(hg:cD g=0)(hT:OE g ll T N)(NM:col<=T)
 (vt0 vo0:Value) (XC:List TD) (w:World) (B:b_) (SY:∀d∈XC,pz g d) (hl0:XC.length<=60) (ho:mv w0 B) (hm:Mem B [yO gw t n vp vt0 vo0 0,xt vt0 XC,rT vo0 []] w):
 Calls aC 166 #[aH (ah ⟨gw,0,aj⟩),vr,ap av (col:Int)] w (dX (dwS gw t n vp (fW g.az (jW ll col) 2001 XC [] 0)) B):=by
 obtain⟨a1,a2,a3,a4,a5,a6⟩:=cz hg;have Uu:=fun p hp vt vo d r out dG w B h1 h2 h3 ho hm=>Sq w0 gw t n vp g.az hG J p hp (a6 _ (bV hp)).1 vt vo d r out dG w B h1 h2 h3 ho hm;have pJ:=hT.nx col;obtain⟨br,cr,rfl,Pd,pC,EP⟩:=hR;unfold maxLen at pC;refine eR hm (args:=[aH (ah ⟨gw,0,aj⟩),ak br ll.length cr,ap av (col:Int)]) (n:=60) Tryz.func166 I I I ?_;clear hm
 try refine GA ?_
 generalize hD:fW g.az (jW ll col) 2001 XC [] 0=D;refine dU (ι:=Nat×List TD×List bX×Nat×Value×Value) (fun(f,st,out,dG,_,_)=>fW g.az (jW ll col) f st out dG=D/\2001<=f+dG/\st.length<=60/\dG<=2000/\out.length=dG/\∀d∈st,pz g d) (fun _=>[(0,aH (ah ⟨gw,0,aj⟩)),(1,ak br ll.length cr),(2,ap av (col:Int))])
  (fun(_,st,out,dG,vt,vo)=>[yO gw t n vp vt vo dG,xt vt st,rT vo out]) (fun(f,_,_,_,_,_)=>f) (2001,XC,[],0,vt0,vo0) ⟨hD,by omega,hl0,by omega,rfl,SY⟩ ?_
 clear hD SY hl0;rintro⟨f,st,out,dG,vt,vo⟩ ⟨hD,h1,h2,h3,h4,h5⟩;dsimp only at hD h1 h2 h3 h4 h5⊢;obtain⟨f,rfl⟩:∃f',f=f'+1:=⟨f-1,by omega⟩
 try refine GA ?_
 refine bH [0,1,2] [] akV I I (kZ aF.en I I) (fun w hm hb=>sC gw t n vp vt vo st out dG w _ J h3 h4 hb) I I I ?_;obtain⟨z1,z2,z3,z4⟩:=@tw st out dG;have z5:=si (out:=out) (a:=dG) h5;rintro⟨vt1,vo1⟩ _
 conv=>arg 8;simp only[zJ,dr,ret,id_eq,clS,fN]
 have hno:=@abR g.az (jW ll col) f st out dG;have aej:=@abS g.az (jW ll col) f st out dG;have aiJ:=fun x r=>@abT g.az (jW ll col) f st out dG x r;have aiK:=@yN st out dG;generalize bL st out dG=C at*;obtain⟨st1,fv,Uy,ok⟩:=C;dsimp only at*
 cases ok with
 | false=>
  rw[hno I]at hD;subst hD
  try refine GA ?_
  exact dq I I fun w hm=>hm.cZ (S:=dwS gw t n vp (st1,fv,Uy,14)) (vt1,vo1) trivial [0,1,2] akV I
 | true=>
  have zz3:=z3 I h3;clear z3;rcases aiK rfl with rfl|⟨x,r,rfl⟩
  ·rw[aej I I]at hD
   subst hD
   try refine GA ?_
   refine dK ([yO gw t n vp vt1 vo1 Uy,xt vt1 []]) (.calm 0 (.calm 1 (.calm 2 (.calm 3 (.calm 4 (.calm 5 (.calm 6 (.calm 7 (.calm 8 (.calm 9 (.calm 10 (.calm 11 (.calm 12 (.calm 13 (.calm 14 (.calm 15 (.calm 16 (.calm 17 (.calm 18 (.calm 19 (.calm 20 (.calm 21 (.calm 22 (.done)))))))))))))))))))))))) (bZ [0,1]) ?_
   repeat(first|(refine GN ?_;first|refine QW QP ?_|refine QW (aw (v:=vt1) aI.ty I (aE (i:=0) I I)) ?_|refine QW (dV (i:=1) bI.eq I I) ?_|refine QW (cP (b:=aB) I I I) ?_|refine GX ?_)|refine GW ?_)
   try refine GA ?_
   exact dq I I fun w hm=>hm.cZ (S:=dwS gw t n vp ([],fv,Uy,0)) (vt1,vo1) trivial [0,1,2] akV I
  have Hx:=aiJ x r I I;simp only[cO]at z1;have z6:right g.aQ g.bB x=true:=z5 _ (fc ..);have z7:=fun d hd=>z5 d (iI _ hd);clear hno aej aiK aiJ
  try refine GA ?_
  refine yp (i:=1) I (by simp) fun gt ct hv q1 q2=>?_;subst hv;simp only[cO]at*;obtain⟨k,m⟩:=x
  by_cases c1:k=1
  ·subst c1
   rw[if_pos I]at Hx;rw[Hx]at hD;subst hD;refine dK ([yO gw t n vp (ak (ah ⟨gt,0,aj⟩) (r.length+1) ct) vo1 Uy,xt (ak (ah ⟨gt,0,aj⟩) (r.length+1) ct) (.sym (1,m)::r)]) (.calm 0 (.calm 1 (.calm 2 (.calm 3 (.calm 4 (.calm 5 (.calm 6 (.calm 7 (.calm 8 (.calm 9 (.calm 10 (.calm 11 (.calm 12 (.calm 13 (.calm 14 (.calm 15 (.calm 16 (.calm 17 (.calm 18 (.calm 19 (.calm 20 (.calm 21 (.calm 22 (.done)))))))))))))))))))))))) (bZ [0,1]) ?_
   repeat(first|(refine GN ?_;first|refine QW QP ?_|refine QW (aw (v:=ak (ah ⟨gt,0,aj⟩) (r.length+1) ct) aI.ty I (aE (i:=0) I I)) ?_|refine QW (eD (r:=(r.length:Int)) I I J J J) ?_|refine QW (aR (j:=r.length) bI.eq aI.ty I I J) ?_|refine QW (aw (v:=ap av 1) aI.ty I (CL (i:=1) I 2 _ I)) ?_|refine QW (cP (b:=aD) I I (decide_eq_false J)) ?_|refine QW (cP (b:=aB) I I I) ?_|refine GX ?_)|refine GW ?_)
   try refine GA ?_
   exact dq I I fun w hm=>hm.cZ (S:=dwS gw t n vp (.sym (1,m)::r,fv,Uy,0)) (_,vo1) trivial [0,1,2] akV I
  rw[if_neg c1]at Hx;unfold right at z6;dsimp only at z6;rw[if_neg c1]at z6
  by_cases c2:k=2
  ·subst c2
   rw[if_pos I]at z6;simp only[ff,decide_eq_true_eq]at z6;obtain⟨q,rfl⟩:∃q:Nat,m=q:=⟨m.toNat,by omega⟩;have hq:q<ll.length:=by rw[hT.len];have:=hT.bB;omega
   obtain⟨b,off,rfl,_,fZ⟩:=EP J;obtain⟨vi,y1,y2⟩:=Uq fZ hq;have IB:=hT.row _ (bV hq);have aiL:jW ll col (q:Int)=ll[q].getD col (-1):=by unfold jW;rw[cX,bD (l:=ll),bm hq];rfl
   have mJ:=pJ (q:Int);rw[aiL]at mJ;dsimp only at Hx;rw[aiL]at Hx;generalize ll[q]=row at*;obtain⟨bi,ci,rfl,w1,w2,w3⟩:=y2;obtain⟨b3,aed,rfl,OF⟩:=w3 J;have hc:row[col]?=ah (row.getD col (-1)):=by rw[bD,bm J];rfl
   have Kz:∀L,At B L ⟨b,off+q,aj⟩ (ak (ah ⟨b3,aed,aj⟩) row.length ci):=fun L=>iv ho y1;have uj:∀L,At B L ⟨b3,aed+col,aj⟩ (ap av (row.getD col (-1))):=fun L=>iv ho (OF col _ (by rw[eQ,hc];rfl));clear fZ y1 OF w3 EP;generalize row.getD col (-1)=p at*;refine dK ([yO gw t n vp (ak (ah ⟨gt,0,aj⟩) (r.length+1) ct) vo1 Uy,xt (ak (ah ⟨gt,0,aj⟩) (r.length+1) ct) (.sym (2,(q:Int))::r)]) (.calm 0 (.calm 1 (.calm 2 (.calm 3 (.calm 4 (.calm 5 (.calm 6 (.calm 7 (.calm 8 (.calm 9 (.calm 10 (.calm 11 (.calm 12 (.calm 13 (.calm 14 (.calm 15 (.calm 16 (.calm 17 (.calm 18 (.calm 19 (.calm 20 (.calm 21 (.calm 22 (.done)))))))))))))))))))))))) (bZ [0,1]) ?_
   repeat(first|(refine GN ?_;first|refine QW QP ?_|refine QW (aw (v:=ak (ah ⟨gt,0,aj⟩) (r.length+1) ct) aI.ty I (aE (i:=0) I I)) ?_|refine QW (eD (r:=(r.length:Int)) I I J J J) ?_|refine QW (aR (j:=r.length) bI.eq aI.ty I I J) ?_|refine QW (aw (v:=ap av 2) aI.ty I (CL (i:=1) I 2 _ I)) ?_|refine QW (cP (b:=aD) I I (decide_eq_false J)) ?_|refine GX ?_)|refine GW ?_)
   try refine GA ?_
   refine dK ([yO gw t n vp (ak (ah ⟨gt,0,aj⟩) (r.length+1) ct) vo1 Uy,xt (ak (ah ⟨gt,0,aj⟩) (r.length+1) ct) (.sym (2,(q:Int))::r)]) (.calm 0 (.calm 1 (.calm 2 (.calm 3 (.calm 4 (.calm 5 (.calm 6 (.calm 7 (.calm 8 (.calm 9 (.calm 10 (.calm 11 (.calm 12 (.calm 13 (.calm 14 (.calm 15 (.calm 16 (.calm 17 (.calm 18 (.calm 19 (.calm 20 (.done)))))))))))))))))))))) (bZ [0,1]) ?_
   repeat(first|(refine GN ?_;first|refine QW QP ?_|refine QW (aw (v:=ak (ah ⟨gt,0,aj⟩) (r.length+1) ct) aI.ty I (aE (i:=0) I I)) ?_|refine QW (eD (r:=(r.length:Int)) I I J J J) ?_|refine QW (aR (j:=r.length) bI.eq aI.ty I I J) ?_|refine QW (aw (v:=ap av (q:Int)) aI.ty I (CL (i:=1) I 3 _ I)) ?_|refine QW (a8 (j:=q) bI.eq aI.ty I I hq) ?_|refine QW (aw aI.ty I (Kz _)) ?_|refine QW (a8 (j:=col) bI.eq aI.ty I I J) ?_|refine QW (aw aI.ty I (uj _)) ?_|refine GX ?_)|refine GW ?_)
   by_cases c3:p<0
   ·rw[if_pos c3]at Hx
    rw[Hx]at hD;subst hD
    try refine GA ?_
    exact dq I I fun w hm=>hm.cZ (S:=dwS gw t n vp (.sym (2,(q:Int))::r,fv,Uy,13)) (_,vo1) trivial [0,1,2] akV I
   rw[if_neg c3]at Hx;obtain⟨pn,rfl⟩:∃pn:Nat,p=pn:=⟨p.toNat,by omega⟩;have hpn:pn<g.az.length:=by have:=(mJ J).1;omega
   have hop:=Uu pn hpn;have hoo:=BA hg (p:=(pn:Int)) J J z7
   try refine GA ?_
   refine bH [0,1,2] [] akV I I (fP aF.en I I I) (fun w hm hb=>hop _ vo1 (.sym (2,(q:Int))) r fv Uy w _ J zz3 J (ho.on hm fun o h=>qq h) hb) I I I ?_;rintro⟨Uv,XD⟩ _
   conv=>arg 8;simp only[zJ,dr,ret,id_eq,opS,fN]
   conv=>arg 7;simp only[opS]
   have hlo:(opened g.az (pn:Int) r).length=(opened g.az (pn:Int) r).length:=rfl;generalize agn:opened g.az (pn:Int) r=st2 at*
   by_cases c4:Uy+1<=2000/\st2.length<=60
   ·rw[if_pos c4]at Hx
    rw[Hx]at hD;rw[decide_eq_true c4]
    try refine GA ?_
    refine dv [0,1,2] ?_;exact bO (f,st2,fv++[(1,(pn:Int))],Uy+1,Uv,XD) ⟨hD,(by show 2001<=f+(Uy+1);omega),c4.2,c4.1,(by show(fv++[(1,(pn:Int))]).length=Uy+1;simp;omega),hoo⟩ (by show f<f+1;omega)
   rw[if_neg c4]at Hx;rw[Hx]at hD;subst hD;rw[decide_eq_false c4]
   try refine GA ?_
   exact dq I I fun w hm=>hm.cZ (S:=dwS gw t n vp (st2,fv++[(1,(pn:Int))],Uy+1,14)) (Uv,XD) trivial [0,1,2] akV I
  rw[if_neg c2]at z6;cases z6
end cg
namespace cg
open Go.RowKit cT ey aM dN gK
theorem W4(w:World):(dm 148 #[(0,ap av 2)]).run aC w= .ok (aP (dS (2,0)).toArray) w:=by
 unfold dS;go_simp
theorem W5(g:Nat)(w:World):(dm 158 #[(0,ak (ah ⟨g,0,aj⟩) 1 1)]).run aC w= .ok (AW (ak (ah ⟨g,0,aj⟩) 1 1) 0 0 aD) w:=by
 unfold AW;go_simp
def DQ:Spec Value:=⟨fun _=>True,fun vt=>AW vt 0 0 aD,fun vt=>[xt vt [.sym (2,0)]]⟩
set_option maxRecDepth 100000 in
theorem B4(w:World):Calls aC 65 #[] w (cJ DQ w):=by
 refine enter (args:=[]) (n:=5) Tryz.func65 I I I ?_;refine bY (a_ (aY I fun g2=>?_));refine zL ?_
 repeat(first|refine QZ ?_|refine QV (bz I W4) ?_|refine QV (bz I (Iv (2,0))) ?_)
 refine fF (cs:=(xH (.sym (2,0))).toArray) [L5 (.sym (2,0))] I I I (by intro v hv;simp at hv;subst hv;rfl) I I I fun g3=>?_;refine zL ?_
 repeat(first|refine QZ ?_|refine QV (bz I (W5 _)) ?_)
 refine gG 0 (cs':=#[ak (ah ⟨g3,0,aj⟩) 1 1,ap av 0,ap av 0,.bool aD]) ?_;refine zL ?_;refine zw (i:=1) 4 I I J ?_;refine zL ?_
 try refine GA ?_
 exact gU (i:=0) I I I I fun w hm=>hm.meets (S:=DQ) (ak (ah ⟨g3,0,aj⟩) 1 1) trivial [1] akV I
theorem abU(t n:Int)(bp:Option Addr)(mp cp:Nat)(bt:Option Addr)(mt ct:Nat)(w:World):(dm 329 #[(0,dD t n (ak bp mp cp)),(1,ak bt mt ct)]).run aC w= .ok (.agg (Na t n (ak bp mp cp) (ak bt mt ct) (ak aj 0 0) 0)) w:=by
 unfold dD Na;go_simp
def Lz(t n:Int)(vp:Value)(st:List TD):Spec (Nat×Value):=⟨fun _=>True,fun x=>aH (ah ⟨x.1,0,aj⟩),fun x=>[yO x.1 t n vp x.2 (ak aj 0 0) 0,xt x.2 st]⟩
theorem CN(t n:Int)(vp vt:Value)(st:List TD)(seen over:Int)(done:Bool)(w:World)(ht:TdR w vt st)(hl:st.length<=60)(hvp:∃b m c,vp=ak b m c):
 Calls aC 165 #[dD t n vp,AW vt seen over done] w (cJ (Lz t n vp st) w):=by
 have jZ:=fun w' (hg:Gr w w')=>GJ vt st.reverse w' (by rw[Lo];exact ht.gr hg) (by rw[Lo];omega);rw[Lo]at jZ;obtain⟨bp,mp,cp,rfl⟩:=hvp;refine enter (args:=[dD t n (ak bp mp cp),AW vt seen over done]) (n:=11) Tryz.func165 I I I ?_;refine bY (a_ (bQ I I I fun g0=>bQ I I I fun g1=>?_));refine zL ?_
 try refine GA ?_
 refine dK ([aO g0 (dD t n (ak bp mp cp)).cells 33,aO g1 (AW vt seen over done).cells 158]) (.calm 0 (.calm 1 (.calm 2 (.one 3 (.calm 4 (.one 5 (.calm 6 (.done)))))))) (fun _ h=>h) ?_
 repeat(first|refine GW ?_|(refine GN ?_;first|refine QW (aL (i:=0) aI.ty I I I) ?_|refine QW (aw (v:=vt) aI.ty I (aE (i:=1) I I)) ?_))
 refine aJ I ?_;refine aW (kZ aF.en I I) (fun w hm=>jZ _ hm.below) I I I ?_;intro zl _;refine zL ?_;refine ot (i:=2) I fun bt ct hv q1 q2=>?_;subst hv;refine aK (bZ [0,1]) ?_
 repeat(first|refine GW ?_|(refine GN ?_;first|refine QW (bz I (abU _ _ _ _ _ _ _ _)) ?_))
 refine aJ I (bQ I I I fun g2=>?_);refine zL ?_;refine aK (bZ [0,1]) ?_
 try refine GW ?_
 try refine GA ?_
 exact dq I I fun w hm=>hm.meets (S:=Lz t n (ak bp mp cp) st) (g2,ak bt st.length ct) trivial [3,2] akV I
theorem OG{l:List aM.Prod}{nx:Int->Int}{st:List TD}{seen:Nat}{t:Int}{st1:List TD}{fv:List bX}{a1:Nat}{e:Int}(hD:fW l nx 2001 st [] 0=(st1,fv,a1,e))(he:e≠0):iB l nx st seen t=(e,[],[]):=by
 unfold iB;rw[hD];dsimp only;rw[if_pos he]
theorem abV{l:List aM.Prod}{nx:Int->Int}{st:List TD}{seen:Nat}{t:Int}{fv:List bX}{a1:Nat}(hD:fW l nx 2001 st [] 0=([],fv,a1,0)):iB l nx st seen t=(13,[],[]):=by
 unfold iB;rw[hD];dsimp only;rw[if_neg akV]
theorem abW{l:List aM.Prod}{nx:Int->Int}{st:List TD}{seen:Nat}{t:Int}{x:bX}{r:List TD}{fv:List bX}{a1:Nat}(hD:fW l nx 2001 st [] 0=(.sym x::r,fv,a1,0)):iB l nx st seen t=if x.2≠t then(13,[],[])else if a1+1<=2000/\(bL r (fv++[(2,(seen:Int))]) (a1+1)).2.2.2=aB then(0,(bL r (fv++[(2,(seen:Int))]) (a1+1)).1,(bL r (fv++[(2,(seen:Int))]) (a1+1)).2.1)else(14,[],[]):=by
 unfold iB;rw[hD];dsimp only;rw[if_neg akV]
theorem Uz{l:List aM.Prod}{nx:Int->Int}{st:List TD}{st1:List TD}{fv:List bX}{a1:Nat}{e:Int}(hD:fW l nx 2001 st [] 0=(st1,fv,a1,e))(he:e≠0):tv l nx st=(e,[]):=by
 unfold tv;rw[hD];dsimp only;rw[if_pos he]
theorem aet{l:List aM.Prod}{nx:Int->Int}{st:List TD}{fv:List bX}{a1:Nat}(hD:fW l nx 2001 st [] 0=([],fv,a1,0)):tv l nx st=(0,fv):=by
 unfold tv;rw[hD];dsimp only;rw[if_neg akV]
theorem aeu{l:List aM.Prod}{nx:Int->Int}{st:List TD}{x:bX}{r:List TD}{fv:List bX}{a1:Nat}(hD:fW l nx 2001 st [] 0=(.sym x::r,fv,a1,0)):tv l nx st=(13,[]):=by
 unfold tv;rw[hD];dsimp only;rw[if_neg akV]
def ue(seen:Int)(R:Int×List TD×List bX):Spec (Value×Value):=
 ⟨fun _=>True,fun x=>if R.1=0 then .tuple #[AW x.1 (seen+1) 0 aD,x.2,ap av 0]else .tuple #[AW (ak aj 0 0) seen R.1 aD,ak aj 0 0,ap av R.1],fun x=>if R.1=0 then [xt x.1 R.2.1,rT x.2 R.2.2]else []⟩
theorem lQ(seen e:Int)(w:World):(dm 158 #[(1,ap av seen),(2,ap av e)]).run aC w= .ok (AW (ak aj 0 0) seen e aD) w:=by
 unfold AW;go_simp
theorem W6(b:Option Addr)(m c:Nat)(seen:Int)(w:World):(dm 158 #[(0,ak b m c),(1,ap av seen)]).run aC w= .ok (AW (ak b m c) seen 0 aD) w:=by
 unfold AW;go_simp
theorem Df(v vr vt:Value)(g:dF)(ll:List (List Int))(T N:Nat)(st:List TD)(seen t:Nat)(w:World)(h:kw (fun k=>k<w.heap.size) w v g)(hr:GF w vr ll)(ht:TdR w vt st)(h0:Lr g ll=0)(hg:cD g=0)(hT:OE g ll T N)(hs:∀d∈st,pz g d)(hl:st.length<=60)(h1:seen<=1000000)(h2:t<T):
 Calls aC 138 #[v,vr,AW vt (seen:Int) 0 aD,ap av (t:Int)] w (cJ (ue (seen:Int) (iB g.az (jW ll t) st seen (t:Int))) w):=by
 have h_:=fun w' (yA:Gr w w')=>sD v vr vt g ll st (seen:Int) (t:Int) w' (h.gr yA) (hr.gr yA) (ht.gr yA) h0 hs hl J J J (by have:=hT.aQ;omega);have Jf:=hT.aQ;obtain⟨vp,rfl,hp,_⟩:=h;have zv:=fun w' (yA:Gr w w')=>CN g.aQ g.bB vp vt st (seen:Int) 0 aD w' (ht.gr yA) hl (by obtain⟨b,c,e,_⟩:=hp;exact⟨b,_,c,e⟩);have hdw:=fun gw vt0 vo0 w' B ho hm=>CM w gw g.aQ g.bB vp vr g ll T N t hp hr hg hT J vt0 vo0 st w' B hs hl ho hm;have Xt:=fun R=>@Ag g.az (jW ll t) 2001 st [] 0 R;have hdt:=fun R=>@p_ g.az (jW ll t) 2001 st [] 0 R;have hde:=@vz g.az (jW ll t) 2001 st [] 0;generalize hD:fW g.az (jW ll t) 2001 st [] 0=D at*;obtain⟨st1,fv,a1,e⟩:=D;have Xt:=fun h=>Xt _ I h hl J;have hdt:=fun h=>hdt _ I h;dsimp only at*;refine enter (args:=[dD g.aQ g.bB vp,vr,AW vt (seen:Int) 0 aD,ap av (t:Int)]) (n:=96) Tryz.func138 I I I ?_;refine bY (a_ (bQ I I I fun g0=>bQ I I I fun g1=>aY I fun g2=>?_));refine zL ?_
 repeat(first|refine GA ?_|refine gV (aw (v:=ap av g.aQ) aI.ty I (aE (i:=0) I I)) ?_|refine gV (aL (i:=0) aI.ty I I I) ?_|refine gV (aL (i:=1) aI.ty I I I) ?_)
 refine aW (Hi aF.en I I I I I) (fun w hm=>h_ _ hm.below) I I I ?_;intro _ _;refine zL ?_
 repeat(first|refine GA ?_|refine gV (aL (i:=0) aI.ty I I I) ?_|refine gV (aL (i:=1) aI.ty I I I) ?_)
 refine aW (fP aF.en I I I) (fun w hm=>zv _ hm.below) I I I ?_;rintro⟨gw,vt1⟩ _
 conv=>arg 8;simp only[zJ,dr,ret,id_eq,Lz]
 try refine GA ?_
 refine rZ 55 2 ?_;refine zL ?_;refine bH [3,4,5] [0,1,2] akV I I (ye aF.en I I I I) (fun w' hm hb=>hdw gw vt1 _ w' _ ((mv.self w).on hm fun o h=>qq h) hb) I I I ?_;rintro⟨Uv,XD⟩ _
 conv=>arg 8;simp only[zJ,dr,ret,id_eq,dwS]
 conv=>arg 7;simp only[dwS]
 rcases hde with rfl|rfl|rfl
 ·obtain⟨hd1,hd2,hd3,hd4⟩:=Xt rfl
  rcases hdt rfl with rfl|⟨x,r,rfl,hx⟩
  ·rw[abV hD]
   try refine GA ?_
   refine dK ([yO gw g.aQ g.bB vp Uv XD a1,xt Uv []]) (.calm 0 (.calm 1 (.calm 2 (.calm 3 (.calm 4 (.calm 5 (.calm 6 (.calm 7 (.calm 8 (.calm 9 (.calm 10 (.calm 11 (.calm 12 (.calm 13 (.calm 14 (.calm 15 (.calm 16 (.calm 17 (.calm 18 (.calm 19 (.calm 20 (.calm 21 (.calm 22 (.calm 23 (.calm 24 (.calm 25 (.calm 26 (.calm 27 (.done))))))))))))))))))))))))))))) (bZ [3,4]) ?_
   repeat(first|(refine GN ?_;first|refine QW QP ?_|refine QW (aw (v:=Uv) aI.ty I (aE (i:=0) I I)) ?_|refine QW (cP (b:=aB) I I I) ?_|refine QW (dV (i:=1) bI.eq I I) ?_|refine GX ?_)|refine GW ?_)
   repeat(first|refine GA ?_|refine gV (aw (v:=ap av (seen:Int)) aI.ty I (aE (i:=1) I I)) ?_|refine gV (bz I (lQ _ _)) ?_)
   refine gG 2 (cs':=#[ak aj 0 0,ap av (seen:Int),ap av 13,.bool aD]) ?_;refine zL ?_
   try refine GA ?_
   exact iW (i:=2) I I I I I I fun w hm=>hm.meets (S:=ue (seen:Int) (13,[],[])) (ak aj 0 0,ak aj 0 0) trivial [] akV I
  rw[abW hD];obtain⟨k,m⟩:=x;dsimp only at hx;subst hx;simp only[cO]at hd1
  try refine GA ?_
  refine yp (i:=4) I (by simp) fun gt ct hv q1 q2=>?_;subst hv;simp only[cO]at*
  by_cases c1:m≠(t:Int)
  ·rw[if_pos c1]
   refine dK ([yO gw g.aQ g.bB vp (ak (ah ⟨gt,0,aj⟩) (r.length+1) ct) XD a1,xt (ak (ah ⟨gt,0,aj⟩) (r.length+1) ct) (.sym (1,m)::r)]) (.calm 0 (.calm 1 (.calm 2 (.calm 3 (.calm 4 (.calm 5 (.calm 6 (.calm 7 (.calm 8 (.calm 9 (.calm 10 (.calm 11 (.calm 12 (.calm 13 (.calm 14 (.calm 15 (.calm 16 (.calm 17 (.calm 18 (.calm 19 (.calm 20 (.calm 21 (.calm 22 (.calm 23 (.calm 24 (.calm 25 (.calm 26 (.calm 27 (.done))))))))))))))))))))))))))))) (bZ [3,4]) ?_
   repeat(first|(refine GN ?_;first|refine QW QP ?_|refine QW (aw (v:=ak (ah ⟨gt,0,aj⟩) (r.length+1) ct) aI.ty I (aE (i:=0) I I)) ?_|refine QW (cP (b:=aB) I I I) ?_|refine QW (cP (b:=aD) I I (decide_eq_false J)) ?_|refine QW (aw (v:=ap av m) aI.ty I (CL (i:=1) I 3 _ I)) ?_|refine QW (dz (b:=aB) I I (decide_eq_true c1)) ?_|refine QW (eD (r:=(r.length:Int)) I I J J J) ?_|refine QW (aR (j:=r.length) bI.eq aI.ty I I J) ?_|refine GX ?_)|refine GW ?_)
   repeat(first|refine GA ?_|refine gV (aw (v:=ap av (seen:Int)) aI.ty I (aE (i:=1) I I)) ?_|refine gV (bz I (lQ _ _)) ?_)
   refine gG 2 (cs':=#[ak aj 0 0,ap av (seen:Int),ap av 13,.bool aD]) ?_;refine zL ?_
   try refine GA ?_
   exact iW (i:=2) I I I I I I fun w hm=>hm.meets (S:=ue (seen:Int) (13,[],[])) (ak aj 0 0,ak aj 0 0) trivial [] akV I
  rw[if_neg c1];obtain rfl:m=(t:Int):=by simpa using c1
  refine dK ([yO gw g.aQ g.bB vp (ak (ah ⟨gt,0,aj⟩) (r.length+1) ct) XD a1,xt (ak (ah ⟨gt,0,aj⟩) (r.length+1) ct) (.sym (1,(t:Int))::r)]) (.calm 0 (.calm 1 (.calm 2 (.calm 3 (.calm 4 (.calm 5 (.calm 6 (.calm 7 (.calm 8 (.calm 9 (.calm 10 (.calm 11 (.calm 12 (.calm 13 (.calm 14 (.calm 15 (.calm 16 (.calm 17 (.calm 18 (.calm 19 (.calm 20 (.calm 21 (.calm 22 (.calm 23 (.calm 24 (.calm 25 (.calm 26 (.calm 27 (.done))))))))))))))))))))))))))))) (bZ [3,4]) ?_
  repeat(first|(refine GN ?_;first|refine QW QP ?_|refine QW (aw (v:=ak (ah ⟨gt,0,aj⟩) (r.length+1) ct) aI.ty I (aE (i:=0) I I)) ?_|refine QW (cP (b:=aB) I I I) ?_|refine QW (cP (b:=aD) I I (decide_eq_false J)) ?_|refine QW (aw (v:=ap av (t:Int)) aI.ty I (CL (i:=1) I 3 _ I)) ?_|refine QW (dz (b:=aD) I I (decide_eq_false (by simp))) ?_|refine QW (eD (r:=(r.length:Int)) I I J J J) ?_|refine QW (aR (j:=r.length) bI.eq aI.ty I I J) ?_|refine GX ?_)|refine GW ?_)
  repeat(first|refine GC ?_|refine gV (cP (b:=aB) I I I) ?_|refine GB ?_)
  refine bH [3,4] [0,1,2,5] akV I I (kZ aF.en I I) (fun w hm hb=>B3 gw g.aQ g.bB vp _ XD (.sym (1,(t:Int))) r a1 w _ J hb) I I I ?_;intro Uw _;refine zL ?_;dsimp only
  repeat(first|refine GA ?_|refine gV (aw (v:=ap av (seen:Int)) aI.ty I (aE (i:=1) I I)) ?_)
  refine bH [4,3] [0,1,2,5] akV I I (ye aF.en I I I I) (fun w hm hb=>B2 gw g.aQ g.bB vp Uw XD fv a1 2 (seen:Int) w _ (by simp at hd3;omega) J hb) I I I ?_;intro vo3 _;refine zL ?_;dsimp only
  by_cases c2:a1+1<=2000
  ·rw[decide_eq_true (show((a1+1:Nat):Int)<=2000 by omega)]
   try refine GA ?_
   refine Dm I I I ?_;refine bH [4,3,5] [0,1,2] akV I I (kZ aF.en I I) (fun w hm hb=>sC gw g.aQ g.bB vp Uw vo3 r (fv++[(2,(seen:Int))]) (a1+1) w _ J c2 (by simp at hd3⊢;omega) hb) I I I ?_;rintro⟨vt4,vo4⟩ _
   conv=>arg 8;simp only[zJ,dr,ret,id_eq,clS]
   conv=>arg 7;simp only[clS]
   generalize bL r (fv++[(2,(seen:Int))]) (a1+1)=C;obtain⟨st3,aj9,a3,ok⟩:=C;dsimp only
   cases ok with
   | true=>
    rw[if_pos ⟨c2,rfl⟩]
    repeat(first|refine GC ?_|refine gV (cP (b:=aB) I I I) ?_|refine GB ?_)
    refine afZ (i:=4) I fun bt ct' hv q3 q4=>?_;subst hv;refine dK ([yO gw g.aQ g.bB vp (ak bt st3.length ct') vo4 a3,aO g1 (AW vt (seen:Int) 0 aD).cells 158]) (.calm 0 (.calm 1 (.calm 2 (.calm 3 (.calm 4 (.calm 5 (.calm 6 (.calm 7 (.calm 8 (.calm 9 (.calm 10 (.calm 11 (.one 12 (.calm 13 (.calm 14 (.done)))))))))))))))) (bZ [3,1]) ?_
    repeat(first|refine GW ?_|(refine GN ?_;first|refine QW (aw (v:=ak bt st3.length ct') aI.ty I (aE (i:=0) I I)) ?_|refine QW (aw (v:=ap av (seen:Int)) aI.ty I (aE (i:=1) I I)) ?_|refine QW (aw (v:=vo4) aI.ty I (aE (i:=0) I I)) ?_|refine QW (bz I (W6 _ _ _ _)) ?_))
    refine aJ I (aX (i:=2) (cs':=#[ak bt st3.length ct',ap av ((seen:Int)+1),ap av 0,.bool aD]) I I I I I I (aK (bZ [3,1]) ?_))
    try refine GW ?_
    try refine GA ?_
    exact iW (i:=2) I I I I I I fun w hm=>hm.meets (S:=ue (seen:Int) (0,st3,aj9)) (ak bt st3.length ct',vo4) trivial [4,5] akV I
   | false=>
    rw[if_neg (by rintro⟨_,h⟩;cases h)]
    try refine GA ?_
    repeat(first|refine GA ?_|refine gV (aw (v:=ap av (seen:Int)) aI.ty I (aE (i:=1) I I)) ?_|refine gV (bz I (lQ _ _)) ?_)
    refine gG 2 (cs':=#[ak aj 0 0,ap av (seen:Int),ap av 14,.bool aD]) ?_;refine zL ?_
    try refine GA ?_
    exact iW (i:=2) I I I I I I fun w hm=>hm.meets (S:=ue (seen:Int) (14,[],[])) (ak aj 0 0,ak aj 0 0) trivial [] akV I
  rw[if_neg (by rintro⟨h,_⟩;exact c2 h)];rw[decide_eq_false (show ¬((a1+1:Nat):Int)<=2000 by omega)]
  try refine GA ?_
  repeat(first|refine GA ?_|refine gV (aw (v:=ap av (seen:Int)) aI.ty I (aE (i:=1) I I)) ?_|refine gV (bz I (lQ _ _)) ?_)
  refine gG 2 (cs':=#[ak aj 0 0,ap av (seen:Int),ap av 14,.bool aD]) ?_;refine zL ?_
  try refine GA ?_
  exact iW (i:=2) I I I I I I fun w hm=>hm.meets (S:=ue (seen:Int) (14,[],[])) (ak aj 0 0,ak aj 0 0) trivial [] akV I
 ·rw[OG hD akV]
  try refine GA ?_
  refine dK ([]) (.calm 0 (.calm 1 (.calm 2 (.calm 3 (.calm 4 (.calm 5 (.calm 6 (.calm 7 (.calm 8 (.calm 9 (.calm 10 (.calm 11 (.calm 12 (.calm 13 (.calm 14 (.calm 15 (.calm 16 (.calm 17 (.calm 18 (.calm 19 (.calm 20 (.calm 21 (.calm 22 (.calm 23 (.calm 24 (.calm 25 (.calm 26 (.calm 27 (.done))))))))))))))))))))))))))))) (bZ []) ?_
  try refine GW ?_
  repeat(first|refine GA ?_|refine gV (aw (v:=ap av (seen:Int)) aI.ty I (aE (i:=1) I I)) ?_|refine gV (bz I (lQ _ _)) ?_)
  refine gG 2 (cs':=#[ak aj 0 0,ap av (seen:Int),ap av 13,.bool aD]) ?_;refine zL ?_
  try refine GA ?_
  exact iW (i:=2) I I I I I I fun w hm=>hm.meets (S:=ue (seen:Int) (13,[],[])) (ak aj 0 0,ak aj 0 0) trivial [] akV I
 ·rw[OG hD akV]
  try refine GA ?_
  refine dK ([]) (.calm 0 (.calm 1 (.calm 2 (.calm 3 (.calm 4 (.calm 5 (.calm 6 (.calm 7 (.calm 8 (.calm 9 (.calm 10 (.calm 11 (.calm 12 (.calm 13 (.calm 14 (.calm 15 (.calm 16 (.calm 17 (.calm 18 (.calm 19 (.calm 20 (.calm 21 (.calm 22 (.calm 23 (.calm 24 (.calm 25 (.calm 26 (.calm 27 (.done))))))))))))))))))))))))))))) (bZ []) ?_
  try refine GW ?_
  repeat(first|refine GA ?_|refine gV (aw (v:=ap av (seen:Int)) aI.ty I (aE (i:=1) I I)) ?_|refine gV (bz I (lQ _ _)) ?_)
  refine gG 2 (cs':=#[ak aj 0 0,ap av (seen:Int),ap av 14,.bool aD]) ?_;refine zL ?_
  try refine GA ?_
  exact iW (i:=2) I I I I I I fun w hm=>hm.meets (S:=ue (seen:Int) (14,[],[])) (ak aj 0 0,ak aj 0 0) trivial [] akV I
def LA(seen:Int)(R:Int×List bX):Spec Value:=
 ⟨fun _=>True,fun x=>if R.1=0 then .tuple #[AW (ak aj 0 0) seen 0 aB,x,ap av 0]else .tuple #[AW (ak aj 0 0) seen R.1 aD,ak aj 0 0,ap av R.1],fun x=>if R.1=0 then [rT x R.2]else []⟩
theorem W7(seen:Int)(w:World):(dm 158 #[(1,ap av seen),(3,.bool aB)]).run aC w= .ok (AW (ak aj 0 0) seen 0 aB) w:=by
 unfold AW;go_simp
theorem GL(v vr vt:Value)(g:dF)(ll:List (List Int))(T N:Nat)(st:List TD)(seen:Nat)(w:World)(h:kw (fun k=>k<w.heap.size) w v g)(hr:GF w vr ll)(ht:TdR w vt st)(h0:Lr g ll=0)(hg:cD g=0)(hT:OE g ll T N)(hs:∀d∈st,pz g d)(hl:st.length<=60)(h1:seen<=1000000):
 Calls aC 144 #[v,vr,AW vt (seen:Int) 0 aD] w (cJ (LA (seen:Int) (tv g.az (jW ll T) st)) w):=by
 have Jf:=hT.aQ;have h_:=fun w' (yA:Gr w w')=>sD v vr vt g ll st (seen:Int) g.aQ w' (h.gr yA) (hr.gr yA) (ht.gr yA) h0 hs hl J J J J;obtain⟨vp,rfl,hp,_⟩:=h;have zv:=fun w' (yA:Gr w w')=>CN g.aQ g.bB vp vt st (seen:Int) 0 aD w' (ht.gr yA) hl (by obtain⟨b,c,e,_⟩:=hp;exact⟨b,_,c,e⟩);have hdw:=fun gw vt0 vo0 w' B ho hm=>CM w gw g.aQ g.bB vp vr g ll T N T hp hr hg hT J vt0 vo0 st w' B hs hl ho hm;rw[<-Jf]at hdw;have hdt:=fun R=>@p_ g.az (jW ll T) 2001 st [] 0 R;have hde:=@vz g.az (jW ll T) 2001 st [] 0;generalize hD:fW g.az (jW ll T) 2001 st [] 0=D at*;obtain⟨st1,fv,a1,e⟩:=D;have hdt:=fun h=>hdt _ I h;dsimp only at*;refine enter (args:=[dD g.aQ g.bB vp,vr,AW vt (seen:Int) 0 aD]) (n:=55) Tryz.func144 I I I ?_;refine bY (a_ (bQ I I I fun g0=>bQ I I I fun g1=>aY I fun g2=>?_));refine zL ?_
 repeat(first|refine GA ?_|refine gV (aw (v:=ap av g.aQ) aI.ty I (aE (i:=0) I I)) ?_|refine gV (aL (i:=0) aI.ty I I I) ?_|refine gV (aL (i:=1) aI.ty I I I) ?_)
 refine aW (Hi aF.en I I I I I) (fun w hm=>h_ _ hm.below) I I I ?_;intro _ _;refine zL ?_
 repeat(first|refine GA ?_|refine gV (aL (i:=0) aI.ty I I I) ?_|refine gV (aL (i:=1) aI.ty I I I) ?_)
 refine aW (fP aF.en I I I) (fun w hm=>zv _ hm.below) I I I ?_;rintro⟨gw,vt1⟩ _
 conv=>arg 8;simp only[zJ,dr,ret,id_eq,Lz]
 repeat(first|refine GA ?_|refine gV (aw (v:=ap av g.aQ) aI.ty I (aE (i:=0) I I)) ?_)
 refine rZ 55 2 ?_;refine zL ?_;refine bH [3,4,5] [0,1,2] akV I I (ye aF.en I I I I) (fun w' hm hb=>hdw gw vt1 _ w' _ ((mv.self w).on hm fun o h=>qq h) hb) I I I ?_;rintro⟨Uv,XD⟩ _
 conv=>arg 8;simp only[zJ,dr,ret,id_eq,dwS]
 conv=>arg 7;simp only[dwS]
 rcases hde with rfl|rfl|rfl
 ·rcases hdt rfl with rfl|⟨x,r,rfl,hx⟩
  ·rw[aet hD]
   repeat(first|refine GC ?_|refine gV (aw (v:=Uv) aI.ty I (aE (i:=3) I I)) ?_|refine gV (cP (b:=aB) I I I) ?_|refine gV (dV (i:=4) bI.eq I I) ?_|refine gV (eP (b:=aD) I I I) ?_|refine GB ?_)
   refine dK ([yO gw g.aQ g.bB vp Uv XD a1,aO g1 (AW vt (seen:Int) 0 aD).cells 158]) (.calm 0 (.calm 1 (.calm 2 (.calm 3 (.calm 4 (.calm 5 (.calm 6 (.one 7 (.calm 8 (.calm 9 (.done))))))))))) (bZ [3,1]) ?_
   repeat(first|refine GW ?_|(refine GN ?_;first|refine QW (aw (v:=ap av (seen:Int)) aI.ty I (aE (i:=1) I I)) ?_|refine QW (aw (v:=XD) aI.ty I (aE (i:=0) I I)) ?_|refine QW (bz I (W7 _)) ?_))
   refine aJ I (aX (i:=2) (cs':=#[ak aj 0 0,ap av (seen:Int),ap av 0,.bool aB]) I I I I I I (aK (bZ [3,1]) ?_))
   try refine GW ?_
   try refine GA ?_
   exact iW (i:=2) I I I I I I fun w hm=>hm.meets (S:=LA (seen:Int) (0,fv)) XD trivial [5] akV I
  rw[aeu hD]
  repeat(first|refine GC ?_|refine gV (aw (v:=Uv) aI.ty I (aE (i:=3) I I)) ?_|refine gV (cP (b:=aB) I I I) ?_|refine gV (aw (v:=ap av (seen:Int)) aI.ty I (aE (i:=1) I I)) ?_|refine gV (bz I (lQ _ _)) ?_|refine gV (dV (i:=4) bI.eq I I) ?_|refine gV (eP (b:=aB) I I (decide_eq_true (by rw[cO];omega))) ?_|refine GB ?_)
  refine gG 2 (cs':=#[ak aj 0 0,ap av (seen:Int),ap av 13,.bool aD]) ?_;refine zL ?_
  try refine GA ?_
  exact iW (i:=2) I I I I I I fun w hm=>hm.meets (S:=LA (seen:Int) (13,[])) (ak aj 0 0) trivial [] akV I
 ·rw[Uz hD akV]
  repeat(first|refine GA ?_|refine gV (aw (v:=ap av (seen:Int)) aI.ty I (aE (i:=1) I I)) ?_|refine gV (bz I (lQ _ _)) ?_)
  refine gG 2 (cs':=#[ak aj 0 0,ap av (seen:Int),ap av 13,.bool aD]) ?_;refine zL ?_
  try refine GA ?_
  exact iW (i:=2) I I I I I I fun w hm=>hm.meets (S:=LA (seen:Int) (13,[])) (ak aj 0 0) trivial [] akV I
 ·rw[Uz hD akV]
  repeat(first|refine GA ?_|refine gV (aw (v:=ap av (seen:Int)) aI.ty I (aE (i:=1) I I)) ?_|refine gV (bz I (lQ _ _)) ?_)
  refine gG 2 (cs':=#[ak aj 0 0,ap av (seen:Int),ap av 14,.bool aD]) ?_;refine zL ?_
  try refine GA ?_
  exact iW (i:=2) I I I I I I fun w hm=>hm.meets (S:=LA (seen:Int) (14,[])) (ak aj 0 0) trivial [] akV I
end cg
namespace o8
open aM dN ee dx cg
theorem wH{t:Int}:∀{w:List Int} (k:Nat),jP t w=0->jP t (w.take k)=0
 |[],k,_=>by simp[jP]
 |x::r,0,_=>by simp[jP]
 |x::r,k+1,h=>by
  rw[jP]at h;rw[mV,jP];split at h;· cases h
  split at h;· cases h
  rw[if_neg (by assumption),if_neg (by assumption)];exact wH k h
theorem OH{g:dF}{w:List Int}(h:fB g w=0):jP g.aQ w=0:=by
 unfold fB at h;split at h;· contradiction
 split at h;· cases h
 exact h
theorem Jg{g:dF}{w:List Int}(h1:cD g=0)(h2:w.length<=20)(h3:jP g.aQ w=0):fB g w=0:=by
 unfold fB;rw[if_neg (by simpa using h1),if_neg J,h3]
end o8
namespace gK
open aM dN ee dx o8 wZ
section
variable{l:List aM.Prod}{C:Int->Nat->Int->Prop}
mutual
theorem GM{nx:Int->Nat->Int}(hd:(∀n u p,C n u p)\/∀n u p,nx n u=p->C n u p):∀{t:Tree} {x:bX} {u:Nat} {st:List TD} {E:List bX} {w:List Int},eH l t x u->(∀n u p,C n u p)\/(0<=t.prod->Qr l nx t u)->sN l C st (u+leaves t) E w->sN l C (.sym x::st) u (sh l t++E) (ef l t x++w)
 | .mk p k kids,x,u,st,E,w,h,hT,hr=>by
  rw[eH]at h;rcases h with⟨h1,rfl,rfl,rfl⟩|⟨h1,h2,h3,h4,rfl,h5⟩
  ·have e1:sh l (.mk (-1) (u:Int) [])=[(2,(u:Int))]:=by unfold sh;rw[if_pos (by show(-1:Int)<0;omega)];rfl
   have e2:ef l (.mk (-1) (u:Int) []) x=[x.2]:=by unfold ef;rw[if_pos (by show(-1:Int)<0;omega)]
   have e3:leaves (.mk (-1) (u:Int) [])=1:=by rw[leaves,if_pos J]
   rw[e1,e2];rw[e3]at hr;exact .nf h1 hr
  have hp:¬p<0:=by omega
  have e1:sh l (.mk p 0 kids)=(1,p)::((nE l kids (bJ l p).2).map ZI++[(3,p)]):=by
   unfold sh;rw[if_neg (by show ¬p<0;exact hp)];unfold xG;rw[dG];simp[ZI]
  have e2:ef l (.mk p 0 kids) x=gi l kids (bJ l p).2:=by unfold ef;rw[if_neg (by show ¬p<0;exact hp),jy]
  have e3:leaves (.mk p 0 kids)=de kids:=by rw[leaves,if_neg hp]
  rw[e1,e2];rw[e3]at hr;have hk:=Jh (nx:=nx) hd h5 (hT.imp id fun h=>by
   have:=h h2;rw[Qr]at this;exact this.2) (.close (p:=p) hr)
  have hc:C x.2 u p:=by
   rcases hd with hd|hd
   exact hd _ _ _;rcases hT with hT|hT
   exact hT _ _ _;have:=hT h2;rw[Qr]at this;rw[<-h4];exact hd _ _ _ this.1
  have:=sN.opn (E:=(nE l kids (bJ l p).2).map ZI++(3,p)::E) (w:=gi l kids (bJ l p).2++w) h1 h2 h3 h4 hc hk
  simpa using this
theorem Jh{nx:Int->Nat->Int}(hd:(∀n u p,C n u p)\/∀n u p,nx n u=p->C n u p):∀{ks:List Tree} {b:List bX} {u:Nat} {st:List TD} {E:List bX} {w:List Int},dl l ks b u->(∀n u p,C n u p)\/M8 l nx ks u->sN l C st (u+de ks) E w->sN l C (b.map .sym++st) u ((nE l ks b).map ZI++E) (gi l ks b++w)
 |[],[],u,st,E,w,_,_,hr=>hr
 |[],_::_,_,_,_,_,h,_,_=>by rw[dl]at h;exact h.elim
 |_::_,[],_,_,_,_,h,_,_=>by rw[dl]at h;exact h.elim
 | .mk p k kk::r,y::b,u,st,E,w,h,hT,hr=>by
  rw[dl]at h;rw[de,<-jH]at hr;have hk:=Jh (nx:=nx) hd h.2 (hT.imp id fun h=>by rw[M8]at h;exact h.2) hr;have ht:=GM (nx:=nx) hd h.1 (hT.imp id fun h=>by
   rw[M8]at h;intro h0;rcases h.1 with h1|h1
   exact absurd h0 (by show ¬0<=p;omega);exact h1) hk
  rw[Fl,me,dL,dL];exact ht
end
theorem OI(N:Nat)(ih:∀{x:bX} {st:List TD} {u:Nat} {E:List bX} {w:List Int},E.length<N->sN l C (.sym x::st) u E w->∃t E2 w2,eH l t x u/\E=sh l t++E2/\w=ef l t x++w2/\sN l C st (u+leaves t) E2 w2):∀{b:List bX} {st:List TD} {u:Nat} {E:List bX} {w:List Int},E.length<N->sN l C (b.map .sym++st) u E w->∃ts E2 w2,dl l ts b u/\E=(nE l ts b).map ZI++E2/\w=gi l ts b++w2/\sN l C st (u+de ts) E2 w2
 |[],st,u,E,w,_,h=>⟨[],E,w,by rw[dl];trivial,by rw[nE];rfl,rfl,by rw[de];exact h⟩
 |y::b,st,u,E,w,hN,h=>by
  obtain⟨t,E2,w2,h1,rfl,rfl,h4⟩:=ih hN h;rw[bK]at hN;obtain⟨ts,E3,w3,k1,rfl,rfl,k4⟩:=OI N ih (b:=b) J h4;refine⟨t::ts,E3,w3,by rw[dl];exact⟨h1,k1⟩,by rw[Fl,dL],by rw[me,dL],by rw[de,<-jH];exact k4⟩
theorem OJ:∀(N:Nat) {x:bX} {st:List TD} {u:Nat} {E:List bX} {w:List Int},E.length<N->sN l C (.sym x::st) u E w->∃t E2 w2,eH l t x u/\E=sh l t++E2/\w=ef l t x++w2/\sN l C st (u+leaves t) E2 w2
 |0,_,_,_,_,_,h,_=>absurd h J
 | N + 1,x,st,u,E,w,hN,h=>by
  cases h with
  | @nf _ _ _ E2 w2 hx h=>
   refine⟨.mk (-1) (u:Int) [],E2,w2,by rw[eH];exact .inl ⟨hx,rfl,rfl,rfl⟩,?_,?_,?_⟩;unfold sh;rw[if_pos (by show(-1:Int)<0;omega)];rfl;unfold ef;rw[if_pos (by show(-1:Int)<0;omega)];rfl;rw[leaves,if_pos J];exact h
  | @opn _ p _ _ E2 w2 hx h0 h1 h2 hc h=>
   unfold opened at h;have hE:E2.length<N:=by simp at hN;omega
   obtain⟨ts,E3,w3,k1,rfl,rfl,k4⟩:=OI N (fun hN h=>OJ N hN h) hE h
   cases k4 with
   | @close _ _ _ E4 _ k4=>
    have hp:¬p<0:=by omega
    refine⟨.mk p 0 ts,E4,w3,by rw[eH];exact .inr ⟨hx,h0,h1,h2,rfl,k1⟩,?_,?_,?_⟩;unfold sh;rw[if_neg (by show ¬p<0;exact hp)];unfold xG;rw[dG];simp[ZI];unfold ef;rw[if_neg (by show ¬p<0;exact hp),jy];rw[leaves,if_neg hp];exact k4
mutual
theorem sE:∀{t:Tree} {x:bX} {u:Nat},eH l t x u->pI l x (ef l t x)
 | .mk p k kids,x,u,h=>by
  rw[eH]at h;rcases h with⟨h1,rfl,rfl,rfl⟩|⟨h1,h2,h3,h4,rfl,h5⟩
  unfold ef;rw[if_pos (by show(-1:Int)<0;omega)];exact .nf h1;unfold ef;rw[if_neg (by show ¬p<0;omega),jy];exact .MY h1 (fV h2 h3) h4 (za h5)
theorem za:∀{ks:List Tree} {b:List bX} {u:Nat},dl l ks b u->lJ l b (gi l ks b)
 |[],[],_,_=> .nil
 |[],_::_,_,h=>by rw[dl]at h;exact h.elim
 |_::_,[],_,h=>by rw[dl]at h;exact h.elim
 |t::r,y::b,u,h=>by
  rw[dl]at h;rw[me];exact .cons (sE h.1) (za h.2)
end
mutual
theorem og:∀{x:bX} {ws:List Int},pI l x ws->∀(u:Nat),∃t,eH l t x u/\ef l t x=ws
 |x,_,.nf h,u=>⟨.mk (-1) (u:Int) [],by rw[eH];exact .inl ⟨h,rfl,rfl,rfl⟩,by unfold ef;rw[if_pos (by show(-1:Int)<0;omega)]⟩
 |x,_,.MY (p:=p) h hp hx hd,u=>by
  obtain⟨i,hi,e⟩:=abz hp;have he:bJ l (i:Int)=p:=by unfold bJ;rw[cX,bD,bm hi,e];rfl
  obtain⟨ts,h1,h2⟩:=zb hd u;refine⟨.mk (i:Int) 0 ts,by rw[eH,he];exact .inr ⟨h,by omega,by omega,hx,rfl,h1⟩,?_⟩;unfold ef;rw[if_neg (by show ¬(i:Int)<0;omega),jy,he];exact h2
theorem zb:∀{b:List bX} {ws:List Int},lJ l b ws->∀(u:Nat),∃ts,dl l ts b u/\gi l ts b=ws
 |_,_,.nil,u=>⟨[],by rw[dl];trivial,rfl⟩
 |_,_,.cons h1 h2,u=>by
  obtain⟨t,k1,k2⟩:=og h1 u;obtain⟨ts,k3,k4⟩:=zb h2 (u+leaves t);exact⟨t::ts,by rw[dl];exact⟨k1,k3⟩,by rw[me,k2,k4]⟩
end
end
theorem B5{l:List aM.Prod}{C:Int->Nat->Int->Prop}{E:List bX}{w:List Int}(h:sN l C [.sym (2,0)] 0 E w):∃t,eH l t (2,0) 0/\xG l t=E/\fU l t=w:=by
 obtain⟨t,E2,w2,h1,h2,h3,h4⟩:=OJ (E.length+1) (o_ _) h
 cases h4
 have hp:¬t.prod<0:=by
  obtain⟨p,k,kids⟩:=t;rw[eH]at h1;rcases h1 with⟨h,_⟩|⟨_,h,_⟩
  cases h
  exact aby.2 h
 refine⟨t,h1,?_,?_⟩;rw[h2];unfold sh;rw[if_neg hp,dQ];rw[h3];unfold ef;rw[if_neg hp,dQ]
section
variable{g:dF}{T N:Nat}
def qS(g:dF)(T N:Nat):Int->Nat->Int:=fun n col=>wZ.rowAt g.az (cg.oe N g.az) T n.toNat col
theorem UA(col:Nat):Qs g.az (fun n=>qS g T N n col):=fun n h0=>by
 refine⟨(p6 n.toNat col g.az.length).2,fun hn=>?_⟩;have:=p7 (may:=cg.oe N g.az) (T:=T) n.toNat col g.az.length (aT _) h0;show(bJ g.az (fJ g.az (cg.oe N g.az) T n.toNat col g.az.length)).1=n
 rw[this];omega
structure afj(g:dF)(T N:Nat)(r:List Int)(st:List TD)(a:Nat)(out:List bX)(R:List bX×Nat×Int):Prop where
 err:R.2.2=0\/R.2.2=13\/R.2.2=14
 ge:a<=R.2.1
 le:R.2.1<=a+r.length
 all:R.2.2=0->R.2.1=a+r.length
 ok:R.2.2=0->∃E,R.1=out++E/\sN g.az (fun _ _ _=>True) st a E r
 far:∃st',(∀d∈st',pz g d)/\∀E w,sN g.az (fun _ _ _=>True) st' R.2.1 E w->∃E',sN g.az (fun _ _ _=>True) st a E' (r.take (R.2.1-a)++w)
theorem LB(hg:cD g=0):∀(r:List Int) (st:List TD) (a:Nat) (out:List bX),(∀d∈st,pz g d)->st.length<=60->afj g T N r st a out (ja g.az (qS g T N) T r st a out)
 | [],st,a,out,hs,hl=>by
  rw[ja];have he:=w6 (R:=tv g.az (fun n=>qS g T N n T) st) I;refine⟨?_,aT _,aT _,fun _=>rfl,fun h0=>⟨_,rfl,adl hg (UA T) (fun _ _ _=>trivial) I h0 hs⟩,st,hs,fun E w h=>⟨E,by simpa using h⟩⟩;rcases he with⟨h,_⟩|⟨_,_,h⟩
  exact .inr h;exact .inl h
 | t ::r,st,a,out,hs,hl=>by
  rw[ja];have hp:=tA (R:=iB g.az (fun n=>qS g T N n t.toNat) st a t) I;split
  ·rename_i c
   refine⟨?_,aT _,Bo _ _,fun h=>absurd h c,fun h=>absurd h c,st,hs,fun E w h=>⟨E,by simpa using h⟩⟩;rcases hp with⟨h,_⟩|⟨_,_,_,_,_,_,_,_,_,h⟩
   exact .inr h;rw[h];exact .inl I
  rename_i c
  have c:(iB g.az (fun n=>qS g T N n t.toNat) st a t).1=0:=by simpa using c
  obtain⟨k1,k2,k3⟩:=Tt hg (UA t.toNat) rfl c hs hl;have hR:=LB hg r _ (a+1) (out++(iB g.az (fun n=>qS g T N n t.toNat) st a t).2.2) k1 k2;generalize ja g.az (qS g T N) T r (iB g.az (fun n=>qS g T N n t.toNat) st a t).2.1 (a+1) (out++(iB g.az (fun n=>qS g T N n t.toNat) st a t).2.2)=R at*;obtain⟨z1,z2,z3,z4,z5,st',z6,z7⟩:=hR;refine⟨z1,by omega,by simp;omega,fun h=>by rw[z4 h];simp;omega,fun h=>?_,st',z6,fun E w h=>?_⟩
  ·obtain⟨E,y1,y2⟩:=z5 h
   exact⟨_,by rw[y1,dL],M9 hg (UA t.toNat) (fun _ _ _=>trivial) I c hs y2⟩
  obtain⟨E',y⟩:=z7 E w h;refine⟨(iB g.az (fun n=>qS g T N n t.toNat) st a t).2.2++E',?_⟩;rw[show R.2.1-a=(R.2.1-(a+1))+1 by omega,mV];exact M9 hg (UA t.toNat) (fun _ _ _=>trivial) I c hs y
theorem drop_cons{W:List Int}{a:Nat}{t:Int}{r:List Int}(h:W.drop a=t::r):a<W.length/\W.getD a 0=t/\W.drop (a+1)=r:=by
 have h1:a<W.length:=by
  rcases x9 a W.length with h1|h1
  exact h1;rw[fS h1]at h;cases h
 rw[dJ h1]at h;obtain⟨e1,e2⟩:=oc h;exact⟨h1,by rw[bD,bm h1,e1];rfl,e2⟩
theorem AN{W:List Int}:∀(r:List Int) (st:List TD) (a:Nat) (out:List bX) {E:List bX},r=W.drop a->sN g.az (fun n u p=>qS g T N n (dW T W u)=p) st a E r->
 (ja g.az (qS g T N) T r st a out).2.2=14\/((ja g.az (qS g T N) T r st a out).2.2=0/\(ja g.az (qS g T N) T r st a out).1=out++E/\(ja g.az (qS g T N) T r st a out).2.1=a+r.length)
 | [],st,a,out,E,hr,h=>by
  rw[ja];have hc:dW T W a=T:=by
   unfold dW;rw[if_neg];intro hl;rw[dJ hl]at hr
   cases hr
  rcases adk (nx:=fun n=>qS g T N n T) (fun n p h=>by rw[hc]at h;exact h) I h with e|⟨e1,e2⟩
  exact .inl e;exact .inr ⟨e1,by rw[e2],rfl⟩
 | t::r,st,a,out,E,hr,h=>by
  rw[ja];obtain⟨h1,h2,h3⟩:=drop_cons hr.symm;have hc:dW T W a=t.toNat:=by unfold dW;rw[if_pos h1,h2]
  rcases M_ (nx:=fun n=>qS g T N n t.toNat) (t:=t) (fun n p h=>by rw[hc]at h;exact h) I h with e|⟨e1,E2,e2,e3⟩
  rw[if_pos (by rw[e];decide)];exact .inl e;rw[if_neg (by rw[e1];simp)];rcases AN r _ (a+1) (out++(iB g.az (fun n=>qS g T N n t.toNat) st a t).2.2) h3.symm e3 with y|⟨y1,y2,y3⟩
  exact .inl y;exact .inr ⟨y1,by rw[y2,e2,dL],by rw[y3];simp;omega⟩
theorem xf{W:List Int}:∀(m:Nat) (r:List Int) (st:List TD) (a:Nat) (out:List bX) {E:List bX},m<=r.length->m<=(W.drop a).length->r.take m=(W.drop a).take m->sN g.az (fun n u p=>qS g T N n (dW T W u)=p) st a E (W.drop a)->
 (∀R,R=ja g.az (qS g T N) T r st a out->a<=R.2.1)->(ja g.az (qS g T N) T r st a out).2.2=14\/a+m<=(ja g.az (qS g T N) T r st a out).2.1
 |0,r,st,a,out,E,_,_,_,_,hge=> .inr (hge _ I)
 |m+1,[],st,a,out,E,h,_,_,_,_=>by simp at h
 | m + 1,t::r,st,a,out,E,h,hm,he,hr,_=>by
  cases hW:W.drop a with
  |nil=>rw[hW]at hm;simp at hm
  | cons t' r'=>
   rw[hW]at he hr hm;simp only[mV,fg]at he;obtain⟨rfl,he⟩:=he;obtain⟨h1,h2,h3⟩:=drop_cons hW;have hc:dW T W a=t.toNat:=by unfold dW;rw[if_pos h1,h2]
   rw[ja];rcases M_ (nx:=fun n=>qS g T N n t.toNat) (t:=t) (fun n p h=>by rw[hc]at h;exact h) I hr with e|⟨e1,E2,e2,e3⟩
   rw[if_pos (by rw[e];decide)];exact .inl e;rw[if_neg (by rw[e1];simp)];rcases xf m r _ (a+1) (out++(iB g.az (fun n=>qS g T N n t.toNat) st a t).2.2) (by simp at h;omega) (by rw[h3];simp at hm;omega) (by rw[h3];exact he) (by rw[h3];exact e3) (fun R hR=>by
    subst hR;exact abX _ _ _ _)with y|y
   exact .inl y;exact .inr J
where
 abX:∀(r:List Int) (st:List TD) (a:Nat) (out:List bX),a<=(ja g.az (qS g T N) T r st a out).2.1
 |[],st,a,out=>by rw[ja];exact aT _
 |t::r,st,a,out=>by
  rw[ja];split;exact aT _;exact eC (Bp a) (abX r _ (a+1) _)
theorem GO(hg:cD g=0):∀d∈[TD.sym (2,0)],pz g d:=by
 intro d hd;rw[dH]at hd;subst hd;have:=(cz hg).2.2.1;show right g.aQ g.bB (2,0)=aB
 unfold right;rw[if_neg akV,if_pos I];simp only[kz,decide_true,rP,decide_eq_true_eq];omega
theorem zc(hg:cD g=0)(hT:g.aQ=T)(hN:g.bB=N)(hf:cg.Jc g.az (cg.oe N g.az) T N=aB){t:Tree}{W:List Int}(h:eH g.az t (2,0) 0)(hy:fU g.az t=W):sN g.az (fun n u p=>qS g T N n (dW T W u)=p) [.sym (2,0)] 0 (xG g.az t) W:=by
 have hp:¬t.prod<0:=by
  obtain⟨p,k,kids⟩:=t;rw[eH]at h;rcases h with⟨h,_⟩|⟨_,h,_⟩
  cases h
  exact aby.2 h
 have hw:∀x∈W,0<=x/\x<(T:Int):=by rw[<-hy,<-hT];exact Fb hg h J
 have hd:=cg.abK hg hT hN hf h hy hw;have:=GM (C:=fun n u p=>qS g T N n (dW T W u)=p) (nx:=cg.nxG g T N W) (.inr fun n u p h=>h) (st:=[]) (E:=[]) (w:=[]) h (.inr fun _=>hd) .nil;unfold sh ef at this;rw[if_neg hp,if_neg hp,dQ,dQ,hy]at this;exact this
theorem Ss(hg:cD g=0)(hT:g.aQ=T)(hN:g.bB=N)(hf:cg.Jc g.az (cg.oe N g.az) T N=aB){W:List Int}:
 ((ja g.az (qS g T N) T W [.sym (2,0)] 0 []).2.2=0->∃t,eH g.az t (2,0) 0/\xG g.az t=(ja g.az (qS g T N) T W [.sym (2,0)] 0 []).1/\fU g.az t=W)/\
 ∀t,eH g.az t (2,0) 0->fU g.az t=W->(ja g.az (qS g T N) T W [.sym (2,0)] 0 []).2.2=14\/((ja g.az (qS g T N) T W [.sym (2,0)] 0 []).2.2=0/\(ja g.az (qS g T N) T W [.sym (2,0)] 0 []).1=xG g.az t/\(ja g.az (qS g T N) T W [.sym (2,0)] 0 []).2.1=W.length):=by
 refine⟨fun h=>?_,fun t h hy=>?_⟩
 ·obtain⟨E,h1,h2⟩:=(LB (T:=T) (N:=N) hg W [.sym (2,0)] 0 [] (GO hg) akV).ok h
  obtain⟨t,k1,k2,k3⟩:=B5 h2;exact⟨t,k1,by rw[k2,h1];rfl,k3⟩
 ·rcases AN (T:=T) (N:=N) W [.sym (2,0)] 0 [] (by rfl) (zc hg hT hN hf h hy)with h|⟨h1,h2,h3⟩
  exact .inl h;exact .inr ⟨h1,by rw[h2];rfl,by rw[h3];simp⟩
theorem xg(hM:∀i:Nat,i<N->∃ws,pI g.az (2,(i:Int)) ws)(hN:g.bB=N):∀(st:List TD) (u:Nat),(∀d∈st,pz g d)->∃E w,sN g.az (fun _ _ _=>True) st u E w
 |[],u,_=>⟨[],[],.nil⟩
 | .close p::st,u,h=>by
  obtain⟨E,w,k⟩:=xg hM hN st u fun d hd=>h d (iI _ hd);exact⟨_,_,.close k⟩
 | .sym x::st,u,h=>by
  have hx:right g.aQ g.bB x=true:=h _ (fc ..);have hd:∃ws,pI g.az x ws:=by
   obtain⟨q,m⟩:=x;unfold right at hx;dsimp only at hx;split at hx
   ·rename_i c;subst c;exact⟨[m],.nf I⟩
   split at hx
   ·rename_i c;subst c
    simp at hx;obtain⟨ws,hw⟩:=hM m.toNat J;exact⟨ws,by rw[show m=(m.toNat:Int)by omega];exact hw⟩
   cases hx
  obtain⟨ws,hd⟩:=hd;obtain⟨t,h1,h2⟩:=og hd u;obtain⟨E,w,k⟩:=xg hM hN st (u+leaves t) fun d hd=>h d (iI _ hd);exact⟨_,_,GM (nx:=fun _ _=>0) (.inl fun _ _ _=>trivial) h1 (.inl fun _ _ _=>trivial) k⟩
theorem sF{l:List aM.Prod}{t:Tree}(h:eH l t (2,0) 0):0<=t.prod:=by
 obtain⟨p,k,kids⟩:=t;rw[eH]at h;rcases h with⟨h,_⟩|⟨_,h,_⟩
 cases h
 exact h
theorem mH{l:List aM.Prod}{t:Tree}(h:eH l t (2,0) 0):ef l t (2,0)=fU l t:=by
 unfold ef;rw[if_neg (by have:=sF h;omega)]
theorem OK(hg:cD g=0)(hN:g.bB=N)(hM:∀i:Nat,i<N->∃ws,pI g.az (2,(i:Int)) ws){W:List Int}(hc:fB g W=0):gX g (W.take (ja g.az (qS g T N) T W [.sym (2,0)] 0 []).2.1)=true:=by
 obtain⟨st',h1,h2⟩:=(LB (T:=T) (N:=N) hg W [.sym (2,0)] 0 [] (GO hg) akV).far;obtain⟨E,w,k⟩:=xg hM hN st' _ h1;obtain⟨E',k'⟩:=h2 E w k;obtain⟨t,y1,y2,y3⟩:=B5 k';rw[GD]at y3;refine mG.2 ⟨?_,w,?_⟩
 ·have:=(OH hc)
  have h3:W.length<=20:=by
   unfold fB at hc;split at hc;exact absurd hc (by assumption);split at hc
   cases hc
   omega
  exact Jg hg (by rw[gZ];omega) (wH _ this)
 rw[<-y3,<-mH y1];exact sE y1
theorem abY(hg:cD g=0)(hT:g.aQ=T)(hN:g.bB=N)(hf:cg.Jc g.az (cg.oe N g.az) T N=aB){W:List Int}(zn:(ja g.az (qS g T N) T W [.sym (2,0)] 0 []).2.2≠14)(hl:(ja g.az (qS g T N) T W [.sym (2,0)] 0 []).2.1<W.length):gX g (W.take ((ja g.az (qS g T N) T W [.sym (2,0)] 0 []).2.1+1))=false:=by
 generalize hR:ja g.az (qS g T N) T W [.sym (2,0)] 0 []=R at*
 cases hb:gX g (W.take (R.2.1+1))with
 |false=>rfl
 | true=>
  obtain⟨_,v,hd⟩:=mG.1 hb;obtain⟨t,h1,h2⟩:=og hd 0;rw[mH h1]at h2;have hlen:(W.take (R.2.1+1)).length=R.2.1+1:=by rw[gZ];omega
  have:=xf (g:=g) (T:=T) (N:=N) (W:=W.take (R.2.1+1)++v) (R.2.1+1) W [.sym (2,0)] 0 [] J (by rw[pf,bK];omega)
   (by rw[pf,List.take_append_of_le_length J,abE,Nat.min_self]) (zc hg hT hN hf h1 h2) (fun R' _=>bC _)
  rw[hR]at this;rcases this with h|h
  exact absurd h zn;omega
end
end gK
namespace cg
open Go.RowKit cT ey aM dN gK wZ ee dx o8
abbrev GP(g:dF)(T N:Nat):List (List Int):=lH N fun n=>lH (T+1) (wZ.rowAt g.az (oe N g.az) T n)
theorem AO{α:Type}{len:Nat}{f:Nat->α}{d:α}(k:Nat):(lH len f).getD k d=if k<len then f k else d:=by
 rw[bD]
 by_cases h:k<len
 rw[uX _ h,if_pos h];rfl;rw[ii (by rw[hY];omega),if_neg h];rfl
theorem ag0{g:dF}{T N:Nat}(hg:cD g=0)(hN:g.bB=N){col:Nat}(hc:col<=T)(n:Int):jW (GP g T N) col n=qS g T N n col:=by
 unfold jW qS;rw[AO]
 by_cases h:n.toNat<N
 rw[if_pos h,AO,if_pos J];rw[if_neg h];show(-1:Int)=_
 have h1:=p6 (l:=g.az) (may:=oe N g.az) (T:=T) n.toNat col g.az.length;have h2:=p7 (l:=g.az) (may:=oe N g.az) (T:=T) n.toNat col g.az.length (aT _);unfold wZ.rowAt
 by_cases h3:fJ g.az (oe N g.az) T n.toNat col g.az.length<0
 omega;have h3:0<=fJ g.az (oe N g.az) T n.toNat col g.az.length:=by omega
 have h4:=h2 h3;have:=((cz hg).2.2.2.2.2 _ (fV h3 h1.2)).2.2.1;omega
theorem ag1{g:dF}{T N:Nat}(hT:g.aQ=T)(hN:g.bB=N):OE g (GP g T N) T N where
 aQ:=hT
 bB:=hN
 len:=hY _ _
 row r hr:=by
  obtain⟨n,_,rfl⟩:=eI.1 hr;exact hY _ _
 nx col n h0:=by
  unfold jW at h0⊢;rw[AO]at h0⊢
  by_cases h:n.toNat<N
  ·rw[if_pos h]at h0⊢
   rw[AO]at h0⊢
   by_cases h2:col<T+1
   ·rw[if_pos h2]at h0⊢
    refine⟨(p6 n.toNat col g.az.length).2,fun hn=>?_⟩;have:=p7 (may:=oe N g.az) (T:=T) n.toNat col g.az.length (aT _) h0;unfold wZ.rowAt;rw[this];omega
   rw[if_neg h2]at h0;omega
  rw[if_neg h]at h0;have:([]:List Int).getD col (-1)= -1:=rfl;omega
theorem Ji{l:List aM.Prod}{n:Nat}:∀r:List Int,(∀p∈r,-1<=p/\p<(l.length:Int)/\(0<=p->(bJ l p).1=(n:Int)))->tP l n r=0
 |[],_=>rfl
 |p::r,h=>by
  have hp:=h p (fc ..);rw[tP,if_neg J,if_neg J,if_neg (by rintro⟨h1,h2⟩;exact h2 (hp.2.2 h1))];exact Ji r fun p hp=>h p (iI _ hp)
theorem GQ{l:List aM.Prod}{t:Int}:∀(rows:List (List Int)) (n:Nat),(∀i (h:i<rows.length),(rows[i].length:Int)=t+1/\tP l (n+i) rows[i]=0)->rf l t n rows=0
 |[],_,_=>rfl
 | r ::rs,n,h=>by
  have h0:=h 0 (by simp);simp only[List.getElem_cons_zero,ji]at h0;rw[rf,if_neg (by simp[h0.1]),if_neg (by simp[h0.2])];exact GQ rs (n+1) fun i hi=>by
   have:=h (i+1) (by simp;omega);simp only[List.getElem_cons_succ]at this;rw[show n+1+i=n+(i+1)by omega];exact this
theorem OL{g:dF}{T N:Nat}(hg:cD g=0)(hT:g.aQ=T)(hN:g.bB=N):Lr g (GP g T N)=0:=by
 unfold Lr;rw[if_neg (by simp[hg]),hY,if_neg (by simp[hN])];refine GQ _ 0 fun i hi=>?_;rw[hY]at hi;have rI:(GP g T N)[i]'(by rw[hY];exact hi)=lH (T+1) (wZ.rowAt g.az (oe N g.az) T i):=by simp[lH]
 rw[rI];refine⟨by rw[hY,hT];rfl,Ji _ fun p hp=>?_⟩;obtain⟨c,_,rfl⟩:=eI.1 hp;have h1:=p6 (l:=g.az) (may:=oe N g.az) (T:=T) i c g.az.length;refine⟨h1.1,h1.2,fun h0=>?_⟩;rw[cI];exact p7 (l:=g.az) (may:=oe N g.az) (T:=T) i c g.az.length (aT _) h0
theorem GR{l:List aM.Prod}{nx NG:Int->Nat->Int}{T:Nat}(h:∀col,col<=T->(fun n=>nx n col)=fun n=>NG n col):∀(word:List Int) (st:List TD) (a:Nat) (out:List bX),(∀x∈word,0<=x/\x<(T:Int))->ja l nx T word st a out=ja l NG T word st a out
 |[],st,a,out,_=>by rw[ja,ja,h T (aT _)]
 |t::r,st,a,out,hw=>by
  have ht:=hw t (fc ..);rw[ja,ja,h t.toNat J];split;rfl;exact GR h r _ _ _ fun x hx=>hw x (iI _ hx)
theorem run_eq{g:dF}{T N:Nat}(hg:cD g=0)(hN:g.bB=N){word:List Int}(hw:∀x∈word,0<=x/\x<(T:Int)):ja g.az (fun n col=>jW (GP g T N) col n) T word [.sym (2,0)] 0 []=ja g.az (qS g T N) T word [.sym (2,0)] 0 []:=
 GR (fun col hc=>funext fun n=>ag0 hg hN hc n) word _ _ _ hw
theorem abZ(seen:Int)(st:List TD)(l:List bX):ue seen (0,st,l)=⟨fun _=>True,fun x=> .tuple #[AW x.1 (seen+1) 0 aD,x.2,ap av 0],fun x=>[xt x.1 st,rT x.2 l]⟩:=by unfold ue;simp
theorem W8(seen:Int){e:Int}(he:e≠0)(st:List TD)(l:List bX):ue seen (e,st,l)=⟨fun _=>True,fun x=> .tuple #[AW (ak aj 0 0) seen e aD,ak aj 0 0,ap av e],fun x=>[]⟩:=by unfold ue;simp[he]
theorem aev(seen:Int)(l:List bX):LA seen (0,l)=⟨fun _=>True,fun x=> .tuple #[AW (ak aj 0 0) seen 0 aB,x,ap av 0],fun x=>[rT x l]⟩:=by unfold LA;simp
theorem ab0(seen:Int){e:Int}(he:e≠0)(l:List bX):LA seen (e,l)=⟨fun _=>True,fun x=> .tuple #[AW (ak aj 0 0) seen e aD,ak aj 0 0,ap av e],fun x=>[]⟩:=by unfold LA;simp[he]
theorem UB{v:Value}{a b:List bX}:bx 55 2 v (a.length+b.length) (a.flatMap dS++b.flatMap dS)=rT v (a++b):=by unfold rT;rw[bK,fH]
theorem ab1(l:List bX):(l.flatMap dS).length=l.length*2:=nS (f:=dS) (c:=2) (fun _=>rfl) l
end cg
namespace qE
open Go.RowKit cT ey cg c_
def Dg(o:Of)(N:List (List Int))(now:Int)(b:UInt8):Int:=(N.getD now.toNat []).getD (o.toList.getD b.toNat 0) 0
def qG(o:Of)(N:List (List Int))(tags:List Int):List UInt8->Nat->Int->Int->Nat->Int×Nat
 |[],_,_,r,t=>(r,t)
 | b::s,i,now,r,t=>
  if Dg o N now b<0 then(r,t)
  else if 0<=tags.getD (Dg o N now b).toNat 0 then qG o N tags s (i+1) (Dg o N now b) (tags.getD (Dg o N now b).toNat 0) (i+1)
  else qG o N tags s (i+1) (Dg o N now b) r t
def eo(o:Of)(N:List (List Int))(tags:List Int)(s:List UInt8)(fr:Nat):Int×Nat:=qG o N tags (s.drop fr) fr 0 0 0
theorem tQ(o:Of)(N:List (List Int))(tags:List Int)(b:UInt8)(s:List UInt8)(i:Nat)(now r:Int)(t:Nat):qG o N tags (b::s) i now r t=
 if Dg o N now b<0 then(r,t)
 else if 0<=tags.getD (Dg o N now b).toNat 0 then qG o N tags s (i+1) (Dg o N now b) (tags.getD (Dg o N now b).toNat 0) (i+1)
 else qG o N tags s (i+1) (Dg o N now b) r t:=rfl
abbrev Tok:=Int×Nat×Nat
def mg(o:Of)(N:List (List Int))(tags:List Int)(s:List UInt8):Nat->Nat->List Tok×Nat×Int
 |0,_=>([],0,0)
 |f+1,at'=>if at'<s.length then(if(eo o N tags s at').2=0 then([],at',9)else((((eo o N tags s at').1,at',(eo o N tags s at').2)::(mg o N tags s f (eo o N tags s at').2).1),(mg o N tags s f (eo o N tags s at').2).2))else([],0,0)
def qH(o:Of)(N:List (List Int))(tags:List Int)(s:List UInt8):List Tok×Nat×Int:=mg o N tags s (s.length+1) 0
theorem qI(o:Of)(N:List (List Int))(tags:List Int)(s:List UInt8)(f at':Nat):mg o N tags s (f+1) at'=if at'<s.length then(if(eo o N tags s at').2=0 then([],at',9)else((((eo o N tags s at').1,at',(eo o N tags s at').2)::(mg o N tags s f (eo o N tags s at').2).1),(mg o N tags s f (eo o N tags s at').2).2))else([],0,0):=rfl
theorem GS(o:Of)(N:List (List Int))(tags:List Int):∀(s:List UInt8) (i:Nat) (now r:Int) (t:Nat),(qG o N tags s i now r t).2=t\/(i<(qG o N tags s i now r t).2/\(qG o N tags s i now r t).2<=i+s.length)
 |[],_,_,_,_=> .inl I
 | b ::s,i,now,r,t=>by
  rw[tQ];split;exact .inl I;split
  ·rcases GS o N tags s (i+1) (Dg o N now b) (tags.getD (Dg o N now b).toNat 0) (i+1)with h|h
   rw[h];exact .inr ⟨by omega,by rw[cO];omega⟩;exact .inr ⟨by omega,by rw[cO];omega⟩
  rcases GS o N tags s (i+1) (Dg o N now b) r t with h|h
  exact .inl h;exact .inr ⟨by omega,by rw[cO];omega⟩
theorem UC{o:Of}{N:List (List Int)}{tags:List Int}{s:List UInt8}{fr:Nat}(hf:fr<=s.length):(eo o N tags s fr).2=0\/(fr<(eo o N tags s fr).2/\(eo o N tags s fr).2<=s.length):=by
 rcases GS o N tags (s.drop fr) fr 0 0 0 with h|h
 exact .inl h
 right
 rw[ik]at h;exact⟨h.1,by have:=h.2;show(qG _ _ _ _ _ _ _ _).2<=_;omega⟩
theorem Su{o:Of}{N:List (List Int)}{tags:List Int}(h:np o N tags){q:Nat}(hq:q<N.length)(b:UInt8):
 ∃(h1:q<N.length) (h2:o[b.toNat]'b.toNat_lt<N[q].length),Dg o N (q:Int) b=N[q][o[b.toNat]'b.toNat_lt]/\ -1<=Dg o N (q:Int) b/\Dg o N (q:Int) b<N.length:=by
 have hw:o[b.toNat]'b.toNat_lt<N[q].length:=by rw[h.row q hq];exact h.of _ _
 have e:Dg o N (q:Int) b=N[q][o[b.toNat]'b.toNat_lt]:=by
  unfold Dg;rw[cX,bD (l:=N),bm hq,iz,bD (l:=o.toList),bm (by rw[Vector.length_toList];exact b.toNat_lt),iz,mF,bD,bm hw];rfl
 have hr:=h.rng q hq _ hw;exact⟨hq,hw,e,by rw[e];exact hr.1,by rw[e];exact hr.2⟩
end qE
namespace cg
open Go.RowKit cT ey c_ qE
theorem ag2{vn vt:Value}(o:Of)(b:UInt8):(jm o vn vt).toArray[0+b.toNat]?=ah (.int .u8 ((o[b.toNat]'b.toNat_lt:Nat):Int)):=by
 rw[cI];exact aii o vn vt b.toNat_lt
theorem GU(o:Of)(vn vt:Value)(N:List (List Int))(tags:List Int)(s:List UInt8)(w:World)(h:PkI w vn vt N tags)(ho:∀b (h:b<256),o[b]<256)(hs:s.length<=9223372036854775807):
 Calls aC 49 #[Pf o vn vt,str s] w (cJ (ret (ap av (if sB o N tags≠0 then sB o N tags else if 2000<s.length then 2 else 0))) w):=by
 have h_:=fun w' (hg:Gr w w')=>CK o vn vt N tags w' (h.gr hg) ho;obtain⟨⟨an,cn,rfl,-⟩,at',ct,rfl,-⟩:=h;generalize sB o N tags=e at*;refine enter (args:=[Pf o (ak an N.length cn) (ak at' tags.length ct),str s]) (n:=14) Tryz.func49 I I I ?_;refine bY (a_ (bQ I I I fun g2=>?_));refine zL ?_
 repeat(first|refine GA ?_|refine gV (aL (i:=0) aI.ty I I (jU _ _ _)) ?_)
 refine aW (kZ aF.en I I) (fun w hm=>h_ _ hm.below) I I I ?_;intro _ _;refine zL ?_
 by_cases c1:e=0
 ·rw[if_neg (by simpa using c1)]
  by_cases c2:2000<s.length
  ·rw[if_pos c2]
   repeat(first|refine GC ?_|refine gV (dz (b:=aD) I I (decide_eq_false (by simpa using c1))) ?_|refine gV (eP (b:=aB) I I (decide_eq_true J)) ?_|refine GB ?_)
   exact eU I I I
  rw[if_neg c2]
  repeat(first|refine GC ?_|refine gV (dz (b:=aD) I I (decide_eq_false (by simpa using c1))) ?_|refine gV (eP (b:=aD) I I (decide_eq_false J)) ?_|refine GB ?_)
  exact eU I I I
 ·rw[if_pos c1]
  repeat(first|refine GC ?_|refine gV (dz (b:=aB) I I (decide_eq_true c1)) ?_|refine GB ?_)
  exact eU I I I
def mI(t:Tok):List Value:=[ap av t.1,ap av (t.2.1:Int),ap av (t.2.2:Int)]
theorem OM(t:Tok):(mI t).length=3:=rfl
theorem Sv(f:Nat)(w:World):(dm 53 #[(1,ap av (f:Int))]).run aC w= .ok (aP (mI (0,f,0)).toArray) w:=by
 unfold mI;go_simp
theorem Sw(w:World):(dm 53 (#[]:Array (Nat×Value))).run aC w= .ok (aP (mI (0,0,0)).toArray) w:=by kernel_rfl
def aew(fr:Nat)(x:Int×Nat):Value:=if x.2=0 then .tuple #[aP (mI (0,0,0)).toArray,.bool aD]else .tuple #[aP (mI (x.1,fr,x.2)).toArray,.bool aB]
theorem LC(o:Of)(vn vt:Value)(N:List (List Int))(tags:List Int)(s:List UInt8)(fr:Nat)(w:World)(h:PkI w vn vt N tags)(hg:np o N tags)(hs:s.length<=1000000)(hf:fr<=s.length):
 Calls aC 50 #[Pf o vn vt,str s,ap av (fr:Int)] w (cJ (ret (aew fr (eo o N tags s fr))) w):=by
 have pJ:=fun {q} hq b=>Su hg (q:=q) hq b;have BN:=hg.pos;have hlen:=hg.len;have agB:=hg.tag;obtain⟨⟨an,cn,rfl,hn1,hn2,hn3⟩,at',ct,rfl,ht1,Zk,L4⟩:=h;unfold maxLen at hn2 Zk;obtain⟨bn,OD,rfl,_,PG⟩:=hn3 J;obtain⟨bt,Lv,rfl,htd⟩:=L4 J;clear hn3 L4 hg;have hbt:=Sv fr;have xl:=Sw;refine enter (args:=[Pf o (ak (ah ⟨bn,OD,aj⟩) N.length cn) (ak (ah ⟨bt,Lv,aj⟩) tags.length ct),str s,ap av (fr:Int)]) (n:=55) Tryz.func50 I I I ?_;refine bY (a_ (bQ I I I fun g3=>aY I fun g6=>?_));refine zL ?_
 repeat(first|refine GA ?_|refine gV (bz I hbt) ?_)
 refine aY I fun g9=>?_;refine zL ?_;refine gG 2 (cs':=(mI (0,fr,0)).toArray) ?_;refine zL ?_
 try refine GA ?_
 unfold eo;generalize lK:qG o N tags (s.drop fr) fr 0 0 0=fin;refine dU (ι:=Nat×Nat×Int×Nat) (fun(i,now,r,t)=>i<=s.length/\now<N.length/\t<=i/\qG o N tags (s.drop i) i (now:Int) r t=fin) (fun(i,now,_,_)=>[(1,str s),(3,aH (ah ⟨g3,0,aj⟩)),(6,aH (ah ⟨g6,0,aj⟩)),(8,ap av (now:Int)),(9,aH (ah ⟨g9,0,aj⟩)),(10,ap av (i:Int))])
  (fun(_,_,r,t)=>[aO g3 (jm o (ak (ah ⟨bn,OD,aj⟩) N.length cn) (ak (ah ⟨bt,Lv,aj⟩) tags.length ct)).toArray 30,aO g6 (mI (0,0,0)).toArray 53,aO g9 (mI (r,fr,t)).toArray 53]) (fun(i,_,_,_)=>s.length-i) (fr,0,0,0) ⟨hf,BN,bC _,lK⟩ ?_
 rintro⟨i,now,r,t⟩ ⟨i1,i2,i3,i4⟩;dsimp only at i1 i2 i3 i4⊢
 by_cases c1:i<s.length
 ·rw[dJ c1,tQ]at i4
  obtain⟨_,hw,hx0,kL,fQ⟩:=pJ i2 s[i];have hb:s[(i:Int).toNat]?=ah s[i]:=by rw[cX];exact bm c1
  have hcell:=ag2 (vn:=ak (ah ⟨bn,OD,aj⟩) N.length cn) (vt:=ak (ah ⟨bt,Lv,aj⟩) tags.length ct) o s[i];have hb8:=s[i].toNat_lt;obtain⟨u,⟨au,cu,rfl,hcu,hmu,hru⟩,hdu⟩:=Fv PG i2;have WY:=fun(L:List b9)=>jp (L:=L) hdu (j:=0) (v:= .slice au N[now].length cu) I;obtain⟨bu,aiH,rfl,fZ⟩:=hru J;have WZ:=fun(L:List b9)=>hU (L:=L) kh fZ hw 0 _ I;have aiM:∀(L:List b9),At (w:b_) L ⟨bu,aiH+o[s[i].toNat]*1+0,aj⟩ (ap av (Dg o N (now:Int) s[i])):=fun L=>by rw[hx0];exact WZ L
  clear hdu fZ hru WZ hx0 lK PG;generalize s[i]=b at*;generalize o[b.toNat]=ob at*;generalize Dg o N (now:Int) b=x at*;generalize N[now].length=wd at*
  try refine GA ?_
  refine dK ([aO g3 (jm o (ak (ah ⟨bn,OD,aj⟩) N.length cn) (ak (ah ⟨bt,Lv,aj⟩) tags.length ct)).toArray 30]) (.calm 0 (.calm 1 (.calm 2 (.calm 3 (.calm 4 (.calm 5 (.calm 6 (.calm 7 (.calm 8 (.calm 9 (.calm 10 (.calm 11 (.calm 12 (.calm 13 (.done))))))))))))))) (bZ [0]) ?_
  repeat(first|refine GW ?_|(refine GN ?_;first|refine QW (aw aI.ty I (aE (i:=0) I (oz _ _ _))) ?_|refine QW (aR (j:=now) bI.eq aI.ty I I i2) ?_|refine QW (aw aI.ty I (WY _)) ?_|refine QW (wO bI.eq I I J hb) ?_|refine QW (io bI.eq aI.ty I I hb8) ?_|refine QW (aw aI.ty I (aE (i:=0) I hcell)) ?_|refine QW (aR (j:=ob) bI.eq aI.ty I I hw) ?_|refine QW (aw aI.ty I (aiM _)) ?_))
  by_cases q1:x<0
  ·rw[if_pos q1]at i4
   subst i4;unfold aew
   by_cases e1:t=0
   ·subst e1
    rw[if_pos I]
    repeat(first|refine GC ?_|refine gV (dT (b:=aB) I I (decide_eq_true q1)) ?_|refine gV (aw (v:=ap av ((0:Nat):Int)) aI.ty I (aE (i:=2) I I)) ?_|refine gV (cP (b:=aB) I I (decide_eq_true (by simp))) ?_|refine gV (bz I xl) ?_|refine GB ?_)
    refine gG 1 (cs':=(mI (0,0,0)).toArray) ?_;refine zL ?_
    try refine GA ?_
    exact ez (i:=1) I I I I I fun w hm=>hm.ret
   rw[if_neg e1]
   repeat(first|refine GC ?_|refine gV (dT (b:=aB) I I (decide_eq_true q1)) ?_|refine gV (aw (v:=ap av (t:Int)) aI.ty I (aE (i:=2) I I)) ?_|refine gV (cP (b:=aD) I I (decide_eq_false J)) ?_|refine gV (aL (i:=2) aI.ty I I I) ?_|refine GB ?_)
   refine gG 1 (cs':=(mI (r,fr,t)).toArray) ?_;refine zL ?_
   try refine GA ?_
   exact ez (i:=1) I I I I I fun w hm=>hm.ret
  rw[if_neg q1]at i4;obtain⟨xn,rfl⟩:=fz (show 0<=x by omega);have hxt:xn<tags.length:=by omega
  have Oh:=fun(L:List b9)=>hU (L:=L) kh htd hxt 0 _ I;rw[cX,bD (l:=tags),bm hxt,iz]at i4;generalize tags[xn]=tg at*;have afk:∀(L:List b9),At (w:b_) L ⟨bt,Lv+xn*1+0,aj⟩ (ap av tg):=Oh
  by_cases q2:0<=tg
  ·rw[if_pos q2]at i4
   repeat(first|refine GC ?_|refine gV (dT (b:=aD) I I (decide_eq_false q1)) ?_|refine gV (aw aI.ty I (aE (i:=0) I (pA _ _ _))) ?_|refine gV (aR (j:=xn) bI.eq aI.ty I I hxt) ?_|refine gV (aw (v:=ap av tg) aI.ty I (afk _)) ?_|refine gV (fx (b:=aB) I I (decide_eq_true q2)) ?_|refine gV (dh (r:=((i+1:Nat):Int)) I I J J J) ?_|refine GB ?_)
   refine bT (i:=2) I I I I I I ?_;refine zL ?_
   try refine GA ?_
   refine bT (i:=2) I I I I I I ?_;refine zL ?_
   repeat(first|refine GC ?_|refine gV (dh (r:=((i+1:Nat):Int)) I I J J J) ?_|refine GB ?_)
   exact bO (i+1,xn,tg,i+1) ⟨by show i+1<=s.length;omega,by show xn<N.length;omega,aT _,i4⟩ (by show s.length-(i+1)<s.length-i;omega)
  rw[if_neg q2]at i4
  repeat(first|refine GC ?_|refine gV (dT (b:=aD) I I (decide_eq_false q1)) ?_|refine gV (aw aI.ty I (aE (i:=0) I (pA _ _ _))) ?_|refine gV (aR (j:=xn) bI.eq aI.ty I I hxt) ?_|refine gV (aw (v:=ap av tg) aI.ty I (afk _)) ?_|refine gV (fx (b:=aD) I I (decide_eq_false q2)) ?_|refine gV (dh (r:=((i+1:Nat):Int)) I I J J J) ?_|refine GB ?_)
  exact bO (i+1,xn,r,t) ⟨by show i+1<=s.length;omega,by show xn<N.length;omega,by show t<=i+1;omega,i4⟩ (by show s.length-(i+1)<s.length-i;omega)
 ·rw[uS J]at i4
  have i4:(r,t)=fin:=i4;subst i4;unfold aew
  by_cases e1:t=0
  ·subst e1
   rw[if_pos I]
   repeat(first|refine GC ?_|refine gV (aw (v:=ap av ((0:Nat):Int)) aI.ty I (aE (i:=2) I I)) ?_|refine gV (cP (b:=aB) I I (decide_eq_true (by simp))) ?_|refine gV (bz I xl) ?_|refine GB ?_)
   refine gG 1 (cs':=(mI (0,0,0)).toArray) ?_;refine zL ?_
   try refine GA ?_
   exact ez (i:=1) I I I I I fun w hm=>hm.ret
  rw[if_neg e1]
  repeat(first|refine GC ?_|refine gV (aw (v:=ap av (t:Int)) aI.ty I (aE (i:=2) I I)) ?_|refine gV (cP (b:=aD) I I (decide_eq_false J)) ?_|refine gV (aL (i:=2) aI.ty I I I) ?_|refine GB ?_)
  refine gG 1 (cs':=(mI (r,fr,t)).toArray) ?_;refine zL ?_
  try refine GA ?_
  exact ez (i:=1) I I I I I fun w hm=>hm.ret
end cg
namespace cg
open Go.RowKit cT ey c_ qE
noncomputable def Dh(o:Of)(N:List (List Int))(tags:List Int)(s:List UInt8):List Tok×Nat×Int:=if sB o N tags≠0 then([],0,sB o N tags)else if 2000<s.length then([],0,2)else qH o N tags s
theorem DR{o:Of}{N:List (List Int)}{tags:List Int}{s:List UInt8}(h:sB o N tags=0)(hs:s.length<=2000):Dh o N tags s=qH o N tags s:=by
 unfold Dh;rw[if_neg (by simpa using h),if_neg J]
abbrev CO(v:Value)(l:List Tok):b9:=bx 53 3 v l.length (l.flatMap mI)
def GV(R:List Tok×Nat×Int):Spec Value:=⟨fun _=>True,fun v=> .tuple #[v,ap av (R.2.1:Int),ap av R.2.2],fun v=>[CO v R.1]⟩
theorem W9(v:Value)(l:List Tok)(x:Tok):CO v (l++[x])=bx 53 3 v (l.length+1) (l.flatMap mI++mI x):=by
 unfold CO;rw[bK,fH];simp
theorem aex(t:Tok):∀u∈mI t,u.oneCell'=true:=by
 intro u h;simp only[mI,df,fI,or_false]at h;rcases h with rfl|rfl|rfl<;>rfl
theorem Jj(o:Of)(vn vt:Value)(N:List (List Int))(tags:List Int)(s:List UInt8)(w:World)(h:PkI w vn vt N tags)(ho:∀b (h:b<256),o[b]<256)(hs:s.length<=9223372036854775807):
 Calls aC 15 #[Pf o vn vt,str s] w (cJ (GV (Dh o N tags s)) w):=by
 have h_:=fun w' (hg:Gr w w')=>GU o vn vt N tags s w' (h.gr hg) ho hs;have jB:=fun hg hs (fr:Nat) hf w' (yA:Gr w w')=>LC o vn vt N tags s fr w' (h.gr yA) hg hs hf;have hA0:=fun h=>DR (o:=o) (N:=N) (tags:=tags) (s:=s) h;obtain⟨⟨an,cn,rfl,-⟩,at',ct,rfl,-⟩:=h
 by_cases c1:sB o N tags=0
 case neg=>
  have hA:Dh o N tags s=([],0,sB o N tags):=if_pos c1;rw[if_pos c1]at h_;rw[hA];clear hA0 hA jB;generalize sB o N tags=e at*;refine enter (args:=[Pf o (ak an N.length cn) (ak at' tags.length ct),str s]) (n:=40) Tryz.func15 I I I ?_;refine bY (a_ (bQ I I I fun g2=>?_));refine zL ?_
  repeat(first|refine GA ?_|refine gV (aL (i:=0) aI.ty I I (jU _ _ _)) ?_)
  refine aW (fP aF.en I I I) (fun w hm=>h_ _ hm.below) I I I ?_;intro _ _;refine zL ?_
  repeat(first|refine GC ?_|refine gV (dz (b:=aB) I I (decide_eq_true c1)) ?_|refine GB ?_)
  refine eL 53 3 ?_;exact m_ I I I I fun w hm=>hm.meets (S:=GV ([],0,e)) (ak aj 0 0) trivial [1] akV I
 by_cases c2:2000<s.length
 ·have hA:Dh o N tags s=([],0,2):=by unfold Dh;rw[if_neg (by simpa using c1),if_pos c2]
  rw[if_neg (by simpa using c1),if_pos c2]at h_;rw[hA];clear hA0 hA jB;refine enter (args:=[Pf o (ak an N.length cn) (ak at' tags.length ct),str s]) (n:=40) Tryz.func15 I I I ?_;refine bY (a_ (bQ I I I fun g2=>?_));refine zL ?_
  repeat(first|refine GA ?_|refine gV (aL (i:=0) aI.ty I I (jU _ _ _)) ?_)
  refine aW (fP aF.en I I I) (fun w hm=>h_ _ hm.below) I I I ?_;intro _ _;refine zL ?_
  repeat(first|refine GC ?_|refine gV (dz (b:=aB) I I (decide_eq_true akV)) ?_|refine GB ?_)
  refine eL 53 3 ?_;exact m_ I I I I fun w hm=>hm.meets (S:=GV ([],0,2)) (ak aj 0 0) trivial [1] akV I
 rw[if_neg (by simpa using c1),if_neg c2]at h_;have jB:=jB (WX c1) J;rw[hA0 c1 J];unfold qH;clear hA0 c1;refine enter (args:=[Pf o (ak an N.length cn) (ak at' tags.length ct),str s]) (n:=40) Tryz.func15 I I I ?_;refine bY (a_ (bQ I I I fun g2=>?_));refine zL ?_
 repeat(first|refine GA ?_|refine gV (aL (i:=0) aI.ty I I (jU _ _ _)) ?_)
 refine aW (fP aF.en I I I) (fun w hm=>h_ _ hm.below) I I I ?_;intro _ _;refine zL ?_;clear h_
 repeat(first|refine GC ?_|refine gV (dz (b:=aD) I I (decide_eq_false (by simp))) ?_|refine GB ?_)
 refine jw 53 3 ?_;generalize lK:mg o N tags s (s.length+1) 0=fin;refine dU (ι:=Nat×List Tok×Value×Nat) (fun(a,l,_,f)=>a<=s.length/\l.length<=a/\s.length<a+f/\fin=(l++(mg o N tags s f a).1,(mg o N tags s f a).2)) (fun(a,_,v,_)=>[(1,str s),(2,aH (ah ⟨g2,0,aj⟩)),(8,v),(9,ap av (a:Int))])
  (fun(_,l,v,_)=>[aO g2 (jm o (ak an N.length cn) (ak at' tags.length ct)).toArray 30,CO v l]) (fun(a,_,_,_)=>s.length-a) (0,[],ak aj 0 0,s.length+1) ⟨bC _,bC _,by omega,by rw[lK];rfl⟩ ?_
 clear lK;rintro⟨a,l,v,f⟩ ⟨i1,i2,i3,i4⟩;dsimp only at i1 i2 i3 i4⊢
 by_cases c1:a<s.length
 ·obtain⟨f,rfl⟩:∃f',f=f'+1:=⟨f-1,by omega⟩
  rw[qI,if_pos c1]at i4;have ht:=UC (o:=o) (N:=N) (tags:=tags) (s:=s) (fr:=a) J;have jB:=jB a J;generalize eo o N tags s a=x at*;obtain⟨r,t⟩:=x;dsimp only at i4 ht;unfold aew at jB
  by_cases q1:t=0
  ·subst q1
   rw[if_pos I]at i4 jB;subst i4
   repeat(first|refine GA ?_|refine gV (aL (i:=0) aI.ty I I (jU _ _ _)) ?_)
   refine aW (ye aF.en I I I I) (fun w hm=>jB _ hm.below) I I I ?_;intro _ _;refine zL ?_
   try refine GA ?_
   refine aY I fun g10=>?_;refine zL ?_;refine gG 2 (cs':=(mI (0,0,0)).toArray) ?_;refine zL ?_
   try refine GA ?_
   exact m_ I I I I fun w hm=>hm.meets (S:=GV (l++[],a,9)) v trivial [1] akV (by unfold GV;simp)
  rw[if_neg q1]at i4 jB;dsimp only at jB;have ht:=ht.resolve_left q1
  repeat(first|refine GA ?_|refine gV (aL (i:=0) aI.ty I I (jU _ _ _)) ?_)
  refine aW (ye aF.en I I I I) (fun w hm=>jB _ hm.below) I I I ?_;intro _ _;refine zL ?_
  try refine GA ?_
  refine aY I fun g10=>?_;refine zL ?_;refine gG 2 (cs':=(mI (r,a,t)).toArray) ?_;refine zL ?_
  try refine GA ?_
  refine dK ([aO g10 (mI (r,a,t)).toArray 53]) (.calm 0 (.calm 1 (.calm 4 (.calm 5 (.one 2 (.one 3 (.calm 6 (.calm 7 (.done))))))))) (bZ [2]) ?_
  repeat(first|refine GW ?_|(refine GN ?_;first|refine QW (aL (i:=0) aI.ty I I I) ?_|refine QW (aw (v:=ap av (t:Int)) aI.ty I (aE (i:=0) I I)) ?_))
  refine aJ I (fF (cs:=(mI (r,a,t)).toArray) [aP (mI (r,a,t)).toArray] I I I (by intro v hv;simp at hv;subst hv;rfl) I I I fun g35=>(aK (bZ [2]) ?_));refine aJ I (eT (i:=1) (e:=53) (size:=3) (bytes:=24) (m:=l.length) (xs:=l.flatMap mI) (k:=1) (ys:=mI (r,a,t)) I (k9 (i:=3) I (fun j u h=>by simpa using h) (aT 1) akV) I I I (fun u hu=>aex _ u hu) J J I fun v'=>(aK (bZ [2]) ?_))
  try refine GW ?_
  try refine GA ?_
  refine dv [0,1] ?_;exact bO (t,l++[(r,a,t)],v',f) ⟨ht.2,by show(l++[_]).length<=t;rw[bK,nT];omega,by show s.length<t+f;omega,by rw[i4];simp⟩ (by show s.length-t<s.length-a;omega) (hl:=by dsimp only;rw[W9];rfl)
 ·have e:mg o N tags s f a=([],0,0):=by
   cases f with
   |zero=>rfl
   |succ f=>rw[qI,if_neg c1]
  rw[e]at i4;subst i4
  try refine GA ?_
  exact m_ I I I I fun w hm=>hm.meets (S:=GV (l++[],0,0)) v trivial [1] akV (by unfold GV;simp)
end cg
namespace cg
open Go.RowKit cT ey zS c_
theorem jX(R:List Row):(RN R).length=R.length:=by unfold RN;simp
theorem DS(R:List Row){i:Nat}(h:i<R.length):(RN R)[i]'(by rw[jX];exact h)=AY (nB R 256) i:=by unfold RN;simp
theorem aey(D:List DG)(i:Nat){j:Nat}(h:j<D.length):(AY D i).getD j 0=(D[j]).toList.getD i 0:=by
 unfold AY;rw[bD,eQ,bm h];rfl
theorem aez(R:List Row)(hle:R.length<=200){i b:Nat}(hi:i<R.length)(hb:b<256):(AY (nB R 256) i).getD (pkN R b) 0=fX R i b:=by
 have hm:=DN R hb;unfold pkN;generalize nB R 256=D at*;rw[aey _ _ (lf hm),th (lf hm),Gi R b i hi hle]
theorem aeA(o:Of)(N:List (List Int)){i:Nat}(h:i<N.length):(unR o N)[i]'(by rw[Ur];exact h)=rK fun b:Fin 256=>N[i].getD o[b] 0:=by
 unfold unR;rw[List.getElem_map]
theorem aiN(R:List Row)(hle:R.length<=200):unR (uu R 256) (RN R)=R:=by
 refine List.ext_getElem (by rw[Ur,jX]) fun i h1 h2=>?_;have hi:i<R.length:=h2;rw[aeA _ _ (by rw[jX];exact hi),DS R hi];refine Vector.ext fun b hb=>?_;rw[jk];have e:(uu R 256)[b]'hb=pkN R b:=by
  unfold uu;rw[jk];simp[hb]
 show(AY (nB R 256) i).getD ((uu R 256)[b]'hb) 0=_
 rw[e,aez R hle hi hb,sy hi hb]
theorem aeB{R:List Row}{c:DG}(h:c∈nB R 256):∃b,b<256/\c=rS R b:=by
 unfold nB at h;rcases lc.1 h with h|h
 cases h
 obtain⟨b,hb,rfl⟩:=eI.1 h;exact⟨b,by simpa using hb,rfl⟩
theorem ag3{R:List Row}{tags:List Int}(h:lC R tags=0){i:Nat}(hi:i<R.length){x:Int}(hx:x∈AY (nB R 256) i): -1<=x/\x<R.length:=by
 obtain⟨hA,_⟩:=pe h;unfold AY at hx;obtain⟨c,hc,rfl⟩:=eI.1 hx;obtain⟨b,hb,rfl⟩:=aeB hc;rw[Gi R b i hi hA.le,sy hi hb];have:=hA.step i hi b hb;rw[NT hi hb]at this;exact this
theorem afl{R:List Row}{tags:List Int}(h:lC R tags=0):abO (uu R 256) (RN R) tags (nB R 256).length:=by
 obtain⟨hA,hl⟩:=pe h;have hle:R.length<=200:=hA.le;refine⟨by rw[jX];exact hA.pos,by rw[jX];exact hle,by rw[jX];exact hl,List.length_pos_of_mem (DN R (show 0<256 by decide)),DL R 256,fun i hi=>?_,fun i hi=>?_,fun i hi j hj=>?_,fun b hb=>?_⟩
 ·rw[jX]at hi
  rw[DS R hi];unfold AY;rw[dw]
 ·have:=hA.tags i (show i<R.length by omega)
  rw[AA hi]at this;exact this
 ·have pP:i<R.length:=by rw[jX]at hi;exact hi
  have e:=DS R pP;have hx:(RN R)[i][j]∈AY (nB R 256) i:=e▸bV hj;rw[jX];exact ag3 h pP hx
 have e:(uu R 256)[b]'hb=pkN R b:=by
  unfold uu;rw[jk];simp[hb]
 rw[e];exact abb R hb
end cg
namespace qE
open Go.RowKit cT ey cg c_
def XE(nx:Int->UInt8->Int)(tags:List Int):List UInt8->Nat->Int->Int->Nat->Int×Nat
 |[],_,_,r,t=>(r,t)
 | b::s,i,now,r,t=>
  if nx now b<0 then(r,t)
  else if 0<=tags.getD (nx now b).toNat 0 then XE nx tags s (i+1) (nx now b) (tags.getD (nx now b).toNat 0) (i+1)
  else XE nx tags s (i+1) (nx now b) r t
theorem B6{nx NG:Int->UInt8->Int}{tags:List Int}{n:Nat}(h:∀(q:Nat),q<n->∀b,nx q b=NG q b/\ -1<=nx q b/\nx q b<n):∀(s:List UInt8) (i q:Nat) (r:Int) (t:Nat),q<n->XE nx tags s i q r t=XE NG tags s i q r t
 |[],_,_,_,_,_=>rfl
 | b::s,i,q,r,t,hq=>by
  obtain⟨h1,h2,h3⟩:=h q hq b;unfold XE;rw[<-h1]
  by_cases c:nx q b<0
  rw[if_pos c,if_pos c];rw[if_neg c,if_neg c];obtain⟨z,hz⟩:=fz (show 0<=nx q b by omega);rw[hz]at h3⊢;rw[B6 h s (i+1) z _ _ J,B6 h s (i+1) z _ _ J]
theorem LD(o:Of)(N:List (List Int))(tags:List Int):∀(s:List UInt8) (i:Nat) (now r:Int) (t:Nat),qG o N tags s i now r t=XE (Dg o N) tags s i now r t
 |[],_,_,_,_=>rfl
 |b::s,i,now,r,t=>by
  rw[tQ,XE,LD o N tags s,LD o N tags s]
def nxR(R:List Row)(now:Int)(b:UInt8):Int:=(R.getD now.toNat wj).toList.getD b.toNat 0
theorem ag4{o:Of}{N:List (List Int)}{tags:List Int}(h:np o N tags){q:Nat}(hq:q<N.length)(b:UInt8):Dg o N (q:Int) b=nxR (unR o N) q b:=by
 obtain⟨_,hw,e,_⟩:=Su h hq b;rw[e];unfold nxR unR;rw[cX,bD (l:=List.map _ _),eQ,bm hq,abG,iz,bD,bm (by simpa using b.toNat_lt),iz,mF,jk];show _=N[q].getD (o[b.toNat]'b.toNat_lt) 0
 rw[bD,bm hw];rfl
def ul(R:List Row)(tags:List Int)(s:List UInt8)(fr:Nat):Int×Nat:=XE (nxR R) tags (s.drop fr) fr 0 0 0
theorem ab2{o:Of}{N:List (List Int)}{tags:List Int}(h:np o N tags)(s:List UInt8)(fr:Nat):eo o N tags s fr=ul (unR o N) tags s fr:=by
 unfold eo ul;rw[LD];exact B6 (n:=N.length) (fun q hq b=>⟨ag4 h hq b,(Su h hq b).2.2.2⟩) _ fr 0 0 0 h.pos
def xy(R:List Row)(tags:List Int)(s:List UInt8):Nat->Nat->List Tok×Nat×Int
 |0,_=>([],0,0)
 |f+1,at'=>if at'<s.length then(if(ul R tags s at').2=0 then([],at',9)else((((ul R tags s at').1,at',(ul R tags s at').2)::(xy R tags s f (ul R tags s at').2).1),(xy R tags s f (ul R tags s at').2).2))else([],0,0)
theorem ON{o:Of}{N:List (List Int)}{tags:List Int}(h:np o N tags)(s:List UInt8):∀f at',mg o N tags s f at'=xy (unR o N) tags s f at'
 |0,_=>rfl
 |f+1,at'=>by rw[qI,xy,ab2 h,ON h s f]
theorem W_{o:Of}{N:List (List Int)}{tags:List Int}(h:np o N tags)(s:List UInt8):qH o N tags s=xy (unR o N) tags s (s.length+1) 0:=ON h s _ _
end qE
namespace cg
open Go.RowKit cT ey c_
theorem Mem.pkI{B:b_}{w:World}{L:List b9}{i j k g:Nat}{R:List Row}{tags:List Int}{vs:Nat->Value}{vt:Value}(hm:Mem B L w)(hi:L[i]?=ah (dI 26 y7 g R.length vs))(hj:L[j]?=ah (WO R.length (nB R 256) vs))(hk:L[k]?=ah (bx 3 1 vt tags.length (tags.flatMap cT.eX)))(hc:lC R tags=0):
 PkI w (ak (ah ⟨g,0,aj⟩) R.length R.length) vt (RN R) tags:=by
 have h1:(dI 26 y7 g R.length vs).holds w:=hm.get hi;have h2:(WO R.length (nB R 256) vs).holds w:=hm.get hj;have ok:=afl hc;refine⟨⟨ah ⟨g,0,aj⟩,R.length,by rw[jX],by rw[jX];exact aT _,by have:=ok.le;rw[jX]at this;unfold maxLen;omega,fun h0=>⟨g,0,rfl,?_,fun i hi=>⟨[vs i],⟨vs i,rfl,?_⟩,fun j u hj=>?_⟩⟩⟩,kX hk _ hm⟩
 ·rw[jX]at h0
  exact oP w _ (nY h1 h0)
 ·have Pb:i<R.length:=by rw[jX]at hi;exact hi
  have h3:(bx 3 1 (vs i) (nB R 256).length ((AY (nB R 256) i).flatMap cT.eX)).holds w:=h2.1 i Pb;have h4:Sl w (vs i) (nB R 256).length ((AY (nB R 256) i).flatMap cT.eX):=Sl.dy h3;have e:(RN R)[i]=AY (nB R 256) i:=DS R Pb;have hl:(AY (nB R 256) i).length=(nB R 256).length:=dw ..;refine kK.of_flat (by rw[e,hl];exact h4) (fun x hx=>?_) (fun b hb=>?_) fun a n cp hv=>?_
  ·obtain⟨q,hq,rfl⟩:=jG.1 hx
   have:=ok.rng i hi q hq;have:=ok.le;exact⟨by omega,by omega⟩
  exact b9.lt _ w h3 b (.inl hb);exact b9.lt _ w h3 a.block (.inl (by rw[hv];rfl))
 ·have Pb:i<R.length:=by rw[jX]at hi;exact hi
  have hj0:j=0:=by have:=(cU.1 hj).1;simp at this;exact this
  subst hj0;simp only[sS,dg]at hj;subst hj;have:=nY h1 Pb;show w.cell? ⟨g,0+i*1+0,aj⟩=ah (vs i)
  rw[kQ,ji];exact this
theorem UD(R:List Row):∀b (h:b<256),(uu R 256)[b]<256:=fun b hb=>by
 have e:(uu R 256)[b]'hb=pkN R b:=by
  unfold uu;rw[jk];simp[hb]
 rw[e];exact Ul R hb
theorem LF{R:List Row}{tags:List Int}(h:lC R tags=0):np (uu R 256) (RN R) tags:=by
 have ok:=afl h;have:((RN R).headD []).length=(nB R 256).length:=by
  have h0:=ok.pos;have:=ok.row 0 h0
  cases hR:RN R with
  |nil=>rw[hR]at h0;simp at h0
  |cons x r=>simp only[hR]at this;exact this
 unfold np;rw[this];exact ok
end cg
namespace bP
open aM dN ee dx c_
open wZ (dW)
section
variable{l:List aM.Prod}{T N:Nat}{lk:Int->Int->Nat}{Nx:List (List Int)}{S:List (List Item)}{w:List Int}
variable{E R M:List Bool}{F W:List Nat}
theorem drop_cons{α:Type}{b:List α}{d:Nat}{y:α}{r:List α}(h:b.drop d=y::r):b[d]?=ah y/\b.drop (d+1)=r/\d<b.length:=by
 have hd:d<b.length:=by
  rcases x9 d b.length with h'|h'
  exact h';rw[fS h']at h;cases h
 rw[dJ hd]at h;simp only[fg]at h;exact⟨by rw[bm hd,h.1],h.2,hd⟩
structure LrH(l:List aM.Prod)(T N:Nat)(lk:Int->Int->Nat)(Nx:List (List Int))(S:List (List Item))(w:List Int)(E:List Bool)(F W:List Nat)(R M:List Bool):Prop where
 wide:∀q∈l,q.2.length<=8
 Cq:l.length<=40
 aQ:T<=30
 bB:0<N
 ab3:iR N l
 nf:∀q∈l,∀x∈q.2,x.1=1->0<=x.2/\x.2<(T:Int)
 all:KR l T N lk S.length Nx S
 calm:IM l T Nx S
 facts:i_ l E F W R M
 looks:∀p d:Int,0<=p->p<=(l.length:Int)->0<=d->lk p d=eE E F ((dA l p).drop (d.toNat+1)) (2^62)
 word:∀x∈w,0<=x/\x<(T:Int)
theorem jf(hI:KR l T N lk S.length Nx S){q:Nat}(hq:q<S.length):∀it∈S.getD q [],eg l T it:=by
 have rI:S.getD q []=S[q]:=by rw[bD,bm hq];rfl
 rw[rI];exact hI.ss.right _ (bV hq)
theorem ag5(h:LrH l T N lk Nx S w E F W R M){a:Nat}{v:Int}{r:List Int}(hd:w.drop a=v::r):a<w.length/\(dW T w a:Int)=v/\0<=v/\v<(T:Int):=by
 have ha:a<w.length:=by
  rcases x9 a w.length with h'|h'
  exact h';rw[fS h']at hd;cases hd
 rw[dJ ha]at hd;simp only[fg]at hd;have hv:=h.word w[a] (bV ha);unfold dW;rw[if_pos ha,bD,bm ha,iz];rw[hd.1]at hv⊢;exact⟨ha,by omega,hv⟩
theorem ab4(h:LrH l T N lk Nx S w E F W R M)(a:Nat):dW T w a<=T:=by
 unfold dW;split
 ·rename_i ha
  rw[bD,bm ha,iz];have:=h.word w[a] (bV ha);omega
 exact aT _
mutual
theorem OO(h:LrH l T N lk Nx S w E F W R M):∀{t:Tree} {x:bX} {a q:Nat} {σ:List Nat} {it:Item},eH l t x a->x.1=2->q<S.length->it∈S.getD q []->ki l it=ah x->(pc lk it).testBit (dW T w (a+leaves t))=aB->a+leaves t<=w.length->(∃r,w.drop a=fU l t++r)->
 ∃s,s<S.length/\qQ it∈S.getD s []/\BL l T Nx S w (q::σ) a (L9 l t) (s::q::σ) (a+leaves t)
 | .mk p k kids,x,a,q,σ,it,hr,hx,hq,hit,hn,Hl,ha,hy=>by
  have hp:0<=p:=by
   rcases mC hr with⟨h1,_⟩|⟨_,h1⟩
   omega;exact h1
  obtain⟨_,h2,h3,h4,h5⟩:=wX hr hp;subst h4;have hlv:leaves (.mk p 0 kids)=de kids:=by rw[leaves,if_neg J]
  rw[hlv]at Hl ha⊢;rw[jy]at hy;obtain⟨i,rfl⟩:=fz hp;obtain⟨xk,xn⟩:=x;have hx:xk=2:=hx;subst hx;have h3:(bJ l (i:Int)).1=xn:=h3;have Wh:=ab4 h (a+de kids);have ac4:(((i:Int),0,(dW T w (a+de kids):Int)):Item)∈S.getD q []:=aas h.all hq hit ⟨xn,i,_,hn,by omega,h3,Wh,Hl,rfl⟩;have Ak:dA l (i:Int)=(bJ l (i:Int)).2:=by unfold dA;rw[if_neg J]
  obtain⟨τ,s,k2,k3,k4,k5⟩:=GY h (q:=q) (σ:=σ) (it:=((i:Int),0,(dW T w (a+de kids):Int))) h5 hq ac4 (by show(dA l (i:Int)).drop 0=_;rw[Ak];rfl) I ha hy;have aiO:bJ l (i:Int)∈l:=fV hp h2;have hN:=h.ab3 _ aiO;obtain⟨tq,g1,g2,g3⟩:=adF h.all h.wide h.Cq h.aQ hq (n:=xn) (by rw[<-h3];exact⟨hN.1,hN.2.1⟩) hit hn;refine⟨tq,g1,g3,?_⟩;have hlen:=yB h5;rw[NK J hlen];have Rv:kH l T Nx S s (dW T w (a+de kids))=(2,(i:Int)):=by
   refine Rb h.calm k2 Wh k3 ?_ ?_ I;show(i:Int)<_;omega
   show(0:Int)+_=((bJ l (i:Int)).2.length:Int);omega
  exact k5.Qp (.reduce Rv k4 (by rw[h3];exact g2) .nil)
theorem GY(h:LrH l T N lk Nx S w E F W R M):∀{ks:List Tree} {b:List bX} {a q:Nat} {σ:List Nat} {it:Item},dl l ks b a->q<S.length->it∈S.getD q []->(dA l it.1).drop it.2.1.toNat=b->it.2.2=(dW T w (a+de ks):Int)->a+de ks<=w.length->(∃r,w.drop a=gi l ks b++r)->
 ∃(τ:List Nat) (s:Nat),s<S.length/\((it.1,it.2.1+(b.length:Int),it.2.2):Item)∈S.getD s []/\(s::τ).drop b.length=q::σ/\BL l T Nx S w (q::σ) a (ks.flatMap (L9 l)) (s::τ) (a+de ks)
 | [],[],a,q,σ,it,hr,hq,hit,hb,hc,ha,hy=>by
  refine⟨σ,q,hq,?_,rfl,.nil⟩;have e:((it.1,it.2.1+(([]:List bX).length:Int),it.2.2):Item)=it:=by
   obtain⟨i1,i2,i3⟩:=it;simp
  rw[e];exact hit
 |[],_::_,a,q,σ,it,hr,hq,hit,hb,hc,ha,hy=>by cases hr
 | .mk p k kids::r,[],a,q,σ,it,hr,hq,hit,hb,hc,ha,hy=>by cases hr
 | .mk p k kids::r,y::b,a,q,σ,it,hr,hq,hit,hb,hc,ha,hy=>by
  rw[dl]at hr;obtain⟨Pd,pC⟩:=hr;obtain⟨b1,b2,b3⟩:=drop_cons hb;have hR:=jf h.all hq it hit;have hn:ki l it=ah y:=b1;rw[de]at hc ha;have aj_:(qQ it).2.1.toNat=it.2.1.toNat+1:=by
   show(it.2.1+1).toNat=_
   have:=hR.2.2.1;omega
  have JJ:(dA l (qQ it).1).drop (qQ it).2.1.toNat=b:=by rw[aj_];exact b2
  have afm:(((qQ it).1,(qQ it).2.1+(b.length:Int),(qQ it).2.2):Item)=(it.1,it.2.1+((y::b).length:Int),it.2.2):=by
   show(it.1,it.2.1+1+(b.length:Int),it.2.2)=_
   rw[cO];have:it.2.1+1+(b.length:Int)=it.2.1+((b.length+1:Nat):Int):=by omega
   rw[this]
  have xD:∀{ρ:List Nat} {s:Nat},ρ.drop b.length=s::q::σ->ρ.drop (y::b).length=q::σ:=fun {ρ s} hd=>by
   rw[cO,x_,<-iQ];rw[x_]at*;have:ρ.drop (b.length+1)=(ρ.drop b.length).drop 1:=by rw[iQ]
   first
    |(rw[iQ];rw[x_ 1 b.length];rw[this,hd];rfl)
    |(rw[iQ,this,hd];rfl)
  rw[me]at hy;rw[jF,de];rcases mC Pd with⟨hy1,rfl,rfl⟩|⟨hy1,hp⟩
  ·have hlf:leaves (.mk (-1) k [])=1:=by rw[leaves,if_pos akV]
   rw[hlf]at hc ha pC⊢;have hk:k=(a:Int):=by
    rw[eH]at Pd;rcases Pd with⟨_,_,h3,_⟩|⟨_,h3,_⟩
    exact h3;omega
   subst hk;have hyX:ef l (.mk (-1) (a:Int) []) y=[y.2]:=by unfold ef;rw[if_pos (by show(-1:Int)<0;decide)]
   rw[hyX]at hy;obtain⟨rr,hy⟩:=hy;rw[dL,List.singleton_append]at hy;obtain⟨c1,c2,c3,c4⟩:=ag5 h hy;obtain⟨yk,yn⟩:=y;have hy1:yk=1:=hy1;subst hy1;obtain⟨t,rfl⟩:=fz c3;have c2:((dW T w a:Nat):Int)=(t:Int):=c2;have c2:dW T w a=t:=by omega
   obtain⟨s,s1,s2,s3⟩:=Wi h.all h.wide h.Cq h.aQ h.calm hq (by omega:t<T) hit hn;have hd1:w.drop (a+1)=gi l r b++rr:=by
    rw[<-iQ,hy];rfl
   obtain⟨τ,s',g1,g2,g3,g4⟩:=GY h (q:=s) (σ:=q::σ) (it:=qQ it) pC s1 s3 JJ (by show it.2.2=_;rw[hc];congr 2;omega) J ⟨rr,hd1⟩;rw[afm]at g2;refine⟨τ,s',g1,g2,xD g3,?_⟩;rw[show a+(1+de r)=a+1+de r by omega,NL];exact .shift c1 (by rw[c2];exact s2) g4
  have hy2:y.1=2:=by
   rcases IP h.ab3 h.bB (p:=it.1) y (kO b1)with h'|h'
   exact absurd h' hy1;exact h'.1
  have hyX:ef l (.mk p k kids) y=fU l (.mk p k kids):=by unfold ef;rw[if_neg (by show ¬p<0;omega)]
  rw[hyX]at hy;obtain⟨rr,hy⟩:=hy;rw[dL]at hy;have hbs:∀x∈b,x.1=1\/x.1=2:=fun x hx=>by
   rcases IP h.ab3 h.bB (p:=it.1) x (by rw[<-b2]at hx;exact o9 hx)with h'|h'
   exact .inl h';exact .inr h'.1
  have hyl:(fU l (.mk p k kids)).length=leaves (.mk p k kids):=by rw[<-hyX];exact pY Pd
  have hd1:w.drop (a+leaves (.mk p k kids))=gi l r b++rr:=by
   rw[<-iQ,hy,<-hyl,List.drop_left]
  have Hl:=Wj (w:=w) (u:=a+leaves (.mk p k kids)) h.facts h.ab3 h.looks h.aQ h.word hR b2 hbs pC ⟨rr,hd1⟩ J (by rw[hc];congr 2;omega);obtain⟨s,s1,s3,s4⟩:=OO h (σ:=σ) Pd hy2 hq hit hn Hl J ⟨_,hy⟩;obtain⟨τ,s',g1,g2,g3,g4⟩:=GY h (q:=s) (σ:=q::σ) (it:=qQ it) pC s1 s3 JJ (by show it.2.2=_;rw[hc];congr 2;omega) J ⟨rr,hd1⟩;rw[afm]at g2;refine⟨τ,s',g1,g2,xD g3,?_⟩;rw[show a+(leaves (.mk p k kids)+de r)=a+leaves (.mk p k kids)+de r by omega];exact s4.Qp g4
end
theorem Jk(h:LrH l T N lk Nx S w E F W R M){t:Tree}(ht:eH l t (2,0) 0)(hy:fU l t=w):∃s ρ,BL l T Nx S w [0] 0 (L9 l t) (s::ρ) w.length/\kH l T Nx S s (dW T w w.length)=(3,0):=by
 have hp:0<=t.prod:=by
  obtain⟨p,k,kids⟩:=t;rcases mC ht with⟨h1,_⟩|⟨_,h1⟩
  cases h1
  exact h1
 have hl:leaves t=w.length:=by
  have:=pY ht;unfold ef at this;rw[if_neg J,hy]at this;exact this.symm
 have NM:dW T w w.length=T:=by unfold dW;rw[if_neg (wt _)]
 have h0:=(cU.1 h.all.start).1;have rI:S.getD 0 []=l7 l T lk:=by rw[bD,h.all.start];rfl
 have hst:=ft (l:=l) (T:=T) h.Cq h.aQ;have hit:(((l.length:Int),0,(T:Int)):Item)∈S.getD 0 []:=by
  rw[rI];exact(eO (lk:=lk) h.wide h.Cq h.aQ hst).2 (.base (dH.2 I))
 have Ak:dA l (l.length:Int)=[(2,0)]:=by unfold dA;rw[if_pos I]
 have hn:ki l ((l.length:Int),0,(T:Int))=ah (2,0):=by
  show(dA l (l.length:Int))[0]?=_
  rw[Ak];rfl
 obtain⟨s,s1,s2,s3⟩:=OO h (σ:=[]) ht rfl h0 hit hn (by
  rw[cI,hl];have hR:=jf h.all h0 _ hit;refine(IN (by have:=ab4 h w.length;have:=h.aQ;omega) hR.2.2.2.2.1).2 (.inr ⟨?_,by show(T:Int)=_;rw[NM]⟩);rw[h.looks _ _ hR.1 hR.2.1 hR.2.2.1];show(eE E F ((dA l (l.length:Int)).drop 1) (2^62)).testBit 62=aB
  rw[Ak];show(0|||2^62:Nat).testBit 62=aB
  decide) J ⟨[],by rw[hy];simp⟩
 rw[cI,hl]at s3;refine⟨s,[0],s3,?_⟩;rw[NM];exact Rf h.calm s1 s2
end
end bP
namespace bP
open aM dN ee dx c_ o8
open wZ (dW)
section
variable{l:List aM.Prod}{T N:Nat}{lk:Int->Int->Nat}{Nx:List (List Int)}{S:List (List Item)}
inductive CP(l:List aM.Prod)(T N:Nat)(lk:Int->Int->Nat)(S:List (List Item)):List Nat->List (bX×Tree)->Nat->Prop
 |start:CP l T N lk S [0] [] 0
 |push {q s:Nat} {σ:List Nat} {ts:List (bX×Tree)} {a:Nat} {x:bX} {t:Tree} (h:CP l T N lk S (q::σ) ts a) (hs:s<S.length) (hx:S.getD s []=ic l T lk (S.getD q []) x) (hne:ic l T lk (S.getD q []) x≠[]) (ht:eH l t x a):CP l T N lk S (s::q::σ) ((x,t)::ts) (a+leaves t)
def jY(l:List aM.Prod)(ts:List (bX×Tree)):List Int:=ts.reverse.flatMap fun x=>ef l x.2 x.1
def upK(l:List aM.Prod)(ts:List (bX×Tree)):List bX:=ts.reverse.flatMap fun x=>L9 l x.2
theorem rh(x:bX)(t:Tree)(ts:List (bX×Tree)):jY l ((x,t)::ts)=jY l ts++ef l t x:=by unfold jY;simp
theorem GZ(x:bX)(t:Tree)(ts:List (bX×Tree)):upK l ((x,t)::ts)=upK l ts++L9 l t:=by unfold upK;simp
theorem CP.ne{σ:List Nat}{ts:List (bX×Tree)}{a:Nat}(h:CP l T N lk S σ ts a):∃q ρ,σ=q::ρ:=by cases h<;>exact⟨_,_,rfl⟩
theorem CP.len{σ:List Nat}{ts:List (bX×Tree)}{a:Nat}(h:CP l T N lk S σ ts a):σ.length=ts.length+1:=by
 induction h with
 |start=>rfl
 |push _ _ _ _ _ ih=>rw[cO,ih,cO]
theorem G0:∀{ks ks':List Tree} {b b':List bX} {a:Nat},dl l ks b a->dl l ks' b' (a+de ks)->dl l (ks++ks') (b++b') a
 |[],_,[],_,_,_,h=>h
 |[],_,_::_,_,_,h,_=>by rw[dl]at h;exact h.elim
 |_::_,_,[],_,_,h,_=>by rw[dl]at h;exact h.elim
 |k::r,_,y::b,_,a,h,h'=>by
  rw[dl]at h;rw[kt,kt,dl];refine⟨h.1,G0 h.2 ?_⟩;rw[de]at h';rw[jH];exact h'
theorem uZ:∀(ks ks':List Tree),de (ks++ks')=de ks+de ks'
 |[],ks'=>by simp[de]
 |k::r,ks'=>by rw[kt,de,de,uZ r,jH]
theorem G1:∀(us:List (bX×Tree)),gi l (us.map (·.2)) (us.map (·.1))=us.flatMap fun x=>ef l x.2 x.1
 |[]=>rfl
 |(x,t)::r=>by rw[fw,fw,me,G1 r,jF]
section
variable(hI:KR l T N lk S.length Nx S)(hw:∀q∈l,q.2.length<=8)(hl:l.length<=40)(hT:T<=30)
include hI hw hl hT
omit hw hl hT in
theorem ze{q:Nat}{σ:List Nat}{ts:List (bX×Tree)}{a:Nat}(h:CP l T N lk S (q::σ) ts a):q<S.length:=by
 cases h with
 |start=>exact(cU.1 hI.start).1
 |push _ hs _ _ _=>exact hs
omit hw hl hT in
theorem Sx:S.getD 0 []=l7 l T lk:=by rw[bD,hI.start];rfl
omit hI in
theorem Jl{s:List Item}(hs:∀it∈s,eg l T it){x:bX}{it:Item}(h:it∈ic l T lk s x):(∃Lb∈s,ki l Lb=ah x/\it=qQ Lb)\/∃Ua∈ic l T lk s x,C8 l T lk Ua it:=by
 have hm:=(eO (lk:=lk) hw hl hT (im (x:=x) hs) (x:=it)).1 h
 cases hm with
 |base hb=>
  obtain⟨Lb,h1,h2,h3⟩:=wb.1 hb;exact .inl ⟨Lb,h1,h2,h3⟩
 |step h1 h2=>exact .inr ⟨_,(eO (lk:=lk) hw hl hT (im hs)).2 h1,h2⟩
omit hI hw hl hT in
theorem LG{Ua it:Item}(h:C8 l T lk Ua it):it.2.1=0/\it.1<(l.length:Int)/\0<=it.1:=by
 obtain⟨_,i,k,_,h2,_,_,_,rfl⟩:=h;exact⟨rfl,by show(i:Int)<_;omega,by show(0:Int)<=i;omega⟩
theorem ab5{q:Nat}{σ:List Nat}{ts:List (bX×Tree)}{a:Nat}(h:CP l T N lk S (q::σ) ts a){it:Item}(hit:it∈S.getD q [])(hd:it.2.1≠0):
 ∃(q':Nat) (σ':List Nat) (x:bX) (t:Tree) (B7:List (bX×Tree)) (a':Nat) (Lb:Item),σ=q'::σ'/\ts=(x,t)::B7/\CP l T N lk S (q'::σ') B7 a'/\eH l t x a'/\a=a'+leaves t/\Lb∈S.getD q' []/\ki l Lb=ah x/\it=qQ Lb:=by
 cases h with
 |start=>
  exfalso
  rw[Sx hI]at hit;have hm:=(eO (lk:=lk) hw hl hT (ft hl hT) (x:=it)).1 hit
  cases hm with
  |base hb=>rw[dH.1 hb]at hd;exact hd I
  |step h1 h2=>exact hd (LG h2).1
 |push h hs hx hne ht=>
  have hq:=ze hI h;rw[hx]at hit;rcases Jl hw hl hT (jf hI hq) hit with⟨Lb,h1,h2,h3⟩|⟨Ua,h1,h2⟩
  exact⟨_,_,_,_,_,_,Lb,rfl,rfl,h,ht,rfl,h1,h2,h3⟩;exact absurd (LG h2).1 hd
theorem xh:∀(d:Nat) {q:Nat} {σ:List Nat} {ts:List (bX×Tree)} {a:Nat},CP l T N lk S (q::σ) ts a->∀{it:Item},it∈S.getD q []->it.2.1=(d:Int)->
 ∃(q':Nat) (σ':List Nat) (us B7:List (bX×Tree)) (a':Nat),(q::σ).drop d=q'::σ'/\ts=us++B7/\us.length=d/\CP l T N lk S (q'::σ') B7 a'/\dl l (us.reverse.map (·.2)) ((dA l it.1).take d) a'/\us.reverse.map (·.1)=(dA l it.1).take d/\a=a'+de (us.reverse.map (·.2))/\((it.1,0,it.2.2):Item)∈S.getD q' []
 | 0,q,σ,ts,a,h,it,hit,hd=>by
  refine⟨q,σ,[],ts,a,rfl,rfl,rfl,h,?_,rfl,rfl,?_⟩
  ·show dl l [] [] a
   rw[dl];trivial
  obtain⟨p,d,k⟩:=it;dsimp only at hd;subst hd;exact hit
 | d +1,q,σ,ts,a,h,it,hit,hd=>by
  obtain⟨q1,σ1,x,t,ts1,a1,it1,rfl,rfl,h1,ht,rfl,aj',hn,rfl⟩:=ab5 hI hw hl hT h hit J;have hd1:it1.2.1=(d:Int):=by have:(qQ it1).2.1=it1.2.1+1:=rfl;omega
  obtain⟨q',σ',us,B7,a',e1,rfl,e3,e4,e5,e6,rfl,e8⟩:=xh d h1 aj' hd1;have hb:(dA l it1.1).take (d+1)=(dA l it1.1).take d++[x]:=by
   unfold ki at hn;rw[hd1,cX]at hn;obtain⟨h2,h3⟩:=cU.1 hn;rw[ir h2,h3]
  refine⟨q',σ',(x,t)::us,B7,a',?_,rfl,by rw[cO,e3],e4,?_,?_,?_,e8⟩;rw[List.drop_succ_cons];exact e1
  ·show dl l (((x,t)::us).reverse.map (·.2)) ((dA l it1.1).take (d+1)) a'
   rw[hb,Gz,eb];refine G0 e5 ?_;show dl l [t] [x] _
   rw[dl,dl];exact⟨ht,trivial⟩
  ·show((x,t)::us).reverse.map (·.1)=(dA l it1.1).take (d+1)
   rw[hb,Gz,eb,e6];rfl
  rw[Gz,eb,uZ];show _=a'+(_+de [t])
  rw[de,de];omega
theorem Sy{q:Nat}{σ:List Nat}{ts:List (bX×Tree)}{a:Nat}(h:CP l T N lk S (q::σ) ts a){k:Int}(hit:(((l.length:Int),0,k):Item)∈S.getD q []):σ=[]/\q=0/\ts=[]/\a=0:=by
 cases h with
 |start=>exact⟨rfl,rfl,rfl,rfl⟩
 | push h hs hx hne ht=>
  exfalso
  have hq:=ze hI h;rw[hx]at hit;rcases Jl hw hl hT (jf hI hq) hit with⟨Lb,h1,h2,h3⟩|⟨Ua,h1,h2⟩
  ·have h4:=jf hI hq Lb h1
   have h5:(qQ Lb).2.1=Lb.2.1+1:=rfl;rw[<-h3]at h5;have:=h4.2.2.1;have h6:(0:Int)=Lb.2.1+1:=h5;omega
  have:=(LG h2).2.1;have h3:(l.length:Int)<(l.length:Int):=this;omega
theorem Sz{q:Nat}{σ:List Nat}{ts:List (bX×Tree)}{a:Nat}(h:CP l T N lk S (q::σ) ts a){k:Int}(hit:(((l.length:Int),1,k):Item)∈S.getD q []):∃t,ts=[((2,0),t)]/\eH l t (2,0) 0:=by
 obtain⟨q',σ',us,B7,a',e1,rfl,e3,e4,e5,e6,e7,e8⟩:=xh hI hw hl hT 1 h hit rfl;obtain⟨rfl,rfl,rfl,rfl⟩:=Sy hI hw hl hT e4 e8;have hb:(dA l (l.length:Int)).take 1=[(2,0)]:=by unfold dA;rw[if_pos I];rfl
 match us,e3 with
 |[(x,t)],_=>
  rw[hb]at e5 e6;simp only[Gz,List.reverse_nil,fN,fw,mu,fg,and_true]at e5 e6;subst e6;rw[dl]at e5;exact⟨t,rfl,e5.1⟩
theorem SA{q tq r:Nat}{σ ρ:List Nat}{ts:List (bX×Tree)}{a:Nat}(h:CP l T N lk S (q::σ) ts a){p k:Int}(h0:0<=p)(h1:p<(l.length:Int))(hit:((p,((bJ l p).2.length:Int),k):Item)∈S.getD q [])(hd:(q::σ).drop (bJ l p).2.length=r::ρ)(htq:tq<S.length)(hx:S.getD tq []=ic l T lk (S.getD r []) (2,(bJ l p).1))(hne:ic l T lk (S.getD r []) (2,(bJ l p).1)≠[]):
 ∃ts2,CP l T N lk S (tq::r::ρ) ts2 a/\jY l ts2=jY l ts/\upK l ts2=upK l ts++[(4,p)]:=by
 obtain⟨q',σ',us,B7,a',e1,rfl,e3,e4,e5,e6,rfl,e8⟩:=xh hI hw hl hT _ h hit rfl;rw[hd]at e1;obtain⟨rfl,rfl⟩:=oc e1;have hb:dA l p=(bJ l p).2:=by unfold dA;rw[if_neg J]
 have JX:(dA l p).take (bJ l p).2.length=(bJ l p).2:=by rw[hb];exact nk
 dsimp only at e5 e6;rw[JX]at e5 e6;have hle:=yB e5;have hR:eH l (.mk p 0 (us.reverse.map (·.2))) (2,(bJ l p).1) a':=by
  rw[eH];exact .inr ⟨fun h=>absurd (show(2:Int)=1 from h) akV,h0,h1,rfl,rfl,e5⟩
 have hlv:leaves (.mk p 0 (us.reverse.map (·.2)))=de (us.reverse.map (·.2)):=by rw[leaves,if_neg J]
 have hst:=CP.push e4 htq hx hne hR;rw[hlv]at hst;refine⟨_,hst,?_,?_⟩
 ·rw[rh]
  have hy:jY l (us++B7)=jY l B7++us.reverse.flatMap fun x=>ef l x.2 x.1:=by unfold jY;simp
  rw[hy]
  congr 1
  have hX:ef l (.mk p 0 (us.reverse.map (·.2))) (2,(bJ l p).1)=gi l (us.reverse.map (·.2)) (bJ l p).2:=by
   unfold ef;rw[if_neg (by show ¬p<0;omega)];exact jy ..
  rw[hX,<-e6];exact G1 _
 ·rw[GZ]
  have hy:upK l (us++B7)=upK l B7++us.reverse.flatMap fun x=>L9 l x.2:=by unfold upK;simp
  rw[hy,NK h0 hle,dL]
  congr 2
  rw[List.flatMap_map]
end
end
end bP
namespace bP
open aM dN ee dx c_ o8
open gK (sE za og zb mH sF)
open wZ (dW)
section
variable(l:List aM.Prod)(act:Nat->Nat->Act)(gt:Nat->Int->Int)
def zf(σ:List Nat)(p:Int):Option (List Nat):=match σ.drop (bJ l p).2.length with
 |r::ρ=>if 0<=gt r (bJ l p).1 then ah ((gt r (bJ l p).1).toNat::r::ρ)else aj
 |[]=>aj
def dY(col a:Nat):Nat->List Nat->List bX->Int×List Nat×List bX
 |0,_,_=>(14,[],[])
 | f +1,σ,o=>
  if f=0/\(act (σ.headD 0) col).1≠0 then(14,[],[])
  else if(act (σ.headD 0) col).1=3 then(0,σ,o)
  else if(act (σ.headD 0) col).1=1 then(if 60<σ.length+1 then(14,[],[])else(0,(act (σ.headD 0) col).2.toNat::σ,o++[(2,(a:Int))]))
  else if(act (σ.headD 0) col).1=2 then(match zf l gt σ (act (σ.headD 0) col).2 with
   |none=>(13,[],[])
   |some σ'=>if 60<σ'.length then(14,[],[])else dY col a f σ' (o++[(4,(act (σ.headD 0) col).2)]))
  else(13,[],[])
def tR(T:Nat):List Int->List Nat->Nat->List bX->List bX×Nat×Int
 |[],σ,a,out=>(out++(dY l act gt T a 2001 σ []).2.2,a,(dY l act gt T a 2001 σ []).1)
 |t::r,σ,a,out=>if(dY l act gt t.toNat a 2001 σ []).1≠0 then(out,a,(dY l act gt t.toNat a 2001 σ []).1)else tR T r (dY l act gt t.toNat a 2001 σ []).2.1 (a+1) (out++(dY l act gt t.toNat a 2001 σ []).2.2)
def ly(T f:Nat)(σ:List Nat)(o:List bX):List Int->Nat->List bX->List bX×Nat×Int
 |[],a,out=>(out++(dY l act gt T a f σ o).2.2,a,(dY l act gt T a f σ o).1)
 |t::r,a,out=>if(dY l act gt t.toNat a f σ o).1≠0 then(out,a,(dY l act gt t.toNat a f σ o).1)else tR l act gt T r (dY l act gt t.toNat a f σ o).2.1 (a+1) (out++(dY l act gt t.toNat a f σ o).2.2)
end
section
variable{l:List aM.Prod}{act:Nat->Nat->Act}{gt:Nat->Int->Int}{T N:Nat}{lk:Int->Int->Nat}{Nx:List (List Int)}{S:List (List Item)}
theorem G2(r:List Int)(σ:List Nat)(a:Nat)(out:List bX):tR l act gt T r σ a out=ly l act gt T 2001 σ [] r a out:=by cases r<;>rfl
theorem LH:∀(r:List Int) (σ:List Nat) (a:Nat) (out:List bX),a<=(tR l act gt T r σ a out).2.1
 |[],_,_,_=>aT _
 |t::r,σ,a,out=>by
  rw[tR];split;exact aT _;exact eC (Bp a) (LH r _ (a+1) _)
theorem UE:∀(r:List Int) (σ:List Nat) (a:Nat) (out:List bX),(tR l act gt T r σ a out).2.1<=a+r.length
 |[],_,_,_=>aT _
 | t::r,σ,a,out=>by
  rw[tR];split;exact Bo _ _;have:=UE r (dY l act gt t.toNat a 2001 σ []).2.1 (a+1) (out++(dY l act gt t.toNat a 2001 σ []).2.2);rw[cO];omega
theorem G3(f:Nat)(σ:List Nat)(o:List bX):∀(r:List Int) (a:Nat) (out:List bX),a<=(ly l act gt T f σ o r a out).2.1
 |[],_,_=>aT _
 |t::r,a,out=>by
  rw[ly];split;exact aT _;exact eC (Bp a) (LH r _ (a+1) _)
theorem ab6{col a:Nat}{σ:List Nat}{o:List bX}(hA:act (σ.headD 0) col=(3,0)):∀f,dY l act gt col a f σ o=(14,[],[])\/dY l act gt col a f σ o=(0,σ,o)
 |0=> .inl I
 |f+1=>by
  rw[dY,hA]
  by_cases c:f=0/\((3,0):Act).1≠0
  rw[if_pos c];exact .inl I;rw[if_neg c,if_pos I];exact .inr I
theorem SB{col a s:Nat}{σ:List Nat}{o:List bX}(hA:act (σ.headD 0) col=(1,(s:Int))):∀f,dY l act gt col a f σ o=(14,[],[])\/dY l act gt col a f σ o=(0,s::σ,o++[(2,(a:Int))])
 |0=> .inl I
 |f+1=>by
  rw[dY,hA]
  by_cases c:f=0/\((1,(s:Int)):Act).1≠0
  rw[if_pos c];exact .inl I;rw[if_neg c,if_neg (by show ¬(1:Int)=3;decide),if_pos I]
  by_cases c2:60<σ.length+1
  rw[if_pos c2];exact .inl I;rw[if_neg c2];exact .inr I
theorem ab7{col a:Nat}{p:Int}{σ σ':List Nat}{o:List bX}(hA:act (σ.headD 0) col=(2,p))(Rv:zf l gt σ p=ah σ'):∀f,dY l act gt col a f σ o=(14,[],[])\/∃f',dY l act gt col a f σ o=dY l act gt col a f' σ' (o++[(4,p)])
 |0=> .inl I
 |f+1=>by
  rw[dY,hA]
  by_cases c:f=0/\((2,p):Act).1≠0
  rw[if_pos c];exact .inl I;rw[if_neg c,if_neg (by show ¬(2:Int)=3;decide),if_neg (by show ¬(2:Int)=1;decide),if_pos I];dsimp only;rw[Rv];dsimp only
  by_cases c2:60<σ'.length
  rw[if_pos c2];exact .inl I;rw[if_neg c2];exact .inr ⟨f,rfl⟩
theorem wI{col a:Nat}:∀(f:Nat) (σ:List Nat) (o:List bX),(dY l act gt col a f σ o).1=0\/(dY l act gt col a f σ o).1=13\/(dY l act gt col a f σ o).1=14
 |0,_,_=> .inr (.inr I)
 | f +1,σ,o=>by
  rw[dY];split;exact .inr (.inr I);split;exact .inl I;split
  ·split
   exact .inr (.inr I);exact .inl I
  split
  ·split
   exact .inr (.inl I);split;exact .inr (.inr I);exact wI f _ _
  exact .inr (.inl I)
structure aiP(l:List aM.Prod)(act:Nat->Nat->Act)(gt:Nat->Int->Int)(T N:Nat)(Nx:List (List Int))(S:List (List Item)):Prop where
 act:∀q c,q<S.length->c<=T->act q c=kH l T Nx S q c
 gt:∀q n,q<S.length->0<=n->n<(N:Int)->gt q n=aar T Nx q n
theorem LI{q c:Nat}{x:Act}(h:kH l T Nx S q c=x)(h0:x.1≠0):x∈jz l T (S.getD q []) (Nx.getD q []) c:=by
 unfold kH at h
 cases e:jz l T (S.getD q []) (Nx.getD q []) c with
 |nil=>rw[e]at h;subst h;exact absurd I h0
 |cons y r=>rw[e]at h;subst h;exact fc ..
theorem sG{q c:Nat}{x:Act}(h:x∈jz l T (S.getD q []) (Nx.getD q []) c):
 (x.1=1/\c<T/\0<=(Nx.getD q []).getD c 0/\x.2=(Nx.getD q []).getD c 0)\/(x=(3,0)/\(((l.length:Int),1,(c:Int)):Item)∈S.getD q [])\/(x.1=2/\x.2<(l.length:Int)/\((x.2,((bJ l x.2).2.length:Int),(c:Int)):Item)∈S.getD q []):=by
 unfold jz at h;rcases gH.1 h with h|h
 ·split at h
  ·rename_i c1
   rw[dH]at h;subst h;exact .inl ⟨rfl,c1.1,c1.2,rfl⟩
  cases h
 ·obtain⟨it,hit,e⟩:=List.mem_filterMap.1 h
  obtain⟨p,d,k⟩:=it;unfold wg at e;dsimp only at e
  by_cases c1:k≠(c:Int)
  rw[if_pos c1]at e;cases e;rw[if_neg c1]at e;have c1:k=(c:Int):=Ln.1 c1;subst c1
  by_cases c2:p=(l.length:Int)/\d=1
  ·rw[if_pos c2]at e
   obtain⟨rfl,rfl⟩:=c2;exact .inr (.inl ⟨(nO e).symm,hit⟩)
  rw[if_neg c2]at e
  by_cases c3:p<(l.length:Int)/\d=((bJ l p).2.length:Int)
  ·rw[if_pos c3]at e
   obtain⟨c3,rfl⟩:=c3;obtain rfl:=nO e;exact .inr (.inr ⟨rfl,c3,hit⟩)
  rw[if_neg c3]at e;cases e
section
variable(hB:aiP l act gt T N Nx S)(hI:KR l T N lk S.length Nx S)(hw:∀q∈l,q.2.length<=8)(hl:l.length<=40)(hT:T<=30)(hh:∀q∈l,0<=q.1/\q.1<(N:Int))
include hB hI hw hl hT hh
omit hB hw hl hT hh in
theorem sH{q k s:Nat}{x:bX}(hq:q<S.length)(hk:(lR T N)[k]?=ah x)(hs:(Nx.getD q []).getD k 0=(s:Int)):s<S.length/\S.getD s []=ic l T lk (S.getD q []) x/\ic l T lk (S.getD q []) x≠[]:=by
 rcases hI.cell q hq k x hk with⟨_,h2⟩|⟨h1,h2,h3⟩
 rw[hs]at h2;omega;rw[hs]at h3;obtain rfl:s=idx S (ic l T lk (S.getD q []) x):=by omega
 refine⟨lf h2,?_,h1⟩;rw[bD,bm (lf h2)];exact th (lf h2)
omit hB hI hw hl hT in
theorem CQ{p:Int}(h0:0<=p)(h1:p<(l.length:Int)):0<=(bJ l p).1/\(bJ l p).1<(N:Int):=hh _ (fV h0 h1)
theorem DT{col a:Nat}(hc:col<=T):∀(f:Nat) {σ:List Nat} {o:List bX} {ts:List (bX×Tree)},CP l T N lk S σ ts a->(dY l act gt col a f σ o).1=0->
    ∃ E B7,(dY l act gt col a f σ o).2.2=o++E/\upK l B7=upK l ts++E/\
      ((col<T/\CP l T N lk S (dY l act gt col a f σ o).2.1 B7 (a+1)/\jY l B7=jY l ts++[(col:Int)])\/
       (CP l T N lk S (dY l act gt col a f σ o).2.1 B7 a/\jY l B7=jY l ts/\∃q σ',(dY l act gt col a f σ o).2.1=q::σ'/\(((l.length:Int),1,(col:Int)):Item)∈S.getD q []))
  |0,_,_,_,_,h=>by cases h
  | f + 1, σ, o,ts,hs,h=>by
    obtain⟨q,ρ,rfl⟩:=hs.ne;have hq:=ze hI hs;have hA:act ((q::ρ).headD 0) col=kH l T Nx S q col:=hB.act q col hq hc;rw[dY]at h⊢;generalize act ((q::ρ).headD 0) col=x at*;have JG:=fun h0=>sG (LI (l:=l) (T:=T) (Nx:=Nx) (S:=S) (q:=q) (c:=col) hA.symm h0)
    by_cases c0:f=0/\x.1≠0
    rw[if_pos c0]at h;cases h;rw[if_neg c0]at h⊢
    by_cases c1:x.1=3
    · rw[if_pos c1]at h⊢
      refine⟨[],ts,(dQ _).symm,(dQ _).symm,.inr ⟨hs,rfl,q,ρ,rfl,?_⟩⟩;rcases JG J with h'|h'|h'
      omega;exact h'.2;omega
    rw[if_neg c1]at h⊢
    by_cases c2:x.1=1
    · rw[if_pos c2]at h⊢
      by_cases c3:60<(q::ρ).length+1
      rw[if_pos c3]at h;cases h;rw[if_neg c3]at h⊢;rcases JG J with h'|h'|h'
      · obtain⟨_,h1,h2,h3⟩:=h'
        obtain⟨s,Xu⟩:=fz h2;obtain⟨k1,k2,k3⟩:=sH hI hq (w8 h1) Xu;have e:x.2.toNat=s:=by rw[h3,Xu];rfl
        have aiQ:eH l (.mk (-1) (a:Int) []) (1,(col:Int)) a:=by rw[eH];exact .inl ⟨rfl,rfl,rfl,rfl⟩
        refine⟨[(2,(a:Int))],((1,(col:Int)),.mk (-1) (a:Int) [])::ts,rfl,?_,.inl ⟨h1,?_,?_⟩⟩;rw[GZ,NL]
        · rw[e]
          have:=CP.push hs k1 k2 k3 aiQ;exact this
        rw[rh];rfl
      rw[h'.1]at c2;cases c2;omega
    rw[if_neg c2]at h⊢
    by_cases c3:x.1=2
    · rw[if_pos c3]at h⊢
      rcases JG J with h'|h'|h'
      omega;rw[h'.1]at c3;cases c3;obtain⟨_,h1,h2⟩:=h';have h0:0<=x.2:=(jf hI hq _ h2).1;obtain⟨r1,r2⟩:=CQ hh h0 h1
      cases e:zf l gt (q::ρ) x.2 with
      |none=>rw[e]at h;cases h
      | some σ'=>
        rw[e]at h;dsimp only at h⊢
        by_cases c4:60<σ'.length
        rw[if_pos c4]at h;cases h;rw[if_neg c4]at h⊢;unfold zf at e
        cases ed:(q::ρ).drop (bJ l x.2).2.length with
        |nil=>rw[ed]at e;cases e
        | cons r ρ2=>
          rw[ed]at e;dsimp only at e
          by_cases c5:0<=gt r (bJ l x.2).1
          · rw[if_pos c5]at e
            obtain rfl:=nO e;obtain⟨q',σ2,us,ts2,a2,e1,e2,e3,e4,e5,e6,e7,e8⟩:=xh hI hw hl hT _ hs h2 rfl;have hr:r<S.length:=by
              rw[ed]at e1;obtain⟨rfl,rfl⟩:=oc e1;exact ze hI e4
            have hg:=hB.gt r _ hr r1 r2;rw[hg]at c5 h⊢;obtain⟨s,Xu⟩:=fz c5;have hk:(lR T N)[T+(bJ l x.2).1.toNat]?=ah (2,(bJ l x.2).1):=by
              have:=As (T:=T) (N:=N) (k:=(bJ l x.2).1.toNat) J
              rwa [oY r1]at this
            obtain⟨k1,k2,k3⟩:=sH hI hr hk Xu;obtain⟨ts3,g1,g2,g3⟩:=SA hI hw hl hT hs h0 h1 h2 ed k1 k2 k3;have e9:(aar T Nx r (bJ l x.2).1).toNat=s:=by rw[Xu];rfl
            rw[e9]at h⊢;obtain⟨E,ts4,f1,f2,f3⟩:=DT hc f g1 h;refine⟨(4,x.2)::E,ts4,by rw[f1,dL];rfl,by rw[f2,g3,dL];rfl,?_⟩;rw[g2]at f3;exact f3
          rw[if_neg c5]at e;cases e
    rw[if_neg c3]at h;cases h
theorem Jm(ab8:∀q,q<S.length->∀it∈S.getD q [],it.1=(l.length:Int)->it.2.2=(T:Int)):∀(r:List Int) {σ:List Nat} {a:Nat} {out:List bX} {ts:List (bX×Tree)},(∀x∈r,0<=x/\x<(T:Int))->CP l T N lk S σ ts a->upK l ts=out->(tR l act gt T r σ a out).2.2=0->
 ∃t,eH l t (2,0) 0/\L9 l t=(tR l act gt T r σ a out).1/\fU l t=jY l ts++r
 | [],σ,a,out,ts,_,hs,ho,h=>by
  obtain⟨E,B7,h1,h2,h3⟩:=DT hB hI hw hl hT hh (aT T) 2001 (o:=[]) hs h;rcases h3 with⟨h3,_⟩|⟨h3,h4,q,σ',h5,h6⟩
  omega;rw[h5]at h3;obtain⟨t,rfl,ht⟩:=Sz hI hw hl hT h3 h6;refine⟨t,ht,?_,?_⟩
  ·show L9 l t=out++(dY l act gt T a 2001 σ []).2.2
   rw[h1,fN,<-ho,<-h2,GZ];rfl
  rw[dQ,<-h4,rh,mH ht];rfl
 | t ::r,σ,a,out,ts,hr,hs,ho,h=>by
  obtain⟨t0,t1⟩:=hr t (fc ..);rw[tR]at h⊢
  by_cases c:(dY l act gt t.toNat a 2001 σ []).1≠0
  rw[if_pos c]at h;exact absurd h c;rw[if_neg c]at h⊢;obtain⟨E,B7,h1,h2,h3⟩:=DT hB hI hw hl hT hh (show t.toNat<=T by omega) 2001 (o:=[]) hs (Ln.1 c);rcases h3 with⟨h3,h4,h5⟩|⟨h3,h4,q,σ',h5,h6⟩
  ·obtain⟨tt,g1,g2,g3⟩:=Jm ab8 r (fun x hx=>hr x (iI _ hx)) h4 (by rw[h2,h1,ho];rfl) h
   refine⟨tt,g1,g2,?_⟩;rw[g3,h5,dL,oY t0];rfl
  exfalso
  rw[h5]at h3;have:=ab8 q (ze hI h3) _ h6 I;have h7:((t.toNat:Nat):Int)=(T:Int):=this;omega
omit hw hl hT in
theorem AN{w:List Int}(NM:∀x∈w,0<=x/\x<(T:Int)){σ σ1:List Nat}{a a1:Nat}{E:List bX}(h:BL l T Nx S w σ a E σ1 a1):(∀q∈σ,q<S.length)->a1=w.length->(∀q ρ,σ1=q::ρ->kH l T Nx S q (dW T w a1)=(3,0))->σ1≠[]->
 ∀(f:Nat) (o:List bX) (m:Nat) (r:List Int) (out:List bX),a<=w.length->m<=r.length->m<=(w.drop a).length->r.take m=(w.drop a).take m->(r=w.drop a->(ly l act gt T f σ o r a out).2.2=14\/ly l act gt T f σ o r a out=(out++(o++E),w.length,0))/\((ly l act gt T f σ o r a out).2.2=14\/a+m<=(ly l act gt T f σ o r a out).2.1):=by
 induction h with
 | @nil σ a=>
  intro hq ha SC hne f o m r out VN hm Hc hr;subst ha;have hm0:m=0:=by rw[ik]at Hc;omega
  subst hm0;refine⟨fun Ru=>?_,.inr (G3 f σ o r _ out)⟩;rw[wq]at Ru;subst Ru;obtain⟨q,ρ,rfl⟩:∃q ρ,σ=q::ρ:=Gy hne;have hc:dW T w w.length=T:=by unfold dW;rw[if_neg (wt _)]
  have hA:=SC q ρ I;rw[hc]at hA;have hA2:act ((q::ρ).headD 0) T=(3,0):=(hB.act q T (hq q (fc ..)) (aT _)).trans hA;rcases ab6 (l:=l) (gt:=gt) (a:=w.length) (o:=o) hA2 f with e|e
  exact .inl (by rw[ly,e]);exact .inr (by rw[ly,e,dQ])
 | @shift q s σ σ' a a' E ha h hr ih=>
  intro hq ha' SC hne f o m r out VN hm Hc hrm;have hqS:=hq q (fc ..);have Wh:dW T w a<=T:=by
   unfold dW;rw[if_pos ha];have:=NM _ (bV ha);rw[bD,bm ha];show w[a].toNat<=T
   omega
  have hA2:act ((q::σ).headD 0) (dW T w a)=(1,(s:Int)):=(hB.act q _ hqS Wh).trans h;have ab9:=sG (LI h (by show(1:Int)≠0;decide));have r8:dW T w a<T/\(Nx.getD q []).getD (dW T w a) 0=(s:Int):=by
   rcases ab9 with h'|h'|h'
   exact⟨h'.2.1,h'.2.2.2.symm⟩
   cases h'.1
   have:=h'.1;cases this
  obtain⟨k1,-,-⟩:=sH hI hqS (w8 r8.1) r8.2;have hq2:∀q'∈s::q::σ,q'<S.length:=fun q' zq=>(df.1 zq).elim (fun e=>e▸k1) fun e=>hq q' e;have hd:w.drop a=w[a]::w.drop (a+1):=dJ ha;have hcw:dW T w a=w[a].toNat:=by
   unfold dW;rw[if_pos ha,bD,bm ha];rfl
  have key:∀(r':List Int),(ly l act gt T f (q::σ) o (w[a]::r') a out).2.2=14\/ly l act gt T f (q::σ) o (w[a]::r') a out=ly l act gt T 2001 (s::q::σ) [] r' (a+1) (out++(o++[(2,(a:Int))])):=fun r'=>by
   rw[hcw]at hA2;rcases SB (l:=l) (gt:=gt) (a:=a) (o:=o) hA2 f with e|e
   exact .inl (by rw[ly,e];rfl);exact .inr (by rw[ly,e,<-G2];rfl)
  constructor
  ·intro Ru
   subst Ru;rw[hd];rcases key (w.drop (a+1))with zn|he
   exact .inl zn;rw[he];have:=(ih hq2 ha' SC hne 2001 [] 0 (w.drop (a+1)) (out++(o++[(2,(a:Int))])) J (bC _) (bC _) I).1 I;rcases this with zn|h0
   exact .inl zn
   right
   rw[h0];simp
  match m,r,hm,hrm with
  |0,r,_,_=>exact .inr (G3 _ _ _ _ _ _)
  |m+1,[],h',_=>simp at h'
  | m+1,x::r',pV,HK=>
   rw[hd]at HK Hc;simp only[mV,fg]at HK;obtain⟨rfl,HK⟩:=HK;rcases key r' with zn|he
   exact .inl zn;rw[he];have:=(ih hq2 ha' SC hne 2001 [] m r' (out++(o++[(2,(a:Int))])) J (by simpa using pV) (Nat.le_of_succ_le_succ Hc) HK).2;rcases this with zn|h0
   exact .inl zn;exact .inr J
 | @reduce q rq tq p σ ρ σ' a a' E h hd hg hr ih=>
  intro hq ha' SC hne f o m r out VN hm Hc hrm;have hqS:=hq q (fc ..);have Wh:dW T w a<=T:=by
   unfold dW;split
   ·rename_i ha
    have:=NM _ (bV ha);rw[bD,bm ha];show w[a].toNat<=T
    omega
   exact aT _
  have hA2:act ((q::σ).headD 0) (dW T w a)=(2,p):=(hB.act q _ hqS Wh).trans h;have ab9:=sG (LI h (by show(2:Int)≠0;decide));have hp:p<(l.length:Int)/\0<=p:=by
   rcases ab9 with h'|h'|h'
   have:=h'.1;cases this
   cases h'.1
   exact⟨h'.2.1,(jf hI hqS _ h'.2.2).1⟩
  obtain⟨r1,r2⟩:=CQ hh hp.2 hp.1;have hrS:rq<S.length:=hq rq (o9 (i:=(bJ l p).2.length) (by rw[hd];exact fc ..));have hk:(lR T N)[T+(bJ l p).1.toNat]?=ah (2,(bJ l p).1):=by
   have:=As (T:=T) (N:=N) (k:=(bJ l p).1.toNat) J
   rwa [oY r1]at this
  obtain⟨k1,-,-⟩:=sH hI hrS hk hg;have hq2:∀q'∈tq::rq::ρ,q'<S.length:=fun q' zq=>(df.1 zq).elim (fun e=>e▸k1) fun e=>hq q' (o9 (i:=(bJ l p).2.length) (by rw[hd];exact e));have Rv:zf l gt (q::σ) p=ah (tq::rq::ρ):=by
   unfold zf;rw[hd];dsimp only;rw[hB.gt rq _ hrS r1 r2,hg,if_pos J];rfl
  have sf:∀(col:Nat),act ((q::σ).headD 0) col=(2,p)->(dY l act gt col a f (q::σ) o).1=14\/∃f',dY l act gt col a f (q::σ) o=dY l act gt col a f' (tq::rq::ρ) (o++[(4,p)]):=fun col hA2=>by
   rcases ab7 (a:=a) (o:=o) hA2 Rv f with e|e
   exact .inl (by rw[e]);exact .inr e
  have key:∀(r':List Int),(r'=[]->dW T w a=T)->(∀t r2,r'=t::r2->dW T w a=t.toNat)->(ly l act gt T f (q::σ) o r' a out).2.2=14\/∃f',ly l act gt T f (q::σ) o r' a out=ly l act gt T f' (tq::rq::ρ) (o++[(4,p)]) r' a out:=fun r' e1 e2=>by
   match r' with
   | []=>
    have hA3:=hA2;rw[e1 I]at hA3;rcases sf T hA3 with zn|⟨f',he⟩
    exact .inl (by rw[ly];exact zn);exact .inr ⟨f',by rw[ly,ly,he]⟩
   | t ::r2=>
    have hA3:=hA2;rw[e2 t r2 I]at hA3;rcases sf t.toNat hA3 with zn|⟨f',he⟩
    ·left
     rw[ly,if_pos (by rw[zn];decide)];exact zn
    exact .inr ⟨f',by rw[ly,ly,he]⟩
  have hcw:∀t r2,w.drop a=t::r2->dW T w a=t.toNat:=fun t r2 e=>by
   have ha:a<w.length:=by
    rcases x9 a w.length with h|h
    exact h;rw[uS h]at e;cases e
   rw[dJ ha]at e;obtain⟨rfl,_⟩:=oc e;unfold dW;rw[if_pos ha,bD,bm ha];rfl
  constructor
  ·intro Ru
   rcases key r (fun e=>by
    subst Ru;have ha:¬a<w.length:=fun ha=>by rw[dJ ha]at e;cases e
    unfold dW;rw[if_neg ha]) (fun t r2 e=>hcw t r2 (by rw[<-Ru,e]))with zn|⟨f',he⟩
   exact .inl zn;rw[he];rcases(ih hq2 ha' SC hne f' (o++[(4,p)]) m r out VN hm Hc hrm).1 Ru with zn|h0
   exact .inl zn
   right
   rw[h0];simp
  match m,r,hm,hrm with
  |0,r,_,_=>exact .inr (G3 _ _ _ _ _ _)
  |m+1,[],h',_=>simp at h'
  | m +1,x::r',pV,HK=>
   have ha:a<w.length:=by rw[ik]at Hc;omega
   have hx:w.drop a=x::w.drop (a+1):=by
    rw[dJ ha]at HK⊢;simp only[mV,fg]at HK;rw[HK.1]
   rcases key (x::r') (fun e=>by cases e) (fun t r2 e=>by cases e;exact hcw _ _ hx)with zn|⟨f',he⟩
   exact .inl zn;rw[he];exact(ih hq2 ha' SC hne f' (o++[(4,p)]) (m+1) (x::r') out VN pV Hc HK).2
theorem xf(ab8:∀q,q<S.length->∀it∈S.getD q [],it.1=(l.length:Int)->it.2.2=(T:Int)):∀(r:List Int) {σ:List Nat} {a:Nat} {out:List bX} {ts:List (bX×Tree)},(∀x∈r,0<=x/\x<(T:Int))->CP l T N lk S σ ts a->
 ∃σ' B7,CP l T N lk S σ' B7 (tR l act gt T r σ a out).2.1/\jY l B7=jY l ts++r.take ((tR l act gt T r σ a out).2.1-a)
 |[],σ,a,out,ts,_,hs=>⟨σ,ts,hs,by simp⟩
 | t ::r,σ,a,out,ts,hr,hs=>by
  obtain⟨t0,t1⟩:=hr t (fc ..);rw[tR]
  by_cases c:(dY l act gt t.toNat a 2001 σ []).1≠0
  ·rw[if_pos c]
   exact⟨σ,ts,hs,by simp⟩
  rw[if_neg c];obtain⟨E,ts1,h1,h2,h3⟩:=DT hB hI hw hl hT hh (show t.toNat<=T by omega) 2001 (o:=[]) hs (Ln.1 c);rcases h3 with⟨h3,h4,h5⟩|⟨h3,h4,q,σ',h5,h6⟩
  ·obtain⟨σ',B7,g1,g2⟩:=xf ab8 r (out:=out++(dY l act gt t.toNat a 2001 σ []).2.2) (fun x hx=>hr x (iI _ hx)) h4
   refine⟨σ',B7,g1,?_⟩;have hge:=LH (l:=l) (act:=act) (gt:=gt) (T:=T) r (dY l act gt t.toNat a 2001 σ []).2.1 (a+1) (out++(dY l act gt t.toNat a 2001 σ []).2.2);rw[g2,h5,dL]
   congr 1
   obtain⟨d,hd⟩:∃d,(tR l act gt T r (dY l act gt t.toNat a 2001 σ []).2.1 (a+1) (out++(dY l act gt t.toNat a 2001 σ []).2.2)).2.1=a+1+d:=⟨_,(Nat.add_sub_cancel' hge).symm⟩;rw[hd,show a+1+d-(a+1)=d by omega,show a+1+d-a=d+1 by omega,mV,oY t0];rfl
  exfalso
  rw[h5]at h3;have h7:((t.toNat:Nat):Int)=(T:Int):=ab8 q (ze hI h3) _ h6 I;omega
omit hB hh in
theorem SD(hM:∀i:Nat,i<N->∃ws,pI l (2,(i:Int)) ws)(hb:∀p x,x∈dA l p->x.1=1\/(x.1=2/\0<=x.2/\x.2<(N:Int))){σ:List Nat}{ts:List (bX×Tree)}{a:Nat}(h:CP l T N lk S σ ts a):
 ∀q ρ,σ=q::ρ->∀it∈S.getD q [],∀u,lJ l ((dA l it.1).drop it.2.1.toNat) u->∃v,pI l (2,0) (jY l ts++(u++v)):=by
 have ab_:∀(b:List bX),(∀x∈b,x.1=1\/(x.1=2/\0<=x.2/\x.2<(N:Int)))->∃ws,lJ l b ws:=fun b=>by
  induction b with
  |nil=>exact fun _=>⟨[],.nil⟩
  | cons y r ih=>
   intro hx;obtain⟨w2,h2⟩:=ih fun x JM=>hx x (iI _ JM);have h1:∃ws,pI l y ws:=by
    obtain⟨k,n⟩:=y;rcases hx (k,n) (fc ..)with h|⟨h1,h2,h3⟩
    exact⟨[n],.nf h⟩;dsimp only at h1 h2 h3;subst h1;obtain⟨m,rfl⟩:=fz h2;exact hM m J
   obtain⟨w1,h1⟩:=h1;exact⟨w1++w2,.cons h1 h2⟩
 have up:∀{ts:List (bX×Tree)} {s:List Item} (hs:∀it∈s,eg l T it) (l0:List Item),(∀it∈l0,∀u,lJ l ((dA l it.1).drop it.2.1.toNat) u->∃v,pI l (2,0) (jY l ts++(u++v)))->∀it,Cl l T lk l0 it->∀u,lJ l ((dA l it.1).drop it.2.1.toNat) u->∃v,pI l (2,0) (jY l ts++(u++v)):=fun {ts s} _ l0 h0 it hc=>by
  induction hc with
  |base hb=>exact h0 _ hb
  | @step Ua it3 hc hx ih=>
   intro u hu;obtain⟨n,i,k,h1,h2,h3,_,_,rfl⟩:=hx;have hbi:dA l (i:Int)=(bJ l (i:Int)).2:=by unfold dA;rw[if_neg J]
   have hu:lJ l (dA l (i:Int)) u:=hu;rw[hbi]at hu;have hd:pI l (2,n) u:= .MY (by show(2:Int)≠1;decide) (fV J J) h3 hu;unfold ki at h1;obtain⟨h4,h5⟩:=cU.1 h1;obtain⟨w2,hw2⟩:=ab_ ((dA l Ua.1).drop (Ua.2.1.toNat+1)) fun x hx=>hb Ua.1 x (o9 hx);have hd2:lJ l ((dA l Ua.1).drop Ua.2.1.toNat) (u++w2):=by
    rw[dJ h4,h5];exact .cons hd hw2
   obtain⟨v,hv⟩:=ih _ hd2;exact⟨w2++v,by rw[<-dL u];exact hv⟩
 induction h with
 | start=>
  intro q ρ e it hit u hu;obtain⟨rfl,rfl⟩:=oc e;rw[Sx hI]at hit;refine up (s:=[]) (fun _ h=>by cases h) [((l.length:Int),0,(T:Int))] (fun Lb h u hu=>?_) it ((eO (lk:=lk) hw hl hT (ft hl hT)).1 hit) u hu;rw[dH.1 h]at hu;have xl:dA l (l.length:Int)=[(2,0)]:=by unfold dA;rw[if_pos I]
  have hu:lJ l (dA l (l.length:Int)) u:=hu;rw[xl]at hu;refine⟨[],?_⟩
  cases hu with
  | cons h1 h2=>
   cases h2
   rw[dQ,dQ];exact h1
 | @push q s σ ts a x t h hs hx hne ht ih=>
  intro q' ρ e it hit u hu;obtain⟨rfl,rfl⟩:=oc e;have hqr:=jf hI (ze hI h);rw[hx]at hit;refine up (s:=[]) (fun _ h=>by cases h) (mM l (S.getD q []) x) (fun Lb h u hu=>?_) it ((eO (lk:=lk) hw hl hT (im hqr)).1 hit) u hu;obtain⟨it0,k1,k2,rfl⟩:=wb.1 h;unfold ki at k2;obtain⟨k3,k4⟩:=cU.1 k2;have h0:=(hqr it0 k1).2.2.1;have e1:(qQ it0).2.1.toNat=it0.2.1.toNat+1:=by show(it0.2.1+1).toNat=_;omega
  rw[e1]at hu;have hu2:lJ l ((dA l it0.1).drop it0.2.1.toNat) (ef l t x++u):=by
   rw[dJ k3,k4];exact .cons (sE ht) hu
  obtain⟨v,hv⟩:=ih q σ rfl it0 k1 _ hu2;refine⟨v,?_⟩;rw[rh]
  simpa[dL]using hv
omit hB hh in
theorem SE(hM:∀i:Nat,i<N->∃ws,pI l (2,(i:Int)) ws)(hb:∀p x,x∈dA l p->x.1=1\/(x.1=2/\0<=x.2/\x.2<(N:Int))){σ:List Nat}{ts:List (bX×Tree)}{a:Nat}(h:CP l T N lk S σ ts a):∃v,pI l (2,0) (jY l ts++v):=by
 obtain⟨q,ρ,rfl⟩:=h.ne;have hne:S.getD q []≠[]:=by
  cases h with
  | start=>
   rw[Sx hI];exact fun e=>by
    have:=(eO (lk:=lk) hw hl hT (ft hl hT) (x:=(((l.length:Int),0,(T:Int)):Item))).2 (.base (dH.2 I));rw[show jq l T lk [((l.length:Int),0,(T:Int))]=l7 l T lk from I,e]at this
    cases this
  |push _ _ hx hne _=>rw[hx];exact hne
 obtain⟨it,r,hr⟩:=Gy hne;have hit:it∈S.getD q []:=by rw[hr];exact fc ..
 have ab_:∀(b:List bX),(∀x∈b,x.1=1\/(x.1=2/\0<=x.2/\x.2<(N:Int)))->∃ws,lJ l b ws:=fun b=>by
  induction b with
  |nil=>exact fun _=>⟨[],.nil⟩
  | cons y r ih=>
   intro hx;obtain⟨w2,h2⟩:=ih fun x JM=>hx x (iI _ JM);have h1:∃ws,pI l y ws:=by
    obtain⟨k,n⟩:=y;rcases hx (k,n) (fc ..)with h|⟨h1,h2,h3⟩
    exact⟨[n],.nf h⟩;dsimp only at h1 h2 h3;subst h1;obtain⟨m,rfl⟩:=fz h2;exact hM m J
   obtain⟨w1,h1⟩:=h1;exact⟨w1++w2,.cons h1 h2⟩
 obtain⟨u,hu⟩:=ab_ ((dA l it.1).drop it.2.1.toNat) fun x hx=>hb it.1 x (o9 hx);obtain⟨v,hv⟩:=SD hI hw hl hT hM hb h q ρ rfl it hit u hu;exact⟨u++v,hv⟩
end
end
end bP
namespace cg
open aM dN ee dx bP c_ o8
open wZ (dW)
structure hZ(g:dF)(T N:Nat)(Nx:List (List Int))(S:List (List bP.Item)):Prop where
 xw:cD g=0
 aQ:g.aQ=(T:Int)
 bB:g.bB=(N:Int)
 all:allI g.az T N (kj g)=ah (Nx,S)
 dG:(iN g).1=fY g.az T Nx S S.length
 gos:(iN g).2.1=fa T Nx S.length
 ag6:(iN g).2.2.1=iL g.az T Nx S S.length
theorem B8{g:dF}(h:(iN g).2.2.2=0):∃T N Nx S,hZ g T N Nx S:=by
 unfold iN at h
 by_cases c:(jA g).2.2≠0
 rw[if_pos c]at h;exact absurd h c;have c2:(jA g).2.2=0:=Ln.1 c;obtain⟨hg,hA⟩:=Ub c2;obtain⟨hT1,hT2,hN1,hN2,-⟩:=cz hg;exact⟨g.aQ.toNat,g.bB.toNat,(jA g).1,(jA g).2.1,hg,by omega,by omega,hA,by unfold iN;rw[if_neg c],by unfold iN;rw[if_neg c],by unfold iN;rw[if_neg c]⟩
section
variable{g:dF}{T N:Nat}{Nx:List (List Int)}{S:List (List bP.Item)}
theorem hZ.wide(h:hZ g T N Nx S):∀q∈g.az,q.2.length<=8:=fun q hq=>((cz h.xw).2.2.2.2.2 q hq).1
theorem hZ.Cq(h:hZ g T N Nx S):g.az.length<=40:=(cz h.xw).2.2.2.2.1
theorem hZ.t30(h:hZ g T N Nx S):T<=30:=by have:=(cz h.xw).2.1;have:=h.aQ;omega
theorem hZ.law(h:hZ g T N Nx S):KR g.az T N (kj g) S.length Nx S:=NI h.wide h.Cq h.t30 h.all
theorem hZ.heads(h:hZ g T N Nx S):∀q∈g.az,0<=q.1/\q.1<(N:Int):=fun q hq=>by
 obtain⟨_,h1,h2,_⟩:=(cz h.xw).2.2.2.2.2 q hq;rw[h.bB]at h2;exact⟨h1,h2⟩
theorem zg{l:List aM.Prod}{i n:Nat}(h:i<n):(fY l T Nx S n)[i]?=ah (gL l T Nx S i (T+1)):=by unfold fY;simp[h]
theorem wJ{i n:Nat}(h:i<n):(fa T Nx n)[i]?=ah ((Nx.getD i []).drop T):=by unfold fa;simp[h]
theorem G4{l:List aM.Prod}{q c:Nat}(h:c<T+1):(gL l T Nx S q (T+1))[c]?=ah (kH l T Nx S q c):=by
 unfold gL;rw[eQ,List.getElem?_range h];simp[h]
theorem hZ.right(h:hZ g T N Nx S){q c:Nat}(hq:q<S.length)(_:c<T+1):wE T g.az.length S.length (kH g.az T Nx S q c) c:=by
 have hI:=h.law
 by_cases h0:(kH g.az T Nx S q c).1=0
 ·left
  refine⟨h0,?_⟩;unfold kH at h0⊢
  cases e:jz g.az T (S.getD q []) (Nx.getD q []) c with
  |nil=>rfl
  |cons y r=>
   rw[e]at h0;have hm:y∈jz g.az T (S.getD q []) (Nx.getD q []) c:=by rw[e];exact fc ..
   rcases sG hm with h'|h'|h'
   have:=h'.1;have h0:y.1=0:=h0;omega;have h0:y.1=0:=h0;rw[h'.1]at h0;cases h0;have:=h'.1;have h0:y.1=0:=h0;omega
 rcases sG (LI rfl h0)with h'|h'|h'
 ·obtain⟨h1,h2,h3,h4⟩:=h'
  obtain⟨s,hs⟩:=fz h3;obtain⟨k1,-,-⟩:=sH hI hq (w8 h2) hs;exact .inr (.inl ⟨h1,h2,by omega,by rw[h4,hs];omega⟩)
 ·obtain⟨h1,h2⟩:=h'
  have ht:=T_ h.wide h.Cq h.t30 h.all q hq _ h2 I;have ht:(c:Int)=(T:Int):=ht;exact .inr (.inr (.inr ⟨by rw[h1],by rw[h1],by omega⟩))
 obtain⟨h1,h2,h3⟩:=h';exact .inr (.inr (.inl ⟨h1,(jf hI hq _ h3).1,h2⟩))
theorem hZ.l_(h:hZ g T N Nx S):wF g T N (fY g.az T Nx S S.length) (fa T Nx S.length) where
 xw:=h.xw
 aQ:=h.aQ
 bB:=h.bB
 pos:=by rw[jn];exact(cU.1 h.law.start).1
 Cq:=by rw[jn];exact h.law.Cq
 same:=by rw[jn,mO]
 wA:=fun i hi=>by
  obtain⟨h1,h2⟩:=cU.1 (zg (T:=T) (Nx:=Nx) (S:=S) (l:=g.az) (show i<S.length by rw[jn]at hi;exact hi));rw[h2];exact qC
 dG:=fun i hi c hc=>by
  have pP:i<S.length:=by rw[jn]at hi;exact hi
  obtain⟨h1,h2⟩:=cU.1 (zg (T:=T) (Nx:=Nx) (S:=S) (l:=g.az) pP);simp only[h2]at hc⊢;rw[qC]at hc;obtain⟨h3,h4⟩:=cU.1 (G4 (l:=g.az) (T:=T) (Nx:=Nx) (S:=S) (q:=i) hc);rw[h4,jn];exact h.right pP hc
 wG:=fun i hi=>by
  have pP:i<S.length:=by rw[mO]at hi;exact hi
  obtain⟨h1,h2⟩:=cU.1 (wJ (T:=T) (Nx:=Nx) pP);rw[h2,ik,h.law.wide i pP];omega
 gos:=fun i hi y hy=>by
  have pP:i<S.length:=by rw[mO]at hi;exact hi
  obtain⟨h1,h2⟩:=cU.1 (wJ (T:=T) (Nx:=Nx) pP);rw[h2]at hy;obtain⟨k,hk,rfl⟩:=abz hy;rw[jn];rw[ik,h.law.wide i pP]at hk;rw[List.getElem_drop];have hw:=h.law.wide i pP;have hg:(Nx.getD i [])[T+k]'(by rw[hw];omega)=(Nx.getD i []).getD (T+k) 0:=by rw[bD (l:=Nx.getD i []),bm (by rw[hw];omega)];rfl
  rw[hg];rcases h.law.cell i pP (T+k) _ (As J)with⟨_,e⟩|⟨_,e1,e2⟩
  rw[e];omega;rw[e2];have:=lf e1;omega
def jC(A:List (List bP.Act))(q c:Nat):bP.Act:=(A.getD q []).getD c (0,0)
def fK(G:List (List Int))(q:Nat)(n:Int):Int:=(G.getD q []).getD n.toNat 0
theorem hZ.aeC(_:hZ g T N Nx S):aiP g.az (jC (fY g.az T Nx S S.length)) (fK (fa T Nx S.length)) T N Nx S where
 act:=fun q c hq hc=>by
  unfold jC;rw[show(fY g.az T Nx S S.length).getD q []=gL g.az T Nx S q (T+1)by rw[bD,zg hq];rfl];show(gL g.az T Nx S q (T+1)).getD c (0,0)=_
  rw[bD,G4 J];rfl
 gt:=fun q n hq h0 hn=>by
  unfold fK aar;rw[show(fa T Nx S.length).getD q []=(Nx.getD q []).drop T by rw[bD,wJ hq];rfl];show((Nx.getD q []).drop T).getD n.toNat 0=_
  rw[bD (l:=(Nx.getD q []).drop T),List.getElem?_drop,bD (l:=Nx.getD q [])]
theorem CR{l:List aM.Prod}:∀n,(iL l T Nx S n).length=0->∀q,q<n->∀c,c<=T->(jz l T (S.getD q []) (Nx.getD q []) c).length<=1
 |0,_,q,hq,_,_=>absurd hq (ni _)
 | n + 1,h,q,hq,c,hc=>by
  rw[iL,bK]at h
  by_cases e:q=n
  ·subst e
   have row:∀d,(iK l T Nx S q d).length=0->∀c,c<d->(xe l T Nx S q c).length=0:=fun d=>by
    induction d with
    |zero=>exact fun _ c hc=>absurd hc (ni _)
    | succ d ih=>
     intro h c hc;rw[iK,bK]at h
     by_cases e2:c=d
     subst e2;omega;exact ih J c J
   have:=row (T+1) J c J;unfold xe at this;rw[dw,List.length_tail]at this;have h2:(jz l T (S.getD q []) (Nx.getD q []) c).length-1=0:=this;omega
  exact CR n J q J c hc
theorem hZ.calm(h:hZ g T N Nx S)(hc:AL g=aB):IM g.az T Nx S:=by
 unfold AL at hc;rw[ff,decide_eq_true_eq,decide_eq_true_eq,h.ag6]at hc;exact fun q hq c Wh=>CR S.length hc.2 q hq c Wh
theorem G5(hg:cD g=0){p:Int}:∀x∈dA g.az p,right g.aQ g.bB x=true:=fun x hx=>by
 unfold dA at hx;split at hx
 ·rw[dH.1 hx]
  have:=(cz hg).2.2.1;unfold right;rw[if_neg akV,if_pos I];simp only[kz,decide_true,rP,decide_eq_true_eq];omega
 by_cases h2:p.toNat<g.az.length
 ·have:bJ g.az p∈g.az:=by unfold bJ;rw[bD,bm h2];exact bV h2
  exact((cz hg).2.2.2.2.2 _ this).2.2.2 x hx
 unfold bJ at hx;rw[bD,ii J]at hx
 cases hx
theorem hZ.looks(h:hZ g T N Nx S)(p d:Int):kj g p d=eE (mS N g.az).E (BH N g.az) ((dA g.az p).drop (d.toNat+1)) (2^62):=by
 unfold kj C7;have hb8:=nj (l:=g.az) (p:=p) h.wide;have hE:vX g ((dA g.az p).drop (d.toNat+1))=0:=by
  unfold vX;rw[if_neg (by rw[h.xw];simp),if_neg (by rw[ik];omega)];exact KM fun x hx=>G5 h.xw x (o9 hx)
 rw[if_pos hE,show g.bB.toNat=N by rw[h.bB];rfl]
theorem hZ.lrH(h:hZ g T N Nx S)(hc:AL g=aB){w:List Int}(hw:∀x∈w,0<=x/\x<(T:Int)):LrH g.az T N (kj g) Nx S w (mS N g.az).E (BH N g.az) (Ct N g.az) (mS N g.az).R (mS N g.az).M where
 wide:=h.wide
 Cq:=h.Cq
 aQ:=h.t30
 bB:=by have:=(cz h.xw).2.2.1;have:=h.bB;omega
 ab3:=pG h.xw h.bB
 nf:=fun q hq x hx h1=>by
  have:=((cz h.xw).2.2.2.2.2 q hq).2.2.2 x hx;rcases oK this with⟨_,h2,h3⟩|⟨h2,_⟩
  rw[h.aQ]at h3;exact⟨h2,h3⟩;rw[h1]at h2;cases h2
 all:=h.law
 calm:=h.calm hc
 facts:=BI h.xw h.bB
 looks:=fun p d _ _ _=>h.looks p d
 word:=hw
end
end cg
namespace nw
open dj gu eB c_
open cg (lC eM wj K0)
variable{m:MS}{R:List Row}{d:DM}
theorem aeD(hm:Ks m)(hi:MkI m (fD m.empty 0) (d.S.length+1) R d)(k:Nat):d.tags.getD k 0<m.empty.length:=by
 have h:=hi.tags;unfold rO at h;rw[h];have h0:=hm.some
 cases k with
 | zero=>
  have:=I2 (l:=m.empty);have e:(fD m.empty 0::d.S.map (nw.mD m.ps)).getD 0 0=fD m.empty 0:=rfl;rw[e];omega
 | succ k=>
  by_cases hk:k<d.S.length
  ·have e:(fD m.empty 0::d.S.map (nw.mD m.ps)).getD (k+1) 0=nw.mD m.ps d.S[k]:=by
    rw[abA,bD,eQ,bm hk];rfl
   rw[e];unfold nw.mD;rcases K5 hm.rules hm.ok.ps.rules d.S[k] m.ps.aZ.length (aT _)with⟨h1,_⟩|⟨_,_,_,_,_,h1,h2,_⟩
   rw[h1];omega;omega
  rw[abA,bD,ii (by rw[dw];omega)];show(0:Int)<_
  omega
end nw
namespace cg
open Go.RowKit cT ey dj gu je aM c_ eB nw
theorem aca{R:List Row}{tags:List Int}{n:Int}(h:∀k,tags.getD k 0<n):∀t∈yZ R tags,t<n:=fun t ht=>by
 unfold yZ at ht;split at ht
 ·obtain⟨k,-,rfl⟩:=eI.1 ht
  exact h k
 cases ht
theorem acb{s:Sp}{r:Int×List Row×List Int}(h:Uo s r)(h0:r.1=0):0<s.words.length/\s.words.length<=20/\∀t∈r.2.2,t<(s.words.length:Int):=by
 rcases h with⟨k,hk,-,rfl⟩|⟨es,m,h1,-,h3,h4,h5,-,⟨h,rfl⟩|⟨-,h,rfl⟩|⟨h,hd,hc,rfl⟩⟩
 exact absurd h0 hk;exact absurd h0 h;exact absurd h0 h;have hlen:s.words.length=es.length:=by
  have:=congrArg nV h1
  rwa [qB,dw,dw]at this
 obtain⟨-,h7,-,-⟩:=Kt es 0 .zero m Kr rfl (fun r hr=>by cases hr) (bC _) h5;refine⟨by omega,by omega,?_⟩;dsimp only
 cases hm:vC m with
 |none=>rw[Rs hm]at hd;cases hd
 |some y=>
  obtain⟨R,d⟩:=y;rw[yW hm];refine aca fun k=>?_;have:=aeD (Dw h3 h4 h5) (BP hm) k;show d.tags.getD k 0<_
  omega
end cg
namespace je
open dj gu
theorem afn(l:List Wd):∀k,k<=l.length->0<=((l.take k).foldl iZ ws0).2.1/\∀x∈((l.take k).foldl iZ ws0).1,-1<=x/\x<((l.take k).foldl iZ ws0).2.1
 |0,_=>⟨kz _,fun x hx=>by cases hx⟩
 | k + 1,h=>by
  obtain⟨a1,a2⟩:=afn l k J;rw[step_take _ _ _ (show k<l.length by omega)];have key:∀(s:WS) (w:Wd),0<=s.2.1->(∀x∈s.1,-1<=x/\x<s.2.1)->0<=(iZ s w).2.1/\∀x∈(iZ s w).1,-1<=x/\x<(iZ s w).2.1:=fun s w b1 b2=>by
   unfold iZ;split
   ·refine⟨b1,fun x hx=>?_⟩
    rcases gH.1 hx with hx|hx
    exact b2 x hx;rw[dH.1 hx];exact⟨kz _,by show(-1:Int)<s.2.1;omega⟩
   refine⟨by show 0<=s.2.1+1;omega,fun x hx=>?_⟩;show-1<=x/\x<s.2.1+1
   rcases gH.1 hx with hx|hx
   have:=b2 x hx;omega;rw[dH.1 hx];omega
  exact key _ _ a1 a2
end je
namespace cg
open Go.RowKit cT ey dj gu je aM c_
def zh(s:Sp)(R:List Row)(T:List Int):Md:=⟨(Lf s.words).1,uu R 256,RN R,T,cL s,1,GP (cL s) (cL s).aQ.toNat (cL s).bB.toNat,[],[]⟩
def ag7(s:Sp)(R:List Row)(T:List Int):Md:=⟨(Lf s.words).1,uu R 256,RN R,T,cL s,2,[],(iN (cL s)).1,(iN (cL s)).2.1⟩
theorem acd{l:List Wd}(h:l.length<=60):(Lf l).1.length=l.length:=by
 have:=(abd l l.length (aT _) h).1;rw[nk]at this;exact this
section
variable{w:World}{B:b_}{L:List b9}{x:HH}{s:Sp}{R:List Row}{T:List Int}{i0 i1 i2 i3 i4 i5 i6 i7 i8:Nat}
theorem afp(hl:s.words.length<=60)(h:(bx 3 1 x.vo s.words.length ((Lf s.words).1.map (ap .i64))).holds w):Sl w x.vo (Lf s.words).1.length ((Lf s.words).1.flatMap cT.eX):=by
 rw[acd hl];have:=Sl.dy h
 rwa [<-IA]at this
theorem ace(hg:cD (cL s)=0)(h:(tj x.F x.vp (cL s).az).holds w):kw (fun k=>k<w.heap.size) w (dD (cL s).aQ (cL s).bB x.vp) (cL s):=by
 obtain⟨a1,a2,a3,a4,a5,a6⟩:=cz hg;exact y6 (gok ⟨a1,by omega⟩) (gok ⟨by omega,by omega⟩) h
theorem ag8(hm:Mem B L w)(hl:s.words.length<=60)(hc:lC R T=0)(hg:cD (cL s)=0)
 (h0:L[i0]?=ah (bx 3 1 x.vo s.words.length ((Lf s.words).1.map (ap .i64)))) (h1:L[i1]?=ah (tj x.F x.vp (cL s).az)) (h2:L[i2]?=ah (dI 26 y7 x.gP R.length x.vsP)) (h3:L[i3]?=ah (WO R.length (nB R 256) x.vsP)) (h4:L[i4]?=ah (bx 3 1 x.vT T.length (T.flatMap cT.eX)))
 (h5:L[i5]?=ah (dI 26 wB x.gR (cL s).bB.toNat x.vsR)) (h6:L[i6]?=ah (ia (fun j=>j<(cL s).bB.toNat) (nJ (cL s).az (oe (cL s).bB.toNat (cL s).az) (cL s).aQ.toNat x.vsR (cL s).bB.toNat 0))):
 Jd w (.agg (x.cLL (cL s) R)) (zh s R T) x.vo (ak (ah ⟨x.gP,0,aj⟩) R.length R.length) x.vT x.vp (ak (ah ⟨x.gR,0,aj⟩) (cL s).bB.toNat (cL s).bB.toNat) (ak aj 0 0) (ak aj 0 0) where
 val:=rfl
 of:=afp hl (hm.get h0)
 pk:=hm.pkI h2 h3 h4 hc
 De:=ace hg (hm.get h1)
 rows:=by
  obtain⟨a1,a2,a3,a4,a5,a6⟩:=cz hg;exact abM a5 J (hm.get h5) (hm.get h6)
 l_:=⟨_,_,rfl,kK.nil,kK.nil⟩
theorem ag9(hm:Mem B L w)(hl:s.words.length<=60)(hc:lC R T=0)(hg:cD (cL s)=0)
 (h0:L[i0]?=ah (bx 3 1 x.vo s.words.length ((Lf s.words).1.map (ap .i64)))) (h1:L[i1]?=ah (tj x.F x.vp (cL s).az)) (h2:L[i2]?=ah (dI 26 y7 x.gP R.length x.vsP)) (h3:L[i3]?=ah (WO R.length (nB R 256) x.vsP)) (h4:L[i4]?=ah (bx 3 1 x.vT T.length (T.flatMap cT.eX)))
 (h5:L[i5]?=ah (bx 92 1 x.tx.vA (iN (cL s)).1.length x.tx.Da)) (h6:L[i6]?=ah (eY (cB y8) x.tx.FA (x.tx.Da.map fun v=>[v]) (iN (cL s)).1)) (h7:L[i7]?=ah (bx 26 1 x.tx.vG (iN (cL s)).2.1.length x.tx.Db)) (h8:L[i8]?=ah (eY (cB iE) x.tx.FG (x.tx.Db.map fun v=>[v]) (iN (cL s)).2.1)):
 Jd w (.agg (x.cLR (cL s) R)) (ag7 s R T) x.vo (ak (ah ⟨x.gP,0,aj⟩) R.length R.length) x.vT x.vp (ak aj 0 0) x.tx.vA x.tx.vG where
 val:=rfl
 of:=afp hl (hm.get h0)
 pk:=hm.pkI h2 h3 h4 hc
 De:=ace hg (hm.get h1)
 rows:=kK.nil
 l_:=aek (hm.get h5) (hm.get h6) (hm.get h7) (hm.get h8)
end
theorem LJ{s:Sp}{r:Int×List Row×List Int}(h:Uo s r)(h0:r.1=0):s.words.length<=20/\cD (cL s)=0/\lC r.2.1 r.2.2=0/\0<(Lf s.words).1.length/\(Lf s.words).1.length<=20/\(∀t∈(Lf s.words).1,-1<=t/\t<(cL s).aQ)/\∀t∈r.2.2,t<((Lf s.words).1.length:Int):=by
 obtain⟨a1,a2⟩:=wD h h0;obtain⟨b1,b2,b3⟩:=acb h h0;have e:=acd (l:=s.words) J;have c:=(afn s.words s.words.length (aT _)).2;rw[nk]at c;exact⟨b2,a1,a2,by omega,by omega,c,by rw[e];exact b3⟩
theorem aeE{s:Sp}{r:Int×List Row×List Int}(h:Uo s r)(h0:r.1=0):MdGood (zh s r.2.1 r.2.2):=by
 obtain⟨a1,a2,a3,a4,a5,a6,a7⟩:=LJ h h0;obtain⟨b1,b2,b3,b4,b5,b6⟩:=cz a2;exact⟨UD _,Sj (LF a3),a2,a4,a5,a6,a7,.inl ⟨rfl,OL (g:=cL s) (T:=(cL s).aQ.toNat) (N:=(cL s).bB.toNat) a2 J J⟩⟩
theorem aeF{s:Sp}{r:Int×List Row×List Int}(h:Uo s r)(h0:r.1=0)(hT:(iN (cL s)).2.2.2=0):MdGood (ag7 s r.2.1 r.2.2):=by
 obtain⟨a1,a2,a3,a4,a5,a6,a7⟩:=LJ h h0;obtain⟨T,N,Nx,S,hM⟩:=B8 hT;refine⟨UD _,Sj (LF a3),a2,a4,a5,a6,a7,.inr ⟨rfl,T,N,?_⟩⟩;show wF (cL s) T N (iN (cL s)).1 (iN (cL s)).2.1
 rw[hM.dG,hM.gos];exact hM.l_
end cg
namespace AP
open Go.RowKit cT ey dj gu je cg
def ag_(a s:C4):List Wd:=[([97],.mk 3 a []),([],.mk 3 s [])]
def acf:List Rl:=[([108],[[97],[109]]),([109],[]),([109],[[97],[109]])]
theorem SF(n:Bs)(k:Int)(c:C4)(b:Option Addr)(m cp:Nat)(w:World):(dm 122 #[(0,str n),(1,aP (mQ k c (ak b m cp)).toArray)]).run aC w= .ok (aP (zm n k c (ak b m cp)).toArray) w:=by kernel_rfl
theorem OP(n:Bs)(w:World):(dm 124 #[(0,str n)]).run aC w= .ok (aP #[str n,ak aj 0 0]) w:=by kernel_rfl
theorem OQ(k:Int)(c:C4)(w:World):(dm 122 #[(1,aP (mQ k c (ak aj 0 0)).toArray)]).run aC w= .ok (aP (zm [] k c (ak aj 0 0)).toArray) w:=by kernel_rfl
theorem CS(n:Bs)(g:Nat)(w:World):(dm 124 #[(0,str n),(1,ak (ah ⟨g,0,aj⟩) 2 2)]).run aC w= .ok (aP #[str n,ak (ah ⟨g,0,aj⟩) 2 2]) w:=by kernel_rfl
theorem OR(a b:Option Addr)(m c n d:Nat)(w:World):(dm 25 #[(0,ak a m c),(1,ak b n d)]).run aC w= .ok (aP #[ak a m c,ak b n d]) w:=by kernel_rfl
structure aiR where
 g1:Nat
 g2:Nat
 g3:Nat
 g4:Nat
def rlC(n:Bs)(v:Value):List Value:=[str n,v]
def aeG(a s:C4):cg.Spec aiR:=⟨fun _=>True,fun x=>aP #[ak (ah ⟨x.g1,0,aj⟩) 2 2,ak (ah ⟨x.g4,0,aj⟩) 3 3],fun x=>[aO x.g1 (zm [97] 3 a (ak aj 0 0)++zm [] 3 s (ak aj 0 0)).toArray 122,aO x.g2 #[str [97],str [109]] 9,aO x.g3 #[str [97],str [109]] 9,
 aO x.g4 #[str [108],ak (ah ⟨x.g2,0,aj⟩) 2 2,str [109],ak aj 0 0,str [109],ak (ah ⟨x.g3,0,aj⟩) 2 2] 124]⟩
set_option maxRecDepth 100000 in
theorem SG(w:World):Calls aC 13 #[] w (cJ (aeG (fy 97 97) (fy 32 32)) w):=by
 have hl:=fun w=>zP 97 w ⟨by decide,by decide⟩;have J1:=fun w=>zP 32 w ⟨by decide,by decide⟩;generalize fy 97 97=ca at*;generalize fy 32 32=cs at*;refine enter (args:=[]) (n:=13) Tryz.func13 I I I ?_;refine bY (a_ (aY I fun g0=>?_));refine zL ?_
 try refine GA ?_
 refine aW (kZ aF.en I I) (fun w hm=>hl w) I I I ?_;intro _ _;refine zL ?_
 repeat(first|refine QZ ?_|refine QV (bz I (SF _ _ _ _ _ _)) ?_)
 refine aW (kZ aF.en I I) (fun w hm=>J1 w) I I I ?_;intro _ _;refine zL ?_
 repeat(first|refine QZ ?_|refine QV (bz I (OQ _ _)) ?_)
 refine fF (cs:=(zm [97] 3 ca (ak aj 0 0)++zm [] 3 cs (ak aj 0 0)).toArray) [aP (zm [97] 3 ca (ak aj 0 0)).toArray,aP (zm [] 3 cs (ak aj 0 0)).toArray] I I I (by intro v hv;simp only[df,fI,or_false]at hv;rcases hv with rfl|rfl<;>rfl) I I I fun g5=>?_;refine zL ?_;refine fF (cs:=#[str [97],str [109]]) [str [97],str [109]] I I I (by intro v hv;simp only[df,fI,or_false]at hv;rcases hv with rfl|rfl<;>rfl) I I I fun g6=>?_;refine zL ?_
 repeat(first|refine QZ ?_|refine QV (bz I (CS _ _)) ?_|refine QV (bz I (OP _)) ?_)
 refine fF (cs:=#[str [97],str [109]]) [str [97],str [109]] I I I (by intro v hv;simp only[df,fI,or_false]at hv;rcases hv with rfl|rfl<;>rfl) I I I fun g9=>?_;refine zL ?_
 repeat(first|refine QZ ?_|refine QV (bz I (CS _ _)) ?_)
 refine fF (cs:=#[str [108],ak (ah ⟨g6,0,aj⟩) 2 2,str [109],ak aj 0 0,str [109],ak (ah ⟨g9,0,aj⟩) 2 2]) [aP #[str [108],ak (ah ⟨g6,0,aj⟩) 2 2],aP #[str [109],ak aj 0 0],aP #[str [109],ak (ah ⟨g9,0,aj⟩) 2 2]] I I I (by intro v hv;simp only[df,fI,or_false]at hv;rcases hv with rfl|rfl|rfl<;>rfl) I I I fun g11=>?_;refine zL ?_
 repeat(first|refine QZ ?_|refine QV (bz I (OR _ _ _ _ _ _)) ?_)
 refine gG 0 (cs':=#[ak (ah ⟨g5,0,aj⟩) 2 2,ak (ah ⟨g11,0,aj⟩) 3 3]) ?_;refine zL ?_
 try refine GA ?_
 exact gU (i:=0) I I I I fun w hm=>hm.meets (S:=aeG ca cs) ⟨g5,g6,g9,g11⟩ trivial [1,2,3,4] akV I
theorem nle{n:Nat}(h:n<=10:=by exact Nat.le_of_ble_eq_true I):n<=9223372036854775807:=by omega
theorem UF{w:World}{g:Nat}(h:(aO g #[str [97],str [109]] 9).holds w):kK Vg (sa w) w (ak (ah ⟨g,0,aj⟩) 2 2) [[97],[109]]:=by
 have hb:w.heap[g]?=ah (.cells #[str [97],str [109]] 9 (0,0)):=h;refine⟨_,2,rfl,aT _,by decide,fun _=>⟨g,0,rfl,(kq.1 hb).1,fun i hi=>⟨[str ([[97],[109]]:List Bs)[i]],⟨rfl,?_⟩,fun j u hj=>?_⟩⟩⟩
 ·match i,hi with
  |0,_=>exact(by decide:(1:Nat)<=9223372036854775807)
  |1,_=>exact(by decide:(1:Nat)<=9223372036854775807)
 rw[cell_of_row w g _ _ _ _ hb]
 match i,hi,j,hj with
 |0,_,0,hj=>exact hj
 |1,_,0,hj=>exact hj
theorem aeH{w:World}{a s:C4}{x:aiR}(h1:(aO x.g1 (zm [97] 3 a (ak aj 0 0)++zm [] 3 s (ak aj 0 0)).toArray 122).holds w)(h2:(aO x.g2 #[str [97],str [109]] 9).holds w)(h3:(aO x.g3 #[str [97],str [109]] 9).holds w)
 (h4:(aO x.g4 #[str [108],ak (ah ⟨x.g2,0,aj⟩) 2 2,str [109],ak aj 0 0,str [109],ak (ah ⟨x.g3,0,aj⟩) 2 2] 124).holds w):WE (sa w) w (aP #[ak (ah ⟨x.g1,0,aj⟩) 2 2,ak (ah ⟨x.g4,0,aj⟩) 3 3]) ⟨ag_ a s,acf⟩:=by
 have Ft:w.heap[x.g1]?=ah (.cells (zm [97] 3 a (ak aj 0 0)++zm [] 3 s (ak aj 0 0)).toArray 122 (0,0)):=h1;have hb4:w.heap[x.g4]?=ah (.cells #[str [108],ak (ah ⟨x.g2,0,aj⟩) 2 2,str [109],ak aj 0 0,str [109],ak (ah ⟨x.g3,0,aj⟩) 2 2] 124 (0,0)):=h4;have hx:∀c,kC (sa w) w (mQ 3 c (ak aj 0 0)) (.mk 3 c []):=fun c=>zO.2 ⟨_,rfl,⟨by decide,by decide⟩,kK.nil⟩;refine⟨_,_,rfl,⟨_,2,rfl,aT _,by decide,fun _=>⟨x.g1,0,rfl,(kq.1 Ft).1,fun i hi=>?_⟩⟩,⟨_,3,rfl,aT _,by decide,fun _=>⟨x.g4,0,rfl,(kq.1 hb4).1,fun i hi=>?_⟩⟩⟩
 ·match i,hi with
  |0,_=>
   refine⟨zm [97] 3 a (ak aj 0 0),⟨[str [97]],_,rfl,⟨rfl,nle⟩,hx a⟩,fun j u hj=>?_⟩;rw[cell_of_row w x.g1 _ _ _ _ Ft,jh,Nat.zero_mul,cI,fR (cU.1 hj).1];exact hj
  |1,_=>
   refine⟨zm [] 3 s (ak aj 0 0),⟨[str []],_,rfl,⟨rfl,nle⟩,hx s⟩,fun j u hj=>?_⟩;rw[cell_of_row w x.g1 _ _ _ _ Ft,jh];show(zm [97] 3 a (ak aj 0 0)++zm [] 3 s (ak aj 0 0))[0+1*7+j]?=ah u
   rw[kN (by show 7<=_;omega),show 0+1*7+j-(zm [97] 3 a (ak aj 0 0)).length=j from by show 0+1*7+j-7=j;omega];exact hj
 ·match i,hi with
  |0,_=>
   refine⟨rlC [108] (ak (ah ⟨x.g2,0,aj⟩) 2 2),⟨[str [108]],[_],rfl,⟨rfl,nle⟩,_,rfl,UF h2⟩,fun j u hj=>?_⟩;rw[cell_of_row w x.g4 _ _ _ _ hb4]
   match j,hj with
   |0,hj=>exact hj
   |1,hj=>exact hj
  |1,_=>
   refine⟨rlC [109] (ak aj 0 0),⟨[str [109]],[_],rfl,⟨rfl,nle⟩,_,rfl,kK.nil⟩,fun j u hj=>?_⟩;rw[cell_of_row w x.g4 _ _ _ _ hb4]
   match j,hj with
   |0,hj=>exact hj
   |1,hj=>exact hj
  |2,_=>
   refine⟨rlC [109] (ak (ah ⟨x.g3,0,aj⟩) 2 2),⟨[str [109]],[_],rfl,⟨rfl,nle⟩,_,rfl,UF h3⟩,fun j u hj=>?_⟩;rw[cell_of_row w x.g4 _ _ _ _ hb4]
   match j,hj with
   |0,hj=>exact hj
   |1,hj=>exact hj
end AP
namespace nw
open dj gu eB c_
theorem acg{a b c:List Int}(h1:c.Pairwise (· < ·))(h2:∀x,(x∈a\/x∈b)↔x∈c):rH a b=c:=
 Fp (Dv _ _).1 h1 fun x=>by rw[(Dv _ _).2,h2]
end nw
namespace xi
open Go.RowKit cT ey cg dj gu je aM c_ eB nw AP
def lS:Sp:=⟨ag_ (fy 97 97) (fy 32 32),acf⟩
def lE:List Re:=[.byte (fy 97 97),.byte (fy 32 32)]
set_option maxRecDepth 1000000 in
theorem ach:CI lS 0=(0,1):=by kernel_rfl
theorem aeI:wz lS=0:=by kernel_rfl
def lM(a b:C4):MS:=⟨⟨[a,b],[0,1],[[],[]],[aB,aB]⟩,[0,1],[aD,aD]⟩
theorem ag'(a b:C4):mf 0 .zero [.byte a,.byte b]=(0,lM a b):=by
 have u0:rH [] [0]=[0]:=acg (by simp) (by simp);have u1:rH [0] [1]=[0,1]:=acg (by simp) (by simp);have s0:xI 0 .zero (.byte a)=⟨⟨[a],[0],[[]],[aB]⟩,[0],[aD]⟩:=by simp[xI,cC,MS.zero,fC,u0]
 have s1:xI 1 ⟨⟨[a],[0],[[]],[aB]⟩,[0],[aD]⟩ (.byte b)=lM a b:=by
  simp[xI,cC,fC,u1,lM]
 rw[mf,s0,if_neg (by simp),mf,s1,if_neg (by simp[lM]),mf]
theorem Xa:jR (qB lS)=0:=by kernel_rfl
end xi
namespace qE
open Go.RowKit cT ey cg c_
def qJ:List Tok->Nat->Nat
 |[],e=>e
 |t::l,_=>qJ l t.2.2
def B9:List Tok->Nat->Prop
 |[],_=>True
 |t::l,e=>t.2.1=e/\e<t.2.2/\B9 l t.2.2
theorem pB{o:Of}{N:List (List Int)}{tags:List Int}{s:List UInt8}:∀(f a:Nat),a<=s.length->s.length<a+f->B9 (mg o N tags s f a).1 a/\
 (((mg o N tags s f a).2=(0,0)/\qJ (mg o N tags s f a).1 a=s.length)\/((mg o N tags s f a).2.2=9/\qJ (mg o N tags s f a).1 a=(mg o N tags s f a).2.1/\(mg o N tags s f a).2.1<s.length))
 |0,a,h1,h2=>by omega
 | f + 1,a,h1,h2=>by
  rw[qI]
  by_cases c:a<s.length
  ·rw[if_pos c]
   by_cases c2:(eo o N tags s a).2=0
   ·rw[if_pos c2]
    exact⟨trivial,.inr ⟨rfl,rfl,c⟩⟩
   rw[if_neg c2];have ht:=(UC (o:=o) (N:=N) (tags:=tags) h1).resolve_left c2;obtain⟨q1,q2⟩:=pB (o:=o) (N:=N) (tags:=tags) (s:=s) f (eo o N tags s a).2 ht.2 J;exact⟨⟨rfl,ht.1,q1⟩,q2⟩
  rw[if_neg c];exact⟨trivial,.inl ⟨rfl,by show a=s.length;omega⟩⟩
end qE
namespace qE
open Go.RowKit cT ey cg c_
theorem AQ{R:List Row}{tags:List Int}(hA:(eM R tags).Ok):∀(s:List UInt8) (i:Nat) (q r:Int) (t:Nat),St (eM R tags) q->0<=q->
 (XE (nxR R) tags s i q r t=(r,t)/\∀k,0<k->k<=s.length->tg (eM R tags) (go (eM R tags) q (s.take k))<0)\/
 (∃k,0<k/\k<=s.length/\XE (nxR R) tags s i q r t=(tg (eM R tags) (go (eM R tags) q (s.take k)),i+k)/\0<=tg (eM R tags) (go (eM R tags) q (s.take k))/\∀j,k<j->j<=s.length->tg (eM R tags) (go (eM R tags) q (s.take j))<0)
 |[],_,_,_,_,_,_=> .inl ⟨rfl,fun k h1 h2=>by simp at h2;omega⟩
 | b ::s,i,q,r,t,hq,h0=>by
  have e:nxR R q b=dt (eM R tags) q b.toNat:=by unfold dt;rw[if_neg J];rfl
  have hst:=xC hA hq b.toNat_lt;have hgo:∀k,go (eM R tags) q ((b::s).take (k+1))=go (eM R tags) (dt (eM R tags) q b.toNat) (s.take k):=fun k=>rfl;unfold XE;rw[e];have hk:∀k,0<k->∃k',k=k'+1:=fun k h=>⟨k-1,by omega⟩;generalize dt (eM R tags) q b.toNat=x at*;have agB:tags.getD x.toNat 0=(eM R tags).tag x.toNat:=rfl
  by_cases c:x<0
  ·rw[if_pos c]
   refine .inl ⟨rfl,fun k h1 h2=>?_⟩;obtain⟨k,rfl⟩:=hk k h1;rw[hgo];have:=Zl (A:=eM R tags) (s.take k) c;unfold tg;rw[if_pos this];decide
  rw[if_neg c,agB];have htg:tg (eM R tags) x=(eM R tags).tag x.toNat:=by unfold tg;rw[if_neg c]
  by_cases c2:0<=(eM R tags).tag x.toNat
  ·rw[if_pos c2]
   right
   rcases AQ hA s (i+1) x ((eM R tags).tag x.toNat) (i+1) hst J with⟨h1,h2⟩|⟨k,h1,h2,h3,h4,h5⟩
   ·refine⟨1,by omega,by rw[cO];omega,?_,?_,fun j h3 h4=>?_⟩
    rw[h1,hgo 0];show _=(tg (eM R tags) x,_);rw[htg];rw[hgo 0];show 0<=tg (eM R tags) x;rw[htg];exact c2;obtain⟨j,rfl⟩:=hk j J;rw[hgo];exact h2 j J (by rw[cO]at h4;omega)
   refine⟨k+1,by omega,by rw[cO];omega,?_,by rw[hgo];exact h4,fun j h6 h7=>?_⟩;rw[h3,hgo];exact nP I (by show i+1+k=i+(k+1);omega);obtain⟨j,rfl⟩:=hk j J;rw[hgo];exact h5 j J (by rw[cO]at h7;omega)
  rw[if_neg c2];rcases AQ hA s (i+1) x r t hst J with⟨h1,h2⟩|⟨k,h1,h2,h3,h4,h5⟩
  ·refine .inl ⟨h1,fun k h3 h4=>?_⟩
   obtain⟨k,rfl⟩:=hk k h3;rw[hgo]
   by_cases c3:k=0
   ·subst c3
    show tg (eM R tags) x<0
    rw[htg];omega
   exact h2 k J (by rw[cO]at h4;omega)
  refine .inr ⟨k+1,by omega,by rw[cO];omega,?_,by rw[hgo];exact h4,fun j h6 h7=>?_⟩;rw[h3,hgo];exact nP I (by show i+1+k=i+(k+1);omega);obtain⟨j,rfl⟩:=hk j J;rw[hgo];exact h5 j J (by rw[cO]at h7;omega)
def aiS(R:List Row)(tags:List Int)(s:List UInt8)(x:Tok):Prop:=
 x.2.1<x.2.2/\x.2.2<=s.length/\mD R tags ((s.drop x.2.1).take (x.2.2-x.2.1))=(x.1,0)/\∀e,x.2.2<e->e<=s.length->(mD R tags ((s.drop x.2.1).take (e-x.2.1))).1<0
theorem Xb{R:List Row}{tags:List Int}(hc:lC R tags=0){s:List UInt8}{a:Nat}(ha:a<=s.length)(h:(ul R tags s a).2≠0):aiS R tags s ((ul R tags s a).1,a,(ul R tags s a).2):=by
 have hA:=(pe hc).1;unfold ul at*;rcases AQ hA (s.drop a) a 0 0 0 (T3 hA) akV with⟨h1,_⟩|⟨k,h1,h2,h3,h4,h5⟩
 rw[h1]at h;exact absurd I h;rw[ik]at h2 h5;rw[h3];refine⟨by show a<a+k;omega,by show a+k<=s.length;omega,?_,fun e kZ fP=>?_⟩
 ·show mD R tags ((s.drop a).take (a+k-a))=_
  rw[DK hc,Nat.add_sub_cancel_left]
 have kZ:a+k<e:=kZ;show(mD R tags ((s.drop a).take (e-a))).1<0
 rw[DK hc];exact h5 _ J J
end qE
namespace cg
open Go.RowKit cT ey c_ qE
end cg
namespace qE
open Go.RowKit cT ey cg c_
theorem aci{R:List Row}{tags:List Int}(hc:lC R tags=0){s:List UInt8}{a:Nat}:
 ((ul R tags s a).2=0->∀e,a<e->e<=s.length->(mD R tags ((s.drop a).take (e-a))).1<0)/\((ul R tags s a).2≠0->0<=(ul R tags s a).1):=by
 have hA:=(pe hc).1;have h:=AQ (R:=R) (tags:=tags) hA (s.drop a) a 0 0 0 (T3 hA) (kz _);have e:ul R tags s a=XE (nxR R) tags (s.drop a) a 0 0 0:=rfl;rw[e];rcases h with⟨h1,h2⟩|⟨k,h1,h2,h3,h4,h5⟩
 ·rw[h1]
  refine⟨fun _ e he hl=>?_,fun h=>absurd I h⟩;rw[DK hc];exact h2 (e-a) J (by rw[ik];omega)
 ·rw[h3]
  exact⟨fun h=>by have h:a+k=0:=h;omega,fun _=>h4⟩
end qE
namespace xi
open Go.RowKit cT ey cg dj gu je aM c_ eB nw AP qE
def acj(R:List Row)(T:List Int):List Int:=[[97],[32],[97,32],[97,32,97],[32,97],[97,97]].map fun s=>tg (eM R T) (go (eM R T) 0 s)
set_option maxRecDepth 1000000 in
theorem ack:((vC (lM (fy 97 97) (fy 32 32))).map fun x=>acj x.1 x.2.tags)=ah [0,1,-1,-1,-1,-1]:=by kernel_rfl
theorem acm:∃R T,Uo lS (0,R,T)/\lC R T=0/\[[97],[32],[97,32],[97,32,97],[32,97],[97,97]].map (fun s=>(mD R T s).1)=[0,1,-1,-1,-1,-1]:=by
 have hl:mf 0 .zero lE=(0,lM (fy 97 97) (fy 32 32)):=ag' _ _;have hd:=ack;generalize lM (fy 97 97) (fy 32 32)=m at*
 cases hm:vC m with
 |none=>rw[hm]at hd;cases hd
 | some y=>
  obtain⟨R,d⟩:=y;rw[hm,abG,dg]at hd;have hc:lC R d.tags=0:=aaK (Dw akV akV hl) (BP hm);refine⟨_,_,.inr ⟨lE,m,rfl,?_,by decide,by decide,hl,.inr (.inr ⟨by decide,Xa,lE,rfl,?_,hl.symm⟩),.inr (.inr ⟨aeI,?_,?_,rfl⟩)⟩,?_,?_⟩
  ·intro e he
   simp only[lE,df,fI,or_false]at he;rcases he with rfl|rfl<;>exact⟨by unfold Re.nz;decide,by decide,by decide⟩
  ·intro e he
   simp only[lE,df,fI,or_false]at he;rcases he with rfl|rfl<;>decide
  rw[yW hm];rw[yW hm];exact hc;rw[yW hm];exact DJ hc;rw[yW hm];dsimp only;rw[<-hd];unfold acj;simp only[fw,mu,aa_ hc]
theorem tS{R:List Row}{T:List Int}(hc:lC R T=0){s:List UInt8}{a n:Nat}{r:Int}(ha:a+n<=s.length)(hn:0<n)(h1:(mD R T ((s.drop a).take n)).1=r)(h0:0<=r)(h2:∀e,a<e->e<=s.length->e≠a+n->(mD R T ((s.drop a).take (e-a))).1<0):qE.ul R T s a=(r,a+n):=by
 obtain⟨h3,h4⟩:=aci hc (s:=s) (a:=a);have h5:=Xb hc (s:=s) (a:=a) J;generalize qE.ul R T s a=x at*;obtain⟨x,t⟩:=x
 by_cases c:t=0
 ·have:=h3 c (a+n) J ha
  rw[show a+n-a=n by omega,h1]at this;omega
 obtain⟨h6,h7,h8,_⟩:=h5 c;have h9:=h4 c;dsimp only at h6 h7 h8 h9
 by_cases d:t=a+n
 ·subst d
  rw[show a+n-a=n by omega]at h8;rw[h8]at h1;rw[<-h1]
 have:=h2 t h6 h7 d;rw[h8]at this;exact absurd h9 (by dsimp only at this;omega)
theorem qK{R:List Row}{T:List Int}{s:List UInt8}{f a:Nat}(r:Int)(t:Nat)(h:qE.ul R T s a=(r,t))(ha:a<s.length)(ht:t≠0):xy R T s (f+1) a=((r,a,t)::(xy R T s f t).1,(xy R T s f t).2):=by
 rw[xy,if_pos ha,h,if_neg ht]
theorem DU{R:List Row}{T:List Int}{s:List UInt8}{f a:Nat}(ha:¬a<s.length):xy R T s (f+1) a=([],0,0):=by rw[xy,if_neg ha]
theorem aeJ{R:List Row}{T:List Int}(hc:lC R T=0)(h:[[97],[32],[97,32],[97,32,97],[32,97],[97,97]].map (fun s=>(mD R T s).1)=[0,1,-1,-1,-1,-1]):
 xy R T [97] 2 0=([(0,0,1)],0,0)/\xy R T [32] 2 0=([(1,0,1)],0,0)/\xy R T [97,32,97] 4 0=([(0,0,1),(1,1,2),(0,2,3)],0,0)/\xy R T [97,97] 3 0=([(0,0,1),(0,1,2)],0,0):=by
 simp only[fw,mu,fg,and_true]at h;obtain⟨h1,h2,h3,h4,h5,h6⟩:=h;refine⟨?_,?_,?_,?_⟩
 ·have e0:=tS hc (s:=[97]) (a:=0) (n:=1) akV akV h1 akV fun e x1 x2 x3=>by simp at x2;omega
  rw[qK 0 1 e0 akV akV,DU akV]
 ·have e0:=tS hc (s:=[32]) (a:=0) (n:=1) akV akV h2 akV fun e x1 x2 x3=>by simp at x2;omega
  rw[qK 1 1 e0 akV akV,DU akV]
 ·have e0:=tS hc (s:=[97,32,97]) (a:=0) (n:=1) akV akV h1 akV fun e x1 x2 x3=>by
   match e,x2 with
   |0,_=>omega
   |1,_=>omega
   |2,_=>show(mD R T [97,32]).1<0;omega
   |3,_=>show(mD R T [97,32,97]).1<0;omega
  have e1:=tS hc (s:=[97,32,97]) (a:=1) (n:=1) akV akV h2 akV fun e x1 x2 x3=>by
   match e,x2 with
   |0,_=>omega
   |1,_=>omega
   |2,_=>omega
   |3,_=>show(mD R T [32,97]).1<0;omega
  have e2:=tS hc (s:=[97,32,97]) (a:=2) (n:=1) akV akV h1 akV fun e x1 x2 x3=>by simp at x2;omega
  rw[qK 0 1 e0 akV akV,qK 1 2 e1 akV akV,qK 0 3 e2 akV akV,DU akV]
 ·have e0:=tS hc (s:=[97,97]) (a:=0) (n:=1) akV akV h1 akV fun e x1 x2 x3=>by
   match e,x2 with
   |0,_=>omega
   |1,_=>omega
   |2,_=>show(mD R T [97,97]).1<0;omega
  have e1:=tS hc (s:=[97,97]) (a:=1) (n:=1) akV akV h1 akV fun e x1 x2 x3=>by simp at x2;omega
  rw[qK 0 1 e0 akV akV,qK 0 2 e1 akV akV,DU akV]
end xi
namespace cg
open Go.RowKit cT ey
def SH(Ls:List b9):b9 where
 CX:=aj
 more:=fun k=>∃o∈Ls,o.fu k
 holds:=fun w=>fl (fun _=>True) w Ls
 lt:=fun w h k hk=>by
  rcases hk with hk|⟨o,ho,hk⟩
  cases hk
  obtain⟨i,hi⟩:=x7 ho;exact o.lt w (h.all i o hi).1 k hk
 stay:=fun w w' h hs hk=>⟨fun i o hi=>⟨o.stay w w' (h.all i o hi).1 hs fun k hf=>hk k (.inr ⟨o,kO hi,hf⟩),fun _ _=>trivial⟩,h.apart⟩
theorem acn{Ls:List b9}{k:Nat}(h:(SH Ls).fu k):∃o∈Ls,o.fu k:=by
 rcases h with h|h
 cases h
 exact h
theorem UG{Ls:List b9}{w:World}(h:(SH Ls).holds w):Mem (b_.on w Ls) Ls w:=
 ⟨⟨rfl,rfl,rfl,aT _,fun _ _ _=>rfl⟩,⟨fun i o hi=>⟨(h.all i o hi).1,fun k hk=> .inr ⟨o,kO hi,hk⟩⟩,h.apart⟩⟩
theorem fl.bun{p:Nat->Prop}{w:World}{Ls:List b9}(h:fl p w Ls):fl p w [SH Ls]:=
 fl.one ⟨fun i o hi=>⟨(h.all i o hi).1,fun _ _=>trivial⟩,h.apart⟩ fun k hk=>by
  obtain⟨o,ho,hk⟩:=acn hk;obtain⟨i,hi⟩:=x7 ho;exact(h.all i o hi).2 k hk
end cg
namespace cg
open Go.RowKit cT ey
theorem aco(a:Int):(cT.eX a).length=1:=rfl
theorem xz(v:Value)(l:List Int)(w:World)(hs:Sl w v l.length (l.flatMap cT.eX))(uY:FuncId)(first cp:Array Value)(p:Int->Bool)(Kc:Enters aC uY)
 (hp:∀a∈l,∀w',Gr w w'->Calls aC uY (first++#[((cT.eX a).headD undef)]++cp) w' (cJ (ret (.bool (p a))) w')):
 Calls aC 209 #[v,.func (.func uY) first cp] w (cJ (ret (ap av (ug p l))) w):=by
 obtain⟨base,cap,rfl,tb,sc,fZ⟩:=hs;unfold maxLen at sc;refine enter (args:=[ak base l.length cap,.func (.func uY) first cp]) (n:=19) Tryz.func209 I I I ?_
 repeat(first|refine qv I (qp I) I I ?_|refine lY ?_|refine bY ?_|refine a_ ?_|refine U5 I ?_|refine U6 I ?_|refine pQ ?_|refine pR ?_|refine rX ?_|refine mX ?_|refine mY ?_|refine mZ ?_|refine lD ?_|refine kT ?_|refine kU ?_|refine j0 ?_|refine j_ I ?_|refine qv I (CZ bI.eq I) I I ?_|refine qv I (dT I I (qT J)) I I ?_|refine qv I (dT I I (qF J)) I I ?_|refine qv I (dh I I J J I) I I ?_)
 refine dU (ι:=Nat) (fun k=>k<=l.length/\∀j (hj:j<l.length),j<k->p l[j]=aD) (fun k=>[(0,ak base l.length cap),(1,.func (.func uY) first cp),(7,ap av l.length),(8,ap av (k:Int))]) (fun _=>[]) (fun k=>l.length-k) 0 ⟨by omega,fun j hj h=>by omega⟩ ?_;rintro k ⟨h1,h2⟩
 by_cases c2:k<l.length
 ·obtain⟨b,off,rfl,hr⟩:=fZ J
  have eK:=hU (L:=([]:List b9)) aco hr c2;have jZ:=hp l[k] (bV c2)
  by_cases c3:p l[k]=aB
  ·rw[wQ c2 c3 h2]
   rw[c3]at jZ;clear hp h2 fZ
   repeat(first|refine qv I (qp I) I I ?_|refine lY ?_|refine bY ?_|refine a_ ?_|refine U5 I ?_|refine U6 I ?_|refine pQ ?_|refine pR ?_|refine rX ?_|refine mX ?_|refine mY ?_|refine mZ ?_|refine lD ?_|refine kT ?_|refine kU ?_|refine j0 ?_|refine j_ I ?_|refine qv I (aR bI.eq aI.ty I I c2) I I ?_|refine qv I (aw aI.ty I (eK 0 _ I)) I I ?_|refine qv I (CZ bI.eq I) I I ?_|refine qv I (dT I I (qT J)) I I ?_|refine qv I (dT I I (qF J)) I I ?_|refine qv I (dh I I J J I) I I ?_)
   refine aW (Ep Kc I I) (fun w hm=>jZ w hm.below) I I I ?_;intro _ _
   repeat(first|refine qv I (qp I) I I ?_|refine lY ?_|refine bY ?_|refine a_ ?_|refine U5 I ?_|refine U6 I ?_|refine pQ ?_|refine pR ?_|refine rX ?_|refine mX ?_|refine mY ?_|refine mZ ?_|refine lD ?_|refine kT ?_|refine kU ?_|refine j0 ?_|refine j_ I ?_|refine qv I (CZ bI.eq I) I I ?_|refine qv I (dT I I (qT J)) I I ?_|refine qv I (dT I I (qF J)) I I ?_|refine qv I (dh I I J J I) I I ?_)
   exact dR
  have Tf:p l[k]=false:=by simpa using c3
  rw[Tf]at jZ;clear hp fZ c3
  repeat(first|refine qv I (qp I) I I ?_|refine lY ?_|refine bY ?_|refine a_ ?_|refine U5 I ?_|refine U6 I ?_|refine pQ ?_|refine pR ?_|refine rX ?_|refine mX ?_|refine mY ?_|refine mZ ?_|refine lD ?_|refine kT ?_|refine kU ?_|refine j0 ?_|refine j_ I ?_|refine qv I (aR bI.eq aI.ty I I c2) I I ?_|refine qv I (aw aI.ty I (eK 0 _ I)) I I ?_|refine qv I (CZ bI.eq I) I I ?_|refine qv I (dT I I (qT J)) I I ?_|refine qv I (dT I I (qF J)) I I ?_|refine qv I (dh I I J J I) I I ?_)
  refine aW (Ep Kc I I) (fun w hm=>jZ w hm.below) I I I ?_;intro _ _
  repeat(first|refine qv I (qp I) I I ?_|refine lY ?_|refine bY ?_|refine a_ ?_|refine U5 I ?_|refine U6 I ?_|refine pQ ?_|refine pR ?_|refine rX ?_|refine mX ?_|refine mY ?_|refine mZ ?_|refine lD ?_|refine kT ?_|refine kU ?_|refine j0 ?_|refine j_ I ?_|refine qv I (CZ bI.eq I) I I ?_|refine qv I (dT I I (qT J)) I I ?_|refine qv I (dT I I (qF J)) I I ?_|refine qv I (dh I I J J I) I I ?_)
  exact bO (k+1) ⟨by omega,fun j hj h=>if e:j<k then h2 j hj e else(by obtain rfl:j=k:=J;exact Tf)⟩ (by show l.length-(k+1)<l.length-k;omega)
 ·rw[wR fun j hj=>h2 j hj J]
  clear hp h2 fZ
  repeat(first|refine qv I (qp I) I I ?_|refine lY ?_|refine bY ?_|refine a_ ?_|refine U5 I ?_|refine U6 I ?_|refine pQ ?_|refine pR ?_|refine rX ?_|refine mX ?_|refine mY ?_|refine mZ ?_|refine lD ?_|refine kT ?_|refine kU ?_|refine j0 ?_|refine j_ I ?_|refine qv I (CZ bI.eq I) I I ?_|refine qv I (dT I I (qT J)) I I ?_|refine qv I (dT I I (qF J)) I I ?_|refine qv I (dh I I J J I) I I ?_)
  exact dR
theorem tU(v:Value)(l:List Int)(w:World)(hs:Sl w v l.length (l.flatMap cT.eX))(uY:FuncId)(first cp:Array Value)(p:Int->Bool)(Kc:Enters aC uY)
 (hp:∀a∈l,∀w',Gr w w'->Calls aC uY (first++#[((cT.eX a).headD undef)]++cp) w' (cJ (ret (.bool (p a))) w')):
 Calls aC 185 #[v,.func (.func uY) first cp] w (cJ (ret (.bool (l.any p))) w):=by
 refine enter (args:=[v,.func (.func uY) first cp]) (n:=9) Tryz.func185 I I I ?_;have hh:=fun w' (hg:Gr w w')=>xz v l w' (hs.gr hg) uY first cp p Kc fun a ha L2 yA=>hp a ha L2 (hg.trans yA);have hr:=s9 p l;rw[<-zK p l];generalize ug p l=r at*
 repeat(first|refine qv I (qp I) I I ?_|refine lY ?_|refine bY ?_|refine a_ ?_|refine rX ?_|refine mY ?_|refine lD ?_|refine qv I (fx I I (qT J)) I I ?_|refine qv I (fx I I (qF J)) I I ?_)
 refine aW (fP aF.en I I I) (fun w hm=>hh _ hm.below) I I I ?_;intro _ _
 repeat(first|refine qv I (qp I) I I ?_|refine lY ?_|refine bY ?_|refine a_ ?_|refine rX ?_|refine mY ?_|refine lD ?_|refine qv I (fx I I I) I I ?_|refine qv I (fx I I (qT J)) I I ?_|refine qv I (fx I I (qF J)) I I ?_)
 exact dR
end cg
namespace cg
open Go.RowKit cT ey aM dN dx bP c_
def sI(σ:List Nat):List Int:=σ.reverse.map fun q:Nat=>(q:Int)
theorem wK(σ:List Nat):(sI σ).length=σ.length:=by unfold sI;simp
theorem AR(q:Nat)(σ:List Nat):sI (q::σ)=sI σ++[(q:Int)]:=by unfold sI;simp
theorem UH(b:Nat)(σ:List Nat):sI (σ.drop b)=(sI σ).take (σ.length-b):=by
 unfold sI;rw[<-abF,List.take_reverse]
 by_cases h:b<=σ.length
 rw[show σ.length-(σ.length-b)=b by omega];rw[uS J,uS J]
theorem acp{b:Nat}{σ ρ:List Nat}{r n:Nat}(h:σ.drop b=r::ρ)(hn:σ.length=n+1+b):(sI σ)[n]?=ah (r:Int):=by
 have h1:=UH b σ;rw[h,AR,show σ.length-b=n+1 by omega]at h1;have h2:ρ.length=n:=by
  have:=congrArg nV h;rw[ik,cO]at this;omega
 have h3:((sI σ).take (n+1))[n]?=ah (r:Int):=by
  rw[<-h1,kN (by rw[wK];omega),wK,h2,qk];rfl
 rwa [List.getElem?_take_of_lt (o_ n)]at h3
abbrev skR(w:World)(vs:Value)(σ:List Nat):Prop:=Sl w vs σ.length ((sI σ).flatMap cT.eX)
abbrev UI(vs:Value)(σ:List Nat):b9:=bx 3 1 vs σ.length ((sI σ).flatMap cT.eX)
def xR(vs:Value)(seen over:Int)(done:Bool):Value:=aP #[vs,ap av seen,ap av over,.bool done]
theorem G6(aA:Option Addr)(nA cA:Nat)(vG:Value)(q:Int)(g5:Nat)(w:World)(h0:0<=q)(h1:q<(nA:Int))(hg:w.heap[g5]?=ah (.cells (aP #[ak aA nA cA,vG]).cells 36 (0,0))):
 Calls aC 186 #[ap av q,aH (ah ⟨g5,0,aj⟩)] w (cJ (ret (.bool aD)) w):=by
 have hcell:∀(L:List b9),At w L ⟨g5,0,aj⟩ (ak aA nA cA):=fun L=>hJ (by
  rw[cell_of_row w g5 0 _ _ _ hg];rfl)
 clear hg;refine enter (args:=[ap av q,aH (ah ⟨g5,0,aj⟩)]) (n:=13) Tryz.func186 I I I ?_
 repeat(first|refine GC ?_|refine gV (dT (b:=aD) I I (decide_eq_false J)) ?_|refine gV (aw (v:=ak aA nA cA) aI.ty I (hcell _)) ?_|refine gV (fx (b:=aD) I I (decide_eq_false J)) ?_|refine GB ?_)
 exact dR
theorem xS(v t vs:Value)(g:dF)(T N:Nat)(A:List (List bP.Act))(G:List (List Int))(σ:List Nat)(seen col:Int)(w:World)(hG:kw (fun k=>k<w.heap.size) w v g)(ht:GG w t A G)(hs:skR w vs σ)(hT:wF g T N A G)(hq:∀q∈σ,q<A.length)(h0:0<σ.length)(hl:σ.length<=60)(h1:0<=seen)(h2:seen<=1099511627776)(h3:0<=col)(h4:col<=g.aQ):
 Calls aC 170 #[v,t,xR vs seen 0 aD,ap av col] w (cJ (ret (ap av 0)) w):=by
 have h_:=fun w' (hg:Gr w w')=>xQ v t g T N A G hT w' (hG.gr hg) (ht.gr hg);obtain⟨vp,rfl,hp,-,-⟩:=hG;obtain⟨bp,cp,rfl,-⟩:=hp;obtain⟨vA,vG,rfl,hA,hGo⟩:=ht;obtain⟨aA,cA,rfl,-,-⟩:=nl hA;clear hA hGo;have hco:=fun w' (hg:Gr w w') g5 (hb:w'.heap[g5]?=ah (.cells (aP #[ak aA A.length cA,vG]).cells 36 (0,0)))=>tU vs (sI σ) w' (by rw[wK];exact hs.gr hg) 186 #[] #[aH (ah ⟨g5,0,aj⟩)] (fun _=>aD) aF.en (fun a ha L2 yA=>by
  unfold sI at ha;obtain⟨q,hq1,rfl⟩:=eI.1 ha;have:=hq q (abD.1 hq1);exact G6 aA A.length cA vG (q:Int) g5 L2 J J (by rw[yA.block g5 (kq.1 hb).1];exact hb))
 have Dd:(sI σ).any (fun _=>aD)=false:=by rw[abB];intro _ _ h;cases h
 rw[Dd]at hco;obtain⟨bs,cs,rfl,-⟩:=hs;refine enter (args:=[dD g.aQ g.bB (ak bp g.az.length cp),aP #[ak aA A.length cA,vG],xR (ak bs σ.length cs) seen 0 aD,ap av col]) (n:=66) Tryz.func170 I I I ?_;refine bY (a_ (bQ I I I fun g4=>?_));refine zL ?_;refine bQ I I I fun g5=>?_;refine zL ?_;refine bQ I I I fun g6=>?_;refine zL ?_
 repeat(first|refine GA ?_|refine gV (aL (i:=0) aI.ty I I I) ?_|refine gV (aL (i:=1) aI.ty I I I) ?_)
 refine aW (fP aF.en I I I) (fun w hm=>h_ w hm.below) I I I ?_;intro _ _;refine zL ?_
 repeat(first|refine GA ?_|refine gV (aw (v:=ak bs σ.length cs) aI.ty I (aE (i:=2) I I)) ?_|refine gV (aw (v:=ap av seen) aI.ty I (aE (i:=2) I I)) ?_|refine gV (aw (v:=ap av 0) aI.ty I (aE (i:=2) I I)) ?_|refine gV (aw (v:= .bool aD) aI.ty I (aE (i:=2) I I)) ?_|refine gV (aw (v:=ap av g.aQ) aI.ty I (aE (i:=0) I I)) ?_|refine gV (qV I I) ?_)
 refine aW (fP aF.en I I I) (fun w hm=>hco _ hm.below _ (hm.get (i:=1) I)) I I I ?_;intro _ _;refine zL ?_
 repeat(first|refine GA ?_|refine gV (aw (v:=ap av 0) aI.ty I (aE (i:=2) I I)) ?_|refine gV (aw (v:= .bool aD) aI.ty I (aE (i:=2) I I)) ?_)
 exact dR
theorem Xc(g:Nat)(w:World):(dm 161 #[(0,ak (ah ⟨g,0,aj⟩) 1 1)]).run aC w= .ok (xR (ak (ah ⟨g,0,aj⟩) 1 1) 0 0 aD) w:=by
 unfold xR;go_simp
theorem Jn(seen e:Int)(w:World):(dm 161 #[(1,ap av seen),(2,ap av e)]).run aC w= .ok (xR (ak aj 0 0) seen e aD) w:=by
 unfold xR;go_simp
theorem Xd(b:Option Addr)(m c:Nat)(seen:Int)(w:World):(dm 161 #[(0,ak b m c),(1,ap av seen)]).run aC w= .ok (xR (ak b m c) seen 0 aD) w:=by
 unfold xR;go_simp
theorem Xe(seen:Int)(w:World):(dm 161 #[(1,ap av seen),(3,.bool aB)]).run aC w= .ok (xR (ak aj 0 0) seen 0 aB) w:=by
 unfold xR;go_simp
def DV:Spec Value:=⟨fun _=>True,fun vt=>xR vt 0 0 aD,fun vt=>[UI vt [0]]⟩
theorem HL(w:World):Calls aC 66 #[] w (cJ DV w):=by
 refine enter (args:=[]) (n:=3) Tryz.func66 I I I ?_;refine bY (a_ (aY I fun g2=>?_));refine zL ?_
 try refine GA ?_
 refine fF (cs:=#[ap av 0]) [ap av 0] I I I (by intro v hv;simp at hv;subst hv;rfl) I I I fun g3=>?_;refine zL ?_
 repeat(first|refine QZ ?_|refine QV (bz I (Xc _)) ?_)
 refine gG 0 (cs':=#[ak (ah ⟨g3,0,aj⟩) 1 1,ap av 0,ap av 0,.bool aD]) ?_;refine zL ?_;refine zw (i:=1) 1 I I J ?_;refine zL ?_
 try refine GA ?_
 exact gU (i:=0) I I I I fun w hm=>hm.meets (S:=DV) (ak (ah ⟨g3,0,aj⟩) 1 1) trivial [1] akV I
def OS(R:Option (List Nat)):Spec Value:=⟨fun _=>True,fun v=> .tuple #[v,.bool R.isSome],fun v=>match R with|some σ'=>[UI v σ']|none=>[]⟩
theorem G7(v t vs:Value)(g:dF)(T N:Nat)(A:List (List bP.Act))(G:List (List Int))(σ:List Nat)(p:Nat)(w:World)(hG:kw (fun k=>k<w.heap.size) w v g)(ht:GG w t A G)(hs:skR w vs σ)(hT:wF g T N A G)(hq:∀q∈σ,q<A.length)(hl:σ.length<=60)(hp:p<g.az.length):
 Calls aC 187 #[v,t,vs,ap av (p:Int)] w (cJ (OS (zf g.az (fK G) σ (p:Int))) w):=by
 obtain⟨hg,K',hNn,BN,RG,tZ,hwA,ael,hwG,abN⟩:=hT;obtain⟨hT1,hT2,-,hN2,xF,hpr⟩:=cz hg;have hpe:bJ g.az (p:Int)=g.az[p]:=by unfold bJ;rw[cX,bD,bm hp];rfl
 have hpp:=hpr _ (bV hp);obtain⟨vp,rfl,hpg,-,-⟩:=hG;obtain⟨bp,cp,rfl,-,-,ow⟩:=hpg;obtain⟨b1,o1,rfl,-,ow⟩:=ow J;obtain⟨base,cap,fZ,-,-⟩:=lI ow hp;clear ow;unfold zf;rw[hpe];have aka:∀L,At (w:b_) L ⟨b1,o1+p*2+0,aj⟩ (ap av g.az[p].1):=fun L=>jp fZ I;have aiT:∀L,At (w:b_) L ⟨b1,o1+p*2+1,aj⟩ (.slice base g.az[p].2.length cap):=fun L=>jp fZ I;clear fZ hpe hpr;generalize g.az[p]=pr at*;obtain⟨hd,bd⟩:=pr;dsimp only at*;obtain⟨vA,vG,rfl,-,hGo⟩:=ht;obtain⟨aG,cG,rfl,-,-⟩:=nl hGo;obtain⟨bs,cs,rfl,hcs,hms,hrS⟩:=hs;unfold maxLen at hms;refine enter (args:=[dD g.aQ g.bB (ak (ah ⟨b1,o1,aj⟩) g.az.length cp),aP #[vA,ak aG G.length cG],ak bs σ.length cs,ap av (p:Int)]) (n:=50) Tryz.func187 I I I ?_;refine bY (a_ (bQ I I I fun g4=>?_));refine zL ?_;refine bQ I I I fun g5=>?_;refine zL ?_
 by_cases c:σ.length<=bd.length
 ·rw[uS c]
  repeat(first|refine GC ?_|refine gV (aw (v:=ak (ah ⟨b1,o1,aj⟩) g.az.length cp) aI.ty I (aE (i:=0) I I)) ?_|refine gV (aR bI.eq aI.ty I I hp) ?_|refine gV (aw (v:=ak base bd.length cap) aI.ty I (aiT _)) ?_|refine gV (eD (r:=(σ.length:Int)-(bd.length:Int)) I I I J J) ?_|refine gV (dT (b:=aB) I I (decide_eq_true J)) ?_|refine GB ?_)
  exact jJ I I I fun w hm=>hm.meets (S:=OS aj) (ak aj 0 0) trivial [] akV I
 obtain⟨n,hn⟩:∃n,σ.length=n+1+bd.length:=⟨σ.length-bd.length-1,by omega⟩;obtain⟨r,ρ,hdr⟩:∃r ρ,σ.drop bd.length=r::ρ:=Gy fun e=>by
  have:=congrArg nV e;rw[ik,nU]at this;omega
 have hgr:=acp hdr hn;have hdI:=UH bd.length σ;rw[hdr,AR,show σ.length-bd.length=n+1 by omega]at hdI;have hrA:r<A.length:=hq r (o9 (i:=bd.length) (by rw[hdr];exact fc ..));rw[hdr];dsimp only;have hrG:r<G.length:=by omega
 obtain⟨b2,o2,rfl,Gm⟩:=hrS J;rw[IA]at Gm;have uj:∀L,At (w:b_) L ⟨b2,o2+n,aj⟩ (ap av (r:Int)):=fun L=>jp Gm (by rw[eQ,hgr];rfl);have aiU:∀L j u,(((sI σ).take (n+1)).flatMap cT.eX)[j]?=ah u->At (w:b_) L ⟨b2,o2+j,aj⟩ u:=fun L j u hj=>jp Gm (by
  rw[IA,abF,List.getElem?_take]at hj
  by_cases cc:j<n+1
  rwa [if_pos cc]at hj
  rw[if_neg cc]at hj;cases hj)
 clear Gm hrS;obtain⟨bG,oG,wi,rfl,hcG,hsG⟩:=Lt hGo hrG;have aen:∀L,At (w:b_) L ⟨bG,oG+r,aj⟩ wi:=fun L=>hJ hcG;clear hcG;obtain⟨ei,di,rfl,hdi,aiE⟩:=nl hsG;have hfG:=hsG.flat (f:=fun n=>[ap .i64 n]) akV;obtain⟨_,_,e2,-,-,hrY⟩:=hfG
 cases e2
 have akS:=hwG r hrG;have hgo:=abN r hrG;have U9:fK G r hd=G[r].getD hd.toNat 0:=by unfold fK;rw[bD (l:=G),bm hrG];rfl
 rw[U9];clear hsG U9 abN hwG hwA ael hGo;generalize G[r]=Y at*;obtain⟨h,rfl⟩:=fz hpp.2.1;have hhY:h<Y.length:=by omega
 obtain⟨b3,o3,rfl,OF⟩:=hrY J;have hYh:Y[h]?=ah (Y.getD h 0):=by rw[bD,bm hhY];rfl
 have agi:∀L,At (w:b_) L ⟨b3,o3+h,aj⟩ (ap av (Y.getD h 0)):=fun L=>jp OF (by
  rw[show(Y.flatMap fun n=>[ap .i64 n])=Y.map (.int .i64)from IA Y,eQ,hYh];rfl)
 have hto:=hgo _ (kO hYh);clear OF hrY hYh hgo;rw[show Y.getD ((h:Int)).toNat 0=Y.getD h 0 from I];generalize Y.getD h 0=to1 at*
 repeat(first|refine GC ?_|refine gV (aw (v:=ak (ah ⟨b1,o1,aj⟩) g.az.length cp) aI.ty I (aE (i:=0) I I)) ?_|refine gV (aR bI.eq aI.ty I I hp) ?_|refine gV (aw (v:=ak base bd.length cap) aI.ty I (aiT _)) ?_|refine gV (eD (r:=((n+1:Nat):Int)) I I J J J) ?_|refine gV (dT (b:=aD) I I (decide_eq_false J)) ?_|refine GB ?_)
 refine dK ([aO g4 (dD g.aQ g.bB (ak (ah ⟨b1,o1,aj⟩) g.az.length cp)).cells 33,aO g5 (aP #[vA,ak (ah ⟨bG,oG,aj⟩) G.length cG]).cells 36]) (.calm 0 (.calm 1 (.calm 2 (.calm 3 (.calm 4 (.calm 5 (.calm 6 (.calm 7 (.calm 8 (.calm 9 (.calm 10 (.calm 11 (.calm 12 (.calm 13 (.calm 14 (.calm 15 (.calm 16 (.calm 17 (.done))))))))))))))))))) (fun _ h=>h) ?_
 repeat(first|(refine GN ?_;first|refine QW QP ?_|refine QW (aw (v:=ak (ah ⟨bG,oG,aj⟩) G.length cG) aI.ty I (aE (i:=1) I I)) ?_|refine QW (eD (r:=(n:Int)) I I J J J) ?_|refine QW (a8 (j:=n) bI.eq aI.ty I I J) ?_|refine QW (aw (v:=ap av (r:Int)) aI.ty I (uj _)) ?_|refine QW (a8 (j:=r) bI.eq aI.ty I I hrG) ?_|refine QW (aw (v:=ak (ah ⟨b3,o3,aj⟩) Y.length di) aI.ty I (aen _)) ?_|refine QW (aw (v:=ak (ah ⟨b1,o1,aj⟩) g.az.length cp) aI.ty I (aE (i:=0) I I)) ?_|refine QW (aR bI.eq aI.ty I I hp) ?_|refine QW (aw (v:=ap av (h:Int)) aI.ty I (aka _)) ?_|refine QW (a8 (j:=h) bI.eq aI.ty I I hhY) ?_|refine QW (aw (v:=ap av to1) aI.ty I (agi _)) ?_|refine GX ?_)|refine GW ?_)
 repeat(first|refine GC ?_|refine gV (af5 (j:=n+1) bI.eq aI.ty I I I J) ?_|refine GB ?_)
 refine gI (cs:=#[ap av to1]) I I I I I fun g46=>?_;refine zL ?_;refine P1 (q:=2) (m:=n+1) (olds:=((sI σ).take (n+1)).flatMap cT.eX) I (aiU _) (by rw[IA,dw,gZ,wK];show _=(n+1)*1;omega) I I I J J I fun v'=>?_;refine zL ?_
 by_cases c2:0<=to1
 ·rw[if_pos c2]
  have e:bx 3 1 v' (n+1+1) (((sI σ).take (n+1)).flatMap cT.eX++[ap av to1])=UI v' (to1.toNat::r::ρ):=by
   have JW:(to1.toNat::r::ρ).length=n+1+1:=by
    have:=congrArg nV hdr;rw[ik]at this;simp only[cO]at this⊢;omega
   show _=bx 3 1 v' (to1.toNat::r::ρ).length ((sI (to1.toNat::r::ρ)).flatMap cT.eX)
   rw[JW,AR,AR,hdI,fH,oY c2];rfl
  repeat(first|refine GC ?_|refine gV (fx (b:=aB) I I (decide_eq_true c2)) ?_|refine GB ?_)
  exact jJ I I I fun w hm=>hm.meets (S:=OS (ah (to1.toNat::r::ρ))) v' trivial [3] akV (by show[_]=[_];rw[<-e];rfl)
 ·rw[if_neg c2]
  repeat(first|refine GC ?_|refine gV (fx (b:=aD) I I (decide_eq_false c2)) ?_|refine GB ?_)
  exact jJ I I I fun w hm=>hm.meets (S:=OS aj) v' trivial [] akV I
end cg
namespace cg
open Go.RowKit cT ey aM dN dx bP c_
theorem wF.right{g:dF}{T N:Nat}{A:List (List bP.Act)}{G:List (List Int)}(h:wF g T N A G){q c:Nat}(hq:q<A.length)(hc:c<=T):wE T g.az.length A.length (jC A q c) c:=by
 have h1:c<A[q].length:=by rw[h.wA q hq];omega
 have:=h.dG q hq c h1;unfold jC;rw[bD (l:=A),bm hq,iz,bD,bm h1];exact this
theorem wF.go{g:dF}{T N:Nat}{A:List (List bP.Act)}{G:List (List Int)}(h:wF g T N A G){q:Nat}{n:Int}(hq:q<A.length)(h0:0<=n)(h1:n<(N:Int)):fK G q n<(A.length:Int):=by
 have hqG:q<G.length:=by rw[h.same];exact hq
 have h2:n.toNat<G[q].length:=by rw[h.wG q hqG];omega
 have:=(h.gos q hqG _ (bV h2)).2;unfold fK;rw[bD (l:=G),bm hqG,iz,bD,bm h2];exact this
theorem UJ{g:dF}{T N:Nat}{A:List (List bP.Act)}{G:List (List Int)}(h:wF g T N A G){σ σ':List Nat}{p:Int}(h0:0<=p)(h1:p<(g.az.length:Int))(hq:∀q∈σ,q<A.length)(hr:zf g.az (fK G) σ p=ah σ'):σ'≠[]/\σ'.length<=σ.length+1/\∀q∈σ',q<A.length:=by
 unfold zf at hr
 cases e:σ.drop (bJ g.az p).2.length with
 |nil=>rw[e]at hr;cases hr
 | cons r ρ=>
  rw[e]at hr;dsimp only at hr;have kS:∀q∈r::ρ,q<A.length:=fun q zq=>hq q (o9 (i:=(bJ g.az p).2.length) (by rw[e];exact zq));have hlen:(r::ρ).length<=σ.length:=by rw[<-e,ik];omega
  split at hr
  ·rename_i c
   obtain rfl:=nO hr;have hh:=(cz h.xw).2.2.2.2.2 _ (ee.fV h0 h1);have:=h.go (kS r (fc ..)) hh.2.1 (by have:=h.bB;omega);refine⟨by simp,by simp only[cO]at hlen⊢;omega,fun q zq=>?_⟩;rcases df.1 zq with rfl|zq
   omega;exact kS q zq
  cases hr
section
variable{l:List aM.Prod}{act:Nat->Nat->bP.Act}{gt:Nat->Int->Int}{col a f q:Nat}{σ:List Nat}{o:List bX}
theorem aiV{m:Int}(h:act q col=(0,m)):dY l act gt col a (f+1) (q::σ) o=(13,[],[]):=by
 rw[dY,show(q::σ).headD 0=q from I,h,if_neg (by simp),if_neg (by simp),if_neg (by simp),if_neg (by simp)]
theorem acq{x:bP.Act}(h:act q col=x)(h0:x.1≠0):dY l act gt col a 1 (q::σ) o=(14,[],[]):=by
 rw[dY,show(q::σ).headD 0=q from I,h,if_pos ⟨rfl,h0⟩]
theorem aiW{m:Int}(h:act q col=(3,m)):dY l act gt col a (f+1+1) (q::σ) o=(0,q::σ,o):=by
 rw[dY,show(q::σ).headD 0=q from I,h,if_neg (fun h=>Lp _ h.1),if_pos I]
theorem aiX{m:Int}(h:act q col=(1,m)):dY l act gt col a (f+1+1) (q::σ) o=if 60<(q::σ).length+1 then(14,[],[])else(0,m.toNat::q::σ,o++[(2,(a:Int))]):=by
 rw[dY,show(q::σ).headD 0=q from I,h,if_neg (fun h=>Lp _ h.1),if_neg (by simp),if_pos I]
theorem afq{m:Int}(h:act q col=(2,m))(hr:zf l gt (q::σ) m=aj):dY l act gt col a (f+1+1) (q::σ) o=(13,[],[]):=by
 rw[dY,show(q::σ).headD 0=q from I,h,if_neg (fun h=>Lp _ h.1),if_neg (by simp),if_neg (by simp),if_pos I];dsimp only;rw[hr]
theorem aiY{m:Int}{σ':List Nat}(h:act q col=(2,m))(hr:zf l gt (q::σ) m=ah σ'):dY l act gt col a (f+1+1) (q::σ) o=if 60<σ'.length then(14,[],[])else dY l act gt col a (f+1) σ' (o++[(4,m)]):=by
 rw[dY,show(q::σ).headD 0=q from I,h,if_neg (fun h=>Lp _ h.1),if_neg (by simp),if_neg (by simp),if_pos I];dsimp only;rw[hr]
end
theorem DW{g:dF}{T N:Nat}{A:List (List bP.Act)}{G:List (List Int)}(h:wF g T N A G){col a:Nat}(hc:col<=T):∀(f:Nat) {σ:List Nat} {o:List bX},σ≠[]->(∀q∈σ,q<A.length)->σ.length<=60->(dY g.az (jC A) (fK G) col a f σ o).1=0->
 (dY g.az (jC A) (fK G) col a f σ o).2.1≠[]/\(∀q∈(dY g.az (jC A) (fK G) col a f σ o).2.1,q<A.length)/\(dY g.az (jC A) (fK G) col a f σ o).2.1.length<=60/\(dY g.az (jC A) (fK G) col a f σ o).2.2.length<=o.length+f
 |0,_,_,_,_,_,h0=>by cases h0
 | f + 1,σ,o,hne,hq,hl,h0=>by
  obtain⟨q,σ,rfl⟩:=Gy hne;have ZU:=h.right (hq q (fc ..)) hc;generalize hx:jC A q col=x at ZU;obtain⟨k,m⟩:=x
  by_cases ck:k=0
  subst ck;rw[aiV hx]at h0;cases h0
  cases f with
  |zero=>rw[acq hx ck]at h0;cases h0
  | succ f=>
   rcases ZU with⟨e,_⟩|⟨e,h1,h2,h3⟩|⟨e,h1,h2⟩|⟨e,_⟩<;>dsimp only at e<;>subst e
   exact absurd I ck
   ·rw[aiX hx]at h0⊢
    by_cases c:60<(q::σ).length+1
    rw[if_pos c]at h0;cases h0;rw[if_neg c];refine⟨by simp,fun y hy=>?_,by simp only[cO]at c⊢;omega,by simp⟩;rcases df.1 hy with rfl|hy
    dsimp only at h2 h3;omega;exact hq y hy
   ·dsimp only at h1 h2
    cases hr:zf g.az (fK G) (q::σ) m with
    |none=>rw[afq hx hr]at h0;cases h0
    | some σ'=>
     rw[aiY hx hr]at h0⊢
     by_cases c:60<σ'.length
     rw[if_pos c]at h0;cases h0;rw[if_neg c]at h0⊢;obtain⟨r1,r2,r3⟩:=UJ h h1 h2 hq hr;have:=DW h hc (f+1) (o:=o++[(4,m)]) r1 r3 J h0;refine⟨this.1,this.2.1,this.2.2.1,eC this.2.2.2 ?_⟩;rw[bK,nT];omega
   rw[aiW hx];exact⟨hne,hq,hl,by show o.length<=_;omega⟩
theorem aiZ{B:b_}{L:List b9}{i g cap:Nat}{q:Nat}{σ:List Nat}(hi:L[i]?=ah (UI (ak (ah ⟨g,0,aj⟩) (σ.length+1) cap) (q::σ))):At B L ⟨g,0+σ.length*1,aj⟩ (ap av (q:Int)):=
 oC (f:=cT.eX) Nl hi (k:=σ.length) (by rw[wK];simp) 0 _ (by
  have:(sI (q::σ))[σ.length]?=ah (q:Int):=acp (b:=0) (ρ:=σ) I I;rw[cU]at this;obtain⟨_,h⟩:=this;rw[h];rfl)
theorem aeK{v:Value}{m:Int}{q:Nat}{σ:List Nat}(h:0<=m):bx 3 1 v (σ.length+1+1) ((sI (q::σ)).flatMap cT.eX++[ap av m])=UI v (m.toNat::q::σ):=by
 show _=bx 3 1 v (m.toNat::q::σ).length ((sI (m.toNat::q::σ)).flatMap cT.eX)
 rw[AR m.toNat,fH,oY h];rfl
theorem UK{v:Value}{x:bX}{o:List bX}:bx 55 2 v (o.length+1) (o.flatMap dS++dS x)=rT v (o++[x]):=by
 show _=bx 55 2 v (o++[x]).length ((o++[x]).flatMap dS)
 rw[bK,fH];simp
def sJ(R:Int×List Nat×List bX):Spec (Value×Value):=⟨fun _=>True,fun x=>if R.1=0 then .tuple #[x.1,x.2,ap av 0]else .tuple #[ak aj 0 0,ak aj 0 0,ap av R.1],fun x=>if R.1=0 then [UI x.1 R.2.1,rT x.2 R.2.2]else []⟩
theorem OT{σ:List Nat}{o:List bX}:sJ (0,σ,o)=⟨fun _=>True,fun x=> .tuple #[x.1,x.2,ap av 0],fun x=>[UI x.1 σ,rT x.2 o]⟩:=by unfold sJ;simp
theorem OU{e:Int}(he:e≠0){x:List Nat×List bX}:sJ (e,x)=⟨fun _=>True,fun _=> .tuple #[ak aj 0 0,ak aj 0 0,ap av e],fun _=>[]⟩:=by unfold sJ;simp[he]
attribute [local irreducible] Instr.build in
theorem CT(v t vs:Value)(g:dF)(T N:Nat)(A:List (List bP.Act))(G:List (List Int))(zo:List Nat)(seen col:Nat)(w:World)(hG:kw (fun k=>k<w.heap.size) w v g)(ht:GG w t A G)(hs:skR w vs zo)(hT:wF g T N A G)(hq:∀q∈zo,q<A.length)(hne:zo≠[])(hl:zo.length<=60)(hc:col<=T):
 Calls aC 172 #[v,t,xR vs (seen:Int) 0 aD,ap av (col:Int)] w (cJ (sJ (dY g.az (jC A) (fK G) col seen 2001 zo [])) w):=by
 have jZ:=fun w' (hg:Gr w w')=>ua vs (sI zo) w' (by rw[wK];exact hs.gr hg) (by rw[wK];omega);rw[wK]at jZ;have fZ:=fun qd σ p w' (hg:Gr w w') yf zq hl' hp=>G7 v t qd g T N A G σ p w' (hG.gr hg) (ht.gr hg) yf hT zq hl' hp;have ai0:=fun σ σ' p h0 h1 hq hr=>UJ (σ:=σ) (σ':=σ') (p:=p) hT h0 h1 hq hr;have ZU:=fun q (hq:q<A.length)=>hT.right hq hc;have hwA:=hT.wA;clear hT;obtain⟨vp,rfl,-⟩:=hG;obtain⟨vA,vG,rfl,hA,-⟩:=ht;obtain⟨aA,cA,rfl,-,-⟩:=nl hA;refine enter (args:=[dD g.aQ g.bB vp,aP #[ak aA A.length cA,vG],xR vs (seen:Int) 0 aD,ap av (col:Int)]) (n:=87) Tryz.func172 I I I ?_;refine bY (a_ (bQ I I I fun g4=>?_));refine zL ?_;refine bQ I I I fun g5=>?_;refine zL ?_;refine bQ I I I fun g6=>?_;refine zL ?_
 repeat(first|refine GA ?_|refine gV (aw (v:=vs) aI.ty I (aE (i:=2) I I)) ?_)
 refine aW (kZ aF.en I I) (fun w hm=>jZ w hm.below) I I I ?_;intro oJ _;refine zL ?_
 try refine GA ?_
 refine jw 55 2 ?_;generalize hR:dY g.az (jC A) (fK G) col seen 2001 zo []=R;clear jZ hs;refine dU (ι:=Nat×List Nat×List bX×Value×Value) (fun(f,σ,o,_,_)=>dY g.az (jC A) (fK G) col seen f σ o=R/\f<=2001/\1<=f/\o.length+f<=2001/\σ≠[]/\σ.length<=60/\∀q∈σ,q<A.length)
  (fun(f,_,_,vs,vo)=>[(3,ap av (col:Int)),(4,aH (ah ⟨g4,0,aj⟩)),(5,aH (ah ⟨g5,0,aj⟩)),(6,aH (ah ⟨g6,0,aj⟩)),(11,vs),(12,vo),(13,ap av ((2001-f:Nat):Int))])
  (fun(_,σ,o,qd,vo)=>[aO g4 (dD g.aQ g.bB vp).cells 33,aO g5 (aP #[ak aA A.length cA,vG]).cells 36,aO g6 (xR vs (seen:Int) 0 aD).cells 161,UI qd σ,rT vo o]) (fun(f,_,_,_,_)=>f) (2001,zo,[],oJ,ak aj 0 0) ⟨hR,by omega,by omega,by simp,hne,hl,hq⟩ ?_
 clear hR hne hl hq;rintro⟨f,σ,o,qd,vo⟩ ⟨i1,i2,i3,i4,i5,i6,i7⟩;dsimp only at i1 i2 i3 i4 i5 i6 i7⊢;obtain⟨q,σ,rfl⟩:=Gy i5;obtain⟨f,rfl⟩:∃f',f=f'+1:=⟨f-1,by omega⟩;have hqA:=i7 q (fc ..);have akb:=ZU q hqA;obtain⟨bA,oA,wi,rfl,hcA,hsA⟩:=Lt hA hqA;have aem:∀L,At (w:b_) L ⟨bA,oA+q,aj⟩ wi:=fun L=>hJ hcA;obtain⟨ei,di,rfl,hdi,aiE⟩:=nl hsA;have hfA:=hsA.flat (f:=lP) akV;obtain⟨_,_,e2,-,-,hrX⟩:=hfA
 cases e2
 have akT:=hwA q hqA;have hxe:jC A q col=A[q].getD col (0,0):=by unfold jC;rw[bD (l:=A),bm hqA];rfl
 have hcX:col<A[q].length:=by omega
 obtain⟨b3,o3,rfl,OF⟩:=hrX J;have eK:=fun L=>hU (L:=L) sA OF hcX;have ai1:A[q][col]=jC A q col:=by rw[hxe,bD,bm hcX];rfl
 rw[ai1]at eK;have FV:∀(L:List b9) (j:Nat) (u:Value),(lP (jC A q col))[j]?=ah u->At (w:b_) L ⟨b3,o3+col*2+j,aj⟩ u:=eK;clear eK OF hrX hxe ai1 hsA hcA hwA hA ZU;generalize A[q]=X at*;generalize hx:jC A q col=x at*;refine yp (i:=3) I (by simp) fun gs cs hv q1 q2=>?_;subst hv;simp only[cO]at i4 i6 q1⊢
 try refine GA ?_
 refine dK ([aO g5 (aP #[ak (ah ⟨bA,oA,aj⟩) A.length cA,vG]).cells 36,UI (ak (ah ⟨gs,0,aj⟩) (σ.length+1) cs) (q::σ)]) (.calm 0 (.calm 1 (.calm 2 (.calm 3 (.calm 4 (.calm 5 (.calm 6 (.calm 7 (.calm 8 (.calm 9 (.calm 10 (.calm 11 (.calm 12 (.one 13 (.one 14 (.done)))))))))))))))) (bZ [1,3]) ?_
 repeat(first|(refine GN ?_;first|refine QW QP ?_|refine QW (aw (v:=ak (ah ⟨bA,oA,aj⟩) A.length cA) aI.ty I (aE (i:=0) I I)) ?_|refine QW (eD (r:=(σ.length:Int)) I I J J J) ?_|refine QW (aR (j:=σ.length) bI.eq aI.ty I I J) ?_|refine QW (aw (v:=ap av (q:Int)) aI.ty I (aiZ (i:=1) I)) ?_|refine QW (a8 (j:=q) bI.eq aI.ty I I hqA) ?_|refine QW (aw (v:=ak (ah ⟨b3,o3,aj⟩) X.length di) aI.ty I (aem _)) ?_|refine QW (aR (j:=col) bI.eq aI.ty I I hcX) ?_|refine QW (aU (cs:=lP x) aI.ty I I (FV _)) ?_|refine GX ?_)|refine GW ?_)
 refine aJ I (aY I fun g14=>?_);refine zL ?_;refine aK (bZ [1,3]) ?_;refine aJ I (aX (i:=5) (cs':=(lP x).toArray) I I I I I I ?_);refine zL ?_;refine aK (bZ [1,3]) ?_
 try refine GW ?_
 obtain⟨k,m⟩:=x;have LK:((2001-(f+1):Nat):Int)=2000↔f=0:=by omega
 by_cases ck:k=0
 ·subst ck
  rw[aiV hx]at i1;subst i1
  by_cases c0:f=0
  ·repeat(first|refine GC ?_|refine gV (cP (b:=aB) I I (decide_eq_true (LK.2 c0))) ?_|refine gV (aw (v:=ap av 0) aI.ty I (aE (i:=5) I I)) ?_|refine GB ?_)
   exact m_ I I I I fun w hm=>hm.meets (S:=sJ (13,[],[])) (ak aj 0 0,ak aj 0 0) trivial [] akV I
  repeat(first|refine GC ?_|refine gV (cP (b:=aD) I I (decide_eq_false fun h=>c0 (LK.1 h))) ?_|refine gV (aw (v:=ap av 0) aI.ty I (aE (i:=5) I I)) ?_|refine GB ?_)
  exact m_ I I I I fun w hm=>hm.meets (S:=sJ (13,[],[])) (ak aj 0 0,ak aj 0 0) trivial [] akV I
 by_cases c0:f=0
 ·subst c0
  rw[acq hx ck]at i1;subst i1
  repeat(first|refine GC ?_|refine gV (cP (b:=aB) I I (decide_eq_true (LK.2 I))) ?_|refine gV (aw (v:=ap av k) aI.ty I (aE (i:=5) I I)) ?_|refine gV (dz (b:=aB) I I (decide_eq_true ck)) ?_|refine GB ?_)
  exact m_ I I I I fun w hm=>hm.meets (S:=sJ (14,[],[])) (ak aj 0 0,ak aj 0 0) trivial [] akV I
 have LK:¬((2001-(f+1):Nat):Int)=2000:=fun h=>c0 (LK.1 h);obtain⟨f,rfl⟩:∃f',f=f'+1:=⟨f-1,by omega⟩;rcases akb with⟨e,_⟩|⟨e,h1,h2,h3⟩|⟨e,h1,h2⟩|⟨e,_⟩<;>dsimp only at e<;>subst e
 ·exact absurd I ck
 ·dsimp only at h1 h2 h3
  rw[aiX hx]at i1
  repeat(first|refine GC ?_|refine gV (cP (b:=aD) I I (decide_eq_false LK)) ?_|refine gV (aw (v:=ap av 1) aI.ty I (aE (i:=5) I I)) ?_|refine GB ?_)
  refine dK ([aO g6 (xR vs (seen:Int) 0 aD).cells 161,aO g14 (lP (1,m)).toArray 94]) (.calm 0 (.calm 1 (.calm 2 (.calm 5 (.calm 6 (.calm 7 (.calm 8 (.two 3 (.two 4 (.one 9 (.one 10 (.calm 11 (.calm 12 (.done))))) 9 (.one 4 (.one 10 (.calm 11 (.calm 12 (.done)))))) 9 (.one 3 (.one 4 (.one 10 (.calm 11 (.calm 12 (.done)))))))))))))) (bZ [2,5]) ?_
  repeat(first|refine GW ?_|(refine GN ?_;first|refine QW (aw (v:=ap av m) aI.ty I (aE (i:=1) I I)) ?_|refine QW (aw (v:=ap av (seen:Int)) aI.ty I (aE (i:=0) I I)) ?_|refine QW (bz I (BB _ _)) ?_))
  refine fe I I ?bw1 ?bw2
  case' bw1=>
   refine gI (cs:=#[ap av m]) I I I I I fun g52=>aK (bZ [2,5]) ?_;refine fe I I ?bw3 ?bw4
  case' bw3=>
   refine ma (i:=3) (q:=6) I I I I I I (by simp only[cO];omega) (by simp only[cO];omega) I fun v3=>aK (bZ [2,5]) ?_;refine aJ I (gI (cs:=(dS (2,(seen:Int))).toArray) I I I I I fun g58=>aK (bZ [2,5]) ?_);refine aJ I (oq (i:=4) (q:=7) I I I I I I J J I fun v4=>aK (bZ [2,5]) ?_)
  case' bw4=>
   refine gI (cs:=(dS (2,(seen:Int))).toArray) I I I I I fun g58=>aK (bZ [2,5]) ?_;refine aJ I (ma (i:=3) (q:=6) I I I I I I (by simp only[cO];omega) (by simp only[cO];omega) I fun v3=>aK (bZ [2,5]) ?_);refine aJ I (oq (i:=4) (q:=7) I I I I I I J J I fun v4=>aK (bZ [2,5]) ?_)
  case' bw2=>
   refine gI (cs:=(dS (2,(seen:Int))).toArray) I I I I I fun g58=>aK (bZ [2,5]) ?_;refine aJ I (gI (cs:=#[ap av m]) I I I I I fun g52=>aK (bZ [2,5]) ?_);refine aJ I (ma (i:=3) (q:=7) I I I I I I (by simp only[cO];omega) (by simp only[cO];omega) I fun v3=>aK (bZ [2,5]) ?_);refine aJ I (oq (i:=4) (q:=6) I I I I I I J J I fun v4=>aK (bZ [2,5]) ?_)
  all_goals
   try refine GW ?_
   by_cases c6:60<(q::σ).length+1
   ·rw[if_pos c6]at i1
    subst i1
    repeat(first|refine GC ?_|refine gV (dV (i:=3) bI.eq I I) ?_|refine gV (eP (b:=aB) I I (decide_eq_true J)) ?_|refine GB ?_)
    exact m_ I I I I fun w hm=>hm.meets (S:=sJ (14,[],[])) (ak aj 0 0,ak aj 0 0) trivial [] akV I
   ·rw[if_neg c6]at i1
    subst i1
    repeat(first|refine GC ?_|refine gV (dV (i:=3) bI.eq I I) ?_|refine gV (eP (b:=aD) I I (decide_eq_false J)) ?_|refine gV (aw (v:=ap av 1) aI.ty I (aE (i:=5) I I)) ?_|refine GB ?_)
    exact m_ I I I I fun w hm=>hm.meets (S:=sJ (0,m.toNat::q::σ,o++[(2,(seen:Int))])) (v3,v4) trivial [3,4] akV (by
     show[UI v3 (m.toNat::q::σ),rT v4 (o++[(2,(seen:Int))])]=_
     rw[<-aeK h2,<-UK];rfl)
 ·dsimp only at h1 h2
  obtain⟨pn,rfl⟩:=fz h1;have ai2:=fun w' yA yf=>fZ (ak (ah ⟨gs,0,aj⟩) (σ.length+1) cs) (q::σ) pn w' yA yf i7 (by simp only[cO];omega) J;have Vj:=fun σ'=>ai0 (q::σ) σ' (pn:Int) h1 h2 i7;have akc:=fun hr=>@afq g.az (jC A) (fK G) col seen f q σ o (pn:Int) hx hr;have JX:=fun σ' hr=>@aiY g.az (jC A) (fK G) col seen f q σ o (pn:Int) σ' hx hr;generalize zf g.az (fK G) (q::σ) (pn:Int)=R2 at*;clear fZ ai0
  cases R2 with
  | none=>
   rw[akc I]at i1;subst i1
   repeat(first|refine GC ?_|refine gV (cP (b:=aD) I I (decide_eq_false LK)) ?_|refine gV (aw (v:=ap av 2) aI.ty I (aE (i:=5) I I)) ?_|refine gV (aL (i:=0) aI.ty I I I) ?_|refine gV (aL (i:=1) aI.ty I I I) ?_|refine gV (aw (v:=ap av (pn:Int)) aI.ty I (aE (i:=5) I I)) ?_|refine GB ?_)
   refine aW (Hi aF.en I I I I I) (fun w' hm=>ai2 w' hm.below (Sl.dy (hm.get (i:=3) I))) I I I ?_;intro v2 _
   conv=>arg 8;simp only[zJ,dr,ret,id_eq,OS]
   conv=>arg 7;simp only[OS]
   try refine GA ?_
   exact m_ I I I I fun w hm=>hm.meets (S:=sJ (13,[],[])) (ak aj 0 0,ak aj 0 0) trivial [] akV I
  | some σ'=>
   rw[JX σ' I]at i1;obtain⟨k1,k2,k3⟩:=Vj σ' rfl;simp only[cO]at k2
   repeat(first|refine GC ?_|refine gV (cP (b:=aD) I I (decide_eq_false LK)) ?_|refine gV (aw (v:=ap av 2) aI.ty I (aE (i:=5) I I)) ?_|refine gV (aL (i:=0) aI.ty I I I) ?_|refine gV (aL (i:=1) aI.ty I I I) ?_|refine gV (aw (v:=ap av (pn:Int)) aI.ty I (aE (i:=5) I I)) ?_|refine GB ?_)
   refine aW (Hi aF.en I I I I I) (fun w' hm=>ai2 w' hm.below (Sl.dy (hm.get (i:=3) I))) I I I ?_;intro v2 _
   conv=>arg 8;simp only[zJ,dr,ret,id_eq,OS]
   conv=>arg 7;simp only[OS]
   repeat(first|refine GA ?_|refine gV (aw (v:=ap av (pn:Int)) aI.ty I (aE (i:=5) I I)) ?_|refine gV (bz I (BB _ _)) ?_)
   refine k7 (i:=4) I I I I I I I (fun z h=>by cases h;rfl) J J I fun z4 v4=>?_;refine zL ?_
   by_cases c6:60<σ'.length
   ·rw[if_pos c6]at i1
    subst i1
    repeat(first|refine GC ?_|refine gV (dV (i:=6) bI.eq I I) ?_|refine gV (eP (b:=aB) I I (decide_eq_true J)) ?_|refine GB ?_)
    exact m_ I I I I fun w hm=>hm.meets (S:=sJ (14,[],[])) (ak aj 0 0,ak aj 0 0) trivial [] akV I
   rw[if_neg c6]at i1
   repeat(first|refine GC ?_|refine gV (dV (i:=6) bI.eq I I) ?_|refine gV (eP (b:=aD) I I (decide_eq_false J)) ?_|refine gV (aw (v:=ap av 2) aI.ty I (aE (i:=5) I I)) ?_|refine gV (dh (r:=((2001-(f+1):Nat):Int)) I I J J J) ?_|refine GB ?_)
   refine dv [0,1,2,6,4] ?_;exact bO (f+1,σ',o++[(4,(pn:Int))],v2,v4) ⟨i1,by omega,by omega,by show(o++[(4,(pn:Int))]).length+(f+1)<=2001;rw[bK,nT];omega,k1,by show σ'.length<=60;omega,k3⟩ (by show f+1<f+1+1;omega) (hl:=by rw[<-UK];rfl)
 ·rw[aiW hx]at i1
  subst i1
  repeat(first|refine GC ?_|refine gV (cP (b:=aD) I I (decide_eq_false LK)) ?_|refine gV (aw (v:=ap av 3) aI.ty I (aE (i:=5) I I)) ?_|refine GB ?_)
  exact m_ I I I I fun w hm=>hm.meets (S:=sJ (0,q::σ,o)) (ak (ah ⟨gs,0,aj⟩) (σ.length+1) cs,vo) trivial [3,4] akV I
end cg
namespace ph
open aM dN gK qE bP c_ cg
abbrev PS:=List TD×List Nat
def Di:PS:=([.sym (2,0)],[0])
def iO(m:Md)(b:Bool)(p:PS)(a:Nat)(t:Int):Int×PS×List bX:=
 if b then((iB m.g.az (jW m.rows t.toNat) p.1 a t).1,((iB m.g.az (jW m.rows t.toNat) p.1 a t).2.1,p.2),(iB m.g.az (jW m.rows t.toNat) p.1 a t).2.2)
 else((dY m.g.az (jC m.A) (fK m.G) t.toNat a 2001 p.2 []).1,(p.1,(dY m.g.az (jC m.A) (fK m.G) t.toNat a 2001 p.2 []).2.1),(dY m.g.az (jC m.A) (fK m.G) t.toNat a 2001 p.2 []).2.2)
def oh(m:Md)(b:Bool)(p:PS)(a:Nat):Int×List bX:=
 if b then tv m.g.az (jW m.rows m.g.aQ.toNat) p.1
 else((dY m.g.az (jC m.A) (fK m.G) m.g.aQ.toNat a 2001 p.2 []).1,(dY m.g.az (jC m.A) (fK m.G) m.g.aQ.toNat a 2001 p.2 []).2.2)
def okP(m:Md)(b:Bool)(p:PS):Prop:=if b then(∀d∈p.1,pz m.g d)/\p.1.length<=60 else p.2≠[]/\(∀q∈p.2,q<m.A.length)/\p.2.length<=60
structure MdFit(m:Md)(b:Bool)(T N:Nat):Prop extends MdGood m where
 md:m.mode=if b then 1 else 2
 tT:m.g.aQ=T
 nN:m.g.bB=N
 ll:b=aB->Lr m.g m.rows=0/\OE m.g m.rows T N
 lr:b=aD->wF m.g T N m.A m.G
def oy(m:Md)(t:Tok):Int:=m.of.getD t.1.toNat 0
def SI(m:Md)(b:Bool):List Tok->PS->Nat->List bX->Option (Int×Nat)×List bX×PS×Nat
 |[],p,a,out=>(aj,out,p,a)
 | t::r,p,a,out=>
  if oy m t<0 then SI m b r p a out
  else if(iO m b p a (oy m t)).1≠0 then(ah ((iO m b p a (oy m t)).1,t.2.1),out,p,a)
  else SI m b r (iO m b p a (oy m t)).2.1 (a+1) (out++(iO m b p a (oy m t)).2.2)
theorem G8(m:Md)(b:Bool)(t:Tok)(r:List Tok)(p:PS)(a:Nat)(out:List bX):SI m b (t::r) p a out=
 if oy m t<0 then SI m b r p a out
 else if(iO m b p a (oy m t)).1≠0 then(ah ((iO m b p a (oy m t)).1,t.2.1),out,p,a)
 else SI m b r (iO m b p a (oy m t)).2.1 (a+1) (out++(iO m b p a (oy m t)).2.2):=rfl
def lz(m:Md)(b:Bool)(L:List Tok×Nat×Int)(n:Nat):List bX×Int×Nat:=
 match SI m b L.1 Di 0 []with
 |(ah x,out,_,_)=>(out,x)
 |(aj,out,p,a)=>if L.2.2≠0 then(out,L.2.2,L.2.1)else(out++(oh m b p a).2,(oh m b p a).1,n)
def lA(m:Md)(b:Bool)(s:List UInt8):List bX×Int×Nat:=lz m b (qH m.o m.N m.tags s) s.length
theorem zi{o:Of}{N:List (List Int)}{tags:List Int}{n:Int}(hn:0<n)(ht:∀t∈tags,t<n):∀(s:List UInt8) (i:Nat) (now r:Int) (t:Nat),0<=r->r<n->0<=(qG o N tags s i now r t).1/\(qG o N tags s i now r t).1<n
 |[],_,_,_,_,h0,h1=>⟨h0,h1⟩
 | b ::s,i,now,r,t,h0,h1=>by
  rw[tQ]
  by_cases c:Dg o N now b<0
  rw[if_pos c];exact⟨h0,h1⟩;rw[if_neg c]
  by_cases c2:0<=tags.getD (Dg o N now b).toNat 0
  ·rw[if_pos c2]
   refine zi hn ht s _ _ _ _ c2 ?_;rw[bD]
   cases e:tags[(Dg o N now b).toNat]? with
   |none=>exact hn
   |some z=>exact ht z (kO e)
  rw[if_neg c2];exact zi hn ht s _ _ _ _ h0 h1
theorem tV{o:Of}{N:List (List Int)}{tags:List Int}{n:Int}(hn:0<n)(ht:∀t∈tags,t<n)(s:List UInt8):∀(f a:Nat),∀t∈(mg o N tags s f a).1,0<=t.1/\t.1<n
 |0,_,_,h=>by cases h
 | f +1,a,t,h=>by
  rw[qI]at h;split at h
  ·split at h
   cases h
   rcases df.1 h with rfl|h
   exact zi hn ht _ _ _ _ _ (kz 0) hn;exact tV hn ht s f _ t h
  cases h
theorem zj:∀{l:List Tok} {e:Nat},B9 l e->l.length+e<=qJ l e
 |[],_,_=>by simp[qJ]
 |t::l,e,⟨h1,h2,h3⟩=>by
  have:=zj h3;simp only[cO,qJ];omega
theorem OV{o:Of}{N:List (List Int)}{tags:List Int}(s:List UInt8):(qH o N tags s).1.length<=s.length/\(qH o N tags s).2.1<=s.length:=by
 obtain⟨h1,h2⟩:=pB (o:=o) (N:=N) (tags:=tags) (s:=s) (s.length+1) 0 (bC _) J;have h3:=zj h1;unfold qH;rcases h2 with⟨h4,h5⟩|⟨h4,h5,h6⟩
 rw[h4];exact⟨by omega,bC _⟩;exact⟨by omega,by omega⟩
theorem acr{o:Of}{N:List (List Int)}{tags:List Int}(s:List UInt8):(qH o N tags s).2.2=0\/(qH o N tags s).2.2=9:=by
 obtain⟨_,h2⟩:=pB (o:=o) (N:=N) (tags:=tags) (s:=s) (s.length+1) 0 (bC _) J;rcases h2 with⟨h4,_⟩|⟨h4,_⟩
 exact .inl (congrArg Si h4);exact .inr h4
theorem ai3{m:Md}{b:Bool}{T N:Nat}(h:MdFit m b T N):okP m b Di:=by
 have hg:=cz h.De
 cases b with
 |true=>
  refine⟨fun d hd=>?_,by decide⟩;simp only[Di,dH]at hd;subst hd;unfold pz right;simp;omega
 |false=>
  refine⟨by decide,fun q hq=>?_,by decide⟩;simp only[Di,dH]at hq;subst hq;exact(h.lr I).pos
theorem Xf{m:Md}{b:Bool}{T N:Nat}(h:MdFit m b T N){p:PS}(hp:okP m b p){a:Nat}{t:Int}(ht:t<T)(h0:(iO m b p a t).1=0):okP m b (iO m b p a t).2.1/\(iO m b p a t).2.2.length<=2001:=by
 cases b with
 |true=>
  obtain⟨h1,h2⟩:=hp;obtain⟨h3,h4,h5⟩:=Tt h.De ((h.ll rfl).2.nx t.toNat) rfl h0 h1 h2;exact⟨⟨h3,h4⟩,by show _<=2001;exact Nat.le_succ_of_le h5⟩
 |false=>
  obtain⟨h1,h2,h3⟩:=hp;obtain⟨h4,h5,h6,h7⟩:=DW (h.lr rfl) (col:=t.toNat) (a:=a) J 2001 h1 h2 h3 h0;simp only[nU,cI]at h7;exact⟨⟨h4,h5,h6⟩,h7⟩
theorem OW{l:List aM.Prod}{act:Nat->Nat->bP.Act}{gt:Nat->Int->Int}{col a:Nat}:∀(f:Nat) (σ:List Nat) (o:List bX),(dY l act gt col a f σ o).1≠0->(dY l act gt col a f σ o).2.2=[]
 |0,σ,o,_=>by unfold dY;rfl
 | f + 1,σ,o,h=>by
  unfold dY at h⊢;split at h
  ·rename_i c;rw[if_pos c]
  rename_i c;rw[if_neg c]
  split at h;exact absurd I h
  rename_i c2;rw[if_neg c2]
  split at h
  ·rename_i c3;rw[if_pos c3]
   split at h
   ·rename_i c4;rw[if_pos c4]
   exact absurd I h
  rename_i c3;rw[if_neg c3]
  split at h
  ·rename_i c4;rw[if_pos c4]
   cases hr:zf l gt σ (act (σ.headD 0) col).2 with
   |none=>rfl
   | some σ'=>
    rw[hr]at h;dsimp only at h⊢;split at h
    ·rename_i c5;rw[if_pos c5]
    rename_i c5;rw[if_neg c5];exact OW f _ _ h
  rename_i c4;rw[if_neg c4]
theorem acs{m:Md}{b:Bool}{T N:Nat}(h:MdFit m b T N){p:PS}(hp:okP m b p){a:Nat}:((oh m b p a).1=0->(oh m b p a).2.length<=2001)/\((oh m b p a).1≠0->(oh m b p a).2=[]):=by
 cases b with
 |true=>
  rcases w6 (l:=m.g.az) (nx:=jW m.rows m.g.aQ.toNat) (st:=p.1) rfl with⟨h1,h2⟩|⟨a1,h1,h2⟩
  exact⟨fun h0=>by have:(oh m aB p a).1=_:=rfl;rcases h1 with h1|h1<;>exact absurd (h1.symm.trans h0) akV,fun _=>h2⟩;obtain⟨_,h3,h4,_⟩:=Ag h1 rfl hp.2 (bC _);refine⟨fun _=>?_,fun h0=>absurd h2 h0⟩;show(tv m.g.az (jW m.rows m.g.aQ.toNat) p.1).2.length<=2001
  dsimp only at h3 h4;simp only[nU]at h4;omega
 |false=>
  obtain⟨h1,h2,h3⟩:=hp;refine⟨fun h0=>?_,fun h0=>OW _ _ _ h0⟩;obtain⟨h4,h5,h6,h7⟩:=DW (h.lr rfl) (col:=m.g.aQ.toNat) (a:=a) (by have:=h.tT;omega) 2001 h1 h2 h3 h0;simp only[nU,cI]at h7;exact h7
end ph
namespace cg
open Go.RowKit cT ey dj gu je aM c_ ph
structure MkX where
 vo:Value
 vn:Value
 vt:Value
 vp:Value
 vr:Value
 va:Value
 vg:Value
 Ls:List b9
def MkX.cells(x:MkX)(m:Md):List Value:=kp x.vo (jm m.o x.vn x.vt) (jE m.g.aQ m.g.bB x.vp m.mode x.vr x.va x.vg)
structure akd(m:Md)(x:MkX):Prop where
 mdr:∀w,(SH x.Ls).holds w->Jd w (aP (x.cells m).toArray) m x.vo x.vn x.vt x.vp x.vr x.va x.vg
 one:(x.cells m).toArray.toList.all f_=aB
def SJ(m:Md):Spec MkX:=⟨akd m,fun x=> .tuple #[aP (x.cells m).toArray,ap av 0],fun x=>[SH x.Ls]⟩
def ai4(e:Int):Spec Unit:=⟨fun _=>True,fun _=> .tuple #[aP HD.toArray,ap av e],fun _=>[]⟩
def wL(s:Sp)(r:Int×List Row×List Int):Md:=if(CI s r.1).2=1 then zh s r.2.1 r.2.2 else ag7 s r.2.1 r.2.2
theorem sK(x:MkX)(m:Md):(x.cells m).toArray.size=266:=kJ (iA _ _ _) I
theorem cJ.to{ι κ:Type}{S:Spec ι}(S':Spec κ){w:World}{e:Ending}{w':World}(hm:cJ S w e w')(h:∀x,S.ok x->∃y,S'.ok y/\S.val x=S'.val y/\∀w',rW w.heap.size w' (S.own x)->rW w.heap.size w' (S'.own y)):cJ S' w e w':=by
 obtain⟨x,h1,h2,h3,h4⟩:=hm;obtain⟨y,k1,k2,k3⟩:=h x h1;exact⟨y,k1,by rw[h2,k2],h3,k3 w' h4⟩
theorem Xg{v:Value}{s:Sp}{r:Int×List Row×List Int}(hx:Uo s r){w:World}(hv:WE (sa w) w v s)(hb:∀r∈s.rules,r.2.length<=8796093021952)(h:(CI s r.1).1≠0):
  Calls aC 12 #[v] w (cJ (ai4 (CI s r.1).1) w):=
 (AK v s r hx w hv hb).mono fun e w' hm=>by
  have hS:qD s r=wC (CI s r.1).1:=by unfold qD;rw[if_pos h]
  rw[hS]at hm;exact hm.to _ fun x _=>⟨(),trivial,rfl,fun w' h=>h⟩
theorem OX{v:Value}{s:Sp}{r:Int×List Row×List Int}(hx:Uo s r){w:World}(hv:WE (sa w) w v s)(hb:∀r∈s.rules,r.2.length<=8796093021952)(h:(CI s r.1).1=0):
  Calls aC 12 #[v] w (cJ (SJ (wL s r)) w):=
 (AK v s r hx w hv hb).mono fun e w' hm=>by
  obtain⟨h1,-,-,h4⟩:=GH (s:=s) (e:=r.1) (m:=(CI s r.1).2) (by rw[<-h]);obtain⟨hG,OB⟩:=wD hx h1;obtain⟨akU,-⟩:=LJ hx h1;have hS:qD s r=if(CI s r.1).2=1 then aeh s r.2.1 r.2.2 else aei s r.2.1 r.2.2:=by unfold qD;rw[if_neg (by rw[h];simp)]
  unfold wL;rcases h4 with⟨_,Dj⟩|⟨_,_,_,Dj⟩
  ·rw[Dj,if_pos I]at hS⊢
   rw[hS]at hm;refine hm.to (SJ _) fun x mJ=>⟨⟨x.vo,ak (ah ⟨x.gP,0,aj⟩) r.2.1.length r.2.1.length,x.vT,x.vp,ak (ah ⟨x.gR,0,aj⟩) (cL s).bB.toNat (cL s).bB.toNat,ak aj 0 0,ak aj 0 0,x.lex s r.2.1 r.2.2++x.rows (cL s)⟩,⟨fun w' hb=>ag8 (x:=x) (i0:=0) (i1:=1) (i2:=2) (i3:=3) (i4:=4) (i5:=5) (i6:=6) (UG hb) J OB hG I I I I I I I,?_⟩,rfl,fun w' h=>h.bun⟩;obtain⟨k1,k2,k3⟩:=mJ;exact BV k1 (abP (x:=x) k3 r.2.1) (by simp only[jE,cV,dc,k2];rfl)
  rw[Dj,if_neg akV]at hS⊢;rw[hS]at hm;refine hm.to (SJ _) fun x mJ=>⟨⟨x.vo,ak (ah ⟨x.gP,0,aj⟩) r.2.1.length r.2.1.length,x.vT,x.vp,ak aj 0 0,x.tx.vA,x.tx.vG,x.lex s r.2.1 r.2.2++WU x.tx (iN (cL s)).1 (iN (cL s)).2.1⟩,⟨fun w' hb=>ag9 (x:=x) (i0:=0) (i1:=1) (i2:=2) (i3:=3) (i4:=4) (i5:=5) (i6:=6) (i7:=7) (i8:=8) (UG hb) J OB hG I I I I I I I I I,?_⟩,rfl,fun w' h=>h.bun⟩;obtain⟨⟨k1,k2,k3⟩,b1,b2⟩:=mJ;exact BV k1 (abP (x:=x) k3 r.2.1) (by simp only[jE,cV,dc,k2,b1,b2];rfl)
theorem OY{s:Sp}{r:Int×List Row×List Int}(hx:Uo s r)(h:(CI s r.1).1=0):∃b T N,MdFit (wL s r) b T N:=by
 obtain⟨h1,-,-,h4⟩:=GH (s:=s) (e:=r.1) (m:=(CI s r.1).2) (by rw[<-h]);obtain⟨hG,OB⟩:=wD hx h1;obtain⟨b1,b2,b3,b4,b5,b6⟩:=cz hG;unfold wL;rcases h4 with⟨_,Dj⟩|⟨_,h5,_,Dj⟩
 ·rw[Dj,if_pos I]
  exact⟨aB,(cL s).aQ.toNat,(cL s).bB.toNat,aeE hx h1,rfl,by show(cL s).aQ=_;omega,by show(cL s).bB=_;omega,fun _=>⟨OL (g:=cL s) hG J J,ag1 (g:=cL s) J J⟩,(fun h=>by cases h)⟩
 rw[Dj,if_neg akV];obtain⟨T,N,Nx,S,hM⟩:=B8 h5;have hL:wF (cL s) T N (iN (cL s)).1 (iN (cL s)).2.1:=by rw[hM.dG,hM.gos];exact hM.l_
 exact⟨aD,T,N,aeF hx h1 h5,rfl,hL.aQ,hL.bB,(fun h=>by cases h),fun _=>hL⟩
end cg
end Go.Proofs.YtdmgcnggnejnnaaGreat

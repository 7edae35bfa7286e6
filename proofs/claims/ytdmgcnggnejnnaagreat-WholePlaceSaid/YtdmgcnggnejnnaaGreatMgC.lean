/- Part 3 of what WholePlace needs: DfT, PlacesG, ClassP, SmIn, MapE, BoolC, TreeS, FactsA, FactsB, FactsC, FactsD, FactsO, FactsT, Look, Brk, FactsE, FactsF, CountA, ItL, ItM, TreeU, LrL, ItB, ItC, OrdK, OrdJ, ItH, ItN, ItO, SmM, SmU, SmO, SmT, SmK, SmW, SmD, DfX, DfM, DfQ, Els, ItD, SortJ, ItE. -/
import Derived.Test.YtdmgcnggnejnnaaGreatMgB
import Derived.Sort.Grow
import Derived.Deep.RegionWith
import Derived.Deep.RegionHeld
import Derived.Shelf.SlGeneric
import Derived.Shelf.SlSortCmp.NoneTotal
import Derived.Ground.SlsfProg
namespace Go.Proofs.YtdmgcnggnejnnaaGreat
set_option linter.unusedVariables false
set_option linter.unusedSimpArgs false
open _root_.And renaming intro->cK
open _root_.Array renaming getElem?_eq_some_iff->kq,length_toList->pL,getElem?_toList->rC,getElem?_eq_getElem->yu,getElem?_modify->EI,toList_modify->QI,size_push->QJ,ext'->sO
open _root_.Array.mk renaming injEq->oX
open _root_.BitVec renaming getLsbD_eq_getElem->QM,ofInt->xW,getLsbD_ofNat->QN,ofInt_natCast->ZW
open _root_.Bool renaming true->aB,false->aD,or_eq_true->lZ,eq_false_iff->Fy
open _root_.Classical renaming choose_spec->D4,choose->Jv
open _root_.Go.Deferred renaming ofValue->uv
open _root_.Go.Instr renaming build->dm,mapUpdate->A4,lookup->KB,entryStore->QO,mapEntry->QQ
open _root_.Go.IntKind renaming i64->av,bits->lU,signed->sQ,wrap_u64->sR,u64->uz,min->D_,max->Ea,wrap_u8->KC,wrap->ZX,i16->ZY,u8->KD
open _root_.Go.Lit renaming string->ZZ
open _root_.Go.MapKept renaming run_getObj_map->BG,run_setObj_map->KE
open _root_.Go.Op renaming shift->iP,equalIn->pM
open _root_.Go.Oper renaming wp->gY
open _root_.Go.Program renaming keyLits->uA
open _root_.Go.Proofs.Tryz renaming prog->aC
open _root_.Go.Result renaming andThen->lV
open _root_.Go.Sem renaming run_pure->mT
open _root_.Go.Value renaming slice->ak,int->ap,pointer->aH,agg->aP,oneCell'->f_,bool->gd,formed->Z0
open _root_.Go.Value.agg renaming injEq->nb
open _root_.Go.Value.int renaming injEq->Fz
open _root_.Go.Value.slice renaming injEq->kr
open _root_.Int renaming toNat_natCast->cX,eq_ofNat_of_zero_le->fz,le_refl->kz
open _root_.List renaming getElem?_eq_getElem->bm,getD_eq_getElem?_getD->bD,length_append->bK,getElem?_eq_some_iff->cU,getElem_mem->bV,length_cons->cO,drop_eq_getElem_cons->dJ,replicate->db,mem_singleton->dH,length_map->dw,mem_cons->df,append_assoc->dL,getElem?_append_left->fR,size_toArray->eN,append_nil->dQ,take_succ_eq_append_getElem->ir,mem_cons_self->fc,map_append->eb,getElem?_map->eQ,drop_of_length_le->fS,flatMap_append->fH,mem_cons_of_mem->iI,take_of_length_le->ig,getElem?_eq_none->ii,not_mem_nil->fI,mem_map->eI,range->eu,map_cons->fw,getElem?_set_self->ml,nil_append->fN,mem_append->gH,mem_of_getElem?->kO,flatMap_cons->jF,mem_iff_getElem->jG,mem_of_mem_drop->o9,length_range->qj,cons_append->kt,ext_getElem?->mq,eq_of_mem_replicate->FB,all_eq_true->oR,any_eq_true->oT,getElem_map->oZ,mem_append_left->uC,filterMap_append->sT,mem_filter->pN,map_nil->mu,set_cons_zero->x8,getElem?_take->yw,mem_filterMap->yQ,map_set->o7,mem_append_right->KF,range_succ->yR,setIfInBounds_toArray->Ee,set_cons_succ->A',mem_or_eq_of_mem_set->EL,length->nV,nodup_append->Eh,range_succ_eq_map->Z1,modify_succ_cons->Z2,mergeSort_perm->Z3,getElem?_range->Z4,idxOf_cons->Z5,nodup_nil->Z6
open _root_.List.Pairwise renaming and_mem->ago,of_map->agp
open _root_.List.cons renaming injEq->fg,inj->oc
open _root_.Nat renaming le_refl->aT,zero_le->bC,zero_add->cI,le_trans->eC,mul_le_mul_right->ru,add_zero->ji,testBit_or->nW,not_lt_zero->ni,lt_succ_self->o_,mul_one->kQ,testBit_two_pow->KG,sub_self->qk,lt_of_le_of_lt->Bn,xor_lt_two_pow->QR,mod_lt->Be,testBit_xor->Z7,div_le_self->Z8,blt_eq->FC
open _root_.Ne renaming symm->yb
open _root_.Option renaming some->ah,none->aj,getD_some->iz,isSome->QT,getD->Z9
open _root_.Option.some renaming injEq->dg,inj->nO
open _root_.Prod renaming ext->nP
open _root_.Prod.mk renaming injEq->iu
open _root_.True renaming intro->cY
open _root_.UInt8 renaming ofNat->fT,toNat_ofNat'->Z_
open _root_.Vector renaming replicate->eA,getElem_ofFn->jk,getElem_toList->mF,ext->kA,getElem_set->vO,ofFn->rK,getElem_set_ne->QU,toList->QX,getElem_set_self->Z'
set_option maxHeartbeats 16000000
namespace cg
open Go.RowKit cT ey dj gu eB nw c_
theorem adw:laidOutB aC=true:=by kernel_rfl
theorem setRow:(303:TypeId)<aC.types.size:=of_decide_eq_true (by kernel_rfl)
theorem adx:(match aC.underlying 303 with|some (.array _ _)|some (.struct _)=>aB|_=>aD)=true:=by kernel_rfl
theorem ady(x:C4):∃l,keyOf aC 303 (pu x)=ah l:=by
 obtain⟨a,b,c,d⟩:=x;have e1:aC.keyType 303=true:=by kernel_rfl
 have e2:aC.cellsOf 303=4:=by kernel_rfl
 have e3:aC.cellsOf 114=1:=by kernel_rfl
 have e4:∃d,aC.types.size+1=d+2:=⟨aC.types.size-1,by have:0<aC.types.size:=Bn (bC 303) setRow;omega⟩;obtain⟨dd,e4⟩:=e4;have key:∀v:BitVec 64,aC.keyLits (dd+1) 114 [.int .u64 (gh v)]=ah [.int .u64 (gh v)]:=fun v=>by
  have hw:(Lit.int .u64 (gh v)).wf=true:=by
   have h0:=afS v;have h1:=afT v;simp[Lit.wf,D_,Ea,sQ,lU,h0,h1]
  simp[uA,Tryz.underlying114,hw]
 have hl:aC.keyLits (dd+2) 303 [.int .u64 (gh a),.int .u64 (gh b),.int .u64 (gh c),.int .u64 (gh d)]=ah [.int .u64 (gh a),.int .u64 (gh b),.int .u64 (gh c),.int .u64 (gh d)]:=by
  unfold uA;simp[Tryz.underlying303,e2,e3,Z1,key]
 have hf:(pu ⟨a,b,c,d⟩).formed aC 303=true:=by simp[pu,Z0,Tryz.underlying303,e2]
 unfold keyOf;rw[Tryz.underlying303];refine⟨.string (keyBytes ([.int .u64 (gh a),.int .u64 (gh b),.int .u64 (gh c),.int .u64 (gh d)])),?_⟩;show(if(aC.keyType 303&&(pu ⟨a,b,c,d⟩).formed aC 303)=aB then(aC.keyLits (aC.types.size+1) 303 [.int .u64 (gh a),.int .u64 (gh b),.int .u64 (gh c),.int .u64 (gh d)]).map (fun ls=>ZZ (keyBytes ls))else aj)=_
 rw[e1,hf,e4,hl];rfl
set_option maxRecDepth 100000 in
def QY:yl aC 303 C4 where
 kv:=pu
 ok _:=True
 law:=deep_law_laid adw (m:=2) J setRow (by kernel_rfl) adx
 key x _:=ady x
 inj x y h:=by
  simp only[pu,nb,oX,fg,Fz,true_and,and_true]at h;exact C4.ext' (pt h.1) (pt h.2.1) (pt h.2.2.1) (pt h.2.2.2)
theorem Nr(w:World):(zeroValue 3).run aC w= .ok (ap av 0) w:=by kernel_rfl
def ql(D:List C4)(x:C4):Option Value:=if x∈D then ah (ap av ((idx D x+1:Nat):Int))else aj
theorem Q0{D:List C4}{x:C4}(hn:x∉D):(fun y=>if y=x then ah (ap av ((D.length+1:Nat):Int))else ql D y)=ql (D++[x]):=by
 funext y
 unfold ql
 by_cases c:y=x
 ·subst c
  rw[if_pos I,if_pos (by simp)];have:=sb (D:=D) (k:=y);unfold more at this;rw[if_neg hn,if_neg hn]at this;rw[this]
 rw[if_neg c]
 by_cases c2:y∈D
 rw[if_pos c2,if_pos (uC _ c2),qY c2];rw[if_neg c2,if_neg (by simp[c,c2])]
theorem FD:(fun(_:C4)=>(none:Option Value))=ql []:=by funext y;unfold ql;rw[if_neg (by simp)]
abbrev pq(vs:Value)(S:List C4):b9:=bx 303 4 vs (S.length+1) (QG S)
abbrev tI(gm:Nat)(S:List C4):b9:=fq QY gm (ql S) S.length
def L8(vc vr vf vfol vl ve rows:Value)(g gm:Nat)(vs vt:Value)(d:DM):List b9:=
 [aO g (L7 vc vr vf vfol vl ve vs (.map (ah gm)) rows vt) 254,pq vs d.S,tI gm d.S,gC vt d.tags]
def adz(p:PS)(vc vr vf vfol vl ve rows:Value)(g gm:Nat)(d:DM)(s:C4):Spec (Value×Value):=
 ⟨fun _=>True,fun _=>ap av ((iS p d s).1:Int),fun x=>L8 vc vr vf vfol vl ve rows g gm x.1 x.2 (iS p d s).2⟩
theorem aaa(v:Value)(l:List Int)(x:Int):gC v (l++[x])=bx 3 1 v (l.length+1) (l.map (ap .i64)++[ap av x]):=by
 unfold gC;rw[bK,eb];rfl
theorem IF(S:List C4)(s:C4):QG (S++[s])=QG S++d_ s:=by
 unfold QG;rw[<-kt,fH];simp
theorem TK(s:C4):∀u∈d_ s,u.oneCell'=true:=by
 intro u h;simp only[d_,df,fI,or_false]at h;rcases h with rfl|rfl|rfl|rfl<;>rfl
theorem aab(p:PS)(s:C4)(i:Nat):kF p s (i+1)=if s.mem i=aB/\p.last.getD i aD=aB/\(kF p s i<0\/p.rules.getD i 0<kF p s i)then p.rules.getD i 0 else kF p s i:=rfl
theorem aac{S:List C4}{s:C4}{gm:Nat}(hn:s∉S):fq QY gm (fun y=>if y=s then ah (ap av ((S.length+1:Nat):Int))else ql S y) (if(ql S s).isSome then S.length else S.length+1)=tI gm (S++[s]):=by
 rw[Q0 hn,show ql S s=aj from if_neg hn];unfold tI;rw[bK];rfl
attribute [local irreducible] Op.shift Go.bits in
theorem FE(m:MS)(vc vr vf vfol vl ve rows:Value)(d:DM)(s:C4)(g gm:Nat)(vs vt:Value)(w0:World)(hp:Ho w0 (aP #[vc,vr,vf,vfol,vl,ve]) m)(h:Ks m)(hd:d.S.length<=100000)(hdt:d.tags.length<=100001)(w:World)(B:b_)(ho:mv w0 B)
 (hm:Mem B (L8 vc vr vf vfol vl ve rows g gm vs vt d) w):
 Calls aC 155 #[aH (ah ⟨g,0,aj⟩),pu s] w (dX (adz m.ps vc vr vf vfol vl ve rows g gm d s) B):=by
 obtain⟨_,_,_,_,_,_,he,h1,h2,h3,h4,h5,h6⟩:=hp;simp only[nb,oX,fg,and_true]at he;obtain⟨rfl,rfl,rfl,rfl,rfl,rfl⟩:=he;have hmf:=h.Cq;have SU:=h.ok.ps.rules;have Ve:=h.ok.ps.last;have hmr:=h.rules;clear h h3 h4 h6;obtain⟨ac,cc,rfl,-⟩:=h1;obtain⟨ar,cr,rfl,-,akA,hrr⟩:=h2;obtain⟨al,cl,rfl,-,akB,IB⟩:=h5;unfold L8 at hm;unfold adz;obtain⟨S,tags⟩:=d;obtain⟨p,fi,em⟩:=m;dsimp only at*;refine eR hm (args:=[aH (ah ⟨g,0,aj⟩),pu s]) (n:=105) Tryz.func155 I I I ?_;clear hm;refine bY (a_ (bQ I I I fun g3=>?_));refine zL ?_
 by_cases c1:s∈S
 ·have hst:iS p ⟨S,tags⟩ s=(idx S s+1,⟨S,tags⟩):=if_pos c1
  have Hl:ql S s=ah (ap av ((idx S s+1:Nat):Int)):=if_pos c1;rw[hst]
  try refine GA ?_
  refine dK ([aO g (L7 (ak ac p.aZ.length cc) (ak ar p.rules.length cr) vf vfol (ak al p.last.length cl) ve vs (.map (ah gm)) rows vt) 254,tI gm S,aO g3 (d_ s).toArray 303]) (.calm 0 (.calm 1 (.calm 2 (.calm 3 (.calm 4 (.calm 5 (.calm 6 (.calm 7 (.calm 8 (.calm 9 (.calm 10 (.done)))))))))))) (bZ [0,2,4]) ?_
  repeat(first|refine GW ?_|(refine GN ?_;first|refine QW (aw (v:= .map (ah gm)) aI.ty I (aE (i:=0) I I)) ?_|refine QW (aL (i:=2) aI.ty I I I) ?_|refine QW (jN QY (x:=s) bI.eq Nr (i:=1) I I I trivial Hl) ?_))
  try refine GA ?_
  refine dv [0,1,2,3] ?_;exact dq I I fun w hm=>hm.cZ (S:=⟨fun(_:Value×Value)=>True,fun _=>ap av ((idx S s+1:Nat):Int),fun x=>L8 (ak ac p.aZ.length cc) (ak ar p.rules.length cr) vf vfol (ak al p.last.length cl) ve rows g gm x.1 x.2 ⟨S,tags⟩⟩) (vs,vt) trivial [0,1,2,3] akV I
 ·have hst:iS p ⟨S,tags⟩ s=(S.length+1,⟨S++[s],tags++[mD p s]⟩):=if_neg c1
  have Hl:ql S s=none:=if_neg c1;rw[hst];refine qW (i:=1) I gj fun gv=>?_;obtain⟨ab,cs,rfl,hmS,-⟩:=gv
  try refine GA ?_
  refine dK ([aO g (L7 (ak ac p.aZ.length cc) (ak ar p.rules.length cr) vf vfol (ak al p.last.length cl) ve (ak ab (S.length+1) cs) (.map (ah gm)) rows vt) 254,tI gm S,aO g3 (d_ s).toArray 303]) (.calm 0 (.calm 1 (.calm 2 (.calm 3 (.calm 4 (.calm 5 (.calm 6 (.calm 7 (.calm 8 (.calm 9 (.calm 10 (.done)))))))))))) (bZ [0,2,4]) ?_
  repeat(first|refine GW ?_|(refine GN ?_;first|refine QW (aw (v:= .map (ah gm)) aI.ty I (aE (i:=0) I I)) ?_|refine QW (aL (i:=2) aI.ty I I I) ?_|refine QW (jO QY (x:=s) bI.eq Nr (i:=1) I I I trivial Hl) ?_))
  try refine GA ?_
  (repeat refine bY ?_)
  refine my (ι:=Unit) (fun _=>True) (fun _=>[(0,aH (ah ⟨g,0,aj⟩)),(3,aH (ah ⟨g3,0,aj⟩))]) (fun _=>[aO g (L7 (ak ac p.aZ.length cc) (ak ar p.rules.length cr) vf vfol (ak al p.last.length cl) ve (ak ab (S.length+1) cs) (.map (ah gm)) rows vt) 254,pq (ak ab (S.length+1) cs) S,tI gm (S++[s]),gC vt tags,aO g3 (d_ s).toArray 303]) ?_ ?_
  ·refine dK ([aO g (L7 (ak ac p.aZ.length cc) (ak ar p.rules.length cr) vf vfol (ak al p.last.length cl) ve (ak ab (S.length+1) cs) (.map (ah gm)) rows vt) 254,aO g3 (d_ s).toArray 303]) (.calm 0 (.calm 1 (.calm 2 (.calm 3 (.calm 4 (.calm 5 (.calm 6 (.calm 7 (.calm 8 (.calm 9 (.one 10 (.done)))))))))))) (bZ [0,4]) ?_
   repeat(first|refine GW ?_|(refine GN ?_;first|refine QW (aw (v:= .map (ah gm)) aI.ty I (aE (i:=0) I I)) ?_|refine QW (aL (i:=1) aI.ty I I I) ?_|refine QW (aw (v:=ak ab (S.length+1) cs) aI.ty I (aE (i:=0) I I)) ?_))
   refine aJ I (mK QY (i:=2) (x:=s) bI.eq I I I I trivial J (aK (bZ [0,4]) ?_))
   try refine GW ?_
   exact e_ () trivial (by repeat' (first|exact cY|refine cK I ?_)) (by rw[<-aac c1];rfl)
  intro _ _
  (repeat refine bY ?_)
  refine my (ι:=Value) (fun _=>True) (fun _=>[(0,aH (ah ⟨g,0,aj⟩)),(3,aH (ah ⟨g3,0,aj⟩))]) (fun qd=>[aO g (L7 (ak ac p.aZ.length cc) (ak ar p.rules.length cr) vf vfol (ak al p.last.length cl) ve qd (.map (ah gm)) rows vt) 254,pq qd (S++[s]),tI gm (S++[s]),gC vt tags,aO g3 (d_ s).toArray 303]) ?_ ?_
  ·refine dK ([aO g3 (d_ s).toArray 303]) (.calm 0 (.calm 1 (.calm 2 (.calm 3 (.calm 5 (.two 4 (.one 6 (.one 7 (.calm 8 (.calm 9 (.one 10 (.done)))))) 6 (.one 4 (.one 7 (.calm 8 (.calm 9 (.one 10 (.done)))))))))))) (bZ [4]) ?_
   repeat(first|refine GW ?_|(refine GN ?_;first|refine QW (aL (i:=0) aI.ty I I I) ?_))
   refine fe I I ?_ ?_
   ·refine dC (aw (v:=ak ab (S.length+1) cs) aI.ty I (aE (i:=0) I I)) I I I (aK (bZ [4]) ?_)
    refine aJ I (fF (cs:=(d_ s).toArray) [pu s] I I I (by intro v hv;simp at hv;subst hv;rfl) I I I fun g36=>(aK (bZ [4]) ?_));refine aJ I (eT (i:=1) (e:=303) (size:=4) (bytes:=32) (m:=S.length+1) (xs:=QG S) (k:=1) (ys:=d_ s) I (k9 (i:=5) I (fun j u h=>by simpa using h) (aT 1) akV) I I I (fun u hu=>TK s u hu) J J I fun qd=>(aK (bZ [4]) ?_))
    try refine GW ?_
    refine aJ I (aV (i:=1) I fun jM nG=>bT (i:=0) I I I jM nG I (aK (bZ [4]) ?_))
    try refine GW ?_
    refine dv [0,1,2,3,4] ?_;exact e_ qd trivial (by repeat' (first|exact cY|refine cK I ?_)) (by unfold pq;rw[IF,bK];rfl)
   refine fF (cs:=(d_ s).toArray) [pu s] I I I (by intro v hv;simp at hv;subst hv;rfl) I I I fun g36=>(aK (bZ [4]) ?_);refine aJ I (dC (aw (v:=ak ab (S.length+1) cs) aI.ty I (aE (i:=0) I I)) I I I (aK (bZ [4]) ?_));refine aJ I (eT (i:=1) (e:=303) (size:=4) (bytes:=32) (m:=S.length+1) (xs:=QG S) (k:=1) (ys:=d_ s) I (k9 (i:=5) I (fun j u h=>by simpa using h) (aT 1) akV) I I I (fun u hu=>TK s u hu) J J I fun qd=>(aK (bZ [4]) ?_))
   try refine GW ?_
   refine aJ I (aV (i:=1) I fun jM nG=>bT (i:=0) I I I jM nG I (aK (bZ [4]) ?_))
   try refine GW ?_
   refine dv [0,1,2,3,4] ?_;exact e_ qd trivial (by repeat' (first|exact cY|refine cK I ?_)) (by unfold pq;rw[IF,bK];rfl)
  clear hmS;intro qd _;refine iH (i:=1) I gj fun gv=>?_;obtain⟨ab',cs',rfl,hmS,-⟩:=gv
  repeat(first|refine GA ?_|refine gV (aw (v:=ak ac p.aZ.length cc) aI.ty I (aE (i:=0) I I)) ?_)
  refine dU (ι:=Nat×Int) (fun(k,t)=>k<=p.aZ.length/\t=kF p s k) (fun(k,t)=>[(0,aH (ah ⟨g,0,aj⟩)),(3,aH (ah ⟨g3,0,aj⟩)),(7,ap av t),(45,ap av p.aZ.length),(46,ap av (k:Int))])
   (fun _=>[aO g (L7 (ak ac p.aZ.length cc) (ak ar p.rules.length cr) vf vfol (ak al p.last.length cl) ve (ak ab' ((S++[s]).length+1) cs') (.map (ah gm)) rows vt) 254,pq (ak ab' ((S++[s]).length+1) cs') (S++[s]),tI gm (S++[s]),gC vt tags,aO g3 (d_ s).toArray 303]) (fun(k,_)=>p.aZ.length-k) (0,-1) ⟨bC _,rfl⟩ ?_
  rintro⟨k,t⟩ ⟨hk,ht⟩;dsimp only at hk ht⊢
  by_cases q1:k<p.aZ.length
  ·have hst:=aab p s k
   have hkr:k<p.rules.length:=by omega
   have hkl:k<p.last.length:=by omega
   rw[bD (l:=p.rules),bm hkr,iz,bD (l:=p.last),bm hkl,iz]at hst;obtain⟨br,QE,rfl,ahK⟩:=hrr J;obtain⟨bl,aad,rfl,ahL⟩:=IB J;have agj:=fun(L:List b9)=>QF (L:=L) kh ho ahK hkr 0 _ I;have ajF:=fun(L:List b9)=>QF (L:=L) TJ ho ahL hkl 0 _ I;have hr0:=(hmr _ (bV hkr)).1;have ZV:=fun w=>tB s k J w;clear ahK ahL hrr IB hmr;generalize p.rules[k]=r at*;generalize p.last[k]=lb at*;generalize s.mem k=b at*;rw[<-ht]at hst;clear ht;have aae:∀(L:List b9),At B L ⟨br,QE+k*1+0,aj⟩ (ap av r):=agj;have TM:∀(L:List b9),At B L ⟨bl,aad+k*1+0,aj⟩ (.bool lb):=ajF
   repeat(first|refine GA ?_|refine gV (aL (i:=4) aI.ty I I I) ?_)
   refine aW (fP aF.en I I I) (fun w hm=>ZV w) I I I ?_;intro _ _;refine zL ?_;have skip:∀(_:¬(b=aB/\lb=aB/\(t<0\/r<t))),kF p s (k+1)=t:=fun h=>by rw[hst,if_neg h]
   have take:b=aB/\lb=aB/\(t<0\/r<t)->kF p s (k+1)=r:=fun h=>by rw[hst,if_pos h]
   clear hst
   by_cases q2:b=aB
   ·subst q2
    by_cases q3:lb=aB
    ·subst q3
     by_cases q4:t<0
     ·have e:=(take ⟨rfl,rfl,.inl q4⟩).symm
      repeat(first|refine GC ?_|refine gV (aw (v:=ak (ah ⟨bl,aad,aj⟩) p.last.length cl) aI.ty I (aE (i:=0) I I)) ?_|refine gV (aR bI.eq aI.ty I I hkl) ?_|refine gV (aw (v:= .bool aB) aI.ty I (TM _)) ?_|refine gV (dT (b:=aB) I I (decide_eq_true q4)) ?_|refine gV (aw (v:=ak (ah ⟨br,QE,aj⟩) p.rules.length cr) aI.ty I (aE (i:=0) I I)) ?_|refine gV (aR bI.eq aI.ty I I hkr) ?_|refine gV (aw (v:=ap av r) aI.ty I (aae _)) ?_|refine GB ?_)
      exact bO (k+1,r) ⟨by omega,e⟩ (by show p.aZ.length-(k+1)<p.aZ.length-k;omega)
     by_cases q5:r<t
     ·have e:=(take ⟨rfl,rfl,.inr q5⟩).symm
      repeat(first|refine GC ?_|refine gV (aw (v:=ak (ah ⟨bl,aad,aj⟩) p.last.length cl) aI.ty I (aE (i:=0) I I)) ?_|refine gV (aR bI.eq aI.ty I I hkl) ?_|refine gV (aw (v:= .bool aB) aI.ty I (TM _)) ?_|refine gV (dT (b:=aD) I I (decide_eq_false q4)) ?_|refine gV (aw (v:=ak (ah ⟨br,QE,aj⟩) p.rules.length cr) aI.ty I (aE (i:=0) I I)) ?_|refine gV (aR bI.eq aI.ty I I hkr) ?_|refine gV (aw (v:=ap av r) aI.ty I (aae _)) ?_|refine gV (dT (b:=aB) I I (decide_eq_true q5)) ?_|refine GB ?_)
      exact bO (k+1,r) ⟨by omega,e⟩ (by show p.aZ.length-(k+1)<p.aZ.length-k;omega)
     have e:=(skip (fun h=>h.2.2.elim q4 q5)).symm
     repeat(first|refine GC ?_|refine gV (aw (v:=ak (ah ⟨bl,aad,aj⟩) p.last.length cl) aI.ty I (aE (i:=0) I I)) ?_|refine gV (aR bI.eq aI.ty I I hkl) ?_|refine gV (aw (v:= .bool aB) aI.ty I (TM _)) ?_|refine gV (dT (b:=aD) I I (decide_eq_false q4)) ?_|refine gV (aw (v:=ak (ah ⟨br,QE,aj⟩) p.rules.length cr) aI.ty I (aE (i:=0) I I)) ?_|refine gV (aR bI.eq aI.ty I I hkr) ?_|refine gV (aw (v:=ap av r) aI.ty I (aae _)) ?_|refine gV (dT (b:=aD) I I (decide_eq_false q5)) ?_|refine GB ?_)
     exact bO (k+1,t) ⟨by omega,e⟩ (by show p.aZ.length-(k+1)<p.aZ.length-k;omega)
    have e:=(skip (fun h=>q3 h.2.1)).symm;obtain rfl:=Fy.2 q3
    repeat(first|refine GA ?_|refine gV (aw (v:=ak (ah ⟨bl,aad,aj⟩) p.last.length cl) aI.ty I (aE (i:=0) I I)) ?_|refine gV (aR bI.eq aI.ty I I hkl) ?_|refine gV (aw (v:= .bool aD) aI.ty I (TM _)) ?_)
    exact bO (k+1,t) ⟨by omega,e⟩ (by show p.aZ.length-(k+1)<p.aZ.length-k;omega)
   have e:=(skip (fun h=>q2 h.1)).symm;obtain rfl:=Fy.2 q2
   try refine GA ?_
   exact bO (k+1,t) ⟨by omega,e⟩ (by show p.aZ.length-(k+1)<p.aZ.length-k;omega)
  ·obtain rfl:k=p.aZ.length:=by omega
   rw[show mD p s=t from ht.symm]at*
   repeat(first|refine GA ?_|refine gV (aw (v:=vt) aI.ty I (aE (i:=0) I I)) ?_)
   refine ka (i:=3) I I I I I I (fun z h=>by cases h;rfl) J J I fun z' zl=>?_;refine zL ?_
   try refine GA ?_
   refine aV (i:=3) I fun jM nG=>bT (i:=0) I I I jM nG I ?_;refine zL ?_
   repeat(first|refine GC ?_|refine gV (aw (v:=ak ab' ((S++[s]).length+1) cs') aI.ty I (aE (i:=0) I I)) ?_|refine gV (eD (r:=((S.length+1:Nat):Int)) I I (by simp;omega) (by simp;omega) (by simp)) ?_|refine GB ?_)
   refine dv [0,1,2,3] ?_;exact dq I I fun w hm=>hm.cZ (S:=⟨fun(_:Value×Value)=>True,fun _=>ap av ((S.length+1:Nat):Int),fun x=>L8 (ak ac p.aZ.length cc) (ak ar p.rules.length cr) vf vfol (ak al p.last.length cl) ve rows g gm x.1 x.2 ⟨S++[s],tags++[t]⟩⟩) (ak ab' ((S++[s]).length+1) cs',zl) trivial [0,1,2,3] akV (by unfold L8;rw[<-aaa];rfl)
  done
end cg
namespace eB
open dj gu
def npl:Re->Nat
 | .byte _=>1
 | .JQ a b=>npl a+npl b
 | .JR a b=>npl a+npl b
 | .star a=>npl a
 |_=>0
inductive TO(P:List Nat->Prop):List Nat->Prop
 |nil:TO P []
 |cons {u v:List Nat}:P u->TO P v->TO P (u++v)
def Wd:Re->Nat->List Nat->Prop
 | .none,_,_=>False
 | .empty,_,l=>l=[]
 | .byte _,n,l=>l=[n]
 | .JQ a b,n,l=>∃u v,l=u++v/\Wd a n u/\Wd b (n+npl a) v
 | .JR a b,n,l=>Wd a n l\/Wd b (n+npl a) l
 | .star a,n,l=>TO (Wd a n) l
def Chn(F:Nat->Nat->Prop)(T:Nat->Prop):Nat->List Nat->Prop
 |x,[]=>T x
 |x,y::r=>F x y/\Chn F T y r
theorem Chn.mono{F F':Nat->Nat->Prop}{T T':Nat->Prop}(hF:∀x y,F x y->F' x y)(hT:∀x,T x->T' x):∀{l:List Nat} {x:Nat},Chn F T x l->Chn F' T' x l
 |[],_,h=>hT _ h
 |_::_,_,⟨h,h'⟩=>⟨hF _ _ h,Chn.mono hF hT h'⟩
theorem Chn.Qp{F F':Nat->Nat->Prop}{T T':Nat->Prop}(hF:∀x y,F x y->F' x y){y:Nat}{r:List Nat}(hT:∀x,T x->F' x y)(hr:Chn F' T' y r):∀{l:List Nat} {x:Nat},Chn F T x l->Chn F' T' x (l++y::r)
 |[],_,h=>⟨hT _ h,hr⟩
 |_::_,_,⟨h,h'⟩=>⟨hF _ _ h,Chn.Qp hF hT hr h'⟩
end eB
namespace dj
def one(x:C4):List C4:=if x=C4.zero then []else [x]
structure Ns(S:List C4)(all:List C4):Prop where
 some:∀x∈all,x≠C4.zero
 apart:all.Pairwise fun x y=>x.YD y=C4.zero
 sum:(all.map cnt).sum=256
 whole:∀n,n<256->∃x∈all,x.mem n=aB
 each:∀c∈S,∀x∈all,x.YD c=x\/x.YD c=C4.zero
 told:all.Pairwise fun x y=>∃c∈S,decide (x.YD c=x)≠decide (y.YD c=y)
theorem aaf{x:C4}:x=C4.zero↔∀n,n<256->x.mem n=false:=
 ⟨fun h n _=>by rw[h,Mq],fun h=>ext_mem fun n hn=>by rw[h n hn,Mq]⟩
theorem aag{x:C4}(h:cnt x=0):x=C4.zero:=by
 have:yh x=[]:=List.eq_nil_of_length_eq_zero h;refine aaf.2 fun n hn=>?_
 cases e:x.mem n with
 |false=>rfl
 |true=>exact absurd (U8.2 ⟨hn,e⟩) (by rw[this];simp)
theorem TP:∀all:List C4,(∀x∈all,x≠C4.zero)->all.length<=(all.map cnt).sum
 |[],_=>aT _
 |x::all,h=>by
  have ih:=TP all fun y hy=>h y (by simp[hy]);have:cnt x≠0:=fun e=>h x (by simp) (aag e);simp only[cO,fw,List.sum_cons];omega
theorem Ns.len{S all:List C4}(h:Ns S all):all.length<=256:=by
 have:=TP all h.some;rw[h.sum]at this;exact this
theorem Ns.more{S S' all:List C4}(h:Ns S all)(h1:∀c,c∈S'->c∈S)(h2:∀c,c∈S->c∈S'):Ns S' all:=
 ⟨h.some,h.apart,h.sum,h.whole,fun c hc=>h.each c (h1 c hc),h.told.imp fun⟨c,hc,h⟩=>⟨c,h2 c hc,h⟩⟩
end dj
namespace cg
open Go.RowKit cT ey
theorem C5(v:Value)(l:List Int)(w:World)(hs:Sl w v l.length (l.flatMap cT.eX))(hl:l.length*8<=140737488355328):
 Calls aC 97 #[v] w (cJ (dr 3 1 l.length (l.flatMap cT.eX) id) w):=by
 obtain⟨base,cap,rfl,tb,sc,fZ⟩:=hs;unfold maxLen at sc;refine enter (args:=[ak base l.length cap]) (n:=8) Tryz.func97 I I I ?_;have vD:∀w',Gr w w'->Sl w' (ak base l.length cap) l.length (l.flatMap cT.eX):=fun w' hg=>Sl.gr ⟨base,cap,rfl,tb,sc,fZ⟩ hg;clear fZ
 cases base with
 | none=>
  repeat(first|refine GC ?_|refine gV (r7 bI.eq I I I) ?_|refine GB ?_)
  have h0:l=[]:=by
   cases l with
   |nil=>rfl
   |cons x l=>obtain⟨_,_,h,_,_,h2⟩:=vD w (Gr.refl w);simp only[kr]at h;obtain⟨rfl,_⟩:=h;obtain⟨b,off,h,_⟩:=h2 (by simp);cases h
  subst h0;refine eL 3 1 ?_;exact dq I I fun w hm=>hm.meets (S:=dr 3 1 0 [] id) _ trivial [0] akV I
 |some p=>
  repeat(first|refine GC ?_|refine gV (r7 bI.eq I I I) ?_|refine GB ?_)
  refine JU I fun g=>?_
  try refine GA ?_
  refine eT (i:=0) I (fun w' hm=>vD w' hm.below) I I (nS kh l) (TA l) J J I fun v'=>?_;rw[fN]
  try refine GA ?_
  refine dq I I fun w hm=>?_;exact hm.meets (S:=dr 3 1 l.length (l.flatMap cT.eX) id) v' trivial [0] akV (by simp[dr])
end cg
namespace cg
open Go.RowKit cT ey
open Go.WideElems (Fit findIdx_arr findIdx_born modify_last)
open Go.ChangeMaps Go.MapKept Go.WideShapes
section
variable{P:Program}{k:TypeId}{κ:Type}(K:yl P k κ)
theorem Cs{α:Type}(f:α->α):∀(l:List α) (j:Nat) (a:α),l[j]?=ah a->f a=a->l.modify j f=l
 |[],_,_,h,_=>by simp at h
 |b::r,0,a,h,hf=>by simp at h;subst h;simp[hf]
 |b::r,j+1,a,h,hf=>by simp at h;simp[Z2,Cs f r j a h hf]
theorem modify_eq{α:Type}(f f':α->α):∀(l:List α) (j:Nat) (a:α),l[j]?=ah a->f a=f' a->l.modify j f=l.modify j f'
 |[],_,_,h,_=>by simp at h
 |b::r,0,a,h,hf=>by simp at h;subst h;simp[hf]
 |b::r,j+1,a,h,hf=>by simp at h;simp[Z2,modify_eq f f' r j a h hf]
def aah(g:Nat)(x:κ)(st:Nat)(z:Value)(f:κ->Value)(b:Nat):b9:=
 ⟨ah g,fun _=>False,fun w=>(oV K g z f b).holds w/\∃es clock e0,w.heap[g]?=ah (.map es clock)/\e0∈es.toList/\e0.key=K.kv x/\e0.born=st,
  fun w h q hq=>(oV K g z f b).lt w h.1 q hq,
  fun w w' ⟨h1,es,clock,e0,h2,h3⟩ hs hk=>⟨(oV K g z f b).stay w w' h1 hs hk,es,clock,e0,(hk g (.inl I)).trans h2,h3⟩⟩
theorem FF{w:World}{g:Nat}{es:Array MapEntry}{c:Nat}(h:w.heap[g]?=ah (.map es c)):setBlock w g (.map es c)=w:=by
 have e:w.heap.setIfInBounds g (.map es c)=w.heap:=by
  apply Array.ext_getElem?;intro i
  by_cases hi:i=g
  subst hi;exact(heap_setBlock_same h _).trans h.symm;exact heap_setBlock_other h _ hi
 unfold setBlock;rw[e]
variable[DecidableEq κ]
theorem V4{w:World}{t e:TypeId}{g b:Nat}{f:κ->Value}{x:κ}{z:Value}(ht:P.underlying t=ah (.map k e))(hz:∀u:World,(zeroValue e).run P u= .ok z u)(h:(oV K g z f b).holds w)(hx:K.ok x)(hc:b<=1152921504606846976):
 ∃st w1,(QQ t (.map (ah g)) (K.kv x)).run P w= .ok (.tuple #[f x,goInt (st:Nat)]) w1/\w.grownBy w1 (ah g)/\(aah K g x st z f (b+1)).holds w1:=by
 have ae':=H4 K (f:=f) ht hz h hx;obtain⟨l,FH⟩:=K.key x hx;obtain⟨m,n,h1,⟨D,⟨es,clock,hb,F,hs,hD⟩,hi⟩,h3⟩:=id h;rcases K.law.find w FH es.toList F.keys with⟨k1,k2⟩|⟨j,e0,k1,k2,k3⟩
 ·have hfx:f x=z:=by
   have:(KB t (.map (ah g)) (K.kv x) aD).run P w= .ok z w:=by
    simp[KB,run_underlying ht,BG hb,K.law.check w _ FH,k1,hz,lV]
   rw[ae']at this
   simpa using this
  obtain⟨w',r1,r2,r3⟩:=EB K (f':=f) (v:=z) ht h hx hc (fun y _=>by by_cases e:y=x<;>simp[e,hfx]);have r1':(A4 t (.map (ah g)) (K.kv x) z).run P w= .ok () (setBlock w g (.map (es.push ⟨K.kv x,z,clock⟩) (clock+1))):=by
   simp[A4,run_underlying ht,BG hb,K.law.check w aD FH,k1,KE _ hb,lV,setBlock]
  have ew:w'=setBlock w g (.map (es.push ⟨K.kv x,z,clock⟩) (clock+1)):=by
   rw[r1]at r1';simpa using r1'
  refine⟨clock,w',?_,r3,r2,es.push ⟨K.kv x,z,clock⟩,clock+1,⟨K.kv x,z,clock⟩,?_,by simp,rfl,rfl⟩
  ·rw[ew,hfx]
   simp[QQ,run_underlying ht,BG hb,K.law.check w aD FH,k1,hz,KE _ hb,lV,setBlock]
  rw[ew];exact heap_setBlock_same hb _
 ·have hj:es[j]?=ah e0:=by simpa using k2
  have hfx:f x=e0.val:=by
   have:(KB t (.map (ah g)) (K.kv x) aD).run P w= .ok e0.val w:=by
    simp[KB,run_underlying ht,BG hb,K.law.check w _ FH,k1,lV]
   rw[ae']at this
   simpa using this
  have tZ:es.modify j (fun e=>{e with key:=K.kv x})=es:=by
   apply sO;rw[QI];exact Cs _ _ _ _ k2 (by rw[<-k3])
  refine⟨e0.born,w,?_,⟨rfl,rfl,rfl,aT _,fun _ _ _=>rfl⟩,H5 J (fun _ _=>rfl) w h,es,clock,e0,hb,kO k2,k3,rfl⟩;rw[hfx];have:=FF hb;simp[QQ,run_underlying ht,BG hb,K.law.check w aD FH,k1,hj,k3,K.law.stays w FH,tZ,KE _ hb,lV];exact this
theorem V5{w:World}{t e:TypeId}{g b st:Nat}{f f':κ->Value}{x:κ}{z v:Value}(ht:P.underlying t=ah (.map k e))(h:(aah K g x st z f b).holds w)(hx:K.ok x)(hc:b<=1152921504606846976)(hf:∀y,K.ok y->f' y=if y=x then v else f y):
 ∃w',(QO t (.map (ah g)) (goInt (st:Nat)) v).run P w= .ok () w'/\(oV K g z f' (b+1)).holds w'/\w.grownBy w' (ah g):=by
 obtain⟨h,es',ajG,e1,JJ,kZ,hk1,Dp⟩:=h;obtain⟨w',r1,r2,r3⟩:=EB K (f':=f') (v:=v) ht h hx hc hf;refine⟨w',?_,r2,r3⟩;rw[<-r1];obtain⟨l,FH⟩:=K.key x hx;obtain⟨m,n,h1,⟨D,⟨es,clock,hb,F,hs,hD⟩,hi⟩,h3⟩:=h;rw[hb]at JJ;simp only[dg,Obj.map.injEq]at JJ;obtain⟨rfl,rfl⟩:=JJ;obtain⟨s1,s2,s3⟩:=F.stamped;rcases K.law.find w FH es.toList F.keys with⟨k1,k2⟩|⟨j,e0,k1,k2,k3⟩
 ·exact absurd hk1 (k2 e1 kZ)
 ·have hj:es[j]?=ah e0:=by simpa using k2
  obtain⟨i,pP⟩:=List.getElem?_of_mem kZ;have uf:i=j:=by
   have Pb:=(cU.1 pP);have hj2:=(cU.1 k2);obtain⟨li,ei⟩:=Pb;obtain⟨lj,ej⟩:=hj2;refine(List.getElem_inj (h₀:=by simpa using li) (h₁:=by simpa using lj) s3).1 ?_;simp only[oZ,ei,ej,hk1,k3]
  subst uf;have e01:e1=e0:=by rw[pP]at k2;simpa using k2
  subst e01;subst Dp;have agq:es.findIdx? (fun e=>((e.born:Nat):Int)==((e1.born:Nat):Int))=ah i:=by
   rw[findIdx_arr];exact findIdx_born s2 k2
  have af1:es.modify i (fun e=>{e with val:=v})=es.modify i (fun e'=>{e' with key:=K.kv x,val:=v}):=by
   apply sO;rw[QI,QI];exact modify_eq _ _ _ _ _ k2 (by rw[<-k3])
  simp[QO,A4,run_underlying ht,BG hb,asInt,asIntOf,goInt,agq,af1,K.law.check w aD FH,k1,hj,k3,K.law.stays w FH,KE _ hb,lV]
section
variable{W:b_}{fr:Fr}{L:List b9}{Q:Exit->Act->World->Prop}{ops:Array Oper}{rest:List Oper}{n d:Nat}{dst:Option Tmp}{ty:TypeId}{pos:String}{after:Array Edge}{guard:Option (Nat×Bool)}{i g b:Nat}{t e:TypeId}{f:κ->Value}{x:κ}{z:Value}{xm xk xv xs:Operand}
theorem Nt(ht:P.underlying t=ah (.map k e))(hz:∀u:World,(zeroValue e).run P u= .ok z u)(hi:L[i]?=ah (oV K g z f b))(hm:ev fr xm=ah (.map (ah g)))(hk:ev fr xk=ah (K.kv x))(hx:K.ok x)(hc:b<=1152921504606846976)(hn:Nat.blt d n=aB)
 (h:∀st:Nat,TL P n W ops Q rest ((d,.tuple #[f x,ap av (st:Int)])::fr) (L.set i (aah K g x st z f (b+1)))):
 TL P n W ops Q (⟨ah d,.mapEntry t xm xk,ty,pos,after,aj⟩::rest) fr L:=kW I fun a w hr hw KK hK=>by
 obtain⟨st,w1,h1,h2,h3⟩:=V4 K ht hz (hw.get hi) hx hc;have e1:(execOp a.eval ⟨ah d,.mapEntry t xm xk,ty,pos,after,aj⟩).run P w= .ok (.value (.tuple #[f x,ap av (st:Int)])) w1:=by
  simp[execOp,hr.ev hm,hr.ev hk,h1,goInt,lV]
 unfold gY;rw[e1];exact hK _ _ ((h st).go _ _ (hr.put hn _) (hw.CY hi h2 h3 fun q hq=> .inl hq))
theorem IG{st:Nat}{v:Value}(f':κ->Value)(ht:P.underlying t=ah (.map k e))(hi:L[i]?=ah (aah K g x st z f b))(hm:ev fr xm=ah (.map (ah g)))(hs:ev fr xs=ah (ap av (st:Int)))(hv:ev fr xv=ah v)(hx:K.ok x)(hc:b<=1152921504606846976)(hf:∀y,K.ok y->f' y=if y=x then v else f y)
 (h:TL P n W ops Q rest fr (L.set i (oV K g z f' (b+1)))):
 TL P n W ops Q (⟨aj,.entryStore t xm xs xv,ty,pos,after,aj⟩::rest) fr L:=kW I fun a w hr hw KK hK=>by
 obtain⟨w1,h1,h2,h3⟩:=V5 K ht (hw.get hi) hx hc hf;have e1:(execOp a.eval ⟨aj,.entryStore t xm xs xv,ty,pos,after,aj⟩).run P w= .ok .skip w1:=by
  have h1':(QO t (.map (ah g)) (ap av (st:Int)) v).run P w= .ok () w1:=h1;simp[execOp,hr.ev hm,hr.ev hs,hr.ev hv,h1',lV]
 unfold gY;rw[e1];exact hK _ _ (h.go _ _ (hr.rU undef) (hw.CY hi h3 h2 fun q hq=> .inl hq))
omit [DecidableEq κ]in
theorem aai{st:Nat}{v:Value}(ht:P.underlying t=ah (.map k e))(hz:∀w,(zeroValue e).run P w= .ok z w)(hi:L[i]?=ah (aah K g x st z f b))(hm:ev fr xm=ah (.map (ah g)))(hk:ev fr xk=ah (K.kv x))(hx:K.ok x)(hv:f x=v):RR P n W ⟨dst,.lookup t xm xk aD,ty,pos,after,guard⟩ fr L v:=
 EA K ht hz (fun _ hw=>(hw.get hi).1) hm hk hx hv
end
end
end cg
namespace cg
open Go.RowKit cT ey
theorem C6(v:Value)(l:List Bool)(x:Bool)(w:World)(hs:Sl w v l.length (l.map .bool)):
 Calls aC 83 #[v,.bool x] w (cJ (ret (ap av (ug (· ==x) l))) w):=by
 obtain⟨base,cap,rfl,tb,sc,fZ⟩:=hs;unfold maxLen at sc;refine enter (args:=[ak base l.length cap,.bool x]) (n:=19) Tryz.func83 I I I ?_
 try refine GA ?_
 refine dU (ι:=Nat) (fun k=>k<=l.length/\∀j (hj:j<l.length),j<k->(l[j]==x)=aD) (fun k=>[(0,ak base l.length cap),(1,.bool x),(7,ap av l.length),(8,ap av (k:Int))]) (fun _=>[]) (fun k=>l.length-k) 0 ⟨by omega,fun j hj h=>by omega⟩ ?_;rintro k ⟨h1,h2⟩
 by_cases c2:k<l.length
 ·obtain⟨b,off,rfl,hr⟩:=fZ J
  have eK:=Ys (L:=([]:List b9)) hr c2
  by_cases c3:(l[k]==x)=aB
  ·rw[wQ c2 c3 h2]
   have e:x=l[k]:=by simpa using(beq_iff_eq.1 c3).symm
   clear h2 fZ;subst e
   repeat(first|refine GC ?_|refine gV (a8 bI.eq aI.ty I I c2) ?_|refine gV (aw aI.ty I eK) ?_|refine gV (HV (c:=aB) bI.eq I I (by simp)) ?_|refine GB ?_)
   exact dR
  have Tf:(l[k]==x)=false:=by simpa using c3
  have e:(x==l[k])=false:=by rw[beq_eq_false_iff_ne]at Tf⊢;exact fun h=>Tf h.symm
  clear fZ c3
  repeat(first|refine GC ?_|refine gV (a8 bI.eq aI.ty I I c2) ?_|refine gV (aw aI.ty I eK) ?_|refine gV (HV (c:=aD) bI.eq I I e) ?_|refine GB ?_)
  exact bO (k+1) ⟨by omega,fun j hj h=>if e:j<k then h2 j hj e else(by obtain rfl:j=k:=J;exact Tf)⟩ (by show l.length-(k+1)<l.length-k;omega)
 ·rw[wR fun j hj=>h2 j hj J]
  clear h2 fZ
  try refine GA ?_
  exact dR
theorem qm(v:Value)(l:List Bool)(x:Bool)(w:World)(hs:Sl w v l.length (l.map .bool)):
 Calls aC 43 #[v,.bool x] w (cJ (ret (.bool (l.any (· ==x)))) w):=by
 refine enter (args:=[v,.bool x]) (n:=9) Tryz.func43 I I I ?_;have hh:=fun w' (hg:Gr w w')=>C6 v l x w' (hs.gr hg);have hr:=s9 (· ==x) l
 rw[<-zK (· ==x) l]
 generalize ug (· ==x) l=r at*
 try refine GA ?_
 refine aW (fP aF.en I I I) (fun w hm=>hh _ hm.below) I I I ?_;intro _ _
 repeat(first|refine GC ?_|refine gV (fx I I I) ?_|refine GB ?_)
 exact dR
end cg
namespace cg
open Go.RowKit cT ey aM dN
inductive qn(F:Nat->Prop)(w:World):List Value->Tree->Prop
 |mk {p k:Int} {kids:List Tree} {base:Option Addr} {cap:Nat} (iG:List (List Value)):cT.dM p->cT.dM k->kids.length<=cap->cap<=maxLen->iG.length=kids.length->
  (∀i (h:i<kids.length) (h':i<iG.length),qn F w iG[i] kids[i])->(0<kids.length->∃b off,base=ah ⟨b,off,aj⟩/\F b/\∀i (_:i<kids.length) (h':i<iG.length),Rd w b (off+i*3) iG[i])->
  qn F w [ap av p,ap av k,ak base kids.length cap] (.mk p k kids)
theorem qn.ajH{F:Nat->Prop}{w:World}{cs:List Value}{t:Tree}(h:qn F w cs t):cs.length=3:=by
 cases h;rfl
theorem qn.J3{F:Nat->Prop}{w w':World}{cs:List Value}{t:Tree}(h:qn F w cs t)(hk:∀k,F k->w'.heap[k]?=w.heap[k]?):qn F w' cs t:=by
 induction h with
 |mk iG h1 h2 h3 h4 h5 h6 h7 ih=>
  refine .mk iG h1 h2 h3 h4 h5 ih fun hl=>?_;obtain⟨b,off,e,hF,hr⟩:=h7 hl;exact⟨b,off,e,hF,fun i hi pP=>rd_stay (hr i hi pP) (hk b hF)⟩
theorem qn.mono{F F':Nat->Prop}{w:World}{cs:List Value}{t:Tree}(h:qn F w cs t)(hk:∀k,F k->F' k):qn F' w cs t:=by
 induction h with
 |mk iG h1 h2 h3 h4 h5 h6 h7 ih=>
  refine .mk iG h1 h2 h3 h4 h5 ih fun hl=>?_;obtain⟨b,off,e,hF,hr⟩:=h7 hl;exact⟨b,off,e,hk b hF,hr⟩
def ahM:zk Tree:=⟨3,qn,fun h=>h.ajH,fun h hk=>h.J3 hk,fun h hk=>h.mono hk⟩
def ahN(p k:Int)(v:Value):Value:=aP #[ap av p,ap av k,v]
def aaj(F:Nat->Prop)(w:World)(v:Value)(t:Tree):Prop:=∃vk,v=ahN t.prod t.tok vk/\cT.dM t.prod/\cT.dM t.tok/\kK ahM F w vk t.kids
theorem aaj.gr{w w':World}{v:Value}{t:Tree}(h:aaj (fun k=>k<w.heap.size) w v t)(hg:Gr w w'):aaj (fun k=>k<w'.heap.size) w' v t:=
 let ⟨vk,h1,h2,h3,h4⟩:=h;⟨vk,h1,h2,h3,h4.gr hg⟩
section
variable{P:Program}{n:Nat}{W:b_}{fr:Fr}{L:List b9}{dst:Option Tmp}{ty:TypeId}{pos:String}{after:Array Edge}{guard:Option (Nat×Bool)}{f:FuncId}{ts:Array TypeId}{cl x1 x2:Operand}{v1 v2:Value}{first cap:Array Value}
theorem he5{x3 x4 x5:Operand}{v3 v4 v5:Value}(hf:Enters P f)(hc:ev fr cl=ah (.func (.func f) #[] #[]))(h1:ev fr x1=ah v1)(h2:ev fr x2=ah v2)(h3:ev fr x3=ah v3)(h4:ev fr x4=ah v4)(h5:ev fr x5=ah v5):∀a w,nt n a fr->(execOp a.eval ⟨dst,.call {callee:= .value cl,args:=#[x1,x2,x3,x4,x5],argTypes:=ts},ty,pos,after,guard⟩).run P w= .ok (.enter f #[v1,v2,v3,v4,v5]) w:=fun a w hr=>by
 have AV:∀args w,(callFunc f args).run P w= .ok (.enter f args) w:=hf;simp[execOp,resolve,hr.ev hc,hr.ev h1,hr.ev h2,hr.ev h3,hr.ev h4,hr.ev h5,uv,invoke,AV]
end
end cg
namespace cg
open Go.RowKit cT ey aM dx
def ib(n:Nat):Value:= .int .u64 (n:Int)
theorem DA{l:List Bool}{i:Nat}(hi:i<l.length):(l.map gd)[i]?=ah (.bool (l.getD i aD)):=by
 simp[hi]
theorem KH{l:List Nat}{i:Nat}(hi:i<l.length):(l.map ib)[i]?=ah (ib (l.getD i 0)):=by
 simp[hi]
theorem Q1(g cap:Nat)(l:List Bool)(i:Nat)(b:Bool)(w:World)(B:b_)(hi:i<l.length)(hm:Mem B [bx 4 1 (ak (ah ⟨g,0,aj⟩) l.length cap) l.length (l.map .bool)] w):
 Calls aC 122 #[ak (ah ⟨g,0,aj⟩) l.length cap,ap av (i:Int),.bool b] w (dX ⟨fun(_:Unit)=>True,fun _=> .bool (fC l i b).2,fun _=>[bx 4 1 (ak (ah ⟨g,0,aj⟩) l.length cap) l.length ((fC l i b).1.map .bool)]⟩ B):=by
 have hb:=DA hi;refine eR hm (args:=[ak (ah ⟨g,0,aj⟩) l.length cap,ap av (i:Int),.bool b]) (n:=18) Tryz.func122 I I I ?_;unfold fC
 cases b
 ·rw[if_neg (by simp)]
  try refine GA ?_
  exact dq I I fun w hm=>hm.cZ (S:=⟨fun(_:Unit)=>True,fun _=> .bool aD,fun _=>[bx 4 1 (ak (ah ⟨g,0,aj⟩) l.length cap) l.length (l.map .bool)]⟩) () trivial [0] akV I
 ·generalize hx:l.getD i aD=x at*
  cases x
  ·rw[if_pos ⟨rfl,rfl⟩]
   repeat(first|refine GA ?_|refine gV (a8 bI.eq aI.ty I I hi) ?_|refine gV (aw aI.ty I (ku (i:=0) I (by rw[cI];exact hb))) ?_)
   refine kY (i:=0) aI.ty I I I I I I (by simpa using hi) ?_
   try refine GA ?_
   exact dq I I fun w hm=>hm.cZ (S:=⟨fun(_:Unit)=>True,fun _=> .bool aB,fun _=>[bx 4 1 (ak (ah ⟨g,0,aj⟩) l.length cap) l.length ((l.set i aB).map .bool)]⟩) () trivial [0] akV (by simp[o7])
  rw[if_neg (by simp)]
  repeat(first|refine GA ?_|refine gV (a8 bI.eq aI.ty I I hi) ?_|refine gV (aw aI.ty I (ku (i:=0) I (by rw[cI];exact hb))) ?_)
  exact dq I I fun w hm=>hm.cZ (S:=⟨fun(_:Unit)=>True,fun _=> .bool aD,fun _=>[bx 4 1 (ak (ah ⟨g,0,aj⟩) l.length cap) l.length (l.map .bool)]⟩) () trivial [0] akV I
theorem yS(v vb:Value)(l:List Bool)(body:List bX)(aQ:Bool)(w:World)(hs:Sl w v l.length (l.map .bool))(hs2:Sl w vb body.length (body.flatMap dS))(mJ:∀x∈body,x.1=2->0<=x.2/\x.2<l.length):
 Calls aC 123 #[v,vb,.bool aQ] w (cJ (ret (.bool (iY l body aQ))) w):=by
 obtain⟨bv,cv,rfl,h1,h2,h3⟩:=hs;obtain⟨bb,cb,rfl,h4,h5,h6⟩:=hs2;unfold maxLen at h2 h5;refine enter (args:=[ak bv l.length cv,ak bb body.length cb,.bool aQ]) (n:=36) Tryz.func123 I I I ?_
 try refine GA ?_
 refine dU (ι:=Nat) (fun k=>k<=body.length/\iY l body aQ=iY l (body.drop k) aQ) (fun k=>[(0,ak bv l.length cv),(2,.bool aQ),(9,ak bb body.length cb),(10,ap av body.length),(11,ap av (k:Int))]) (fun _=>[]) (fun k=>body.length-k) 0 ⟨bC _,rfl⟩ ?_;rintro k ⟨i1,i2⟩;rw[i2];clear i2
 by_cases c6:k<body.length
 ·obtain⟨b,off,rfl,hr⟩:=h6 J
  have eK:=hU (L:=([]:List b9)) mc hr c6;have V6:=mJ body[k] (bV c6);have hd:iY l (body.drop k) aQ=((if body[k].1=1 then aQ else if body[k].1=2 then l.getD body[k].2.toNat aD else aB)&&iY l (body.drop (k+1)) aQ):=by
   rw[dJ c6];rfl
  rw[hd];clear hd h6 mJ hr;generalize body[k]=x at*;obtain⟨q,m⟩:=x;dsimp only at*
  by_cases c1:q=1
  ·rw[if_pos c1]
   cases aQ
   ·repeat(first|refine GA ?_|refine gV (aR bI.eq aI.ty I I c6) ?_|refine gV (aU aI.ty I I eK) ?_)
    refine aY I fun g8=>?_;refine gG 0 ?_
    repeat(first|refine GA ?_|refine gV (aw aI.ty I (aE (i:=0) I I)) ?_)
    exact dR
   repeat(first|refine GA ?_|refine gV (aR bI.eq aI.ty I I c6) ?_|refine gV (aU aI.ty I I eK) ?_)
   refine aY I fun g8=>?_;refine gG 0 ?_
   repeat(first|refine GA ?_|refine gV (aw aI.ty I (aE (i:=0) I I)) ?_)
   refine dv [] ?_;exact bO (k+1) ⟨by omega,by simp⟩ (by show body.length-(k+1)<body.length-k;omega)
  rw[if_neg c1]
  by_cases c2:q=2
  ·rw[if_pos c2]
   obtain⟨o1,o2⟩:=V6 c2;obtain⟨mm,rfl⟩:∃mm:Nat,m=mm:=⟨m.toNat,by omega⟩;have xp:mm<l.length:=by omega
   obtain⟨b',Br,rfl,Ca⟩:=h3 J;rw[cX];have hcell:=DA xp;generalize l.getD mm aD=y at*
   cases y
   ·repeat(first|refine GA ?_|refine gV (aR bI.eq aI.ty I I c6) ?_|refine gV (aU aI.ty I I eK) ?_)
    refine aY I fun g8=>?_;refine gG 0 ?_
    repeat(first|refine GA ?_|refine gV (aw aI.ty I (aE (i:=0) I I)) ?_|refine gV (a8 bI.eq aI.ty I I xp) ?_|refine gV (aw aI.ty I (jp Ca hcell)) ?_)
    exact dR
   repeat(first|refine GA ?_|refine gV (aR bI.eq aI.ty I I c6) ?_|refine gV (aU aI.ty I I eK) ?_)
   refine aY I fun g8=>?_;refine gG 0 ?_
   repeat(first|refine GA ?_|refine gV (aw aI.ty I (aE (i:=0) I I)) ?_|refine gV (a8 bI.eq aI.ty I I xp) ?_|refine gV (aw aI.ty I (jp Ca hcell)) ?_)
   refine dv [] ?_;exact bO (k+1) ⟨by omega,by simp⟩ (by show body.length-(k+1)<body.length-k;omega)
  rw[if_neg c2]
  repeat(first|refine GA ?_|refine gV (aR bI.eq aI.ty I I c6) ?_|refine gV (aU aI.ty I I eK) ?_)
  refine aY I fun g8=>?_;refine gG 0 ?_
  repeat(first|refine GA ?_|refine gV (aw aI.ty I (aE (i:=0) I I)) ?_)
  refine dv [] ?_;exact bO (k+1) ⟨by omega,by simp⟩ (by show body.length-(k+1)<body.length-k;omega)
 ·rw[fS J]
  try refine GA ?_
  exact dR
end cg
namespace cg
open Go.RowKit cT ey aM dx
theorem sk{x y:Nat}(hx:x<18446744073709551616)(hy:y<18446744073709551616):bits .or .u64 (x:Int) (y:Int)=((x|||y:Nat):Int):=by
 have h:=bits_nat .u64 64 akV (fun n h0 h1=>by rw[sR];omega) x y (by simpa using hx) (by simpa using hy);exact h.2
theorem ahO{x y:Nat}(hx:x<18446744073709551616)(hy:y<18446744073709551616):x|||y<18446744073709551616:=Nat.or_lt_two_pow (n:=64) hx hy
theorem Aj{m:Nat}(h:m<64):2^m<18446744073709551616:=by
 have:(2:Nat)^m<2^64:=Nat.pow_lt_pow_right akV h
 simpa using this
theorem adA{P:Program}(m:Nat)(hm:m<64)(w:World):(iP .shl .u64 1 .i64 (m:Int)).run P w= .ok (.int .u64 ((2^m:Nat):Int)) w:=by
 have e:min m 64=m:=by omega
 have hp:=Aj hm;have e2:(2:Int)^m=((2^m:Nat):Int):=by rw[Int.natCast_pow];rfl
 have e3:uz.wrap ((1:Int)*2^m)=((2^m:Nat):Int):=by
  rw[e2,sR,Int.one_mul];generalize 2^m=q at hp;omega
 have h0:¬((m:Int)<0):=by omega
 simp only[iP,if_neg h0,lU,cX,e,e3,mT]
attribute [local irreducible] Op.shift Go.bits in
theorem V7(g cap:Nat)(l:List Nat)(i b:Nat)(w:World)(B:b_)(hi:i<l.length)(h64:∀x∈l,x<18446744073709551616)(hb:b<18446744073709551616)(hm:Mem B [bx 114 1 (ak (ah ⟨g,0,aj⟩) l.length cap) l.length (l.map ib)] w):
 Calls aC 124 #[ak (ah ⟨g,0,aj⟩) l.length cap,ap av (i:Int),ib b] w (dX ⟨fun(_:Unit)=>True,fun _=> .bool (mR l i b).2,fun _=>[bx 114 1 (ak (ah ⟨g,0,aj⟩) l.length cap) l.length ((mR l i b).1.map ib)]⟩ B):=by
 have hc:=KH hi;have adB:l.getD i 0<18446744073709551616:=by
  have e:l.getD i 0=l[i]:=by rw[bD,bm hi];rfl
  rw[e];exact h64 _ (bV hi)
 refine eR hm (args:=[ak (ah ⟨g,0,aj⟩) l.length cap,ap av (i:Int),ib b]) (n:=25) Tryz.func124 I I I ?_;unfold mR;generalize l.getD i 0=x at*;have L6:=sk adB hb;have sW:((l.map ib).set i (.int .u64 ((x|||b:Nat):Int)))[0+i]?=ah (.int .u64 ((x|||b:Nat):Int)):=by
  rw[cI,ml (by simpa using hi)]
 generalize x|||b=y at*
 by_cases c:y=x
 ·rw[show(!decide (y=x))=aD by simp[c]]
  repeat(first|refine GA ?_|refine gV (a8 bI.eq aI.ty I I hi) ?_|refine gV (aw aI.ty I (ku (i:=0) I (by rw[cI];exact hc))) ?_|refine gV (zt I I L6) ?_)
  refine kY (i:=0) aI.ty I I I I I I (by simpa using hi) ?_
  conv=>arg 8;simp only[x8,cI]
  repeat(first|refine GA ?_|refine gV (a8 bI.eq aI.ty I I hi) ?_|refine gV (aw aI.ty I (ku (i:=0) I sW)) ?_)
  exact dq I I fun w hm=>hm.cZ (S:=⟨fun(_:Unit)=>True,fun _=> .bool aD,fun _=>[bx 114 1 (ak (ah ⟨g,0,aj⟩) l.length cap) l.length ((l.set i y).map ib)]⟩) () trivial [0] akV (by simp[o7];rfl)
 ·rw[show(!decide (y=x))=aB by simp[c]]
  repeat(first|refine GA ?_|refine gV (a8 bI.eq aI.ty I I hi) ?_|refine gV (aw aI.ty I (ku (i:=0) I (by rw[cI];exact hc))) ?_|refine gV (zt I I L6) ?_)
  refine kY (i:=0) aI.ty I I I I I I (by simpa using hi) ?_
  conv=>arg 8;simp only[x8,cI]
  repeat(first|refine GA ?_|refine gV (a8 bI.eq aI.ty I I hi) ?_|refine gV (aw aI.ty I (ku (i:=0) I sW)) ?_)
  exact dq I I fun w hm=>hm.cZ (S:=⟨fun(_:Unit)=>True,fun _=> .bool aB,fun _=>[bx 114 1 (ak (ah ⟨g,0,aj⟩) l.length cap) l.length ((l.set i y).map ib)]⟩) () trivial [0] akV (by simp[o7];rfl)
theorem KI(E:List Bool)(F:List Nat)(behind:Nat)(x:bX)(r:List bX)(out:Nat):ix E F behind (x::r) out=if x.1=1 then out|||2^x.2.toNat else if E.getD x.2.toNat aD=aB then ix E F behind r (out|||F.getD x.2.toNat 0)else out|||F.getD x.2.toNat 0:=rfl
theorem Nu(E:List Bool)(F:List Nat)(behind out:Nat):ix E F behind [] out=out|||behind:=rfl
def kB(vE vF vL vR vM:Value):Value:=aP #[vE,vF,vL,vR,vM]
attribute [local irreducible] Op.shift Go.bits in
theorem vP(vE vF vL vR vM vb:Value)(E:List Bool)(F:List Nat)(body:List bX)(behind:Nat)(w:World)(hE:Sl w vE E.length (E.map .bool))(hF:Sl w vF F.length (F.map ib))(hs:Sl w vb body.length (body.flatMap dS))(hEF:E.length=F.length)
 (mJ:∀x∈body,(x.1=1->0<=x.2/\x.2<64)/\(x.1≠1->0<=x.2/\x.2<F.length)) (h64:∀x∈F,x<18446744073709551616) (hb:behind<18446744073709551616):
 Calls aC 125 #[kB vE vF vL vR vM,vb,ib behind] w (cJ (ret (ib (eE E F body behind))) w):=by
 obtain⟨bE,cE,rfl,e1,e2,e3⟩:=hE;obtain⟨bF,cF,rfl,f1,f2,f3⟩:=hF;obtain⟨bb,cb,rfl,h4,h5,h6⟩:=hs;unfold maxLen at e2 f2 h5;refine enter (args:=[kB (ak bE E.length cE) (ak bF F.length cF) vL vR vM,ak bb body.length cb,ib behind]) (n:=44) Tryz.func125 I I I ?_;refine bY (a_ (bQ I I I fun g3=>?_))
 try refine GA ?_
 unfold eE;refine dU (ι:=Nat×Nat) (fun(k,out)=>k<=body.length/\out<18446744073709551616/\ix E F behind body 0=ix E F behind (body.drop k) out) (fun(k,out)=>[(2,ib behind),(3,aH (ah ⟨g3,0,aj⟩)),(7,ib out),(10,ak bb body.length cb),(11,ap av body.length),(12,ap av (k:Int))]) (fun _=>[aO g3 (kB (ak bE E.length cE) (ak bF F.length cF) vL vR vM).cells 104]) (fun(k,_)=>body.length-k) (0,0) ⟨bC _,by decide,rfl⟩ ?_;rintro⟨k,out⟩ ⟨i1,i3,i2⟩;dsimp only at i1 i3 i2⊢;rw[i2];clear i2
 by_cases c6:k<body.length
 ·obtain⟨b,off,rfl,hr⟩:=h6 J
  have eK:=hU (L:=[aO g3 (kB (ak bE E.length cE) (ak bF F.length cF) vL vR vM).cells 104]) mc hr c6;have V6:=mJ body[k] (bV c6);have hd:ix E F behind (body.drop k) out=ix E F behind (body[k]::body.drop (k+1)) out:=by
   rw[dJ c6]
  rw[hd];clear hd h6 mJ hr;generalize body[k]=x at*;obtain⟨q,m⟩:=x;dsimp only at*;rw[KI];dsimp only
  by_cases c1:q=1
  ·rw[if_pos c1]
   obtain⟨o1,o2⟩:=V6.1 c1;obtain⟨mm,rfl⟩:∃mm:Nat,m=mm:=⟨m.toNat,by omega⟩;rw[cX];have hsh:=fun w=>adA (P:=aC) mm J w;have L6:=sk i3 (Aj (m:=mm) J)
   repeat(first|refine GA ?_|refine gV (aR bI.eq aI.ty I I c6) ?_|refine gV (aU aI.ty I I eK) ?_)
   refine aY I fun g8=>?_;refine gG 1 ?_
   repeat(first|refine GA ?_|refine gV (aw aI.ty I (aE (i:=1) I I)) ?_|refine gV (En I I hsh) ?_|refine gV (zt I I L6) ?_)
   exact dR
  rw[if_neg c1];obtain⟨o1,o2⟩:=V6.2 c1;obtain⟨mm,rfl⟩:∃mm:Nat,m=mm:=⟨m.toNat,by omega⟩;rw[cX];have xp:mm<F.length:=by omega
  have hmE:mm<E.length:=by omega
  obtain⟨b1,akC,rfl,Pd⟩:=e3 J;obtain⟨b2,adC,rfl,pC⟩:=f3 J;have hcE:=DA hmE;have hcF:=KH xp;have adB:F.getD mm 0<18446744073709551616:=by
   have e:F.getD mm 0=F[mm]:=by rw[bD,bm xp];rfl
   rw[e];exact h64 _ (bV xp)
  have L6:=sk i3 adB;have hlt:=ahO i3 adB;generalize E.getD mm aD=y at*;generalize F.getD mm 0=z at*;generalize out|||z=o2 at*
  cases y
  ·rw[if_neg akV]
   repeat(first|refine GA ?_|refine gV (aR bI.eq aI.ty I I c6) ?_|refine gV (aU aI.ty I I eK) ?_)
   refine aY I fun g8=>?_;refine gG 1 ?_
   repeat(first|refine GA ?_|refine gV (aw aI.ty I (aE (i:=1) I I)) ?_|refine gV (aw aI.ty I (aE (i:=0) I I)) ?_|refine gV (a8 bI.eq aI.ty I I xp) ?_|refine gV (a8 bI.eq aI.ty I I hmE) ?_|refine gV (aw aI.ty I (jp Pd hcE)) ?_|refine gV (aw aI.ty I (jp pC hcF)) ?_|refine gV (zt I I L6) ?_)
   exact dR
  rw[if_pos I]
  repeat(first|refine GA ?_|refine gV (aR bI.eq aI.ty I I c6) ?_|refine gV (aU aI.ty I I eK) ?_)
  refine aY I fun g8=>?_;refine gG 1 ?_
  repeat(first|refine GA ?_|refine gV (aw aI.ty I (aE (i:=1) I I)) ?_|refine gV (aw aI.ty I (aE (i:=0) I I)) ?_|refine gV (a8 bI.eq aI.ty I I xp) ?_|refine gV (a8 bI.eq aI.ty I I hmE) ?_|refine gV (aw aI.ty I (jp Pd hcE)) ?_|refine gV (aw aI.ty I (jp pC hcF)) ?_|refine gV (zt I I L6) ?_)
  refine dv [0] ?_;exact bO (k+1,o2) ⟨by omega,hlt,rfl⟩ (by show body.length-(k+1)<body.length-k;omega)
 ·rw[fS J]
  have L6:=sk i3 hb;rw[Nu]
  repeat(first|refine GA ?_|refine gV (zt I I L6) ?_)
  exact dR
end cg
namespace cg
open Go.RowKit cT ey aM dx
def ep(n g c:Nat)(l:List Bool):b9:=bx 4 1 (ak (ah ⟨g,0,aj⟩) n c) n (l.map .bool)
theorem vU(n g cap:Nat)(l:List Bool)(i:Nat)(b:Bool)(w:World)(B:b_)(hl:l.length=n)(hi:i<n)(hm:Mem B [ep n g cap l] w):
 Calls aC 122 #[ak (ah ⟨g,0,aj⟩) n cap,ap av (i:Int),.bool b] w (dX ⟨fun(_:Unit)=>True,fun _=> .bool (fC l i b).2,fun _=>[ep n g cap (fC l i b).1]⟩ B):=by
 subst hl;exact Q1 g cap l i b w B hi hm
structure ahP where
 gE:Nat
 cE:Nat
 gR:Nat
 cR:Nat
 gM:Nat
 cM:Nat
def da(n g c:Nat):Value:=ak (ah ⟨g,0,aj⟩) n c
theorem Nv(h:Nat)(x:bX)(r:List bX)(R:List Bool)(more:Bool):kx h (x::r) R more=kx h r (sf h x R more).1 (sf h x R more).2:=rfl
theorem Nw(p:aM.Prod)(r:List aM.Prod)(s:FS):fh (p::r) s=fh r (lm p s):=rfl
theorem Ny(w0:World)(v:Value)(g:dF)(h:kw (fun k=>k<w0.heap.size) w0 v g)(h_:cD g=0)(n:Nat)(hn:g.bB=n)(x:ahP)(vF vL:Value)(E R M:List Bool)(hE:E.length=n)(hR:R.length=n)(hM:M.length=n)(w:World)(B:b_)(ho:mv w0 B)(hm:Mem B [ep n x.gE x.cE E,ep n x.gR x.cR R,ep n x.gM x.cM M] w):
 Calls aC 81 #[v,kB (da n x.gE x.cE) vF vL (da n x.gR x.cR) (da n x.gM x.cM)] w (dX ⟨fun(_:Unit)=>True,fun _=> .bool (fh g.az ⟨E,R,M,aD⟩).more,fun _=>[ep n x.gE x.cE (fh g.az ⟨E,R,M,aD⟩).E,ep n x.gR x.cR (fh g.az ⟨E,R,M,aD⟩).R,ep n x.gM x.cM (fh g.az ⟨E,R,M,aD⟩).M]⟩ B):=by
 obtain⟨gE,cE,gR,cR,gM,cM⟩:=x;dsimp only at*;obtain⟨_,_,_,_,hlen,hps⟩:=cz h_;obtain⟨vp,rfl,h1,_⟩:=h;obtain⟨bp,cp,rfl,Qg,He,ow⟩:=h1;unfold maxLen at He;obtain⟨t,nn,az⟩:=g;dsimp only at*;subst hn;refine eR hm (args:=[dD t (n:Int) (ak bp az.length cp),kB (da n gE cE) vF vL (da n gR cR) (da n gM cM)]) (n:=70) Tryz.func81 I I I ?_;refine bY (a_ (bQ I I I fun g2=>bQ I I I fun g3=>?_));refine zL ?_
 repeat(first|refine GA ?_|refine gV (aw aI.ty I (aE (i:=3) I I)) ?_)
 refine s7 [0,1,2,4] ?_;generalize lK:fh az ⟨E,R,M,aD⟩=fin;refine dU (ι:=Nat×FS) (fun(k,s)=>k<=az.length/\s.E.length=n/\s.R.length=n/\s.M.length=n/\fh (az.drop k) s=fin) (fun(k,s)=>[(3,aH (ah ⟨g3,0,aj⟩)),(5,.bool s.more),(11,ak bp az.length cp),(12,ap av az.length),(13,ap av (k:Int))])
  (fun(_,s)=>[ep n gE cE s.E,ep n gR cR s.R,ep n gM cM s.M,aO g3 (kB (da n gE cE) vF vL (da n gR cR) (da n gM cM)).cells 104]) (fun(k,_)=>az.length-k) (0,⟨E,R,M,aD⟩) ⟨bC _,hE,hR,hM,lK⟩ ?_
 clear hm hE hR hM lK;rintro⟨k,E,R,M,more⟩ ⟨i1,i2,i3,i4,i5⟩;dsimp only at i1 i2 i3 i4 i5⊢
 by_cases c6:k<az.length
 ·obtain⟨b,off,rfl,_,hr⟩:=ow J
  obtain⟨bb,cb,q1,q2,q3⟩:=lI hr c6;have jb:=hps az[k] (bV c6);rw[dJ c6,Nw]at i5;have eK:∀(L:List b9) (j:Nat) (v:Value),([ap av az[k].1,.slice bb az[k].2.length cb]:List Value)[j]?=ah v->At B L ⟨b,off+k*2+j,aj⟩ v:=fun L j v hj=>iv ho (q1 j v hj);have AX:=q3.flat akV;clear hr ow q1 hps q3;generalize az[k]=p at*;obtain⟨hd,body⟩:=p;obtain⟨p1,p2,p3,p4⟩:=jb;dsimp only at*;obtain⟨hn,rfl⟩:∃hn:Nat,hd=hn:=⟨hd.toNat,by omega⟩;have hhn:hn<n:=by omega
  have Ak:∀x∈body,x.1=2->0<=x.2/\x.2<(n:Int):=fun x hx fQ=>by
   have:=p4 x hx;unfold right at this;rw[if_neg J,if_pos fQ]at this
   simpa using this
  have hsb:∀w' L,Mem B L w'->Sl w' (ak bb body.length cb) body.length (body.flatMap dS):=fun w' L hm=>AX.gr (ho.mem hm);unfold lm at i5;dsimp only at i5;rw[cX]at i5;have aak:=fun w' L (hm:Mem B L w') (hx:Sl w' (da n gE cE) E.length (E.map .bool))=>yS (da n gE cE) (ak bb body.length cb) E body aD w' hx (hsb w' L hm) (fun x hx fQ=>by rw[i2];exact Ak x hx fQ);have qo:=fun w' L (hm:Mem B L w') (hx:Sl w' (da n gM cM) M.length (M.map .bool))=>yS (da n gM cM) (ak bb body.length cb) M body aB w' hx (hsb w' L hm) (fun x hx fQ=>by rw[i4];exact Ak x hx fQ);generalize iY E body aD=a1 at*;generalize iY M body aB=a2 at*;have ahQ:=fun w' B' hm=>vU n gE cE E hn a1 w' B' i2 hhn hm;have ahR:=fun w' B' hm=>vU n gM cM M hn a2 w' B' i4 hhn hm;have JW:=n0 E hn a1;have J1:=n0 M hn a2;rw[i2]at JW aak;rw[i4]at J1 qo;generalize fC E hn a1=m1 at*;generalize fC M hn a2=m2 at*;obtain⟨E1,b1⟩:=m1;obtain⟨M1,b2⟩:=m2;dsimp only at*
  repeat(first|refine GA ?_|refine gV (aR bI.eq aI.ty I I c6) ?_|refine gV (aU aI.ty I I (eK _)) ?_)
  clear eK;refine aY I fun g7=>?_;refine gG 4 ?_;refine zL ?_
  repeat(first|refine QV QP ?_|refine lY ?_|refine mY ?_|refine qs I I I I I I ?_|((try refine qg I I I ?_);first|refine QV QP ?_|refine QV QL ?_|refine QV QA ?_|refine QV QlT ?_|refine QV QlF ?_|refine QV QeT ?_|refine QV QeF ?_|refine QV QaA ?_))
  (repeat refine bY ?_)
  refine my (ι:=Unit) (fun _=>True) (fun _=>[(3,aH (ah ⟨g3,0,aj⟩)),(5,.bool (b1||more)),(7,aH (ah ⟨g7,0,aj⟩)),(11,ak (ah ⟨b,off,aj⟩) az.length cp),(12,ap av az.length),(13,ap av (k:Int))])
   (fun _=>[ep n gE cE E1,ep n gR cR R,ep n gM cM M,aO g3 (kB (da n gE cE) vF vL (da n gR cR) (da n gM cM)).cells 104,aO g7 #[ap av (hn:Int),ak bb body.length cb] 140]) ?_ ?_
  ·refine dK ([aO g3 (kB (da n gE cE) vF vL (da n gR cR) (da n gM cM)).cells 104,aO g7 #[ap av (hn:Int),ak bb body.length cb] 140]) (.calm 0 (.calm 1 (.calm 2 (.calm 3 (.calm 4 (.calm 5 (.calm 6 (.calm 7 (.one 8 (.one 9 (.calm 10 (.calm 11 (.calm 12 (.calm 13 (.done))))))))))))))) (bZ [3,4]) ?_
   repeat(first|refine GW ?_|(refine GN ?_;first|refine QW (aw aI.ty I (aE (i:=0) I I)) ?_|refine QW (aw aI.ty I (aE (i:=1) I I)) ?_))
   refine aJ I ?_;refine aW (ye aF.en I I I I) (fun w hm=>aak _ _ hm (kX (i:=0) I w hm)) I I I ?_;intro _ _;refine zL ?_;refine aK (bZ [3,4]) ?_;refine aJ I ?_;refine bH [0] [1,2,3,4] akV I I (ye aF.en I I I I) (fun w hm hb=>ahQ w _ hb) I I I ?_;intro _ _;refine zL ?_;refine aK (bZ [2,3]) ?_
   cases b1
   ·try refine GW ?_
    refine dv [4,0,1,2,3] ?_;exact e_ () trivial (by repeat' (first|exact cY|refine cK I ?_)) I
   try refine GW ?_
   refine dv [4,0,1,2,3] ?_;exact e_ () trivial (by repeat' (first|exact cY|refine cK I ?_)) I
  intro _ _
  (repeat refine bY ?_)
  refine my (ι:=Unit) (fun _=>True) (fun _=>[(3,aH (ah ⟨g3,0,aj⟩)),(5,.bool (b2||(b1||more))),(7,aH (ah ⟨g7,0,aj⟩)),(11,(ak (ah ⟨b,off,aj⟩) az.length cp)),(12,ap av az.length),(13,ap av (k:Int))])
   (fun _=>[ep n gE cE E1,ep n gR cR R,ep n gM cM M1,aO g3 (kB (da n gE cE) vF vL (da n gR cR) (da n gM cM)).cells 104,aO g7 #[ap av (hn:Int),ak bb body.length cb] 140]) ?_ ?_
  ·refine dK ([aO g3 (kB (da n gE cE) vF vL (da n gR cR) (da n gM cM)).cells 104,aO g7 #[ap av (hn:Int),ak bb body.length cb] 140]) (.calm 0 (.calm 1 (.calm 2 (.calm 3 (.calm 4 (.calm 5 (.calm 6 (.calm 7 (.one 8 (.one 9 (.calm 10 (.calm 11 (.calm 12 (.calm 13 (.done))))))))))))))) (bZ [3,4]) ?_
   repeat(first|refine GW ?_|(refine GN ?_;first|refine QW (aw aI.ty I (aE (i:=0) I I)) ?_|refine QW (aw aI.ty I (aE (i:=1) I I)) ?_))
   refine aJ I ?_;refine aW (ye aF.en I I I I) (fun w hm=>qo _ _ hm (kX (i:=2) I w hm)) I I I ?_;intro _ _;refine zL ?_;refine aK (bZ [3,4]) ?_;refine aJ I ?_;refine bH [2] [0,1,3,4] akV I I (ye aF.en I I I I) (fun w hm hb=>ahR w _ hb) I I I ?_;intro _ _;refine zL ?_;refine aK (bZ [2,3]) ?_;generalize (b1||more)=mo
   cases b2
   ·try refine GW ?_
    refine dv [0,1,4,2,3] ?_;exact e_ () trivial (by repeat' (first|exact cY|refine cK I ?_)) I
   try refine GW ?_
   refine dv [0,1,4,2,3] ?_;exact e_ () trivial (by repeat' (first|exact cY|refine cK I ?_)) I
  intro _ _;generalize (b2||(b1||more))=mo at*;clear ahQ ahR aak qo
  repeat(first|refine GA ?_|refine gV (aw aI.ty I (aE (i:=4) I I)) ?_)
  generalize hfr:kx hn body R mo=fr at*;obtain⟨R2,mo2⟩:=fr;dsimp only at i5;refine dU (ι:=Nat×List Bool×Bool) (fun(j,R',m')=>j<=body.length/\R'.length=n/\kx hn (body.drop j) R' m'=(R2,mo2)) (fun(j,_,m')=>[(3,aH (ah ⟨g3,0,aj⟩)),(5,.bool m'),(7,aH (ah ⟨g7,0,aj⟩)),(11,(ak (ah ⟨b,off,aj⟩) az.length cp)),(12,ap av az.length),(13,ap av (k:Int)),(44,ak bb body.length cb),(45,ap av body.length),(46,ap av (j:Int))])
   (fun(_,R',_)=>[ep n gE cE E1,ep n gR cR R',ep n gM cM M1,aO g3 (kB (da n gE cE) vF vL (da n gR cR) (da n gM cM)).cells 104,aO g7 #[ap av (hn:Int),ak bb body.length cb] 140]) (fun(j,_,_)=>body.length-j) (0,R,mo) ⟨bC _,i3,hfr⟩ ?_
  clear hfr;rintro⟨j,R',m'⟩ ⟨j1,j2,j3⟩;dsimp only at j1 j2 j3⊢
  by_cases c7:j<body.length
  ·obtain⟨b',Br,rfl,hrb⟩:=(by
    obtain⟨bs,cs,hv,_,_,fZ⟩:=AX;simp only[kr,true_and]at hv;obtain⟨rfl,rfl⟩:=hv;exact fZ J:∃b' Br,bb=ah ⟨b',Br,aj⟩/\Rd w0 b' Br (body.flatMap dS))
   have V8:∀(L:List b9) (q:Nat) (u:Value),(dS body[j])[q]?=ah u->At B L ⟨b',Br+j*2+q,aj⟩ u:=fun L=>rz mc (fun q u hq=>iv ho (hrb q u hq)) c7;have fQ:=Ak body[j] (bV c7);rw[dJ c7,Nv]at j3;clear Ak hrb AX hsb p4;generalize body[j]=x at*;obtain⟨q,m⟩:=x;dsimp only at fQ;unfold sf at j3;dsimp only at j3
   by_cases c8:q=2
   ·subst c8
    rw[if_pos I]at j3;obtain⟨y1,y2⟩:=fQ rfl;obtain⟨mm,rfl⟩:∃mm:Nat,m=mm:=⟨m.toNat,by omega⟩;rw[cX]at j3;have hcell:=DA (l:=R') (i:=hn) J;generalize R'.getD hn aD=bh at*;have Pc:=fun w' B' hm=>vU n gR cR R' mm bh w' B' j2 J hm;have hl3:=n0 R' mm bh;rw[j2]at hl3;generalize fC R' mm bh=m3 at*;obtain⟨R3,b3⟩:=m3;dsimp only at*
    repeat(first|refine GA ?_|refine gV (aR bI.eq aI.ty I I c7) ?_|refine gV (aU aI.ty I I (V8 _)) ?_)
    clear V8;refine aY I fun g9=>?_;refine gG 5 ?_;refine zL ?_
    repeat(first|refine GA ?_|refine gV (aw aI.ty I (aE (i:=5) I I)) ?_)
    refine dK ([aO g3 (kB (da n gE cE) vF vL (da n gR cR) (da n gM cM)).cells 104,aO g7 #[ap av (hn:Int),ak (ah ⟨b',Br,aj⟩) body.length cb] 140,aO g9 #[ap av 2,ap av (mm:Int)] 148]) (.calm 0 (.calm 1 (.calm 2 (.calm 3 (.calm 4 (.calm 5 (.calm 6 (.calm 7 (.calm 8 (.one 9 (.one 10 (.calm 11 (.calm 12 (.calm 13 (.calm 14 (.done)))))))))))))))) (bZ [3,4,5]) ?_
    repeat(first|refine GW ?_|(refine GN ?_;first|refine QW (aw aI.ty I (aE (i:=0) I I)) ?_|refine QW (aw aI.ty I (aE (i:=1) I I)) ?_|refine QW (aw aI.ty I (aE (i:=2) I I)) ?_|refine QW (a8 bI.eq aI.ty I I (show hn<n by omega)) ?_))
    refine aJ I (dC (aw aI.ty I (ku (i:=1) I (by rw[cI];exact hcell))) I I I (aK (bZ [3,4,5]) ?_));refine aJ I ?_;refine bH [1] [0,2,3,4,5] akV I I (ye aF.en I I I I) (fun w hm hb=>Pc w _ hb) I I I ?_;intro _ _;refine zL ?_;refine aK (bZ [2,3,4]) ?_
    cases b3
    ·try refine GW ?_
     try refine GA ?_
     refine dv [0,5,1,2,3] ?_;exact bO (j+1,R3,aD||m') ⟨by omega,hl3,j3⟩ (by show body.length-(j+1)<body.length-j;omega)
    try refine GW ?_
    try refine GA ?_
    refine dv [0,5,1,2,3] ?_;exact bO (j+1,R3,aB||m') ⟨by omega,hl3,j3⟩ (by show body.length-(j+1)<body.length-j;omega)
   rw[if_neg c8]at j3;dsimp only at j3
   repeat(first|refine GA ?_|refine gV (aR bI.eq aI.ty I I c7) ?_|refine gV (aU aI.ty I I (V8 _)) ?_)
   clear V8;refine aY I fun g9=>?_;refine gG 5 ?_;refine zL ?_
   repeat(first|refine GA ?_|refine gV (aw aI.ty I (aE (i:=5) I I)) ?_)
   refine dv [0,1,2,3,4] ?_;exact bO (j+1,R',m') ⟨by omega,j2,j3⟩ (by show body.length-(j+1)<body.length-j;omega)
  rw[fS J]at j3;have j3:(R',m')=(R2,mo2):=j3;simp only[iu]at j3;obtain⟨rfl,rfl⟩:=j3
  try refine GA ?_
  refine dv [0,1,2,3] ?_;exact bO (k+1,⟨E1,R',M1,m'⟩) ⟨by omega,JW,j2,J1,i5⟩ (by show az.length-(k+1)<az.length-k;omega)
 ·rw[fS J]at i5
  have i5:(⟨E,R,M,more⟩:FS)=fin:=i5;subst i5
  try refine GA ?_
  exact dq I I fun w hm=>hm.cZ (S:=⟨fun(_:Unit)=>True,fun _=> .bool more,fun _=>[ep n gE cE E,ep n gR cR R,ep n gM cM M]⟩) () trivial [0,1,2] akV I
end cg
namespace cg
open Go.RowKit cT ey aM dx
def iJ(n g c:Nat)(l:List Nat):b9:=bx 114 1 (ak (ah ⟨g,0,aj⟩) n c) n (l.map ib)
theorem FI(n g cap:Nat)(l:List Nat)(i b:Nat)(w:World)(B:b_)(hl:yE n l)(hi:i<n)(hb:b<18446744073709551616)(hm:Mem B [iJ n g cap l] w):
 Calls aC 124 #[ak (ah ⟨g,0,aj⟩) n cap,ap av (i:Int),ib b] w (dX ⟨fun(_:Unit)=>True,fun _=> .bool (mR l i b).2,fun _=>[iJ n g cap (mR l i b).1]⟩ B):=by
 obtain⟨rfl,h64⟩:=hl;exact V7 g cap l i b w B hi h64 hb hm
structure Rows4 where
 gE:Nat
 cE:Nat
 gF:Nat
 cF:Nat
 gW:Nat
 cW:Nat
 gM:Nat
 cM:Nat
theorem Q2(E M:List Bool)(p:aM.Prod)(r:List aM.Prod)(F:List Nat)(more:Bool):pj E M (p::r) F more=pj E M r (Fe E M p F more).1 (Fe E M p F more).2:=rfl
theorem Q3(E:List Bool)(F:List Nat)(p:aM.Prod)(r:List aM.Prod)(W:List Nat)(more:Bool):mL E F (p::r) W more=mL E F r (jj E F p.1.toNat p.2 W more).1 (jj E F p.1.toNat p.2 W more).2:=rfl
theorem Nz(E:List Bool)(F:List Nat)(h:Nat)(x:bX)(r:List bX)(W:List Nat)(more:Bool):jj E F h (x::r) W more=jj E F h r (iZ E F h x r W more).1 (iZ E F h x r W more).2:=rfl
def ra(E M:List Bool)(l:List aM.Prod)(F:List Nat):List Nat:=dx.fix (fun F=>pj E M l F aD) nv F
def vV(E:List Bool)(F:List Nat)(l:List aM.Prod)(W:List Nat):List Nat:=dx.fix (fun W=>mL E F l W aD) nv W
theorem Q4(w0:World)(v:Value)(g:dF)(h:kw (fun k=>k<w0.heap.size) w0 v g)(h_:cD g=0)(n:Nat)(hn:g.bB=n)(x:Rows4)(vR:Value)(E:List Bool)(F W:List Nat)(M:List Bool)(hE:E.length=n)(hF:yE n F)(hW:yE n W)(hM:M.length=n)(w:World)(B:b_)(ho:mv w0 B)(hm:Mem B [ep n x.gE x.cE E,iJ n x.gF x.cF F,iJ n x.gW x.cW W,ep n x.gM x.cM M] w):
 Calls aC 82 #[v,kB (da n x.gE x.cE) (da n x.gF x.cF) (da n x.gW x.cW) vR (da n x.gM x.cM)] w (dX ⟨fun(_:Unit)=>True,fun _=> .tuple #[],fun _=>[ep n x.gE x.cE E,iJ n x.gF x.cF (ra E M g.az F),iJ n x.gW x.cW (vV E (ra E M g.az F) g.az W),ep n x.gM x.cM M]⟩ B):=by
 obtain⟨gE,cE,gF,cF,gW,cW,gM,cM⟩:=x;dsimp only at*;have nH:=wW h_ hn;obtain⟨_,_,_,_,hlen,_⟩:=cz h_;obtain⟨vp,rfl,h1,_⟩:=h;obtain⟨bp,cp,rfl,Qg,He,ow⟩:=h1;unfold maxLen at He;obtain⟨t,nn,az⟩:=g;dsimp only at*;subst hn;have yT:=Ki (E:=E) (M:=M) nH;refine eR hm (args:=[dD t (n:Int) (ak bp az.length cp),kB (da n gE cE) (da n gF cF) (da n gW cW) vR (da n gM cM)]) (n:=80) Tryz.func82 I I I ?_;refine bY (a_ (bQ I I I fun g2=>bQ I I I fun g3=>?_));refine zL ?_
 try refine GA ?_
 generalize lK:ra E M az F=fin;refine dU (ι:=List Nat×Bool) (fun(F,more)=>yE n F/\(more=aB->ra E M az F=fin)/\(more=aD->F=fin)) (fun(_,more)=>[(2,aH (ah ⟨g2,0,aj⟩)),(3,aH (ah ⟨g3,0,aj⟩)),(4,.bool more)])
  (fun(F,_)=>[ep n gE cE E,iJ n gF cF F,iJ n gW cW W,ep n gM cM M,aO g2 (dD t (n:Int) (ak bp az.length cp)).cells 33,aO g3 (kB (da n gE cE) (da n gF cF) (da n gW cW) vR (da n gM cM)).cells 104]) (fun(F,more)=>2*nv F+(if more=aB then 1 else 0)) (F,aB) ⟨hF,fun _=>lK,fun h=>by cases h⟩ ?_
 clear hm hF lK;rintro⟨F,more⟩ ⟨i1,i2,i3⟩;dsimp only at i1 i2 i3⊢
 cases more
 ·have i3 :=i3 I
  subst i3;clear i2 yT;have yT:=Qn (E:=E) i1 nH
  try refine GA ?_
  generalize lK:vV E F az W=fin;refine dU (ι:=List Nat×Bool) (fun(W,more)=>yE n W/\(more=aB->vV E F az W=fin)/\(more=aD->W=fin)) (fun(_,more)=>[(2,aH (ah ⟨g2,0,aj⟩)),(3,aH (ah ⟨g3,0,aj⟩)),(7,.bool more)])
   (fun(W,_)=>[ep n gE cE E,iJ n gF cF F,iJ n gW cW W,ep n gM cM M,aO g2 (dD t (n:Int) (ak bp az.length cp)).cells 33,aO g3 (kB (da n gE cE) (da n gF cF) (da n gW cW) vR (da n gM cM)).cells 104]) (fun(W,more)=>2*nv W+(if more=aB then 1 else 0)) (W,aB) ⟨hW,fun _=>lK,fun h=>by cases h⟩ ?_
  clear lK hW;clear W;rintro⟨W,more⟩ ⟨j1,j2,j3⟩;dsimp only at j1 j2 j3⊢
  cases more
  ·have j3:=j3 I
   subst j3
   try refine GA ?_
   exact Bj I fun w hm=>hm.cZ (S:=⟨fun(_:Unit)=>True,fun _=> .tuple #[],fun _=>[ep n gE cE E,iJ n gF cF F,iJ n gW cW W,ep n gM cM M]⟩) () trivial [0,1,2,3] akV I
  have j2:=j2 I;clear j3;have hdone:∀W' m',mL E F az W aD=(W',m')->yE n W'/\(m'=aB->vV E F az W'=fin)/\(m'=aD->W'=fin)/\2*nv W'+(if m'=aB then 1 else 0)<2*nv W+1:=fun W' m' hp=>by
   have hk:=z_ (E:=E) i1 az W aD nH j1;rw[hp]at hk;dsimp only at hk;refine⟨hk.1,fun c=>?_,fun c=>?_,?_⟩
   ·rw[<-j2]
    unfold vV;rw[Kh yT j1 (by rw[hp];exact c),hp]
   ·rw[<-j2]
    unfold vV;rw[z8 (by rw[hp];exact c),hp]
   have h2:=hk.2.2
   cases m'
   have:=hk.2.1;simp;omega;rcases h2 rfl with h|h
   cases h
   simp;omega
  repeat(first|refine GA ?_|refine gV (aw aI.ty I (aE (i:=4) I I)) ?_)
  generalize hfp:mL E F az W aD=fp at*;obtain⟨Wx,mx⟩:=fp;have hdone:=hdone Wx mx I;refine dU (ι:=Nat×List Nat×Bool) (fun(k,W,m)=>k<=az.length/\yE n W/\mL E F (az.drop k) W m=(Wx,mx)) (fun(k,_,m)=>[(2,aH (ah ⟨g2,0,aj⟩)),(3,aH (ah ⟨g3,0,aj⟩)),(7,.bool m),(40,ak bp az.length cp),(41,ap av az.length),(42,ap av (k:Int))])
   (fun(_,W,_)=>[ep n gE cE E,iJ n gF cF F,iJ n gW cW W,ep n gM cM M,aO g2 (dD t (n:Int) (ak bp az.length cp)).cells 33,aO g3 (kB (da n gE cE) (da n gF cF) (da n gW cW) vR (da n gM cM)).cells 104]) (fun(k,_,_)=>az.length-k) (0,W,aD) ⟨bC _,j1,hfp⟩ ?_
  clear hfp j2;rintro⟨k,W',m⟩ ⟨k1,k2,k3⟩;dsimp only at k1 k2 k3⊢
  by_cases c6:k<az.length
  ·obtain⟨b,off,rfl,_,hr⟩:=ow J
   obtain⟨bb,cb,q1,q2,q3⟩:=lI hr c6;have Hf:=nH.head az[k] (bV c6);have Xx:=nH.nf az[k] (bV c6);have ZP:=nH.MY az[k] (bV c6);rw[dJ c6,Q3]at k3;have eK:∀(L:List b9) (j:Nat) (v:Value),([ap av az[k].1,.slice bb az[k].2.length cb]:List Value)[j]?=ah v->At B L ⟨b,off+k*2+j,aj⟩ v:=fun L j v hj=>iv ho (q1 j v hj);have AX:=q3.flat akV;clear hr ow q1 q3;generalize az[k]=p at*;obtain⟨hd,body⟩:=p;dsimp only at*;obtain⟨hn,rfl⟩:∃hn:Nat,hd=hn:=⟨hd.toNat,by omega⟩;rw[cX]at Hf k3;have hsb:∀w' L,Mem B L w'->Sl w' (ak bb body.length cb) body.length (body.flatMap dS):=fun w' L hm=>AX.gr (ho.mem hm);obtain⟨bb2,cb2,he,h4,h5,h6⟩:=AX;simp only[kr,true_and]at he;obtain⟨rfl,rfl⟩:=he;unfold maxLen at h5
   repeat(first|refine GA ?_|refine gV (aR bI.eq aI.ty I I c6) ?_|refine gV (aU aI.ty I I (eK _)) ?_)
   clear eK;refine aY I fun g9=>?_;refine gG 6 ?_;refine zL ?_
   repeat(first|refine GA ?_|refine gV (aw aI.ty I (aE (i:=6) I I)) ?_)
   refine dU (ι:=Nat×List Nat×Bool) (fun(j,W,m)=>j<=body.length/\yE n W/\mL E F (az.drop (k+1)) (jj E F hn (body.drop j) W m).1 (jj E F hn (body.drop j) W m).2=(Wx,mx)) (fun(j,_,m)=>[(2,aH (ah ⟨g2,0,aj⟩)),(3,aH (ah ⟨g3,0,aj⟩)),(7,.bool m),(9,aH (ah ⟨g9,0,aj⟩)),(40,ak (ah ⟨b,off,aj⟩) az.length cp),(41,ap av az.length),(42,ap av (k:Int)),(47,ak bb body.length cb),(48,ap av body.length),(49,ap av (j:Int))])
    (fun(_,W,_)=>[ep n gE cE E,iJ n gF cF F,iJ n gW cW W,ep n gM cM M,aO g2 (dD t (n:Int) (ak (ah ⟨b,off,aj⟩) az.length cp)).cells 33,aO g3 (kB (da n gE cE) (da n gF cF) (da n gW cW) vR (da n gM cM)).cells 104,aO g9 #[ap av (hn:Int),ak bb body.length cb] 140]) (fun(j,_,_)=>body.length-j) (0,W',m) ⟨bC _,k2,k3⟩ ?_
   clear k2 k3;rintro⟨j,W2,m2⟩ ⟨k2,k3,k4⟩;dsimp only at k2 k3 k4⊢
   by_cases c7:j<body.length
   ·obtain⟨b2,adC,rfl,pC⟩:=h6 J
    have uj:=rz (W:=B) (L:=[ep n gE cE E,iJ n gF cF F,iJ n gW cW W2,ep n gM cM M,aO g2 (dD t (n:Int) (ak (ah ⟨b,off,aj⟩) az.length cp)).cells 33,aO g3 (kB (da n gE cE) (da n gF cF) (da n gW cW) vR (da n gM cM)).cells 104,aO g9 #[ap av (hn:Int),ak (ah ⟨b2,adC,aj⟩) body.length cb] 140]) mc (fun q x hq=>iv ho (pC q x hq)) c7;have hx3:=ZP body[j] (bV c7);have kS:∀w' L,Mem B L w'->Sl w' (JV (ah ⟨b2,adC,aj⟩) cb 2 (j+1) body.length) (body.drop (j+1)).length ((body.drop (j+1)).flatMap dS):=fun w' L hm=>by
     have:=PY mc (hsb w' L hm) (i:=j+1) (j:=body.length) J (aT _)
     rwa [ig (by simp)]at this
    have Vo:eE E F (body.drop (j+1)) (W2.getD hn 0)<18446744073709551616:=pH i1 (py k3 _) fun x hx h=>(Xx x (o9 hx) h).2;have zv:=fun w' L (hm:Mem B L w') (hx:Sl w' (da n gE cE) E.length (E.map .bool)) (hy:Sl w' (da n gF cF) F.length (F.map ib))=>vP (da n gE cE) (da n gF cF) (da n gW cW) vR (da n gM cM) _ E F (body.drop (j+1)) (W2.getD hn 0) w' hx hy (kS w' L hm) (by rw[hE,i1.1]) (fun x hx=>⟨fun h=>by have:=Xx x (o9 hx) h;omega,fun h=>by have:=ZP x (o9 hx) h;rw[i1.1];omega⟩) i1.2 (py k3 _);rw[hE,i1.1]at zv;have hcW:(W2.map ib)[hn]?=ah (ib (W2.getD hn 0)):=KH (by rw[k3.1];exact Hf.2);rw[dJ c7,Nz]at k4;generalize body[j]=x at*;obtain⟨q,mn⟩:=x;dsimp only at hx3;unfold iZ at k4;dsimp only at k4;generalize W2.getD hn 0=bh at*;generalize eE E F (body.drop (j+1)) bh=bg at*
    repeat(first|refine GA ?_|refine gV (aR bI.eq aI.ty I I c7) ?_|refine gV (aU aI.ty I I uj) ?_)
    clear uj pC;refine aY I fun g11=>?_;refine zL ?_
    try refine GA ?_
    refine gG 7 ?_;refine zL ?_
    by_cases c1:q=2
    ·rw[if_pos c1]at k4
     obtain⟨_,o1,o2⟩:=hx3 J;subst c1;obtain⟨mm,rfl⟩:∃mm:Nat,mn=mm:=⟨mn.toNat,by omega⟩;rw[cX]at k4 o2;have V9:=Du (i:=mm) k3 Vo;have Hq:=fun w' B' hm=>FI n gW cW W2 mm bg w' B' k3 o2 Vo hm;generalize mR W2 mm bg=ad at*;obtain⟨W3,ch⟩:=ad;dsimp only at k4 V9 Hq
     repeat(first|refine GA ?_|refine gV (aw aI.ty I (aE (i:=7) I I)) ?_)
     refine dK ([aO g3 (kB (da n gE cE) (da n gF cF) (da n gW cW) vR (da n gM cM)).cells 104,aO g9 #[ap av (hn:Int),ak (ah ⟨b2,adC,aj⟩) body.length cb] 140,aO g11 #[ap av 2,ap av (mm:Int)] 148]) (.calm 0 (.calm 1 (.calm 2 (.calm 3 (.calm 4 (.calm 5 (.calm 6 (.calm 7 (.calm 8 (.calm 9 (.calm 10 (.calm 11 (.calm 12 (.calm 13 (.calm 14 (.one 15 (.one 16 (.one 17 (.calm 18 (.calm 19 (.calm 20 (.calm 21 (.done))))))))))))))))))))))) (bZ [5,6,7]) ?_
     repeat(first|(refine GN ?_;first|refine QW QP ?_|refine QW (aw aI.ty I (aE (i:=0) I I)) ?_|refine QW (aw aI.ty I (aE (i:=1) I I)) ?_|refine QW (aw aI.ty I (aE (i:=2) I I)) ?_|refine QW (aL (i:=0) aI.ty I I I) ?_|refine QW (Bh (i:=j+1) bI.eq aI.ty I I c7 h4) ?_|refine QW (a8 bI.eq aI.ty I I Hf.2) ?_|refine GX ?_)|refine GW ?_)
     refine aJ I ?_;refine dC (aw aI.ty I (ku (i:=2) I (by rw[cI];exact hcW))) I I I ?_;refine aK (bZ [5,6,7]) ?_;refine aJ I ?_;refine aW (ye aF.en I I I I) (fun w hm=>zv _ _ hm (kX (i:=0) I w hm) (kX (i:=1) I w hm)) I I I ?_;intro _ _;refine zL ?_;refine aK (bZ [5,6,7]) ?_;refine aJ I ?_;refine bH [2] [0,1,3,4,5,6,7] akV I I (ye aF.en I I I I) (fun w hm hb=>Hq w _ hb) I I I ?_;intro _ _;refine zL ?_;refine aK (bZ [4,5,6]) ?_
     cases ch
     ·try refine GW ?_
      try refine GA ?_
      refine dv [0,1,7,2,3,4,5] ?_;exact bO (j+1,W3,aD||m2) ⟨by omega,V9,k4⟩ (by show body.length-(j+1)<body.length-j;omega)
     try refine GW ?_
     try refine GA ?_
     refine dv [0,1,7,2,3,4,5] ?_;exact bO (j+1,W3,aB||m2) ⟨by omega,V9,k4⟩ (by show body.length-(j+1)<body.length-j;omega)
    rw[if_neg c1]at k4
    repeat(first|refine GA ?_|refine gV (aw aI.ty I (aE (i:=7) I I)) ?_)
    refine dv [0,1,2,3,4,5,6] ?_;exact bO (j+1,W2,m2) ⟨c7,k3,k4⟩ (by show body.length-(j+1)<body.length-j;omega)
   rw[show body.drop j=[]from fS J]at k4
   try refine GA ?_
   refine dv [0,1,2,3,4,5] ?_;exact bO (k+1,W2,m2) ⟨by omega,k3,k4⟩ (by show az.length-(k+1)<az.length-k;omega)
  rw[fS J]at k3;have k3:(W',m)=(Wx,mx):=k3;simp only[iu]at k3;obtain⟨rfl,rfl⟩:=k3;obtain⟨d1,d2,d3,d4⟩:=hdone
  try refine GA ?_
  exact bO (W',m) ⟨d1,d2,d3⟩ d4
 ·have i2:=i2 I
  clear i3;have hdone:∀F' m',pj E M az F aD=(F',m')->yE n F'/\(m'=aB->ra E M az F'=fin)/\(m'=aD->F'=fin)/\2*nv F'+(if m'=aB then 1 else 0)<2*nv F+1:=fun F' m' hp=>by
   have hk:=vd (E:=E) (M:=M) az F aD nH i1;rw[hp]at hk;dsimp only at hk;refine⟨hk.1,fun c=>?_,fun c=>?_,?_⟩
   ·rw[<-i2]
    unfold ra;rw[Kh yT i1 (by rw[hp];exact c),hp]
   ·rw[<-i2]
    unfold ra;rw[z8 (by rw[hp];exact c),hp]
   have h2:=hk.2.2
   cases m'
   have:=hk.2.1;simp;omega;rcases h2 rfl with h|h
   cases h
   simp;omega
  repeat(first|refine GA ?_|refine gV (aw aI.ty I (aE (i:=4) I I)) ?_)
  generalize hfp:pj E M az F aD=fp at*;obtain⟨Fx,mx⟩:=fp;have hdone:=hdone Fx mx I;refine dU (ι:=Nat×List Nat×Bool) (fun(k,F,m)=>k<=az.length/\yE n F/\pj E M (az.drop k) F m=(Fx,mx)) (fun(k,_,m)=>[(2,aH (ah ⟨g2,0,aj⟩)),(3,aH (ah ⟨g3,0,aj⟩)),(4,.bool m),(14,ak bp az.length cp),(15,ap av az.length),(16,ap av (k:Int))])
   (fun(_,F,_)=>[ep n gE cE E,iJ n gF cF F,iJ n gW cW W,ep n gM cM M,aO g2 (dD t (n:Int) (ak bp az.length cp)).cells 33,aO g3 (kB (da n gE cE) (da n gF cF) (da n gW cW) vR (da n gM cM)).cells 104]) (fun(k,_,_)=>az.length-k) (0,F,aD) ⟨bC _,i1,hfp⟩ ?_
  clear hfp i2;rintro⟨k,F',m⟩ ⟨j1,j2,j3⟩;dsimp only at j1 j2 j3⊢
  by_cases c6:k<az.length
  ·obtain⟨b,off,rfl,_,hr⟩:=ow J
   obtain⟨bb,cb,q1,q2,q3⟩:=lI hr c6;have Hf:=nH.head az[k] (bV c6);have Xx:=nH.nf az[k] (bV c6);have ZP:=nH.MY az[k] (bV c6);rw[dJ c6,Q2]at j3;have eK:∀(L:List b9) (j:Nat) (v:Value),([ap av az[k].1,.slice bb az[k].2.length cb]:List Value)[j]?=ah v->At B L ⟨b,off+k*2+j,aj⟩ v:=fun L j v hj=>iv ho (q1 j v hj);have AX:=q3.flat akV;clear hr ow q1 q3;generalize az[k]=p at*;obtain⟨hd,body⟩:=p;dsimp only at*;obtain⟨hn,rfl⟩:∃hn:Nat,hd=hn:=⟨hd.toNat,by omega⟩;rw[cX]at Hf;have hsb:∀w' L,Mem B L w'->Sl w' (ak bb body.length cb) body.length (body.flatMap dS):=fun w' L hm=>AX.gr (ho.mem hm);have rv:=fun w' L (hm:Mem B L w') (hx:Sl w' (da n gM cM) M.length (M.map .bool))=>yS (da n gM cM) (ak bb body.length cb) M body aB w' hx (hsb w' L hm) (fun x hx fQ=>by have:=ZP x hx J;rw[hM];omega);rw[hM]at rv;have zv:=fun w' L (hm:Mem B L w') (hx:Sl w' (da n gE cE) E.length (E.map .bool)) (hy:Sl w' (da n gF cF) F'.length (F'.map ib))=>vP (da n gE cE) (da n gF cF) (da n gW cW) vR (da n gM cM) (ak bb body.length cb) E F' body 0 w' hx hy (hsb w' L hm) (by rw[hE,j2.1]) (fun x hx=>⟨fun h=>by have:=Xx x hx h;omega,fun h=>by have:=ZP x hx h;rw[j2.1];omega⟩) j2.2 akV;rw[hE,j2.1]at zv;unfold Fe at j3;dsimp only at j3;rw[cX]at j3;generalize iY M body aB=a1 at*;have Vo:eE E F' body 0<18446744073709551616:=pH j2 akV fun x hx h=>(Xx x hx h).2;generalize eE E F' body 0=bg at*
   repeat(first|refine GA ?_|refine gV (aR bI.eq aI.ty I I c6) ?_|refine gV (aU aI.ty I I (eK _)) ?_)
   clear eK;refine aY I fun g6=>?_;refine gG 6 ?_;refine zL ?_
   repeat(first|refine GA ?_|refine gV (aw aI.ty I (aE (i:=5) I I)) ?_|refine gV (aw aI.ty I (aE (i:=6) I I)) ?_)
   refine aW (ye aF.en I I I I) (fun w hm=>rv _ _ hm (kX (i:=3) I w hm)) I I I ?_;intro _ _;refine zL ?_
   cases a1
   ·rw[if_neg akV]at j3
    try refine GA ?_
    refine dv [0,1,2,3,4,5] ?_;exact bO (k+1,F',m) ⟨by omega,j2,j3⟩ (by show az.length-(k+1)<az.length-k;omega)
   rw[if_pos I]at j3;have V9:=Du (i:=hn) j2 Vo;have Hq:=fun w' B' hm=>FI n gF cF F' hn bg w' B' j2 Hf.2 Vo hm;generalize mR F' hn bg=ad at*;obtain⟨F2,ch⟩:=ad;dsimp only at*
   try refine GA ?_
   refine dK ([aO g3 (kB (da n gE cE) (da n gF cF) (da n gW cW) vR (da n gM cM)).cells 104,aO g6 #[ap av (hn:Int),ak bb body.length cb] 140]) (.calm 0 (.calm 1 (.calm 2 (.calm 3 (.calm 4 (.calm 5 (.calm 6 (.one 7 (.one 8 (.calm 9 (.calm 10 (.calm 11 (.calm 12 (.done)))))))))))))) (bZ [5,6]) ?_
   repeat(first|refine GW ?_|(refine GN ?_;first|refine QW (aw aI.ty I (aE (i:=0) I I)) ?_|refine QW (aw aI.ty I (aE (i:=1) I I)) ?_|refine QW (aL (i:=0) aI.ty I I I) ?_))
   refine aJ I ?_;refine aW (ye aF.en I I I I) (fun w hm=>zv _ _ hm (kX (i:=0) I w hm) (kX (i:=1) I w hm)) I I I ?_;intro _ _;refine zL ?_;refine aK (bZ [5,6]) ?_;refine aJ I ?_;refine bH [1] [0,2,3,4,5,6] akV I I (ye aF.en I I I I) (fun w hm hb=>Hq w _ hb) I I I ?_;intro _ _;refine zL ?_;refine aK (bZ [4,5]) ?_
   cases ch
   ·try refine GW ?_
    try refine GA ?_
    refine dv [0,6,1,2,3,4] ?_;exact bO (k+1,F2,aD||m) ⟨by omega,V9,j3⟩ (by show az.length-(k+1)<az.length-k;omega)
   try refine GW ?_
   try refine GA ?_
   refine dv [0,6,1,2,3,4] ?_;exact bO (k+1,F2,aB||m) ⟨by omega,V9,j3⟩ (by show az.length-(k+1)<az.length-k;omega)
  rw[fS J]at j3;have j3:(F',m)=(Fx,mx):=j3;simp only[iu]at j3;obtain⟨rfl,rfl⟩:=j3;obtain⟨d1,d2,d3,d4⟩:=hdone
  try refine GA ?_
  exact bO (F',m) ⟨d1,d2,d3⟩ d4
end cg
namespace cg
open Go.RowKit cT ey aM dx
def mS(n:Nat)(l:List aM.Prod):FS:=dx.fix (Iq l) (Aa n) ⟨db n aD,(db n aD).set 0 aB,db n aD,aD⟩
def BH(n:Nat)(l:List aM.Prod):List Nat:=ra (mS n l).E (mS n l).M l (db n 0)
def Ct(n:Nat)(l:List aM.Prod):List Nat:=vV (mS n l).E (BH n l) l ((db n 0).set 0 9223372036854775808)
structure FJ extends Rows4 where
 gR:Nat
 cR:Nat
def FJ.val(n:Nat)(x:FJ):Value:=kB (da n x.gE x.cE) (da n x.gF x.cF) (da n x.gW x.cW) (da n x.gR x.cR) (da n x.gM x.cM)
theorem II(a b c d e:Option Addr)(n1 n2 n3 n4 n5 c1 c2 c3 c4 c5:Nat)(w:World):(dm 104 #[(0,ak a n1 c1),(1,ak b n2 c2),(2,ak c n3 c3),(3,ak d n4 c4),(4,ak e n5 c5)]).run aC w= .ok (aP #[ak a n1 c1,ak b n2 c2,ak c n3 c3,ak d n4 c4,ak e n5 c5]) w:=by
 go_simp
def mkB(i d n:Nat):Mk:=⟨i,d,fun g=>ak (ah ⟨g,0,aj⟩) n n,fun g=>aO g (madeCells #[.bool aD] (n*1)) 4⟩
def mkN(i d n:Nat):Mk:=⟨i,d,fun g=>ak (ah ⟨g,0,aj⟩) n n,fun g=>aO g (madeCells #[.int .u64 0] (n*1)) 114⟩
def mkF(i d:Nat):Mk:=⟨i,d,fun g=>aH (ah ⟨g,0,aj⟩),fun g=>aO g #[ak aj 0 0,ak aj 0 0,ak aj 0 0,ak aj 0 0,ak aj 0 0] 104⟩
theorem sm{P:Program}{k:Nat}{W:b_}{Q:Exit->Act->World->Prop}{fr:Fr}{L:List b9}{c:Code}{i g m:Nat}{e:TypeId}{z:Value}(hi:L[i]?=ah (aO g (madeCells #[z] (m*1)) e))(hm:m<=9223372036854775807)(h:T P k W c Q fr (L.set i (bx e 1 (ak (ah ⟨g,0,aj⟩) m m) m (db m z)))):T P k W c Q fr L:=
 YP 1 hi (by rw[size_madeCells]) (aT _) hm (by
  have:(madeCells #[z] (m*1)).toList.take (m*1)=db m z:=by
   rw[aeT,Nat.mul_one,List.take_of_length_le (by simp)]
  rw[this];exact h)
theorem Al(v:Value)(g:dF)(w:World)(h:kw (fun k=>k<w.heap.size) w v g)(h_:cD g=0)(n:Nat)(hn:g.bB=n):
 Calls aC 42 #[v] w (dX ⟨fun(_:FJ)=>True,fun x=> .tuple #[x.val n,ap av 0],fun x=>[ep n x.gE x.cE (mS n g.az).E,iJ n x.gF x.cF (BH n g.az),iJ n x.gW x.cW (Ct n g.az),ep n x.gR x.cR (mS n g.az).R,ep n x.gM x.cM (mS n g.az).M]⟩ w):=by
 obtain⟨n1,n2,_,_,hlen,_⟩:=cz h_;have hcc:=fun w' L (hm:Mem w L w')=>iX v g w' (h.gr ((mv.self w).mem hm));rw[h_]at hcc;have h0:=h;obtain⟨vp,rfl,h1,_⟩:=h;obtain⟨bp,cp,rfl,Qg,He,ow⟩:=h1;unfold maxLen at He;obtain⟨t,nn,az⟩:=g;dsimp only at*;subst hn;refine enter (args:=[dD t (n:Int) (ak bp az.length cp)]) (n:=39) Tryz.func42 I I I ?_;refine bY (a_ (bQ I I I fun g1=>aY I fun g2=>?_));refine zL ?_
 repeat(first|refine GA ?_|refine gV (aL (i:=0) aI.ty I I I) ?_)
 refine aW (kZ aF.en I I) (fun w hm=>hcc _ _ hm) I I I ?_;intro _ _;refine zL ?_
 repeat(first|refine GA ?_|refine gV (aw aI.ty I (aE (i:=0) I I)) ?_)
 refine my (ι:=Nat×Nat×Nat×Nat×Nat×Nat) (fun _=>True) (fun(_,_,_,_,_,g6)=>[(1,aH (ah ⟨g1,0,aj⟩)),(2,aH (ah ⟨g2,0,aj⟩)),(6,aH (ah ⟨g6,0,aj⟩))])
  (fun(gE,gF,gW,gR,gM,g6)=>[aO g1 (dD t (n:Int) (ak bp az.length cp)).cells 33,aO g2 #[ak aj 0 0,ak aj 0 0,ak aj 0 0,ak aj 0 0,ak aj 0 0] 104,aO gE (madeCells #[.bool aD] (n*1)) 4,aO gF (madeCells #[.int .u64 0] (n*1)) 114,aO gW (madeCells #[.int .u64 0] (n*1)) 114,aO gR (madeCells #[.bool aD] (n*1)) 4,aO gM (madeCells #[.bool aD] (n*1)) 4,aO g6 (kB (da n gE n) (da n gF n) (da n gW n) (da n gR n) (da n gM n)).cells 104]) ?_ ?_
 rotate_left
 ·rintro⟨gE,gF,gW,gR,gM,g6⟩ _
  dsimp only;refine sm (i:=2) I J ?_;refine sm (i:=3) I J ?_;refine sm (i:=4) I J ?_;refine sm (i:=5) I J ?_;refine sm (i:=6) I J ?_
  conv=>arg 7;simp only[A',x8]
  rw[show db n (gd aD)=(db n aD).map .bool by simp,show db n (ap .u64 0)=(db n 0).map ib by simp[ib]];have hn0:0<n:=by omega
  repeat(first|refine GA ?_|refine gV (aw aI.ty I (aE (i:=7) I I)) ?_|refine gV (a8 (j:=0) bI.eq aI.ty I I hn0) ?_)
  refine kY (i:=5) aI.ty I I I I I I (by simpa using hn0) ?_
  repeat(first|refine GA ?_|refine gV (aw aI.ty I (aE (i:=7) I I)) ?_|refine gV (a8 (j:=0) bI.eq aI.ty I I hn0) ?_)
  refine kY (i:=4) aI.ty I I I I I I (by simpa using hn0) ?_
  conv=>arg 8;simp only[A',x8,cI]
  try refine GA ?_
  generalize lK:mS n az=fin;have nH:=wW (g:=⟨t,n,az⟩) h_ I;have yT:=yG nH;refine lX (ι:=FS) (fun s=>VK n s/\dx.fix (Iq az) (Aa n) s=fin) (fun _=>[(1,aH (ah ⟨g1,0,aj⟩)),(2,aH (ah ⟨g2,0,aj⟩)),(6,aH (ah ⟨g6,0,aj⟩))])
   (fun s=>[aO g1 (dD t (n:Int) (ak bp az.length cp)).cells 33,aO g2 #[ak aj 0 0,ak aj 0 0,ak aj 0 0,ak aj 0 0,ak aj 0 0] 104,ep n gE n s.E,iJ n gF n (db n 0),iJ n gW n ((db n 0).set 0 9223372036854775808),ep n gR n s.R,ep n gM n s.M,aO g6 (kB (da n gE n) (da n gF n) (da n gW n) (da n gR n) (da n gM n)).cells 104])
   (fun s=>Aa n s) ⟨db n aD,(db n aD).set 0 aB,db n aD,aD⟩ ⟨⟨by simp,by simp,by simp⟩,lK⟩ (by repeat' (first|exact cY|refine cK I ?_)) (by simp[ep,iJ,ib,o7]) ?_
  rintro⟨E,R,M,mo⟩ ⟨i1,i2⟩;dsimp only at i2⊢;have fZ:=fun w' B' (ho:mv w B') hm=>Ny w _ ⟨t,n,az⟩ h0 h_ n I ⟨gE,n,gR,n,gM,n⟩ (da n gF n) (da n gW n) E R M i1.1 i1.2.1 i1.2.2 w' B' ho hm;dsimp only at fZ
  repeat(first|refine GA ?_|refine gV (aL (i:=0) aI.ty I I I) ?_|refine gV (aL (i:=7) aI.ty I I I) ?_)
  refine bH [2,5,6] [0,1,3,4,7] akV I I (fP aF.en I I I) (fun w' hm hb=>fZ w' _ ((mv.self w).on hm (by intro o ho;simp at ho⊢;rcases ho with h|h|h<;>simp[h])) hb) I I I ?_;intro _ _;refine zL ?_;clear fZ;have hk:=q9 az ⟨E,R,M,aD⟩ nH i1;have hgo:(fh az ⟨E,R,M,aD⟩).more=aB->dx.fix (Iq az) (Aa n) (fh az ⟨E,R,M,aD⟩)=fin/\Aa n (fh az ⟨E,R,M,aD⟩)<Aa n ⟨E,R,M,mo⟩:=fun c=>⟨by rw[<-i2,Kh yT i1 c];rfl,yT.dec _ i1 c⟩;have hst:(fh az ⟨E,R,M,aD⟩).more=aD->fh az ⟨E,R,M,aD⟩=fin:=fun c=>by rw[<-i2,z8 (s:=(⟨E,R,M,mo⟩:FS)) c];rfl
  generalize fh az ⟨E,R,M,aD⟩=r at*;obtain⟨E',R',M',m'⟩:=r;dsimp only at hgo hst⊢
  cases m'
  ·have hst:=hst I
   have afa:=fun w' B' (ho:mv w B') hm=>Q4 w _ ⟨t,n,az⟩ h0 h_ n I ⟨gE,n,gF,n,gW,n,gM,n⟩ (da n gR n) E' (db n 0) ((db n 0).set 0 9223372036854775808) M' hk.1.1 ⟨by simp,fun x hx=>by rw[FB hx];decide⟩ ⟨by simp,fun x hx=>by
    rcases EL hx with h|h
    rw[FB h];decide;rw[h];decide⟩ hk.1.2.2 w' B' ho hm
   dsimp only at afa
   repeat(first|refine GA ?_|refine gV (aL (i:=0) aI.ty I I I) ?_|refine gV (aL (i:=4) aI.ty I I I) ?_)
   refine bH [5,2,3,7] [0,1,6,4] akV I I (fP aF.en I I I) (fun w' hm hb=>afa w' _ ((mv.self w).on hm (by intro o ho;simp at ho⊢;rcases ho with h|h|h|h<;>simp[h])) hb) I I I ?_;intro _ _;refine zL ?_
   repeat(first|refine GA ?_|refine gV (aL (i:=3) aI.ty I I I) ?_)
   refine gG 1 ?_;refine zL ?_
   try refine GA ?_
   subst hst;have eF:BH n az=ra E' M' az (db n 0):=by unfold BH;rw[lK]
   have eW:Ct n az=vV E' (ra E' M' az (db n 0)) az ((db n 0).set 0 9223372036854775808):=by unfold Ct;rw[eF,lK]
   rw[eF,eW];refine ez (i:=1) I I I I (z:=ap av 0) ?_ fun w' hm=>?_;rfl;exact hm.cZ (S:=⟨fun(_:FJ)=>True,fun x=> .tuple #[x.val n,ap av 0],fun x=>[ep n x.gE x.cE E',iJ n x.gF x.cF (ra E' M' az (db n 0)),iJ n x.gW x.cW (vV E' (ra E' M' az (db n 0)) az ((db n 0).set 0 9223372036854775808)),ep n x.gR x.cR R',ep n x.gM x.cM M']⟩) ⟨⟨gE,n,gF,n,gW,n,gM,n⟩,gR,n⟩ trivial [4,5,6,2,7] akV I
  try refine GA ?_
  refine dv [0,1,5,2,3,6,7,4] ?_;exact bO ⟨E',R',M',aB⟩ ⟨hk.1,(hgo I).1⟩ (hgo I).2
 refine Y3 [] Dn (by kernel_rfl) (by kernel_rfl) (by intro c a d v w h;cases d<;>exact h) ?_;refine rB 0 (by kernel_rfl) I (wN I) I I I ?_;refine rB 2 (by kernel_rfl) I (wN I) I I I ?_;refine rB 4 (by kernel_rfl) I (wN I) I I I ?_;refine rB 6 (by kernel_rfl) I (wN I) I I I ?_;refine rB 8 (by kernel_rfl) I (wN I) I I I ?_;refine MD [mkB 1 16 n,mkN 3 18 n,mkN 5 20 n,mkB 7 22 n,mkB 9 24 n,mkF 11 6] (fun m=>!Nat.beq m.i 11) 2 (by kernel_rfl) (by kernel_rfl) ?_ (fun q=>?_) fun q=>?_
 ·intro m hm
  simp only[df,fI,or_false]at hm;rcases hm with rfl|rfl|rfl|rfl|rfl|rfl
  exact oE I I I (aT _) J J I;exact oE I I I (aT _) J J I;exact oE I I I (aT _) J J I;exact oE I I I (aT _) J J I;exact oE I I I (aT _) J J I;exact H9 I I
 ·simp only[mkB,mkN,mkF,fw,mu]
  generalize q 1=gE;generalize q 3=gF;generalize q 5=gW;generalize q 7=gR;generalize q 9=gM;generalize q 11=g6;clear q;refine Ds (.calm 10 (.one 12 .done)) (by kernel_rfl) I ?_
  repeat(first|refine GW ?_|(refine GN ?_;first|refine QW (bz I (II _ _ _ _ _ _ _ _ _ _ _ _ _ _ _)) ?_))
  refine aJ I ?_;refine gG 7 ?_;refine aK Dn ?_
  try refine GW ?_
  exact e_ (gE,gF,gW,gR,gM,g6) trivial (by repeat' (first|exact cY|refine cK I ?_)) I
 ·rw[show List.filter (fun m:Mk=>!Nat.beq m.i 11) [mkB 1 16 n,mkN 3 18 n,mkN 5 20 n,mkB 7 22 n,mkB 9 24 n,mkF 11 6]=[mkB 1 16 n,mkN 3 18 n,mkN 5 20 n,mkB 7 22 n,mkB 9 24 n]from I]
  simp only[mkB,mkN,mkF,fw,mu];generalize q 1=gE;generalize q 3=gF;generalize q 5=gW;generalize q 7=gR;generalize q 9=gM;clear q;refine Ds (.calm 10 (.one 11 (.one 12 .done))) (by kernel_rfl) (by kernel_rfl) ?_
  repeat(first|refine GW ?_|(refine GN ?_;first|refine QW (bz I (II _ _ _ _ _ _ _ _ _ _ _ _ _ _ _)) ?_))
  refine aJ I ?_;refine aY I fun g6=>?_;refine aK Dn ?_;refine aJ I ?_;refine gG 7 ?_;refine aK Dn ?_
  try refine GW ?_
  exact e_ (gE,gF,gW,gR,gM,g6) trivial (by repeat' (first|exact cY|refine cK I ?_)) I
end cg
namespace cg
open aM dx dN ee
theorem aal{n:Nat}{l:List aM.Prod}(hf:C3 n l):zZ (Iq l) (fun s=>VK n s/\s.R.getD 0 aD=aB) (Aa n):=
 ⟨fun s hs=>⟨(yG hf).keep s hs.1,Ck l ⟨s.E,s.R,s.M,aD⟩ hs.2⟩,fun s hs=>(yG hf).dec s hs.1⟩
theorem BI{g:dF}{n:Nat}(h_:cD g=0)(hn:g.bB=n):i_ g.az (mS n g.az).E (BH n g.az) (Ct n g.az) (mS n g.az).R (mS n g.az).M:=by
 obtain⟨_,_,a3,_⟩:=cz h_;have hf:=wW h_ hn;have hS:ClosedS g.az (mS n g.az).E (mS n g.az).R (mS n g.az).M/\VK n (mS n g.az)/\(mS n g.az).R.getD 0 aD=true:=by
  obtain⟨s',h1,h2,h3⟩:=q8 (aal hf) _ ⟨db n aD,(db n aD).set 0 aB,db n aD,aD⟩ ⟨⟨by simp,by simp,by simp⟩,by
   rw[bD,ml (by simp;omega)];rfl⟩ (aT _)
  have e:mS n g.az=fh g.az ⟨s'.E,s'.R,s'.M,aD⟩:=h3;obtain⟨_,k2,k3,k4,k5⟩:=Ab g.az ⟨s'.E,s'.R,s'.M,aD⟩ h2;have hk:=(aal hf).keep s' h1;rw[e];refine⟨?_,hk⟩;rw[k2,k3,k4];exact k5
 obtain⟨hS1,hS2,hS3⟩:=hS;have hF:yE n (BH n g.az)/\∀p∈g.az,iY (mS n g.az).M p.2 aB=aB->(BH n g.az).getD p.1.toNat 0|||eE (mS n g.az).E (BH n g.az) p.2 0=(BH n g.az).getD p.1.toNat 0:=by
  obtain⟨s',h1,h2,h3⟩:=q8 (Ki (E:=(mS n g.az).E) (M:=(mS n g.az).M) hf) _ (db n 0) ⟨by simp,fun x hx=>by rw[FB hx];decide⟩ (aT _);obtain⟨_,h4,h5⟩:=vh _ _ _ h2;have h6:BH n g.az=s':=by unfold BH ra;rw[h3];exact h4
  rw[h6];exact⟨h1,h5⟩
 have hW:((Ct n g.az).getD 0 0).testBit 63=aB/\(∀p∈g.az,∀pre x post,p.2=pre++x::post->x.1=2->(Ct n g.az).getD x.2.toNat 0|||eE (mS n g.az).E (BH n g.az) post ((Ct n g.az).getD p.1.toNat 0)=(Ct n g.az).getD x.2.toNat 0)/\yE n (Ct n g.az):=by
  have AX:=Qn (E:=(mS n g.az).E) hF.1 hf;have ahS:zZ (fun W=>mL (mS n g.az).E (BH n g.az) g.az W aD) (fun W=>yE n W/\(W.getD 0 0).testBit 63=aB) nv:=⟨fun s hs=>⟨AX.keep s hs.1,Fg g.az s aD hs.2⟩,fun s hs=>AX.dec s hs.1⟩;obtain⟨s',h1,h2,h3⟩:=q8 ahS _ ((db n 0).set 0 9223372036854775808) ⟨⟨by simp,fun x hx=>by
   rcases EL hx with h|h
   rw[FB h];decide;rw[h];decide⟩,by rw[bD,ml (by simp;omega)];decide⟩ (aT _)
  obtain⟨_,h4,h5⟩:=vm _ _ _ h2;have h6:Ct n g.az=s':=by unfold Ct vV;rw[h3];exact h4
  rw[h6];exact⟨h1.2,h5,h1.1⟩
 exact⟨hS1,hF.2,hW.2.1,hS3,hW.1⟩
end cg
namespace cg
open Go.RowKit cT ey aM dN dx ee
theorem V_{x y:Nat}(hx:x<18446744073709551616)(hy:y<18446744073709551616):bits .and .u64 (x:Int) (y:Int)=((x&&&y:Nat):Int):=bits_and_u64_nat x y hx hy
theorem qq{L:List b9}{R:List Nat}{o:b9}(h:o∈R.filterMap fun i=>L[i]?):o∈L:=by
 obtain⟨i,_,hi⟩:=yQ.1 h;exact kO hi
end cg
namespace cg
open Go.RowKit cT ey aM
theorem adD{α:Type}{s:zk α}{F:Nat->Prop}{w:World}{v:Value}{l:List α}(h:kK s F w v l):v.oneCell'=true:=by
 obtain⟨b,c,rfl,_⟩:=h;rfl
theorem IJ(k q:Int)(w:World):(dm 148 #[(0,ap av k),(1,ap av q)]).run aC w= .ok (aP #[ap av k,ap av q]) w:=by
 go_simp
end cg
namespace cg
open Go.RowKit cT ey aM dx
section
variable{P:Program}{n:Nat}{W:b_}{fr:Fr}{L:List b9}{dst:Option Tmp}{ty:TypeId}{pos:String}{after:Array Edge}{guard:Option (Nat×Bool)}{t u:TypeId}{x y:Operand}{k:IntKind}{m m' r:Int}
theorem TQ(hx:ev fr x=ah (.int k m))(hy:ev fr y=ah (.int k m'))(h:bits .andNot k m m'=r):RR P n W ⟨dst,.binOp .andNot t x y u,ty,pos,after,guard⟩ fr L (.int k r):=JK (.inr (.inr (.inr I))) hx hy h
end
theorem Am{ι:Type}{S:Spec ι}{w w':World}{e:Ending}(h:dX S w e w'):cJ S w e w':=let ⟨x,h1,h2,h3⟩:=h;⟨x,h1,h2,h3.below,h3.aeX⟩
theorem Q5(w:World):(dm 104 (#[]:Array (Nat×Value))).run aC w= .ok (aP #[ak aj 0 0,ak aj 0 0,ak aj 0 0,ak aj 0 0,ak aj 0 0]) w:=by
 go_simp
theorem V'(v:Value)(g:dF)(w:World)(h:kw (fun k=>k<w.heap.size) w v g)(h0:cD g≠0):
 Calls aC 42 #[v] w (cJ (ret (.tuple #[kB (ak aj 0 0) (ak aj 0 0) (ak aj 0 0) (ak aj 0 0) (ak aj 0 0),ap av (cD g)])) w):=by
 have h_:=fun w' (hg:Gr w w')=>iX v g w' (h.gr hg);obtain⟨vp,rfl,h1,_⟩:=h;obtain⟨bp,cp,rfl,Qg,He,ow⟩:=h1;generalize cD g=e at*;obtain⟨t,n,az⟩:=g;dsimp only at*;refine enter (args:=[dD t n (ak bp az.length cp)]) (n:=39) Tryz.func42 I I I ?_;refine bY (a_ (bQ I I I fun g1=>aY I fun g2=>?_))
 repeat(first|refine GA ?_|refine gV (aL (i:=0) aI.ty I I I) ?_)
 refine aW (kZ aF.en I I) (fun w hm=>h_ _ hm.below) I I I ?_;intro _ _;refine zL ?_
 repeat(first|refine GA ?_|refine gV (bz I Q5) ?_)
 refine gG 1 ?_
 try refine GA ?_
 exact ez (i:=1) I I I I I fun w hm=>hm.ret
end cg
namespace cg
open Go.RowKit cT ey aM dx
def Hr(t n:Int):List bX->Int
 |[]=>0
 |x::r=>if right t n x=aB then Hr t n r else 1
theorem KJ{t n:Int}:∀{l:List bX},Hr t n l=0->∀x∈l,right t n x=aB
 |[],_,_,h=>by cases h
 | y ::r,h,x,hx=>by
  unfold Hr at h;split at h
  ·rename_i c
   rcases df.1 hx with rfl|hx
   exact c;exact KJ h x hx
  cases h
theorem KM{t n:Int}:∀{l:List bX},(∀x∈l,right t n x=aB)->Hr t n l=0
 |[],_=>rfl
 |y::r,h=>by unfold Hr;rw[if_pos (h y (by simp))];exact KM fun x hx=>h x (by simp[hx])
def vX(g:dF)(body:List bX):Int:=if cD g≠0 then cD g else if 60<body.length then 1 else Hr g.aQ g.bB body
def C7(g:dF)(body:List bX)(behind:Nat):Nat:=if vX g body=0 then eE (mS g.bB.toNat g.az).E (BH g.bB.toNat g.az) body behind else 0
theorem NA{t n:Int}{x:bX}(h:right t n x=aD):(x.1≠1/\x.1≠2)\/(x.1=1/\x.2<0)\/(x.1=1/\0<=x.2/\t<=x.2)\/(x.1=2/\x.2<0)\/(x.1=2/\0<=x.2/\n<=x.2):=by
 unfold right at h;split at h;simp at h;omega;split at h;simp at h;omega;omega
theorem oK{t n:Int}{x:bX}(h:right t n x=aB):(x.1=1/\0<=x.2/\x.2<t)\/(x.1=2/\0<=x.2/\x.2<n):=by
 unfold right at h;split at h;simp at h;omega;split at h;simp at h;omega;simp at h
theorem KN{g:dF}{n:Nat}(h_:cD g=0)(hn:g.bB=n):VK n (mS n g.az)/\yE n (BH n g.az):=by
 have hf:=wW h_ hn
 constructor
 ·obtain⟨s',h1,h2,h3⟩:=q8 (yG hf) _ ⟨db n aD,(db n aD).set 0 aB,db n aD,aD⟩ ⟨by simp,by simp,by simp⟩ (aT _)
  unfold mS;rw[h3];exact(yG hf).keep _ h1
 obtain⟨s',h1,h2,h3⟩:=q8 (Ki (E:=(mS n g.az).E) (M:=(mS n g.az).M) hf) _ (db n 0) ⟨by simp,fun x hx=>by rw[FB hx];decide⟩ (aT _);unfold BH ra;rw[h3];exact(Ki hf).keep _ h1
theorem sn(v vb:Value)(g:dF)(body:List bX)(behind:Nat)(w:World)(h:kw (fun k=>k<w.heap.size) w v g)(hs:Sl w vb body.length (body.flatMap dS))(hb:behind<18446744073709551616):
 Calls aC 84 #[v,vb,ib behind] w (cJ (ret (.tuple #[ib (C7 g body behind),ap av (vX g body)])) w):=by
 by_cases c0:cD g=0
 ·obtain⟨_,_,k1,k2,k3,k4⟩:=cz c0
  obtain⟨n,hn⟩:∃n:Nat,g.bB=n:=⟨g.bB.toNat,by omega⟩;have DB:=fun w' (hg:Gr w w')=>Al v g w' (h.gr hg) c0 n hn;obtain⟨hS,hF⟩:=KN c0 hn;obtain⟨vp,rfl,h1,_⟩:=h;obtain⟨bp,cp,rfl,Qg,He,ow⟩:=h1;clear ow;have SY:=hs;obtain⟨bb,cb,rfl,h4,h5,h6⟩:=hs;unfold maxLen at h5;obtain⟨t,nn,az⟩:=g;dsimp only at*;subst hn;have zv:=fun(vE vF vL vR vM:Value) w' (hg:Gr w w') (hE:Sl w' vE n ((mS n az).E.map .bool)) (hF2:Sl w' vF n ((BH n az).map ib)) mJ=>vP vE vF vL vR vM _ (mS n az).E (BH n az) body behind w' (by rw[hS.1];exact hE) (by rw[hF.1];exact hF2) (SY.gr hg) (by rw[hS.1,hF.1]) mJ hF.2 hb;rw[hF.1]at zv;have hV:C7 ⟨t,n,az⟩ body behind=if vX ⟨t,n,az⟩ body=0 then eE (mS n az).E (BH n az) body behind else 0:=rfl
  have hE:vX ⟨t,n,az⟩ body=if 60<body.length then 1 else Hr t n body:=by
   unfold vX;rw[if_neg (by rw[c0];simp)]
  generalize C7 ⟨t,n,az⟩ body behind=rV at*;generalize vX ⟨t,n,az⟩ body=rE at*;refine enter (args:=[dD t (n:Int) (ak bp az.length cp),ak bb body.length cb,ib behind]) (n:=71) Tryz.func84 I I I ?_;refine bY (a_ (bQ I I I fun g3=>?_))
  repeat(first|refine GA ?_|refine gV (aL (i:=0) aI.ty I I I) ?_)
  refine aW (kZ aF.en I I) (fun w' hm=>(DB w' hm.below).mono fun e w2 h=>Am h) I I I ?_;intro x _
  conv=>arg 8;simp only[zJ,dr,ret,id_eq,FJ.val]
  try refine GA ?_
  refine aY I fun g8=>?_;refine gG 6 ?_;refine zL ?_
  by_cases c1:60<body.length
  ·rw[if_pos c1]at hE
   subst hE;rw[if_neg akV]at hV;subst hV
   try refine GA ?_
   exact jJ I I I fun w hm=>hm.ret
  rw[if_neg c1]at hE
  try refine GA ?_
  refine dU (ι:=Nat) (fun k=>k<=body.length/\rE=Hr t n (body.drop k)) (fun k=>[(1,ak bb body.length cb),(2,ib behind),(3,aH (ah ⟨g3,0,aj⟩)),(8,aH (ah ⟨g8,0,aj⟩)),(23,ak bb body.length cb),(24,ap av body.length),(25,ap av (k:Int))])
   (fun _=>[aO g3 (dD t (n:Int) (ak bp az.length cp)).cells 33,ep n x.gE x.cE (mS n az).E,iJ n x.gF x.cF (BH n az),iJ n x.gW x.cW (Ct n az),ep n x.gR x.cR (mS n az).R,ep n x.gM x.cM (mS n az).M,aO g8 (kB (da n x.gE x.cE) (da n x.gF x.cF) (da n x.gW x.cW) (da n x.gR x.cR) (da n x.gM x.cM)).cells 104]) (fun k=>body.length-k) 0 ⟨bC _,hE⟩ ?_
  rintro k ⟨i1,i2⟩
  by_cases c6:k<body.length
  ·obtain⟨b,off,rfl,hr⟩:=h6 J
   have eK:=fun L=>hU (L:=L) mc hr c6;rw[dJ c6,Hr]at i2;clear h6 hr SY zv;generalize body[k]=y at*
   cases r:right t n y
   ·rw[if_neg (by rw[r];decide)]at i2
    clear hE;subst i2;rw[if_neg akV]at hV;subst hV;have r':=NA r;obtain⟨q,m⟩:=y;dsimp only at r';rcases r' with r'|r'|r'|r'|r'
    all_goals
     repeat(first|refine GA ?_|refine gV (aR bI.eq aI.ty I I c6) ?_|refine gV (aU aI.ty I I (eK _)) ?_)
     refine aY I fun g11=>?_;refine gG 7 ?_;refine zL ?_
     repeat(first|refine GA ?_|refine gV (aw aI.ty I (aE (i:=7) I I)) ?_|refine gV (aw aI.ty I (aE (i:=0) I I)) ?_)
     exact jJ I I I fun w hm=>hm.ret
   rw[if_pos r]at i2;have r':=oK r;obtain⟨q,m⟩:=y;dsimp only at r';rcases r' with r'|r'
   all_goals
    repeat(first|refine GA ?_|refine gV (aR bI.eq aI.ty I I c6) ?_|refine gV (aU aI.ty I I (eK _)) ?_)
    refine aY I fun g11=>?_;refine gG 7 ?_;refine zL ?_
    repeat(first|refine GA ?_|refine gV (aw aI.ty I (aE (i:=7) I I)) ?_|refine gV (aw aI.ty I (aE (i:=0) I I)) ?_)
    refine dv [0,1,2,3,4,5,6] ?_;exact bO (k+1) ⟨by omega,i2⟩ (by show body.length-(k+1)<body.length-k;omega)
  rw[fS J]at i2;have i2:rE=0:=by rw[i2];rfl
  have rv:∀x∈body,right t n x=true:=KJ (hE.symm.trans i2);clear hE;rw[if_pos i2]at hV;subst i2 hV
  repeat(first|refine GA ?_|refine gV (aL (i:=6) aI.ty I I I) ?_)
  refine aW (ye aF.en I I I I) (fun w hm=>zv _ _ _ _ _ w hm.below (kX (i:=1) I w hm) (kX (i:=2) I w hm) (fun x hx=>by have:=oK (rv x hx);omega)) I I I ?_;intro _ _
  try refine GA ?_
  exact jJ I I I fun w hm=>hm.ret
 ·have DB:=fun w' (hg:Gr w w')=>V' v g w' (h.gr hg) c0
  have hE:vX g body=cD g:=by unfold vX;rw[if_pos c0]
  have hV:C7 g body behind=0:=by unfold C7;rw[hE,if_neg c0]
  rw[hE,hV];obtain⟨vp,rfl,h1,_⟩:=h;obtain⟨bb,cb,rfl,_⟩:=hs;generalize cD g=e at*;obtain⟨t,n,az⟩:=g;dsimp only at*;refine enter (args:=[dD t n vp,ak bb body.length cb,ib behind]) (n:=71) Tryz.func84 I I I ?_;refine bY (a_ (bQ I I I fun g3=>?_))
  repeat(first|refine GA ?_|refine gV (aL (i:=0) aI.ty I I I) ?_)
  refine aW (kZ aF.en I I) (fun w hm=>DB _ hm.below) I I I ?_;intro _ _
  try refine GA ?_
  refine aY I fun g8=>?_;refine gG 1 ?_
  try refine GA ?_
  exact jJ I I I fun w hm=>hm.ret
end cg
namespace cg
open Go.RowKit cT ey aM ee
theorem aam:laidOutB aC=true:=by kernel_rfl
theorem TR:(146:TypeId)<aC.types.size:=of_decide_eq_true (by kernel_rfl)
theorem aan:(match aC.underlying 146 with|some (.array _ _)|some (.struct _)=>aB|_=>aD)=true:=by kernel_rfl
def Cu(x:Span):Value:=aP #[ap av x.1,ap av x.2.1,ap av x.2.2]
theorem aao(x:Span)(h:cT.dM x.1/\cT.dM x.2.1/\cT.dM x.2.2):∃l,keyOf aC 146 (Cu x)=ah l:=by
 obtain⟨a,b,c⟩:=x;obtain⟨h1,h2,h3⟩:=h;have e1:aC.keyType 146=true:=by kernel_rfl
 have e2:aC.cellsOf 146=3:=by kernel_rfl
 have e3:aC.cellsOf 3=1:=by kernel_rfl
 have e4:∃d,aC.types.size+1=d+2:=⟨aC.types.size-1,by have:0<aC.types.size:=Bn (bC 146) TR;omega⟩;obtain⟨d,e4⟩:=e4;have key:∀n:Int,cT.dM n->aC.keyLits (d+1) 3 [.int .i64 n]=ah [.int .i64 n]:=fun n hn=>by
  have hw:(Lit.int .i64 n).wf=true:=by
   have h0: -9223372036854775808<=n:=hn.1;have h1:n<=9223372036854775807:=hn.2;simp[Lit.wf,D_,Ea,sQ,lU,h0,h1]
  simp[uA,Tryz.underlying3,hw]
 refine⟨.string (keyBytes ([.int .i64 a,.int .i64 b,.int .i64 c])),?_⟩;have hl:aC.keyLits (d+2) 146 [.int .i64 a,.int .i64 b,.int .i64 c]=ah [.int .i64 a,.int .i64 b,.int .i64 c]:=by
  unfold uA;simp[Tryz.underlying146,e2,e3,key _ h1,key _ h2,key _ h3]
 have hf:(Cu (a,b,c)).formed aC 146=true:=by simp[Cu,Z0,Tryz.underlying146,e2]
 unfold keyOf;rw[Tryz.underlying146];show(if(aC.keyType 146&&(Cu (a,b,c)).formed aC 146)=aB then(aC.keyLits (aC.types.size+1) 146 [.int .i64 a,.int .i64 b,.int .i64 c]).map (fun ls=>ZZ (keyBytes ls))else aj)=_
 rw[e1,hf,e4,hl];rfl
set_option maxRecDepth 100000 in
def xK:yl aC 146 Span where
 kv:=Cu
 ok x:=cT.dM x.1/\cT.dM x.2.1/\cT.dM x.2.2
 law:=deep_law_laid aam (m:=2) J TR (by kernel_rfl) aan
 key:=aao
 inj x y h:=by
  obtain⟨a,b,c⟩:=x;obtain⟨a',b',c'⟩:=y;simp only[Cu,nb,oX,fg,Fz,true_and,and_true]at h;simp[h]
theorem An(w:World):(zeroValue 3).run aC w= .ok (ap av 0) w:=by kernel_rfl
theorem KO{m:Int}{a b:Nat}(h:cT.dM m)(ha:a<=9223372036854775807)(hb:b<=9223372036854775807):xK.ok (m,(a:Int),(b:Int)):=by
 show cT.dM m/\cT.dM (a:Int)/\cT.dM (b:Int)
 exact⟨h,⟨by omega,by omega⟩,⟨by omega,by omega⟩⟩
def BJ(gm:Nat)(c:fA)(B:Nat):b9:=oV xK gm (ap av 0) (fun x=>ap av (c x:Int)) B
def FK(t n:Int)(vp vw:Value)(gm:Nat):Array Value:=#[ap av t,ap av n,vp,vw,.map (ah gm)]
structure ChR(w:World)(gc gm:Nat)(t n:Int)(vp vw:Value)(word:List Int)(c:fA)(B:Nat):Prop where
 cell:w.heap[gc]?=ah (.cells (FK t n vp vw gm) 144 (0,0))
 map:(BJ gm c B).holds w
 word:Sl w vw word.length (word.map (.int .i64))
theorem ChR.gr{w w':World}{gc gm:Nat}{t n:Int}{vp vw:Value}{word:List Int}{c:fA}{B:Nat}(h:ChR w gc gm t n vp vw word c B)(hg:Gr w w'):ChR w' gc gm t n vp vw word c B:=
 ⟨(hg.block gc (kq.1 h.cell).1).trans h.cell,(BJ gm c B).stay w w' h.map hg.size fun k hk=>hg.block k ((BJ gm c B).lt w h.map k hk),h.word.gr hg⟩
theorem KP(m:Int)(w:World):Calls aC 134 #[ap av m] w (cJ (ret (ap av (min m 2))) w):=by
 refine enter (args:=[ap av m]) (n:=5) Tryz.func134 I I I ?_
 repeat(first|refine GC ?_|refine gV (PN I I I) ?_|refine GB ?_)
 exact dR
theorem NB{t:Int}{l:List Int}{k:Nat}(h:k<l.length):jP t (l.drop k)=if l[k]<0 then 1 else if t<=l[k]then 1 else jP t (l.drop (k+1)):=by
 rw[dJ h,jP]
theorem Q6{W:World}{L:List b9}{b off:Nat}{l:List Int}(h:Rd W b off (l.map (.int .i64))){k:Nat}(hk:k<l.length):At W L ⟨b,off+k,aj⟩ (ap av l[k]):=jp h (by simp[hk])
theorem Ao(v vw:Value)(g:dF)(word:List Int)(w:World)(h:kw (fun k=>k<w.heap.size) w v g)(hs:Sl w vw word.length (word.map (.int .i64))):
 Calls aC 51 #[v,vw] w (cJ (ret (ap av (fB g word))) w):=by
 have h_:=fun w' (hg:Gr w w')=>iX v g w' (h.gr hg);obtain⟨vp,rfl,_,_⟩:=h;obtain⟨bw,cw,rfl,h1,h2,h3⟩:=hs;unfold maxLen at h2;have hE:fB g word=if cD g≠0 then cD g else if 20<word.length then 2 else jP g.aQ word:=rfl
 generalize fB g word=e at*;generalize cD g=c at*;obtain⟨t,n,az⟩:=g;dsimp only at*;refine enter (args:=[dD t n vp,ak bw word.length cw]) (n:=31) Tryz.func51 I I I ?_;refine bY (a_ (bQ I I I fun g2=>?_))
 repeat(first|refine GA ?_|refine gV (aL (i:=0) aI.ty I I I) ?_)
 refine aW (kZ aF.en I I) (fun w hm=>h_ _ hm.below) I I I ?_;intro _ _
 by_cases c0:c=0
 ·rw[if_neg (by simpa using c0)]at hE
  by_cases c1:20<word.length
  ·rw[if_pos c1]at hE
   subst hE
   try refine GA ?_
   exact dR
  rw[if_neg c1]at hE;refine zL ?_
  try refine GA ?_
  refine dU (ι:=Nat) (fun k=>k<=word.length/\e=jP t (word.drop k)) (fun k=>[(2,aH (ah ⟨g2,0,aj⟩)),(16,ak bw word.length cw),(17,ap av word.length),(18,ap av (k:Int))])
   (fun _=>[aO g2 (dD t n vp).cells 33]) (fun k=>word.length-k) 0 ⟨bC _,hE⟩ ?_
  clear hE h_;rintro k ⟨i1,i2⟩
  by_cases c6:k<word.length
  ·obtain⟨b,off,rfl,hr⟩:=h3 J
   have eK:=fun L=>Q6 (L:=L) hr c6;rw[NB c6]at i2;generalize word[k]=x at*
   by_cases c7:x<0
   ·rw[if_pos c7]at i2
    subst i2
    repeat(first|refine GA ?_|refine gV (a8 bI.eq aI.ty I I c6) ?_|refine gV (aw aI.ty I (eK _)) ?_|refine gV (aw aI.ty I (aE (i:=0) I I)) ?_)
    exact dR
   rw[if_neg c7]at i2
   by_cases c8:t<=x
   ·rw[if_pos c8]at i2
    subst i2
    repeat(first|refine GA ?_|refine gV (a8 bI.eq aI.ty I I c6) ?_|refine gV (aw aI.ty I (eK _)) ?_|refine gV (aw aI.ty I (aE (i:=0) I I)) ?_)
    exact dR
   rw[if_neg c8]at i2
   repeat(first|refine GA ?_|refine gV (a8 bI.eq aI.ty I I c6) ?_|refine gV (aw aI.ty I (eK _)) ?_|refine gV (aw aI.ty I (aE (i:=0) I I)) ?_)
   exact bO (k+1) ⟨by omega,i2⟩ (by show word.length-(k+1)<word.length-k;omega)
  rw[fS J]at i2;have i2:e=0:=i2;subst i2
  try refine GA ?_
  exact dR
 ·rw[if_pos (by simpa using c0)]at hE
  subst hE
  try refine GA ?_
  exact dR
theorem yU(a b c:Int)(w:World):(dm 146 #[(0,ap av a),(1,ap av b),(2,ap av c)]).run aC w= .ok (Cu (a,b,c)) w:=by
 unfold Cu
 go_simp
attribute [local irreducible] Instr.build in
theorem IK(gc gm:Nat)(t n:Int)(vp vw:Value)(word:List Int)(c:fA)(B:Nat)(x:bX)(a b:Nat)(w:World)(h:ChR w gc gm t n vp vw word c B)(hx:cT.dM x.2)(se:a<=b)(hb:b<=word.length)(hw:word.length<=20):
 Calls aC 94 #[aH (ah ⟨gc,0,aj⟩),aP (dS x).toArray,ap av (a:Int),ap av (b:Int)] w (cJ (ret (ap av (eo c word x a b:Nat))) w):=by
 obtain⟨hc,ahT,hs⟩:=h;have h3:∀(L:List b9),At w L ⟨gc,3,aj⟩ vw:=fun L=>hJ (by rw[cell_of_row w gc 3 _ _ _ hc];rfl);have h4:∀(L:List b9),At w L ⟨gc,4,aj⟩ (.map (ah gm)):=fun L=>hJ (by rw[cell_of_row w gc 4 _ _ _ hc];rfl);have He:∀(L:List b9) w',Mem w L w'->(BJ gm c B).holds w':=fun L w' hm=>(BJ gm c B).stay w w' ahT hm.below.size fun k hk=>hm.below.block k ((BJ gm c B).lt w ahT k hk);obtain⟨bw,cw,rfl,h5,h6,h7⟩:=hs;unfold maxLen at h6;obtain⟨q,m⟩:=x;dsimp only at hx;refine enter (args:=[aH (ah ⟨gc,0,aj⟩),aP (dS (q,m)).toArray,ap av (a:Int),ap av (b:Int)]) (n:=38) Tryz.func94 I I I ?_;refine bY (a_ (bQ I I I fun g5=>?_));unfold eo;dsimp only
 by_cases c1:q=2
 ·rw[if_pos c1]
  repeat(first|refine GA ?_|refine gV (aw aI.ty I (aE (i:=0) I I)) ?_)
  refine dK ([aO g5 (dS (q,m)).toArray 148]) (.calm 0 (.calm 1 (.calm 2 (.calm 3 (.calm 4 (.calm 5 (.calm 6 (.calm 7 (.calm 8 (.calm 9 (.calm 10 (.done)))))))))))) (fun _ h=>h) ?_
  repeat(first|refine GW ?_|(refine GN ?_;first|refine QW (aw aI.ty I (aE (i:=0) I I)) ?_|refine QW (aw aI.ty I (h4 _)) ?_|refine QW (bz I (yU _ _ _)) ?_|refine QW (EA (x:=(m,(a:Int),(b:Int))) xK bI.eq An (He _) I I (KO hx J J) I) ?_))
  try refine GA ?_
  exact dR
 ·rw[if_neg c1]
  by_cases c2:b=a+1
  ·have hlt:a<word.length:=by omega
   obtain⟨b',off,rfl,hr⟩:=h7 J;have eK:=fun L=>Q6 (L:=L) hr hlt;rw[bm hlt];generalize word[a]=y at*
   by_cases c3:y=m
   ·rw[if_pos ⟨c2,by rw[c3]⟩]
    repeat(first|refine GA ?_|refine gV (aw aI.ty I (aE (i:=0) I I)) ?_)
    refine dK ([aO g5 (dS (q,m)).toArray 148]) (.calm 0 (.calm 1 (.calm 2 (.calm 3 (.calm 4 (.calm 5 (.calm 6 (.calm 7 (.calm 8 (.calm 9 (.calm 10 (.calm 11 (.calm 12 (.calm 13 (.calm 14 (.calm 15 (.done))))))))))))))))) (fun _ h=>h) ?_
    repeat(first|refine GW ?_|(refine GN ?_;first|refine QW (aw aI.ty I (aE (i:=0) I I)) ?_|refine QW (aw aI.ty I (h3 _)) ?_|refine QW (aw aI.ty I (eK _)) ?_|refine QW (a8 bI.eq aI.ty I I hlt) ?_))
    try refine GA ?_
    exact dR
   rw[if_neg (fun h=>c3 (by simpa using h.2))]
   repeat(first|refine GA ?_|refine gV (aw aI.ty I (aE (i:=0) I I)) ?_)
   refine dK ([aO g5 (dS (q,m)).toArray 148]) (.calm 0 (.calm 1 (.calm 2 (.calm 3 (.calm 4 (.calm 5 (.calm 6 (.calm 7 (.calm 8 (.calm 9 (.calm 10 (.calm 11 (.calm 12 (.calm 13 (.calm 14 (.calm 15 (.done))))))))))))))))) (fun _ h=>h) ?_
   repeat(first|refine GW ?_|(refine GN ?_;first|refine QW (aw aI.ty I (aE (i:=0) I I)) ?_|refine QW (aw aI.ty I (h3 _)) ?_|refine QW (aw aI.ty I (eK _)) ?_|refine QW (a8 bI.eq aI.ty I I hlt) ?_))
   try refine GA ?_
   exact dR
  rw[if_neg (fun h=>c2 h.1)]
  repeat(first|refine GA ?_|refine gV (aw aI.ty I (aE (i:=0) I I)) ?_)
  refine dK ([aO g5 (dS (q,m)).toArray 148]) (.calm 0 (.calm 1 (.calm 2 (.calm 3 (.calm 4 (.calm 5 (.calm 6 (.calm 7 (.calm 8 (.calm 9 (.calm 10 (.calm 11 (.calm 12 (.calm 13 (.calm 14 (.calm 15 (.done))))))))))))))))) (fun _ h=>h) ?_
  repeat(first|refine GW ?_|(refine GN ?_;first|refine QW (aw aI.ty I (aE (i:=0) I I)) ?_))
  try refine GA ?_
  exact dR
end cg
namespace bP
open aM dN c_
abbrev Item:=Int×Int×Int
def vY(a b:Int):Int:=if a<b then-1 else if b<a then 1 else 0
def NC(a b:Item):Int:=if vY a.1 b.1≠0 then vY a.1 b.1 else if vY a.2.1 b.2.1≠0 then vY a.2.1 b.2.1 else vY a.2.2 b.2.2
def Q7(a b:Item):Bool:=decide (NC a b<0)
theorem TS(a b:Item):Q7 a b=aB↔a.1<b.1\/(a.1=b.1/\(a.2.1<b.2.1\/(a.2.1=b.2.1/\a.2.2<b.2.2))):=by
 unfold Q7 NC vY;rw[decide_eq_true_eq]
 repeat' split
 all_goals omega
theorem Q8(a b:Item):Q7 a b=aD↔¬(a.1<b.1\/(a.1=b.1/\(a.2.1<b.2.1\/(a.2.1=b.2.1/\a.2.2<b.2.2)))):=by
 rw[<-TS,Bool.not_eq_true]
def Pe(a b:Item):Bool:=!Q7 b a
theorem DC(a b:Item):Pe a b=aB↔¬(b.1<a.1\/(b.1=a.1/\(b.2.1<a.2.1\/(b.2.1=a.2.1/\b.2.2<a.2.2)))):=by
 unfold Pe;rw[Bool.not_eq_true',Q8]
theorem Wa(a b c:Item)(h1:Pe a b=aB)(h2:Pe b c=aB):Pe a c=true:=by
 rw[DC]at*;omega
theorem Wb(a b:Item):(Pe a b||Pe b a)=true:=by
 rw[lZ,DC,DC];omega
theorem ND{a b:Item}(h1:Pe a b=aB)(h2:Pe b a=aB):a=b:=by
 rw[DC]at*;obtain⟨a1,a2,a3⟩:=a;obtain⟨b1,b2,b3⟩:=b;dsimp only at h1 h2;rw[iu,iu];omega
theorem Wc(x y:Item)(h1:Q7 x y=aD)(h2:Q7 y x=aD):x=y:=ND (by unfold Pe;rw[h2];rfl) (by unfold Pe;rw[h1];rfl)
def agr(l:List Item):Prop:=l.Pairwise fun a b=>Q7 a b=aB
theorem TT(a:Item):Q7 a a=false:=by rw[Q8];omega
theorem ags{a b c:Item}(h1:Q7 a b=aB)(h2:Q7 b c=aB):Q7 a c=true:=by
 rw[TS]at*;omega
theorem We{l:List Item}(h:agr l):l.Nodup:=h.imp fun {a b} se e=>by subst e;rw[TT]at se;cases se
def vZ(l:List Item):List Item:=l.mergeSort Pe
theorem aap{l:List Item}{x:Item}:x∈vZ l↔x∈l:=(Z3 l Pe).mem_iff
theorem NE(l:List Item):(vZ l).length=l.length:=List.length_mergeSort _
theorem aaq{l:List Item}(h:l.Nodup):agr (vZ l):=by
 have h1:(vZ l).Pairwise fun a b=>Pe a b=true:=List.pairwise_mergeSort Wa Wb l;have h2:(vZ l).Nodup:=(Z3 l Pe).nodup_iff.2 h;refine(h1.and h2).imp fun {a b} se=>?_
 cases e:Q7 a b with
 |true=>rfl
 |false=>exact absurd (ND se.1 (by unfold Pe;rw[e];rfl)) se.2
section
variable(l:List aM.Prod)(T:Nat)(lk:Int->Int->Nat)
def dA(p:Int):List bX:=if p=(l.length:Int)then [(2,0)]else(bJ l p).2
def ki(it:Item):Option bX:=(dA l it.1)[it.2.1.toNat]?
def pc(it:Item):Nat:=if(lk it.1 it.2.1).testBit 62=aB then(lk it.1 it.2.1^^^2^62)|||2^it.2.2.toNat else lk it.1 it.2.1
def fL(i:Nat)(bits:Nat)(out:List Item):Nat->List Item
 |0=>out
 |k+1=>if bits.testBit k=aB then more (fL i bits out k) ((i:Int),0,(k:Int))else fL i bits out k
def fM(N:Int)(bits:Nat)(out:List Item):Nat->List Item
 |0=>out
 |i+1=>if(bJ l (i:Int)).1=N then fL i bits (fM N bits out i) (T+1)else fM N bits out i
def v7(it:Item)(out:List Item):List Item:=match ki l it with
 |some x=>if x.1=2 then fM l T x.2 (pc lk it) out l.length else out
 |none=>out
def uc:Nat->Nat->List Item->List Item
 |0,_,out=>out
 |f+1,n,out=>if n<out.length then uc f (n+1) (v7 l T lk (out.getD n (0,0,0)) out)else out
def jq(l0:List Item):List Item:=vZ (uc l T lk 12000 0 (dO [] l0))
def C8(it x:Item):Prop:=∃N:Int,∃i k:Nat,ki l it=ah (2,N)/\i<l.length/\(bJ l (i:Int)).1=N/\k<=T/\(pc lk it).testBit k=aB/\x=((i:Int),0,(k:Int))
inductive Cl(l0:List Item):Item->Prop
 |base {x:Item} (h:x∈l0):Cl l0 x
 |step {it x:Item} (h:Cl l0 it) (hx:C8 l T lk it x):Cl l0 x
def eg(it:Item):Prop:=0<=it.1/\it.1<=(l.length:Int)/\0<=it.2.1/\it.2.1<=((dA l it.1).length:Int)/\0<=it.2.2/\it.2.2<=(T:Int)
end
section
variable{l:List aM.Prod}{T:Nat}{lk:Int->Int->Nat}
theorem v8{i bits:Nat}{out:List Item}{x:Item}:∀k,x∈fL i bits out k↔x∈out\/∃j,j<k/\bits.testBit j=aB/\x=((i:Int),0,(j:Int))
 |0=>⟨.inl,fun h=>h.elim id fun⟨j,hj,_⟩=>absurd hj (ni j)⟩
 | k + 1=>by
  rw[fL]
  by_cases c:bits.testBit k=aB
  ·rw[if_pos c,uQ,v8 k]
   constructor
   ·rintro((h|⟨j,h1,h2⟩)|h)
    exact .inl h;exact .inr ⟨j,by omega,h2⟩;exact .inr ⟨k,by omega,c,h⟩
   rintro(h|⟨j,h1,h2,h3⟩);exact .inl (.inl h)
   by_cases e:j=k
   subst e;exact .inr h3;exact .inl (.inr ⟨j,by omega,h2,h3⟩)
  rw[if_neg c,v8 k]
  constructor
  ·rintro(h|⟨j,h1,h2⟩)
   exact .inl h;exact .inr ⟨j,by omega,h2⟩
  rintro(h|⟨j,h1,h2,h3⟩);exact .inl h
  by_cases e:j=k
  subst e;exact absurd h2 c;exact .inr ⟨j,by omega,h2,h3⟩
theorem Cv(i bits:Nat)(out:List Item):∀k,∃E,fL i bits out k=out++E
 |0=>⟨[],(dQ _).symm⟩
 | k +1=>by
  rw[fL];obtain⟨E,h⟩:=Cv i bits out k;split
  ·obtain⟨E2,h2⟩:=ED (fL i bits out k) (((i:Int),0,(k:Int)):Item)
   exact⟨E++E2,by rw[h2,h,dL]⟩
  exact⟨E,h⟩
theorem rL{i bits:Nat}{out:List Item}(h:out.Nodup):∀k,(fL i bits out k).Nodup
 |0=>h
 |k+1=>by
  rw[fL];split;exact EE (rL h k);exact rL h k
theorem v_{N:Int}{bits:Nat}{out:List Item}{x:Item}:∀n,x∈fM l T N bits out n↔x∈out\/∃i k:Nat,i<n/\(bJ l (i:Int)).1=N/\k<=T/\bits.testBit k=aB/\x=((i:Int),0,(k:Int))
 |0=>⟨.inl,fun h=>h.elim id fun⟨j,_,hj,_⟩=>absurd hj (ni j)⟩
 | n + 1=>by
  rw[fM]
  by_cases c:(bJ l (n:Int)).1=N
  ·rw[if_pos c,v8,v_ n]
   constructor
   ·rintro((h|⟨i,k,h1,h2⟩)|⟨j,h1,h2,h3⟩)
    exact .inl h;exact .inr ⟨i,k,by omega,h2⟩;exact .inr ⟨n,j,by omega,c,by omega,h2,h3⟩
   rintro(h|⟨i,k,h1,h2,h3,h4,h5⟩);exact .inl (.inl h)
   by_cases e:i=n
   subst e;exact .inr ⟨k,by omega,h4,h5⟩;exact .inl (.inr ⟨i,k,by omega,h2,h3,h4,h5⟩)
  rw[if_neg c,v_ n]
  constructor
  ·rintro(h|⟨i,k,h1,h2⟩)
   exact .inl h;exact .inr ⟨i,k,by omega,h2⟩
  rintro(h|⟨i,k,h1,h2,h3⟩);exact .inl h
  by_cases e:i=n
  subst e;exact absurd h2 c;exact .inr ⟨i,k,by omega,h2,h3⟩
theorem wa(N:Int)(bits:Nat)(out:List Item):∀n,∃E,fM l T N bits out n=out++E
 |0=>⟨[],(dQ _).symm⟩
 | n +1=>by
  rw[fM];obtain⟨E,h⟩:=wa N bits out n;split
  ·obtain⟨E2,h2⟩:=Cv n bits (fM l T N bits out n) (T+1)
   exact⟨E++E2,by rw[h2,h,dL]⟩
  exact⟨E,h⟩
theorem rM{N:Int}{bits:Nat}{out:List Item}(h:out.Nodup):∀n,(fM l T N bits out n).Nodup
 |0=>h
 |n+1=>by
  rw[fM];split;exact rL (rM h n) _;exact rM h n
theorem DD{it:Item}{out:List Item}{x:Item}:x∈v7 l T lk it out↔x∈out\/C8 l T lk it x:=by
 unfold v7 C8
 cases e:ki l it with
 |none=>exact⟨.inl,fun h=>h.elim id fun⟨_,_,_,h,_⟩=>by cases h⟩
 | some s=>
  obtain⟨k,N⟩:=s;dsimp only
  by_cases c:k=2
  ·subst c
   rw[if_pos I,v_]
   constructor
   ·rintro(h|⟨i,j,h1,h2,h3,h4,h5⟩)
    exact .inl h;exact .inr ⟨N,i,j,rfl,h1,h2,h3,h4,h5⟩
   rintro(h|⟨N',i,j,h0,h1,h2,h3,h4,h5⟩);exact .inl h;simp only[dg,iu,true_and]at h0;subst h0;exact .inr ⟨i,j,h1,h2,h3,h4,h5⟩
  rw[if_neg c];refine⟨.inl,fun h=>h.elim id fun⟨N',_,_,h,_⟩=>?_⟩;simp only[dg,iu]at h;exact absurd h.1 c
theorem adE(it:Item)(out:List Item):∃E,v7 l T lk it out=out++E:=by
 unfold v7;split
 ·split
  exact wa _ _ _ _;exact⟨[],(dQ _).symm⟩
 exact⟨[],(dQ _).symm⟩
theorem Wf{it:Item}{out:List Item}(h:out.Nodup):(v7 l T lk it out).Nodup:=by
 unfold v7;split
 ·split
  exact rM h _;exact h
 exact h
theorem nj{p:Int}(hw:∀q∈l,q.2.length<=8):(dA l p).length<=8:=by
 unfold dA;split
 decide
 unfold bJ;rw[bD]
 cases e:l[p.toNat]? with
 |none=>exact bC _
 |some q=>exact hw q (kO e)
theorem Wg{it x:Item}(h:C8 l T lk it x):eg l T x:=by
 obtain⟨N,i,k,_,h2,_,h4,_,rfl⟩:=h;exact⟨by dsimp only;omega,by dsimp only;omega,kz _,by dsimp only;omega,by dsimp only;omega,by dsimp only;omega⟩
theorem Ap{l0:List Item}(h0:∀x∈l0,eg l T x){x:Item}(h:Cl l T lk l0 x):eg l T x:=by
 cases h with
 |base h=>exact h0 x h
 |step _ hx=>exact Wg hx
theorem BK{out:List Item}(hw:∀q∈l,q.2.length<=8)(hl:l.length<=40)(hT:T<=30)(hn:out.Nodup)(hr:∀x∈out,eg l T x):out.length<=11439:=by
 have:=oD (l:=out.map fun x:Item=>x.1.toNat*279+x.2.1.toNat*31+x.2.2.toNat) (m:=11439) ?_ ?_
 rwa [dw]at this
 ·rw[List.nodup_iff_pairwise_ne,List.pairwise_map]
  refine(ago.1 hn).imp fun {a b} se e=>se.2.2 ?_;have ha:=hr a se.1;have hb:=hr b se.2.1;have ha8:=nj (p:=a.1) hw;have hb8:=nj (p:=b.1) hw;unfold eg at ha hb;obtain⟨a1,a2,a3⟩:=a;obtain⟨b1,b2,b3⟩:=b;dsimp only at*;rw[iu,iu];omega
 intro x hx;obtain⟨a,ha,rfl⟩:=eI.1 hx;have h1:=hr a ha;have h8:=nj (p:=a.1) hw;unfold eg at h1;omega
structure WkI(l:List aM.Prod)(T:Nat)(lk:Int->Int->Nat)(l0:List Item)(n:Nat)(out:List Item):Prop where
 nd:out.Nodup
 le:n<=out.length
 has:∀x∈l0,x∈out
 cl:∀x∈out,Cl l T lk l0 x
 shut:∀j (h:j<out.length),j<n->∀x,C8 l T lk out[j] x->x∈out
theorem TU{l0:List Item}{n:Nat}{out:List Item}(h:WkI l T lk l0 n out)(hn:n<out.length):WkI l T lk l0 (n+1) (v7 l T lk out[n] out):=by
 obtain⟨E,hE⟩:=adE (l:=l) (T:=T) (lk:=lk) out[n] out;have hlen:out.length<=(v7 l T lk out[n] out).length:=by rw[hE,bK];omega
 have rI:∀j (h:j<out.length),(v7 l T lk out[n] out)[j]' J=out[j]:=fun j hj=>by
  simp only[hE,List.getElem_append_left hj]
 refine⟨Wf h.nd,by omega,fun x hx=>DD.2 (.inl (h.has x hx)),fun x hx=>?_,fun j hj hjn x hx=>?_⟩
 ·rcases DD.1 hx with h1|h1
  exact h.cl x h1;exact .step (h.cl _ (bV hn)) h1
 have qL:j<out.length:=by omega
 rw[rI j qL]at hx
 by_cases e:j=n
 subst e;exact DD.2 (.inr hx);exact DD.2 (.inl (h.shut j qL J x hx))
theorem FL{l0:List Item}(hw:∀q∈l,q.2.length<=8)(hl:l.length<=40)(hT:T<=30)(h0:∀x∈l0,eg l T x):∀(f n:Nat) (out:List Item),11440<=f+n->WkI l T lk l0 n out->WkI l T lk l0 (uc l T lk f n out).length (uc l T lk f n out)
 | 0,n,out,hf,h=>by
  have:=BK hw hl hT h.nd fun x hx=>Ap h0 (h.cl x hx);have:=h.le;omega
 | f +1,n,out,hf,h=>by
  rw[uc]
  by_cases c:n<out.length
  ·rw[if_pos c,bD,bm c,iz]
   exact FL hw hl hT h0 f (n+1) _ J (TU h c)
  rw[if_neg c];have:=h.le;rw[show out.length=n by omega];exact h
theorem FM(l0:List Item):WkI l T lk l0 0 (dO [] l0):=
 ⟨tf l0 [] Z6,bC _,fun x hx=>lc.2 (.inr hx),fun x hx=> .base ((lc.1 hx).resolve_left (by simp)),fun j _ h=>absurd h (ni j)⟩
section
variable(hw:∀q∈l,q.2.length<=8)(hl:l.length<=40)(hT:T<=30)
include hw hl hT
theorem eO{l0:List Item}(h0:∀x∈l0,eg l T x){x:Item}:x∈jq l T lk l0↔Cl l T lk l0 x:=by
 unfold jq;rw[aap];have h:=FL (lk:=lk) hw hl hT h0 12000 0 _ J (FM l0);refine⟨h.cl x,fun hx=>?_⟩
 induction hx with
 |base hb=>exact h.has _ hb
 |step _ hx ih=>
  obtain⟨j,hj,rfl⟩:=jG.1 ih;exact h.shut j hj hj _ hx
theorem Q9{l0:List Item}(h0:∀x∈l0,eg l T x):agr (jq l T lk l0):=
 aaq (FL (lk:=lk) hw hl hT h0 12000 0 _ J (FM l0)).nd
theorem jc{l0:List Item}(h0:∀x∈l0,eg l T x):∀x∈jq l T lk l0,eg l T x:=fun _ hx=>Ap h0 ((eO hw hl hT h0).1 hx)
theorem tJ{l0:List Item}(h0:∀x∈l0,eg l T x):(jq l T lk l0).length<=11439:=
 BK hw hl hT (We (Q9 hw hl hT h0)) (jc hw hl hT h0)
end
end
end bP
namespace bP
open aM dN c_
def qQ(it:Item):Item:=(it.1,it.2.1+1,it.2.2)
section
variable(l:List aM.Prod)(T N:Nat)(lk:Int->Int->Nat)
def mM(s:List Item)(x:bX):List Item:=(s.filter fun it=>decide (ki l it=ah x)).map qQ
def ic(s:List Item)(x:bX):List Item:=jq l T lk (mM l s x)
def lR:List bX:=(eu T).map (fun n:Nat=>((1:Int),(n:Int)))++(eu N).map (fun n:Nat=>((2:Int),(n:Int)))
def jl(S:List (List Item))(s:List Item):Nat×List (List Item):=if s∈S then(idx S s,S)else(S.length,S++[s])
def rb(s:List Item)(x:bX)(S:List (List Item)):Int×List (List Item):=if ic l T lk s x=[]then(-1,S)else(((jl S (ic l T lk s x)).1:Int),(jl S (ic l T lk s x)).2)
def Aq(s:List Item):List bX->List Int->List (List Item)->Option (List Int×List (List Item))
 |[],nx,S=>ah (nx,S)
 |x::r,nx,S=>if 200<(rb l T lk s x S).2.length then aj else Aq s r (nx++[(rb l T lk s x S).1]) (rb l T lk s x S).2
def xL:Nat->Nat->List (List Int)->List (List Item)->Option (List (List Int)×List (List Item))
 |0,_,_,_=>aj
 | f +1,n,Nx,S=>if n<S.length then(match Aq l T lk (S.getD n []) (lR T N) [] S with
  |none=>aj
  |some (nx,S')=>xL f (n+1) (Nx++[nx]) S')else ah (Nx,S)
def l7:List Item:=jq l T lk [((l.length:Int),0,(T:Int))]
def allI:Option (List (List Int)×List (List Item)):=xL l T N lk 202 0 [] [l7 l T lk]
end
theorem Ar(T N:Nat):(lR T N).length=T+N:=by unfold lR;rw[bK,dw,dw,qj,qj]
theorem w8{T N k:Nat}(h:k<T):(lR T N)[k]?=ah (1,(k:Int)):=by
 unfold lR;rw[fR (by simpa using h),eQ,Z4 h];rfl
theorem As{T N k:Nat}(h:k<N):(lR T N)[T+k]?=ah (2,(k:Int)):=by
 unfold lR;rw[List.getElem?_append_right (by simp),dw,qj,Nat.add_sub_cancel_left,eQ,Z4 h];rfl
section
variable{l:List aM.Prod}{T N:Nat}{lk:Int->Int->Nat}
theorem wb{s:List Item}{x:bX}{y:Item}:y∈mM l s x↔∃it∈s,ki l it=ah x/\y=qQ it:=by
 unfold mM;rw[eI]
 constructor
 ·rintro⟨it,h,rfl⟩
  rw[pN,decide_eq_true_eq]at h;exact⟨it,h.1,h.2,rfl⟩
 rintro⟨it,h1,h2,rfl⟩;exact⟨it,pN.2 ⟨h1,decide_eq_true h2⟩,rfl⟩
theorem im{s:List Item}{x:bX}(hs:∀it∈s,eg l T it):∀y∈mM l s x,eg l T y:=by
 intro y hy;obtain⟨it,h1,h2,rfl⟩:=wb.1 hy;have hr:=hs it h1;have hd:=(cU.1 h2).1;unfold eg qQ at*;dsimp only;omega
structure KQ(l:List aM.Prod)(T:Nat)(lk:Int->Int->Nat)(S:List (List Item)):Prop where
 nd:S.Nodup
 right:∀s∈S,∀it∈s,eg l T it
 shut:∀s∈S,∀it∈s,∀x,C8 l T lk it x->x∈s
def FO(l:List aM.Prod)(T:Nat)(lk:Int->Int->Nat)(S:List (List Item))(s:List Item)(x:bX)(c:Int):Prop:=
 (ic l T lk s x=[]/\c= -1)\/(ic l T lk s x≠[]/\ic l T lk s x∈S/\c=(idx S (ic l T lk s x):Int))
theorem FO.Qp{S:List (List Item)}{s:List Item}{x:bX}{c:Int}(h:FO l T lk S s x c)(E:List (List Item)):FO l T lk (S++E) s x c:=by
 rcases h with h|⟨h1,h2,h3⟩
 exact .inl h;exact .inr ⟨h1,uC _ h2,by rw[h3,qY h2]⟩
section
variable(hw:∀q∈l,q.2.length<=8)(hl:l.length<=40)(hT:T<=30)
include hw hl hT
omit hw hl hT in
theorem Q_{S:List (List Item)}(hS:KQ l T lk S){s:List Item}(hs:∀it∈s,eg l T it)(hsh:∀it∈s,∀x,C8 l T lk it x->x∈s):(∃E,(jl S s).2=S++E)/\s∈(jl S s).2/\(jl S s).1=idx (jl S s).2 s/\KQ l T lk (jl S s).2:=by
 unfold jl
 by_cases c:s∈S
 ·rw[if_pos c]
  exact⟨⟨[],(dQ _).symm⟩,c,rfl,hS⟩
 rw[if_neg c];refine⟨⟨[s],rfl⟩,KF _ (dH.2 I),?_,?_,?_,?_⟩
 ·show S.length=idx (S++[s]) s
  have:=sb (D:=S) (k:=s);unfold more at this;rw[if_neg c,if_neg c]at this;exact this.symm
 ·rw[Eh]
  exact⟨hS.nd,by simp,fun a ha b hb e=>by rw[dH.1 hb]at e;subst e;exact c ha⟩
 ·intro s' yf it hit
  rcases gH.1 yf with h|h
  exact hS.right s' h it hit;rw[dH.1 h]at hit;exact hs it hit
 intro s' yf it hit x hx;rcases gH.1 yf with h|h
 exact hS.shut s' h it hit x hx;rw[dH.1 h]at hit⊢;exact hsh it hit x hx
theorem we{l0:List Item}(h0:∀x∈l0,eg l T x):∀it∈jq l T lk l0,∀x,C8 l T lk it x->x∈jq l T lk l0:=fun _ hit _ hx=>
 (eO hw hl hT h0).2 (.step ((eO hw hl hT h0).1 hit) hx)
theorem IL{S:List (List Item)}(hS:KQ l T lk S){s:List Item}(hs:∀it∈s,eg l T it)(x:bX):(∃E,(rb l T lk s x S).2=S++E)/\FO l T lk (rb l T lk s x S).2 s x (rb l T lk s x S).1/\KQ l T lk (rb l T lk s x S).2:=by
 unfold rb
 by_cases c:ic l T lk s x=[]
 ·rw[if_pos c]
  exact⟨⟨[],(dQ _).symm⟩,.inl ⟨c,rfl⟩,hS⟩
 rw[if_neg c];obtain⟨h1,h2,h3,h4⟩:=Q_ hS (jc (lk:=lk) hw hl hT (im (x:=x) hs)) (we hw hl hT (im (x:=x) hs));exact⟨h1,.inr ⟨c,h2,congrArg _ h3⟩,h4⟩
theorem NF{s:List Item}(hs:∀it∈s,eg l T it):∀(xs:List bX) (nx:List Int) (S:List (List Item)) (done:List bX) (NG:List Int) (S':List (List Item)),KQ l T lk S->Aq l T lk s xs nx S=ah (NG,S')->S.length<=200->nx.length=done.length->(∀k x,done[k]?=ah x->FO l T lk S s x (nx.getD k 0))->
 (∃E,S'=S++E)/\KQ l T lk S'/\S'.length<=200/\NG.length=(done++xs).length/\∀k x,(done++xs)[k]?=ah x->FO l T lk S' s x (NG.getD k 0)
 | [],nx,S,done,NG,S',hS,h,ahU,hlen,hd=>by
  simp only[Aq,dg,iu]at h;obtain⟨rfl,rfl⟩:=h;rw[dQ];exact⟨⟨[],(dQ _).symm⟩,hS,ahU,hlen,hd⟩
 | x ::xs,nx,S,done,NG,S',hS,h,ahU,hlen,hd=>by
  rw[Aq]at h
  by_cases c:200<(rb l T lk s x S).2.length
  rw[if_pos c]at h;cases h;rw[if_neg c]at h;obtain⟨⟨E,h1⟩,h2,h3⟩:=IL (lk:=lk) hw hl hT hS hs x;obtain⟨⟨E2,q1⟩,q2,q3,q4,q5⟩:=NF hs xs (nx++[(rb l T lk s x S).1]) _ (done++[x]) NG S' h3 h J (by rw[bK,bK,hlen];rfl) (fun k y hk=>by
   by_cases ek:k<done.length
   ·rw[fR ek]at hk
    rw[jx J,h1];exact(hd k y hk).Qp E
   have nu:=(cU.1 hk).1;rw[bK,List.length_singleton]at nu;obtain rfl:k=done.length:=by omega
   rw[List.getElem?_append_right (Nat.le_refl _),Nat.sub_self]at hk;simp only[List.getElem?_cons_zero,Option.some.injEq]at hk;subst hk;rw[mz J,hlen,Nat.sub_self];exact h2)
  rw[dL,List.singleton_append]at q4 q5;exact⟨⟨E++E2,by rw[q1,h1,dL]⟩,q2,q3,q4,q5⟩
structure KR(l:List aM.Prod)(T N:Nat)(lk:Int->Int->Nat)(n:Nat)(Nx:List (List Int))(S:List (List Item)):Prop where
 ss:KQ l T lk S
 Cq:S.length<=200
 le:n<=S.length
 len:Nx.length=n
 start:S[0]?=ah (l7 l T lk)
 wide:∀q,q<n->(Nx.getD q []).length=T+N
 cell:∀q,q<n->∀k x,(lR T N)[k]?=ah x->FO l T lk S (S.getD q []) x ((Nx.getD q []).getD k 0)
theorem NH:∀(f n:Nat) (Nx:List (List Int)) (S:List (List Item)) (Nx':List (List Int)) (S':List (List Item)),xL l T N lk f n Nx S=ah (Nx',S')->KR l T N lk n Nx S->KR l T N lk S'.length Nx' S'
  |0,_,_,_,_,_,h,_=>by cases h
  | f + 1,n,Nx,S,Nx',S',h,hi=>by
    rw[xL]at h
    by_cases c:n<S.length
    · rw[if_pos c]at h
      have rI:S.getD n []=S[n]:=by rw[bD,bm c];rfl
      have hs:∀it∈S.getD n [],eg l T it:=by rw[rI];exact hi.ss.right _ (bV c)
      cases e:Aq l T lk (S.getD n []) (lR T N) [] S with
      |none=>rw[e]at h;cases h
      | some r=>
        obtain⟨nx,S1⟩:=r;rw[e]at h;dsimp only at h;obtain⟨⟨E,q1⟩,q2,q3,q4,q5⟩:=NF (lk:=lk) hw hl hT hs (lR T N) [] S [] nx S1 hi.ss e hi.Cq rfl (fun k x hk=>by simp at hk);rw[fN]at q4 q5;have hlen:=congrArg nV q1;rw[bK]at hlen;refine NH f (n+1) _ S1 Nx' S' h ⟨q2,q3,by omega,by rw[bK,hi.len];rfl,?_,fun q hq=>?_,fun q hq k x hk=>?_⟩;rw[q1,fR (by have:=(cU.1 hi.start).1;omega)];exact hi.start
        · by_cases eq:q=n
          · subst eq
            rw[mz (by rw[hi.len];exact aT _),hi.len,qk];show nx.length=T+N
            rw[q4,Ar]
          rw[jx (by rw[hi.len];omega)];exact hi.wide q J
        by_cases eq:q=n
        · subst eq
          rw[mz (by rw[hi.len];exact aT _),hi.len,qk];have e1:S1.getD q []=S.getD q []:=by rw[q1,jx c]
          rw[e1];exact q5 k x hk
        rw[jx (by rw[hi.len];omega)];have e1:S1.getD q []=S.getD q []:=by rw[q1,jx J]
        rw[e1,q1];exact(hi.cell q J k x hk).Qp E
    rw[if_neg c]at h;simp only[dg,iu]at h;obtain⟨rfl,rfl⟩:=h;have:n=S.length:=by have:=hi.le;omega
    rw[<-this];exact hi
omit hw in
theorem ft:∀x∈[(((l.length:Int),0,(T:Int)):Item)],eg l T x:=by
 intro x hx;rw[dH.1 hx];exact⟨by dsimp only;omega,kz _,kz _,by dsimp only;omega,by dsimp only;omega,kz _⟩
theorem NI{Nx:List (List Int)}{S:List (List Item)}(h:allI l T N lk=ah (Nx,S)):KR l T N lk S.length Nx S:=
 NH hw hl hT 202 0 [] [l7 l T lk] Nx S h
  ⟨⟨by simp,fun s hs it hit=>by rw[dH.1 hs]at hit;exact jc (lk:=lk) hw hl hT (ft hl hT) it hit,fun s hs it hit x hx=>by rw[dH.1 hs]at hit⊢;exact we hw hl hT (ft hl hT) it hit x hx⟩,by simp,bC _,rfl,rfl,fun q hq=>absurd hq (ni q),fun q hq=>absurd hq (ni q)⟩
end
end
def iD(s:List Item):List UInt8:=s.flatMap fun it=>[fT it.1.toNat,fT it.2.1.toNat,fT it.2.2.toNat]
theorem Ra{a b:Int}(ha:0<=a/\a<256)(hb:0<=b/\b<256)(h:fT a.toNat=fT b.toNat):a=b:=by
 have:=congrArg UInt8.toNat h;rw[Z_,Z_]at this;omega
theorem FP:∀{s s':List Item},(∀it∈s,0<=it.1/\it.1<256/\0<=it.2.1/\it.2.1<256/\0<=it.2.2/\it.2.2<256)->(∀it∈s',0<=it.1/\it.1<256/\0<=it.2.1/\it.2.1<256/\0<=it.2.2/\it.2.2<256)->iD s=iD s'->s=s'
 |[],[],_,_,_=>rfl
 |[],b::s',_,_,h=>by simp[iD]at h
 |a::s,[],_,_,h=>by simp[iD]at h
 | a ::s,b::s',h1,h2,h=>by
  have ha:=h1 a (fc ..);have hb:=h2 b (fc ..);unfold iD at h;rw[jF,jF]at h;simp only[kt,fN,fg]at h;obtain⟨e1,e2,e3,e4⟩:=h;have e1:=Ra ⟨ha.1,ha.2.1⟩ ⟨hb.1,hb.2.1⟩ e1;have e2:=Ra ⟨ha.2.2.1,ha.2.2.2.1⟩ ⟨hb.2.2.1,hb.2.2.2.1⟩ e2;have e3:=Ra ⟨ha.2.2.2.2.1,ha.2.2.2.2.2⟩ ⟨hb.2.2.2.2.1,hb.2.2.2.2.2⟩ e3;have e:a=b:=by
   obtain⟨a1,a2,a3⟩:=a;obtain⟨b1,b2,b3⟩:=b;simp only at e1 e2 e3;rw[e1,e2,e3]
  rw[e,FP (fun it hit=>h1 it (iI _ hit)) (fun it hit=>h2 it (iI _ hit)) e4]
end bP
namespace dN
open aM ee
def L9(l:List aM.Prod)(t:Tree):List bX:=if t.prod<0 then [(2,t.tok)]else upE l t
theorem NJ(l:List aM.Prod):∀(ks:List Tree) (b:List bX),ks.length=b.length->(nE l ks b).filterMap evU=ks.flatMap (L9 l)
 |[],b,_=>by cases b<;>simp[nE]
 |t::r,[],h=>by simp at h
 | .mk p k kids::r,y::b,h=>by
  have ih:=NJ l r b (by simpa using h);rw[nE,jF,sT,ih]
  congr 1
  unfold L9 upE;show _=if p<0 then [(2,k)]else _
  split;rfl;rfl
theorem NK{l:List aM.Prod}{n:Int}{ks:List Tree}(h0:0<=n)(h:ks.length=(bJ l n).2.length):L9 l (.mk n 0 ks)=ks.flatMap (L9 l)++[(4,n)]:=by
 unfold L9 upE;rw[if_neg (by show ¬n<0;omega),adj,List.filterMap_cons_none I,sT,NJ l _ _ h];rfl
theorem NL(l:List aM.Prod)(k:Int):L9 l (.mk (-1) k [])=[(2,k)]:=by
 unfold L9;rw[if_pos (show(Tree.mk (-1) k []).prod<0 by show(-1:Int)<0;decide)];rfl
end dN
namespace bP
open aM dN ee dx c_
open wZ (dW)
abbrev Act:=Int×Int
section
variable(l:List aM.Prod)(T:Nat)
def wg(c:Nat)(it:Item):Option Act:=if it.2.2≠(c:Int)then aj else if it.1=(l.length:Int)/\it.2.1=1 then ah (3,0)else if it.1<(l.length:Int)/\it.2.1=((bJ l it.1).2.length:Int)then ah (2,it.1)else aj
def jz(s:List Item)(nx:List Int)(c:Nat):List Act:=(if c<T/\0<=nx.getD c 0 then [(1,nx.getD c 0)]else [])++s.filterMap (wg l c)
end
section
variable(l:List aM.Prod)(T:Nat)(Nx:List (List Int))(S:List (List Item))
def kH(q c:Nat):Act:=(jz l T (S.getD q []) (Nx.getD q []) c).headD (0,0)
def aar(q:Nat)(n:Int):Int:=(Nx.getD q []).getD (T+n.toNat) 0
def IM:Prop:=∀q,q<S.length->∀c,c<=T->(jz l T (S.getD q []) (Nx.getD q []) c).length<=1
inductive BL(w:List Int):List Nat->Nat->List bX->List Nat->Nat->Prop
 |nil {σ:List Nat} {a:Nat}:BL w σ a [] σ a
 |shift {q s:Nat} {σ σ':List Nat} {a a':Nat} {E:List bX} (ha:a<w.length) (h:kH l T Nx S q (dW T w a)=(1,(s:Int))) (hr:BL w (s::q::σ) (a+1) E σ' a'):BL w (q::σ) a ((2,(a:Int))::E) σ' a'
 |reduce {q r tq:Nat} {p:Int} {σ ρ σ':List Nat} {a a':Nat} {E:List bX} (h:kH l T Nx S q (dW T w a)=(2,p)) (hd:(q::σ).drop (bJ l p).2.length=r::ρ) (hg:aar T Nx r (bJ l p).1=(tq:Int)) (hr:BL w (tq::r::ρ) a E σ' a'):BL w (q::σ) a ((4,p)::E) σ' a'
end
section
variable{l:List aM.Prod}{T N:Nat}{lk:Int->Int->Nat}{Nx:List (List Int)}{S:List (List Item)}{w:List Int}
theorem BL.Qp{σ σ1 σ2:List Nat}{a a1 a2:Nat}{E E2:List bX}(h:BL l T Nx S w σ a E σ1 a1)(h2:BL l T Nx S w σ1 a1 E2 σ2 a2):BL l T Nx S w σ a (E++E2) σ2 a2:=by
 induction h with
 |nil=>exact h2
 |shift ha h _ ih=>exact .shift ha h (ih h2)
 |reduce h hd hg _ ih=>exact .reduce h hd hg (ih h2)
theorem FQ{q c:Nat}{x:Act}(hc:IM l T Nx S)(hq:q<S.length)(Wh:c<=T)(h:x∈jz l T (S.getD q []) (Nx.getD q []) c):kH l T Nx S q c=x:=by
 have:=hc q hq c Wh;unfold kH;generalize jz l T (S.getD q []) (Nx.getD q []) c=A at*
 match A,h,this with
 |[y],h,_=>rw[dH.1 h];rfl
 |_::_::_,_,h=>simp at h
section
variable(hI:KR l T N lk S.length Nx S)
include hI
theorem TV(hw:∀q∈l,q.2.length<=8)(hl:l.length<=40)(hT:T<=30){q k:Nat}{x:bX}{it:Item}(hq:q<S.length)(hk:(lR T N)[k]?=ah x)(hit:it∈S.getD q [])(hx:ki l it=ah x):∃s,s<S.length/\(Nx.getD q []).getD k 0=(s:Int)/\qQ it∈S.getD s []:=by
 have rI:S.getD q []=S[q]:=by rw[bD,bm hq];rfl
 have hr:∀it∈S.getD q [],eg l T it:=by rw[rI];exact hI.ss.right _ (bV hq)
 have hov:=im (x:=x) hr;have hm:qQ it∈ic l T lk (S.getD q []) x:=(eO (lk:=lk) hw hl hT hov).2 (.base (wb.2 ⟨it,hit,hx,rfl⟩));rcases hI.cell q hq k x hk with⟨h1,_⟩|⟨_,h2,h3⟩
 rw[h1]at hm;cases hm;have hlt:=lf h2;refine⟨_,hlt,h3,?_⟩;rw[bD,bm hlt,iz,th hlt];exact hm
theorem Wi(hw:∀q∈l,q.2.length<=8)(hl:l.length<=40)(hT:T<=30)(hc:IM l T Nx S){q t:Nat}{it:Item}(hq:q<S.length)(ht:t<T)(hit:it∈S.getD q [])(hx:ki l it=ah (1,(t:Int))):∃s,s<S.length/\kH l T Nx S q t=(1,(s:Int))/\qQ it∈S.getD s []:=by
 obtain⟨s,h1,h2,h3⟩:=TV hI hw hl hT hq (w8 ht) hit hx;refine⟨s,h1,FQ hc hq J ?_,h3⟩;unfold jz;rw[h2,if_pos ⟨ht,by omega⟩];exact uC _ (dH.2 I)
theorem adF(hw:∀q∈l,q.2.length<=8)(hl:l.length<=40)(hT:T<=30){q:Nat}{n:Int}{it:Item}(hq:q<S.length)(hn:0<=n/\n<(N:Int))(hit:it∈S.getD q [])(hx:ki l it=ah (2,n)):∃s,s<S.length/\aar T Nx q n=(s:Int)/\qQ it∈S.getD s []:=by
 obtain⟨k,rfl⟩:=fz hn.1;exact TV hI hw hl hT hq (As J) hit hx
omit hI in
theorem Rb(hc:IM l T Nx S){q c:Nat}{it:Item}(hq:q<S.length)(Wh:c<=T)(hit:it∈S.getD q [])(h1:it.1<(l.length:Int))(h2:it.2.1=((bJ l it.1).2.length:Int))(h3:it.2.2=(c:Int)):kH l T Nx S q c=(2,it.1):=by
 refine FQ hc hq Wh (KF _ (yQ.2 ⟨it,hit,?_⟩));unfold wg;rw[if_neg (by simpa using h3),if_neg J,if_pos ⟨h1,h2⟩]
omit hI in
theorem Rf(hc:IM l T Nx S){q:Nat}(hq:q<S.length)(hit:(((l.length:Int),1,(T:Int)):Item)∈S.getD q []):kH l T Nx S q T=(3,0):=by
 refine FQ hc hq (aT _) (KF _ (yQ.2 ⟨_,hit,?_⟩));unfold wg;rw[if_neg (by simp),if_pos ⟨rfl,rfl⟩]
theorem aas{q:Nat}{it x:Item}(hq:q<S.length)(hit:it∈S.getD q [])(hx:C8 l T lk it x):x∈S.getD q []:=by
 have rI:S.getD q []=S[q]:=by rw[bD,bm hq];rfl
 rw[rI]at hit⊢;exact hI.ss.shut _ (bV hq) it hit x hx
end
theorem IN{it:Item}{k:Nat}(hk:k<62)(h0:0<=it.2.2):(pc lk it).testBit k=aB↔(lk it.1 it.2.1).testBit k=aB\/((lk it.1 it.2.1).testBit 62=aB/\it.2.2=(k:Int)):=by
 unfold pc
 by_cases c:(lk it.1 it.2.1).testBit 62=aB
 ·rw[if_pos c,nW,Z7,KG,KG,lZ,decide_eq_true_eq]
  have:decide (62=k)=false:=decide_eq_false J;rw[this,Bool.xor_false]
  constructor
  ·rintro(h|h)
   exact .inl h;exact .inr ⟨c,by omega⟩
  rintro(h|⟨_,h⟩);exact .inl h;exact .inr J
 rw[if_neg c];exact⟨.inl,fun h=>h.elim id fun h=>absurd h.1 c⟩
theorem Au{E:List Bool}{F:List Nat}{behind z:Nat}(hz:behind.testBit z=aB):∀(b:List bX) (out:Nat),(∀x∈b,x.1=1\/x.1=2)->iY E b aD=aB->(ix E F behind b out).testBit z=aB
 |[],out,_,_=>by
  show(out|||behind).testBit z=aB
  rw[nW,hz,Bool.or_true]
 |x::r,out,hx,h=>by
  unfold iY at h;rw[List.all_cons,Bool.and_eq_true]at h;have h1:¬x.1=1:=fun e=>by rw[if_pos e]at h;cases h.1
  have h2:=(hx x (fc ..)).resolve_left h1;have h3:=h.1;rw[if_neg h1,if_pos h2]at h3;rw[ix,if_neg h1,if_pos h3];exact Au hz r _ (fun y hy=>hx y (iI _ hy)) h.2
section
variable{E R M:List Bool}{F W:List Nat}{n:Nat}
theorem Wj(hC:i_ l E F W R M)(_:iR n l)(Hl:∀p d:Int,0<=p->p<=(l.length:Int)->0<=d->lk p d=eE E F ((dA l p).drop (d.toNat+1)) (2^62))(hT:T<=30)(hwd:∀x∈w,0<=x/\x<(T:Int))
 {it:Item} (hr:eg l T it) {ks:List Tree} {b:List bX} {u a:Nat} (hb:(dA l it.1).drop (it.2.1.toNat+1)=b) (hbs:∀x∈b,x.1=1\/x.1=2) (hk:dl l ks b u) (hy:∃r,w.drop a=gi l ks b++r) (ha:a+de ks<=w.length) (NM:it.2.2=(dW T w (a+de ks):Int)):
 (pc lk it).testBit (dW T w a)=true:=by
 have Wh:dW T w a<=T:=by
  unfold dW;split
  ·rename_i h
   rw[bD,bm h,iz];have:=hwd w[a] (bV h);omega
  exact aT _
 rw[IN J hr.2.2.2.2.1,Hl it.1 it.2.1 hr.1 hr.2.1 hr.2.2.1,hb]
 by_cases c:de ks=0
 ·right
  refine⟨Au (by rw[KG];rfl) b 0 hbs (yH hC hk c),?_⟩;rw[NM,c,ji]
 ·left
  have h:=sg hC hk hy (2^62) 0 (fun h=>absurd h c);have e:p5 w a=dW T w a:=by
   unfold p5 dW;rw[if_pos J,if_pos J]
  rwa [e]at h
theorem IP(hs:iR n l)(hn:0<n){p:Int}:∀x∈dA l p,x.1=1\/(x.1=2/\0<=x.2/\x.2<(n:Int)):=by
 intro x hx;unfold dA at hx;split at hx;rw[dH.1 hx];exact .inr ⟨rfl,kz _,by show(0:Int)<n;omega⟩;unfold bJ at hx;rw[bD]at hx
 cases e:l[p.toNat]? with
 |none=>rw[e]at hx;cases hx
 |some q=>rw[e]at hx;exact(hs q (kO e)).2.2 x hx
end
end
end bP
namespace cg
open Go.RowKit cT ey aM dN dx bP
def iT(x:bP.Item):List Value:=[ap av x.1,ap av x.2.1,ap av x.2.2]
theorem mi(x:bP.Item):(iT x).length=3:=rfl
def BM(x:Option Nat):b9:=match x with
 |some g=>aO g #[ap av 2,ap av 0] 148
 |none=>⟨aj,fun _=>False,fun _=>True,fun _ _ k h=>by rcases h with h|h;cases h;exact h.elim,fun _ _ _ _ _=>trivial⟩
def adG(vb:Nat->Value)(n:Nat)(x:Option Nat):Value:=match x with
 |some g=>ak (ah ⟨g,0,aj⟩) 1 1
 |none=>vb n
def Wk(F:Nat->Prop)(w:World)(vb:Nat->Value)(l:List aM.Prod):Prop:=∀i,i<l.length->kK ac8 F w (vb i) (bJ l (i:Int)).2
def Av(vb:Nat->Value)(n P:Nat):Spec (Option Nat):=⟨fun x=>x.isSome=decide (n=P),fun x=>adG vb n x,fun x=>[BM x]⟩
theorem aat{F:Nat->Prop}{w:World}{vp:Value}{l:List aM.Prod}(h:kK q6 F w vp l):∃(vb:Nat->Value) (bp:Option Addr) (cp:Nat),vp=ak bp l.length cp/\l.length<=cp/\cp<=maxLen/\Wk F w vb l/\(0<l.length->∃b off,bp=ah ⟨b,off,aj⟩/\F b/\∀i,i<l.length->Rd w b (off+i*2) [ap av (bJ l (i:Int)).1,vb i]/\cT.dM (bJ l (i:Int)).1):=by
 obtain⟨bp,cp,rfl,h1,h2,h3⟩:=h
 by_cases h0:0<l.length
 ·obtain⟨b,off,rfl,hF,hr⟩:=h3 h0
  have key:∀i:Nat,∃v:Value,i<l.length->kK ac8 F w v (bJ l (i:Int)).2/\Rd w b (off+i*2) [ap av (bJ l (i:Int)).1,v]/\cT.dM (bJ l (i:Int)).1:=fun i=>by
   by_cases hi:i<l.length
   ·obtain⟨base,cap,q1,q2,q3⟩:=lI hr hi
    have e:bJ l (i:Int)=l[i]:=by unfold bJ;rw[cX,bD,bm hi];rfl
    exact⟨_,fun _=>by rw[e];exact⟨q3,q1,q2⟩⟩
   exact⟨undef,fun h=>absurd h hi⟩
  refine⟨fun i=>Jv (key i),ah ⟨b,off,aj⟩,cp,rfl,h1,h2,fun i hi=>(D4 (key i) hi).1,fun _=>⟨b,off,rfl,hF,fun i hi=>(D4 (key i) hi).2⟩⟩
 exact⟨fun _=>undef,bp,cp,rfl,h1,h2,fun i hi=>absurd hi J,fun h=>absurd h h0⟩
theorem agt{n:Nat}{W:b_}{e:Exit}{Q:Exit->Act->World->Prop}{fr:Fr}{L:List b9}(h:E n W e Q fr (L++[BM aj])):E n W e Q fr L:=⟨fun a w hr hm=>h.go a w hr ⟨hm.low,fl.both hm.owns (fl.one trivial fun k hk=>by rcases hk with hk|hk;cases hk;exact hk.elim) fun i j o o' _ hj k _ hk=>by
 match j,hj with
 |0,hj=>
  simp only[List.getElem?_cons_zero,dg]at hj;subst hj;rcases hk with hk|hk
  cases hk
  exact hk.elim
 |j+1,hj=>simp at hj⟩⟩
theorem Rg(w:World):(dm 148 #[(0,ap av 2),(1,ap av 0)]).run aC w= .ok (aP #[ap av 2,ap av 0]) w:=by kernel_rfl
theorem tK(t n:Int)(bp:Option Addr)(cp:Nat)(l:List aM.Prod)(vb:Nat->Value)(w0 w:World)(B:b_)(k:Nat)(hk:k<=l.length)(ho:mv w0 B)(hm:Mem B [] w)(Cf:∀i,i<l.length->∃bb m cc,vb i=ak bb m cc)
 (hr:0<l.length->∃b off,bp=ah ⟨b,off,aj⟩/\∀i,i<l.length->Rd w0 b (off+i*2) [ap av (bJ l (i:Int)).1,vb i]):
 Calls aC 158 #[dD t n (ak bp l.length cp),ap av (k:Int)] w (cJ (Av vb k l.length) w):=by
 have hb:=Rg;have hr:∀i,i<l.length->∃b off,bp=ah ⟨b,off,aj⟩/\Rd w b (off+i*2) [ap av (bJ l (i:Int)).1,vb i]:=fun i hi=>by
  obtain⟨b,off,q1,q2⟩:=hr J;exact⟨b,off,q1,fun j u hj=>ho.cell hm (q2 i hi j u hj)⟩
 clear hm ho;refine enter (args:=[dD t n (ak bp l.length cp),ap av (k:Int)]) (n:=18) Tryz.func158 I I I ?_;refine bY (a_ (bQ I I I fun g2=>?_));refine zL ?_
 by_cases c:k=l.length
 ·subst c
  repeat(first|refine GC ?_|refine gV (aw (v:=ak bp l.length cp) aI.ty I (aE (i:=0) I I)) ?_|refine gV (cP (b:=aB) I I (decide_eq_true I)) ?_|refine gV (bz I hb) ?_|refine GB ?_)
  refine fF (cs:=#[ap av 2,ap av 0]) [aP #[ap av 2,ap av 0]] I I I (by intro v hv;simp at hv;subst hv;rfl) I I I fun g11=>?_;refine zL ?_
  try refine GA ?_
  exact dq I I fun w hm=>hm.meets (S:=Av vb l.length l.length) (ah g11) (by show aB=decide (l.length=l.length);rw[decide_eq_true I]) [1] akV I
 ·obtain⟨b,off,rfl,fZ⟩:=hr k J
  obtain⟨bb,m,cc,hv⟩:=Cf k J;have eK:∀(L:List b9),At w L ⟨b,off+k*2+1,aj⟩ (vb k):=fun L=>jp fZ (j:=1) I;have hlt:k<l.length:=by omega
  repeat(first|refine GC ?_|refine gV (aw (v:=ak (ah ⟨b,off,aj⟩) l.length cp) aI.ty I (aE (i:=0) I I)) ?_|refine gV (cP (b:=aD) I I (decide_eq_false J)) ?_|refine gV (aR (j:=k) bI.eq aI.ty I I hlt) ?_|refine gV (aw (v:=vb k) aI.ty I (eK _)) ?_|refine GB ?_)
  refine agt ?_;exact dq I I fun w hm=>hm.meets (S:=Av vb k l.length) aj (by show aD=decide (k=l.length);rw[decide_eq_false c]) [1] akV I
end cg
namespace cg
open Go.RowKit cT ey aM dN dx bP
abbrev RK:=Int×Int
def rkV(x:RK):Value:=aP #[ap av x.1,ap av x.2]
set_option maxRecDepth 100000 in
theorem agu(p:RK)(h:cT.dM p.1/\cT.dM p.2):∃l,keyOf aC 340 (rkV p)=ah l:=by
 have e1:aC.cellsOf 340=2:=by kernel_rfl
 have e3:aC.cellsOf 3=1:=by kernel_rfl
 refine J4 (cs:=[ap av p.1,ap av p.2]) (m:=2) (by kernel_rfl) (by kernel_rfl) (by rw[e1];rfl) (Dr 2 (by kernel_rfl)) fun d=>?_;refine Bm (d:=d+1) Tryz.underlying340 (by rw[e1];rfl) (by kernel_rfl) fun f hf=>?_;simp only[df,fI,or_false]at hf;rcases hf with rfl|rfl
 ·rw[e3]
  exact uP Tryz.underlying3 h.1.1 h.1.2
 rw[e3];exact uP Tryz.underlying3 h.2.1 h.2.2
theorem ahV:(340:TypeId)<aC.types.size:=of_decide_eq_true (by kernel_rfl)
set_option maxRecDepth 100000 in
def jd:yl aC 340 RK where
 kv:=rkV
 ok p:=cT.dM p.1/\cT.dM p.2
 law:=deep_law_laid Dq (m:=2) J ahV (by kernel_rfl) (by kernel_rfl)
 key x h:=agu x h
 inj x y h:=by
  simp only[rkV,nb,oX,fg,Fz,true_and,and_true]at h;exact nP h.1 h.2
set_option maxRecDepth 100000 in
theorem agv(p:bP.Item)(h:cT.dM p.1/\cT.dM p.2.1/\cT.dM p.2.2):∃l,keyOf aC 278 (aP (iT p).toArray)=ah l:=by
 have e1:aC.cellsOf 278=3:=by kernel_rfl
 have e3:aC.cellsOf 3=1:=by kernel_rfl
 refine J4 (cs:=iT p) (m:=2) (by kernel_rfl) (by kernel_rfl) (by rw[e1];rfl) (Dr 2 (by kernel_rfl)) fun d=>?_;refine Bm (d:=d+1) Tryz.underlying278 (by rw[e1];rfl) (by kernel_rfl) fun f hf=>?_;simp only[df,fI,or_false]at hf;rcases hf with rfl|rfl|rfl
 ·rw[e3]
  exact uP Tryz.underlying3 h.1.1 h.1.2
 ·rw[e3]
  exact uP Tryz.underlying3 h.2.1.1 h.2.1.2
 rw[e3];exact uP Tryz.underlying3 h.2.2.1 h.2.2.2
theorem ahW:(278:TypeId)<aC.types.size:=of_decide_eq_true (by kernel_rfl)
set_option maxRecDepth 100000 in
def KS:yl aC 278 bP.Item where
 kv x:=aP (iT x).toArray
 ok p:=cT.dM p.1/\cT.dM p.2.1/\cT.dM p.2.2
 law:=deep_law_laid Dq (m:=2) J ahW (by kernel_rfl) (by kernel_rfl)
 key x h:=agv x h
 inj x y h:=by
  simp only[iT,nb,oX,fg,Fz,true_and,and_true]at h;exact nP h.1 (nP h.2.1 h.2.2)
theorem TY{a b:Nat}(ha:a<=9223372036854775807)(hb:b<=9223372036854775807):jd.ok ((a:Int),(b:Int)):=by
 show cT.dM (a:Int)/\cT.dM (b:Int)
 exact⟨⟨by omega,by omega⟩,⟨by omega,by omega⟩⟩
theorem NN(w:World):(zeroValue 114).run aC w= .ok (.int .u64 0) w:=by kernel_rfl
theorem oL(w:World):(zeroValue 3).run aC w= .ok (ap av 0) w:=by kernel_rfl
theorem FR{x:Nat}(hx:x<18446744073709551616)(h:x.testBit 62=aB):bits .andNot .u64 (x:Int) 4611686018427387904=((x^^^2^62:Nat):Int):=by
 have e0:(4611686018427387904:Int)=((2^62:Nat):Int):=by decide
 rw[e0];show uz.wrap ((xW 64 (x:Int)&&& ~~~ xW 64 ((2^62:Nat):Int)).toNat:Int)=_
 have hlt:x^^^2^62<2^64:=QR hx akV;have e:xW 64 (x:Int)&&& ~~~ xW 64 ((2^62:Nat):Int)=BitVec.ofNat 64 (x^^^2^62):=by
  rw[ZW,ZW]
  ext i hi
  simp only[BitVec.getElem_and,BitVec.getElem_not];rw[<-QM,<-QM,<-QM,QN,QN,QN];simp only[hi,decide_true,Bool.true_and,Z7,KG]
  by_cases e:62=i
  subst e;rw[h];decide;rw[decide_eq_false e];simp
 rw[e,BitVec.toNat_ofNat,Nat.mod_eq_of_lt hlt,sR];omega
theorem aau{P:Program}(x j b:Nat)(k k':IntKind)(hb:k.bits=b)(hj:j<=b)(w:World):(iP .shr k (x:Int) k' (j:Int)).run P w= .ok (.int k ((x/2^j:Nat):Int)) w:=by
 have e:min j b=j:=by omega
 have h0:¬((j:Int)<0):=by omega
 have e2:(x:Int).fdiv (2^j)=((x/2^j:Nat):Int):=by
  rw[Int.fdiv_eq_ediv_of_nonneg _ (by have:(0:Int)<2^j:=Int.pow_pos akV;omega)];simp
 simp only[iP,if_neg h0,hb,cX,e,e2,mT]
theorem agw{y:Nat}(hy:y<18446744073709551616):bits .and .u64 (y:Int) 1=((y %2:Nat):Int):=by
 have h:=bits_nat .u64 64 akV (fun n h0 h1=>by rw[sR];omega) y 1 (by simpa using hy) akV;rw[Nat.and_one_is_mod]at h;exact h.1
theorem Aw(x k:Nat):x.testBit k=decide (x/2^k %2=1):=Nat.testBit_eq_decide_div_mod_eq ..
def kj(g:dF)(p d:Int):Nat:=C7 g ((dA g.az p).drop (d.toNat+1)) 4611686018427387904
theorem TZ{g:dF}{body:List bX}{behind:Nat}(hb:behind<18446744073709551616):C7 g body behind<18446744073709551616:=by
 unfold C7
 by_cases c:vX g body=0
 ·rw[if_pos c]
  have hg:cD g=0:=by
   unfold vX at c
   by_cases c2:cD g=0
   exact c2;rw[if_pos c2]at c;exact c
  have h60:¬60<body.length:=fun h=>by
   unfold vX at c;rw[if_neg (by simpa using hg),if_pos h]at c;cases c
  have oF:Hr g.aQ g.bB body=0:=by
   unfold vX at c;rw[if_neg (by simpa using hg),if_neg h60]at c;exact c
  have hn:=(cz hg).2.2.1;have ht:=(cz hg).2.1;refine pH (KN hg (n:=g.bB.toNat) J).2 hb fun x hx h1=>?_;rcases oK (KJ oF x hx)with h|h
  omega;omega
 rw[if_neg c];decide
def Cw(t n:Int)(vp:Value)(gm:Nat):List Value:=[ap av t,ap av n,vp,.map (ah gm)]
def jT(lk:Int->Int->Nat)(f:RK->Option Value):Prop:=∀x v,f x=ah v->v=ib (lk x.1 x.2)
theorem Rh(a b:Int)(w:World):(dm 340 #[(0,ap av a),(1,ap av b)]).run aC w= .ok (aP #[ap av a,ap av b]) w:=by go_simp
theorem jT.put{lk:Int->Int->Nat}{f:RK->Option Value}(h:jT lk f)(x:RK):jT lk (fun y=>if y=x then ah (ib (lk x.1 x.2))else f y):=by
 intro y v hv;dsimp only at hv
 by_cases c:y=x
 ·rw[if_pos c]at hv
  cases hv;rw[c]
 rw[if_neg c]at hv;exact h y v hv
theorem FT(a:bX):(dS a).length=2:=rfl
theorem KT{t n:Int}{vp v:Value}{gm j:Nat}(h:[ap av t,ap av n,vp][j]?=ah v):(Cw t n vp gm).toArray[0+j]?=ah v:=by
 rw[cI]
 match j,h with
 |0,h=>exact h
 |1,h=>exact h
 |2,h=>exact h
theorem Ax{l:List aM.Prod}{w0:World}{W:b_}{L:List b9}{vb:Nat->Value}{k i:Nat}{x:Option Nat}(ho:mv w0 W)(hv:Wk (fun q=>q<w0.heap.size) w0 vb l)(hk:k<=l.length)(hx:x.isSome=decide (k=l.length))(hi:L[i]?=ah (BM x)):∃b c,adG vb k x=ak b (dA l (k:Int)).length c/\(dA l (k:Int)).length<=c/\SlL W L (adG vb k x) (dA l (k:Int)).length ((dA l (k:Int)).flatMap dS):=by
 cases x with
 |some g=>
  have hk:k=l.length:=by simpa using hx
  subst hk;have e:dA l (l.length:Int)=[(2,0)]:=by unfold dA;rw[if_pos I]
  rw[e];exact⟨_,_,rfl,aT _,k9 hi (fun j u h=>by simpa[dS]using h) (aT _) akV⟩
 | none=>
  have nu:k<l.length:=by
   have:¬k=l.length:=by simpa using hx
   omega
  have e:dA l (k:Int)=(bJ l (k:Int)).2:=by unfold dA;rw[if_neg J]
  rw[e];have h:=hv k nu;have hs:=h.flat (f:=dS) akV;obtain⟨b,c,e2,e3,_⟩:=id h;exact⟨b,c,e2,e3,fun w hm=>hs.gr (ho.mem hm)⟩
attribute [local irreducible] Op.shift Go.bits in
theorem NO(g:dF)(hg:cD g=0)(bp:Option Addr)(cp:Nat)(vb:Nat->Value)(w0:World)(hG:kw (fun q=>q<w0.heap.size) w0 (dD g.aQ g.bB (ak bp g.az.length cp)) g)(Cf:Wk (fun q=>q<w0.heap.size) w0 vb g.az)(ow:0<g.az.length->∃b off,bp=ah ⟨b,off,aj⟩/\∀i,i<g.az.length->Rd w0 b (off+i*2) [ap av (bJ g.az (i:Int)).1,vb i])
 (go gm c:Nat) (f:RK->Option Value) (it:bP.Item) (T:Nat) (hT:T<=30) (hr:eg g.az T it) (hd:it.2.1.toNat<(dA g.az it.1).length) (hc:jT (kj g) f) (hcc:c<=1000000000000000) (w:World) (B:b_) (ho:mv w0 B)
 (hm:Mem B [aO go (Cw g.aQ g.bB (ak bp g.az.length cp) gm).toArray 314,fq jd gm f c] w):
 Calls aC 159 #[aH (ah ⟨go,0,aj⟩),aP (iT it).toArray] w (dX ⟨fun(x:(RK->Option Value)×Nat)=>jT (kj g) x.1/\x.2<=c+1,fun _=>ib (pc (kj g) it),fun x=>[aO go (Cw g.aQ g.bB (ak bp g.az.length cp) gm).toArray 314,fq jd gm x.1 x.2]⟩ B):=by
 obtain⟨p,d,lo⟩:=it;obtain⟨r1,r2,r3,r4,r5,r6⟩:=hr;dsimp only at r1 r2 r3 r4 r5 r6 hd;obtain⟨k,rfl⟩:=fz r1;obtain⟨dn,rfl⟩:=fz r3;obtain⟨ln,rfl⟩:=fz r5;rw[cX]at hd;have hk:k<=g.az.length:=by omega
 have IQ:=fun w' (pV:Mem B [] w')=>tK g.aQ g.bB bp cp g.az vb w0 w' B k hk ho pV (fun i hi=>let ⟨b,c,h,_⟩:=Cf i hi;⟨b,_,c,h⟩) ow;have zv:=fun vs body w' (pV:Gr w0 w') hs=>sn _ vs g body 4611686018427387904 w' (hG.gr pV) hs akV;have hbr:=Rh (k:Int) (dn:Int);have hlt:kj g (k:Int) (dn:Int)<18446744073709551616:=TZ akV;have hb8:=nj (l:=g.az) (p:=(k:Int)) (fun q hq=>((cz hg).2.2.2.2.2 q hq).1);refine eR hm (args:=[aH (ah ⟨go,0,aj⟩),aP (iT ((k:Int),(dn:Int),(ln:Int))).toArray]) (n:=61) Tryz.func159 I I I ?_;refine bY (a_ (bQ I I I fun g3=>?_));refine zL ?_
 repeat(first|refine GA ?_|refine gV (aw (v:=ap av (k:Int)) aI.ty I (aE (i:=2) I I)) ?_|refine gV (aw (v:=ap av (dn:Int)) aI.ty I (aE (i:=2) I I)) ?_|refine gV (bz I hbr) ?_)
 refine aY I fun g5=>?_;refine zL ?_;refine gG 3 (cs':=#[ap av (k:Int),ap av (dn:Int)]) ?_;refine zL ?_;have Vj:jd.ok ((k:Int),(dn:Int)):=TY (by have:=(cz hg).2.2.2.2.1;omega) J;have Vj:jd.ok ((k:Int),(dn:Int)):=TY (by have:=(cz hg).2.2.2.2.1;omega) J;have Vj:jd.ok ((k:Int),(dn:Int)):=TY (by have:=(cz hg).2.2.2.2.1;omega) J;have Vj:jd.ok ((k:Int),(dn:Int)):=TY (by have:=(cz hg).2.2.2.2.1;omega) J;have Qg:=hc.put ((k:Int),(dn:Int));have Hl:kj g (k:Int) (dn:Int)=C7 g ((dA g.az (k:Int)).drop (dn+1)) 4611686018427387904:=by unfold kj;rw[cX]
 have r8:=hc ((k:Int),(dn:Int));dsimp only at Qg r8;unfold pc;dsimp only;rw[cX];generalize hB0:kj g (k:Int) (dn:Int)=B0 at*
 try refine GA ?_
 cases hf:f ((k:Int),(dn:Int))with
 | some v=>
  have hv:=r8 v hf;subst hv;clear IQ zv Qg r8;refine dK ([aO go (Cw g.aQ g.bB (ak bp g.az.length cp) gm).toArray 314,fq jd gm f c,aO g3 (aP (iT ((k:Int),(dn:Int),(ln:Int))).toArray).cells 278,aO g5 #[ap av (k:Int),ap av (dn:Int)] 340]) (.calm 0 (.calm 1 (.calm 2 (.calm 3 (.calm 4 (.calm 5 (.calm 6 (.calm 7 (.calm 8 (.calm 9 (.calm 10 (.done)))))))))))) (fun _ h=>h) ?_
  repeat(first|refine GW ?_|(refine GN ?_;first|refine QW (aw (v:= .map (ah gm)) aI.ty I (aE (i:=0) I I)) ?_|refine QW (aL (i:=3) aI.ty I I I) ?_|refine QW (pD (x:=((k:Int),(dn:Int))) jd bI.eq NN (i:=1) I I I Vj) ?_))
  rw[hf];dsimp only[Z9,QT]
  try refine GA ?_
  have hdv:B0/2^62<=B0:=Z8 _ _;have ha1:=agw (y:=B0/2^62) J;have Dp:∀w,(iP .shr .u64 (B0:Int) .u64 62).run aC w= .ok (.int .u64 ((B0/2^62:Nat):Int)) w:=fun w=>aau B0 62 64 .u64 .u64 I akV w;have vD:∀w,(iP .shl .u64 1 .i64 (ln:Int)).run aC w= .ok (.int .u64 ((2^ln:Nat):Int)) w:=fun w=>adA ln J w
  by_cases cb:B0.testBit 62=aB
  ·rw[if_pos cb]
   have hn:=FR hlt cb;have fQ:B0^^^2^62<18446744073709551616:=QR (n:=64) hlt akV;have L6:=sk fQ (Aj (m:=ln) J);have Ft:B0/2^62 %2=1:=by rw[Aw]at cb;exact of_decide_eq_true cb
   generalize B0/2^62=D1 at*;generalize B0^^^2^62=D2 at*;generalize 2^ln=D3 at*
   repeat(first|refine GC ?_|refine gV (pT I I Dp) ?_|refine gV (nR I I ha1) ?_|refine gV (cP (b:=aD) I I (decide_eq_false J)) ?_|refine gV (TQ I I hn) ?_|refine gV (aw (v:=ap av (ln:Int)) aI.ty I (aE (i:=2) I I)) ?_|refine gV (En I I vD) ?_|refine gV (zt I I L6) ?_|refine GB ?_)
   exact dq I I fun w hm=>hm.cZ (S:=⟨fun(x:(RK->Option Value)×Nat)=>jT (kj g) x.1/\x.2<=c+1,fun _=>ib (D2|||D3),fun x=>[aO go (Cw g.aQ g.bB (ak bp g.az.length cp) gm).toArray 314,fq jd gm x.1 x.2]⟩) (f,c) ⟨hc,by omega⟩ [0,1] akV I
  rw[if_neg cb];have xl:B0/2^62 %2=0:=by
   rw[Aw,decide_eq_true_eq]at cb;omega
  generalize B0/2^62=D1 at*
  repeat(first|refine GC ?_|refine gV (pT I I Dp) ?_|refine gV (nR I I ha1) ?_|refine gV (cP (b:=aB) I I (decide_eq_true J)) ?_|refine GB ?_)
  exact dq I I fun w hm=>hm.cZ (S:=⟨fun(x:(RK->Option Value)×Nat)=>jT (kj g) x.1/\x.2<=c+1,fun _=>ib B0,fun x=>[aO go (Cw g.aQ g.bB (ak bp g.az.length cp) gm).toArray 314,fq jd gm x.1 x.2]⟩) (f,c) ⟨hc,by omega⟩ [0,1] akV I
 | none=>
  clear r8;refine dK ([aO go (Cw g.aQ g.bB (ak bp g.az.length cp) gm).toArray 314,fq jd gm f c,aO g3 (aP (iT ((k:Int),(dn:Int),(ln:Int))).toArray).cells 278,aO g5 #[ap av (k:Int),ap av (dn:Int)] 340]) (.calm 0 (.calm 1 (.calm 2 (.calm 3 (.calm 4 (.calm 5 (.calm 6 (.calm 7 (.calm 8 (.calm 9 (.calm 10 (.done)))))))))))) (fun _ h=>h) ?_
  repeat(first|refine GW ?_|(refine GN ?_;first|refine QW (aw (v:= .map (ah gm)) aI.ty I (aE (i:=0) I I)) ?_|refine QW (aL (i:=3) aI.ty I I I) ?_|refine QW (pD (x:=((k:Int),(dn:Int))) jd bI.eq NN (i:=1) I I I Vj) ?_))
  rw[hf];dsimp only[Z9,QT]
  try refine GA ?_
  refine dK ([aO go (Cw g.aQ g.bB (ak bp g.az.length cp) gm).toArray 314,aO g3 (aP (iT ((k:Int),(dn:Int),(ln:Int))).toArray).cells 278]) (.calm 0 (.calm 1 (.calm 2 (.calm 3 (.calm 4 (.calm 5 (.calm 6 (.calm 7 (.calm 8 (.calm 9 (.calm 11 (.calm 12 (.calm 13 (.one 10 (.calm 14 (.one 15 (.calm 16 (.calm 17 (.calm 18 (.calm 19 (.done))))))))))))))))))))) (bZ [0,2]) ?_
  repeat(first|(refine GN ?_;first|refine QW QP ?_|refine QW (aU aI.ty I (cs:=[ap av g.aQ,ap av g.bB,ak bp g.az.length cp]) I (fun j v h=>aE (i:=0) I (KT h))) ?_|refine QW (aw (v:=ap av (k:Int)) aI.ty I (aE (i:=1) I I)) ?_|refine QW (aw (v:=ap av (dn:Int)) aI.ty I (aE (i:=1) I I)) ?_|refine QW (dh (r:=((dn+1:Nat):Int)) I I J J J) ?_|refine GX ?_)|refine GW ?_)
  refine aJ I ?_;refine aW (fP aF.en I I I) (fun w hm=>IQ _ (hm.pick [] akV I)) I I I ?_;rintro x hx
  conv=>arg 8;simp only[zJ,dr,ret,id_eq,Av]
  conv=>arg 7;simp only[Av]
  obtain⟨bb,cc,hv,hlc,vD⟩:=Ax (W:=B) (i:=4) (L:=[aO go (Cw g.aQ g.bB (ak bp g.az.length cp) gm).toArray 314,fq jd gm f c,aO g3 (aP (iT ((k:Int),(dn:Int),(ln:Int))).toArray).cells 278,aO g5 #[ap av (k:Int),ap av (dn:Int)] 340,BM x]) ho Cf hk hx rfl;rw[hv]at vD⊢;have NP:((dA g.az (k:Int)).drop (dn+1)).take ((dA g.az (k:Int)).length-(dn+1))=(dA g.az (k:Int)).drop (dn+1):=ig (by rw[List.length_drop];exact aT _);have kS:=fun w hm=>PY (i:=dn+1) (j:=(dA g.az (k:Int)).length) FT (vD w hm) J (aT _);rw[NP]at kS;generalize Vo:(dA g.az (k:Int)).length=m at*;refine aK (bZ [0,2]) ?_
  repeat(first|(refine GN ?_;first|refine QW QP ?_|refine QW (Bh (i:=dn+1) bI.eq aI.ty I I J hlc) ?_|refine GX ?_)|refine GW ?_)
  refine aJ I ?_;refine aW (ye aF.en I I I I) (fun w hm=>zv _ _ _ (ho.mem hm) (kS w hm)) I I I ?_;intro _ _;refine zL ?_;rw[<-Hl];refine aK (bZ [0,2]) ?_
  try refine GW ?_
  try refine GA ?_
  refine dK ([aO go (Cw g.aQ g.bB (ak bp g.az.length cp) gm).toArray 314,aO g5 #[ap av (k:Int),ap av (dn:Int)] 340]) (.calm 0 (.calm 1 (.calm 2 (.calm 3 (.calm 4 (.calm 5 (.one 6 (.done)))))))) (bZ [0,3]) ?_
  repeat(first|refine GW ?_|(refine GN ?_;first|refine QW (aw (v:= .map (ah gm)) aI.ty I (aE (i:=0) I I)) ?_|refine QW (aL (i:=1) aI.ty I I I) ?_))
  refine aJ I ?_;refine mK (i:=1) (x:=((k:Int),(dn:Int))) (v:=ib B0) jd bI.eq I I I I Vj J ?_;refine zL ?_;rw[hf];dsimp only[QT];refine aK (bZ [0,3]) ?_
  try refine GW ?_
  try refine GA ?_
  have hdv:B0/2^62<=B0:=Z8 _ _;have ha1:=agw (y:=B0/2^62) J;have Dp:∀w,(iP .shr .u64 (B0:Int) .u64 62).run aC w= .ok (.int .u64 ((B0/2^62:Nat):Int)) w:=fun w=>aau B0 62 64 .u64 .u64 I akV w;have vD:∀w,(iP .shl .u64 1 .i64 (ln:Int)).run aC w= .ok (.int .u64 ((2^ln:Nat):Int)) w:=fun w=>adA ln J w
  by_cases cb:B0.testBit 62=aB
  ·rw[if_pos cb]
   have hn:=FR hlt cb;have fQ:B0^^^2^62<18446744073709551616:=QR (n:=64) hlt akV;have L6:=sk fQ (Aj (m:=ln) J);have Ft:B0/2^62 %2=1:=by rw[Aw]at cb;exact of_decide_eq_true cb
   generalize B0/2^62=D1 at*;generalize B0^^^2^62=D2 at*;generalize 2^ln=D3 at*
   repeat(first|refine GC ?_|refine gV (pT I I Dp) ?_|refine gV (nR I I ha1) ?_|refine gV (cP (b:=aD) I I (decide_eq_false J)) ?_|refine gV (TQ I I hn) ?_|refine gV (aw (v:=ap av (ln:Int)) aI.ty I (aE (i:=2) I I)) ?_|refine gV (En I I vD) ?_|refine gV (zt I I L6) ?_|refine GB ?_)
   exact dq I I fun w hm=>hm.cZ (S:=⟨fun(x:(RK->Option Value)×Nat)=>jT (kj g) x.1/\x.2<=c+1,fun _=>ib (D2|||D3),fun x=>[aO go (Cw g.aQ g.bB (ak bp g.az.length cp) gm).toArray 314,fq jd gm x.1 x.2]⟩) (_,c+1) ⟨Qg,aT _⟩ [0,1] akV I
  rw[if_neg cb];have xl:B0/2^62 %2=0:=by
   rw[Aw,decide_eq_true_eq]at cb;omega
  generalize B0/2^62=D1 at*
  repeat(first|refine GC ?_|refine gV (pT I I Dp) ?_|refine gV (nR I I ha1) ?_|refine gV (cP (b:=aB) I I (decide_eq_true J)) ?_|refine GB ?_)
  exact dq I I fun w hm=>hm.cZ (S:=⟨fun(x:(RK->Option Value)×Nat)=>jT (kj g) x.1/\x.2<=c+1,fun _=>ib B0,fun x=>[aO go (Cw g.aQ g.bB (ak bp g.az.length cp) gm).toArray 314,fq jd gm x.1 x.2]⟩) (_,c+1) ⟨Qg,aT _⟩ [0,1] akV I
end cg
namespace cg
open Go.RowKit cT ey bP Go.Lib Go.Sort
theorem adH(x:Int)(w:World):Calls aC 207 #[ap av x] w fun e w'=>e= .returned (.bool aD)/\w'=w:=by
 go_enter Tryz.func207,Tryz.ntmps207
 go_wp2
 go_ret
 exact⟨by simp,rfl⟩
theorem Wl(x y:Int)(w:World):Calls aC 179 #[ap av x,ap av y] w fun e w'=>e= .returned (ap av (vY x y))/\w'=w:=by
 go_enter Tryz.func179,Tryz.ntmps179
 go_wp2_with (go_at_call 207;refine(adH _ _).mono ?_;rintro e w' ⟨rfl,hw⟩;rw[hw])
 all_goals (go_ret;refine⟨?_,rfl⟩;unfold vY;(repeat' split)<;>first|rfl|(exfalso;omega))
def orI(a b c:Int):Int:=if a≠0 then a else if b≠0 then b else c
theorem ahX{a b c:Int}(h:¬a=0):orI a b c=a:=if_pos h
theorem ahY{b c:Int}(h:¬b=0):orI 0 b c=b:=by unfold orI;rw[if_neg (by simp),if_pos h]
theorem afb{c:Int}:orI 0 0 c=c:=by unfold orI;rw[if_neg (by simp),if_neg (by simp)]
theorem ajI(g:Nat)(a b c:Int)(w:World)(h0:w.cell? ⟨g,0,aj⟩=ah (ap av a))(h1:w.cell? ⟨g,1,aj⟩=ah (ap av b))(h2:w.cell? ⟨g,2,aj⟩=ah (ap av c)):
 Calls aC 178 #[ak (ah ⟨g,0,aj⟩) 3 3] w fun e w'=>e= .returned (ap av (orI a b c))/\w'=w:=by
 go_enter Tryz.func178,Tryz.ntmps178
 go_wp2
 by_cases ha:a=0
 ·subst ha
  refine wp_loop_rounds 4 ?_;rw[rounds_succ]
  go_wp2
  by_cases hb:b=0
  ·subst hb
   rw[rounds_succ]
   go_wp2
   by_cases hc:c=0
   ·subst hc
    rw[rounds_succ]
    go_wp2
    rw[rounds_succ]
    go_wp2
    go_ret
    exact⟨by rw[afb];rfl,rfl⟩
   rw[rounds_succ]
   go_wp2
   go_ret
   exact⟨by rw[afb];rfl,rfl⟩
  rw[rounds_succ]
  go_wp2
  go_ret
  exact⟨by rw[ahY hb];rfl,rfl⟩
 ·refine wp_loop_rounds 1 ?_
  rw[rounds_succ]
  go_wp2
  go_ret
  exact⟨by rw[ahX ha];rfl,rfl⟩
theorem ahZ(o1 o2:Obj)(a b c:Int)(T:TypeId)(w:World):
 Calls aC 178 #[ak (ah ⟨w.heap.size+1+1,0,aj⟩) 3 3] (((w.alloc o1).alloc o2).alloc (.cells #[ap av a,ap av b,ap av c] T)).drew fun e w'=>e= .returned (ap av (orI a b c))/\w'=(((w.alloc o1).alloc o2).alloc (.cells #[ap av a,ap av b,ap av c] T)).drew:=by
 have hg:(((w.alloc o1).alloc o2).alloc (.cells #[ap av a,ap av b,ap av c] T)).drew.heap[w.heap.size+1+1]?=ah (.cells #[ap av a,ap av b,ap av c] T (0,0)):=by
  have h:=heap_alloc_new ((w.alloc o1).alloc o2) (.cells #[ap av a,ap av b,ap av c] T);have e:((w.alloc o1).alloc o2).heap.size=w.heap.size+1+1:=by
   show((w.heap.push o1).push o2).size=_
   rw[QJ,QJ]
  rw[e]at h;exact h
 exact ajI _ a b c _ (cell_of_row _ _ 0 _ T (0,0) hg) (cell_of_row _ _ 1 _ T (0,0) hg) (cell_of_row _ _ 2 _ T (0,0) hg)
end cg
namespace cg
open Go.RowKit cT ey bP Go.Lib Go.Sort
theorem aav(a b:Obj)(w:World):((w.alloc a).alloc b).heap[w.heap.size]?=ah a/\((w.alloc a).alloc b).heap[w.heap.size+1]?=ah b:=by
 have e:(w.alloc a).heap.size=w.heap.size+1:=by
  show(w.heap.push a).size=_
  rw[QJ]
 constructor
 ·rw[heap_alloc_old (w.alloc a) b J]
  exact heap_alloc_new w a
 have h:=heap_alloc_new (w.alloc a) b;rw[e]at h;exact h
theorem Ri(a b c:Obj)(w:World):(((w.alloc a).alloc b).alloc c).drew=grow (w.drewN 1) #[a,b,c]:=by
 rw[alloc_eq_grow,alloc_eq_grow,alloc_eq_grow,grow_grow,grow_grow];rfl
theorem adI(x y:bP.Item)(w:World):Calls aC 161 #[aP (iT x).toArray,aP (iT y).toArray] w fun e w'=>e= .returned (ap av (NC x y))/\∃q os',w'=grow (w.drewN q) os':=by
 obtain⟨x1,x2,x3⟩:=x;obtain⟨y1,y2,y3⟩:=y;have ho:NC (x1,x2,x3) (y1,y2,y3)=orI (vY x1 y1) (vY x2 y2) (vY x3 y3):=rfl;rw[ho];clear ho;unfold iT;dsimp only;obtain⟨t1,t2⟩:=aav (.cells #[ap av x1,ap av x2,ap av x3] 278) (.cells #[ap av y1,ap av y2,ap av y3] 278) w;have k1:=cell_of_row _ _ 0 _ _ (0,0) t1;have k2:=cell_of_row _ _ 1 _ _ (0,0) t1;have k3:=cell_of_row _ _ 2 _ _ (0,0) t1;have k4:=cell_of_row _ _ 0 _ _ (0,0) t2;have k5:=cell_of_row _ _ 1 _ _ (0,0) t2;have k6:=cell_of_row _ _ 2 _ _ (0,0) t2;clear t1 t2
 go_enter Tryz.func161,Tryz.ntmps161
 go_wp2
 go_region_held (fun w'=>w'.cell? ⟨w.heap.size,0,aj⟩=ah (ap av x1)/\w'.cell? ⟨w.heap.size,1,aj⟩=ah (ap av x2)/\w'.cell? ⟨w.heap.size,2,aj⟩=ah (ap av x3)/\w'.cell? ⟨w.heap.size+1,0,aj⟩=ah (ap av y1)/\w'.cell? ⟨w.heap.size+1,1,aj⟩=ah (ap av y2)/\w'.cell? ⟨w.heap.size+1,2,aj⟩=ah (ap av y3)) (go_keep) (first|(go_at_call 179;refine(Wl _ _ _).mono ?_;rintro e w' ⟨rfl,rfl⟩)|(go_at_call 178;have hzz:=(ahZ (.cells #[ap av x1,ap av x2,ap av x3] 278) (.cells #[ap av y1,ap av y2,ap av y3] 278) (vY x1 y1) (vY x2 y2) (vY x3 y3) 3 w);refine hzz.mono ?_;clear hzz;rintro e w' ⟨rfl,rfl⟩))
 go_wp2
 go_ret
 refine⟨rfl,1,#[.cells #[ap av x1,ap av x2,ap av x3] 278,.cells #[ap av y1,ap av y2,ap av y3] 278,.cells #[ap av (vY x1 y1),ap av (vY x2 y2),ap av (vY x3 y3)] 3],?_⟩;exact Ri _ _ _ w
end cg
namespace cg
open Go.RowKit cT ey aM dN dx bP
theorem Rj(t n:Int)(vp:Value)(gm:Nat)(w:World):(dm 314 #[(0,dD t n vp),(1,.map (ah gm))]).run aC w= .ok (aP (Cw t n vp gm).toArray) w:=by kernel_rfl
def adJ(t n:Int)(vp:Value):Spec (Nat×Nat):=⟨fun _=>True,fun x=>aH (ah ⟨x.1,0,aj⟩),fun x=>[fq jd x.2 (fun _=>aj) 0,aO x.1 (Cw t n vp x.2).toArray 314]⟩
theorem KU(t n:Int)(vp:Value)(w:World):Calls aC 126 #[dD t n vp] w (cJ (adJ t n vp) w):=by
 have hb:=Rj t n vp;refine enter (args:=[dD t n vp]) (n:=7) Tryz.func126 I I I ?_;refine bY (a_ (bQ I I I fun g1=>?_));refine zL ?_
 repeat(first|refine GA ?_|refine gV (aL (i:=0) aI.ty I I I) ?_)
 refine ym jd I fun gm=>?_;refine zL ?_
 repeat(first|refine GA ?_|refine gV (bz I (hb _)) ?_)
 refine bQ I I I fun go=>?_;refine zL ?_
 try refine GA ?_
 exact dq I I fun w hm=>hm.meets (S:=adJ t n vp) (go,gm) trivial [1,2] akV I
end cg
namespace cg
open Go.RowKit cT ey aM dN dx bP
theorem KV{x:Int}(h0:0<=x)(h1:x<256):KD.wrap x=(((fT x.toNat).toNat:Nat):Int):=by
 obtain⟨n,rfl⟩:=fz h0;rw[cX,KC];simp
theorem IR(l:List bP.Item):(iD l).length=3*l.length:=by
 induction l with
 |nil=>rfl
 |cons x r ih=>
  have:iD (x::r)=[fT x.1.toNat,fT x.2.1.toNat,fT x.2.2.toNat]++iD r:=rfl;rw[this,bK,ih,cO];show 3+3*r.length=3*(r.length+1)
  omega
theorem Rk{l:List bP.Item}{k:Nat}(h:k<l.length):iD (l.take (k+1))=iD (l.take k)++[fT l[k].1.toNat,fT l[k].2.1.toNat,fT l[k].2.2.toNat]:=by
 unfold iD;rw[ir h,fH];rfl
theorem FU(vl:Value)(l:List bP.Item)(w:World)(hl:Sl w vl l.length (l.flatMap iT))(hb:∀it∈l,0<=it.1/\it.1<256/\0<=it.2.1/\it.2.1<256/\0<=it.2.2/\it.2.2<256)(hn:l.length<=20000):
 Calls aC 128 #[vl] w (cJ (ret (str (iD l))) w):=by
 obtain⟨bl,cl,rfl,r8,C1,IB⟩:=hl;unfold maxLen at C1;refine enter (args:=[ak bl l.length cl]) (n:=27) Tryz.func128 I I I ?_
 try refine GA ?_
 refine jw 5 1 ?_
 conv=>arg 7;simp only[zA,zB,zC,zD,zE,zF,zG,zH,zI,dr,ret,id_eq]
 refine dU (ι:=Nat×Value) (fun(k,_)=>k<=l.length) (fun(k,v)=>[(3,v),(6,ak bl l.length cl),(7,ap av l.length),(8,ap av (k:Int))])
  (fun(k,v)=>[bx 5 1 v (iD (l.take k)).length ((iD (l.take k)).map Yj)]) (fun(k,_)=>l.length-k) (0,ak aj 0 0) (bC _) ?_
 rintro⟨k,v⟩ i1;dsimp only at i1⊢
 by_cases c1:k<l.length
 ·obtain⟨b,off,rfl,fZ⟩:=IB J
  have eK:=fun L=>hU (L:=L) mi fZ c1;have FV:∀(L:List b9) (j:Nat) (u:Value),(iT l[k])[j]?=ah u->At (w:b_) L ⟨b,off+k*3+j,aj⟩ u:=eK;clear eK IB fZ;obtain⟨b1,b2,b3,b4,b5,b6⟩:=hb l[k] (bV c1);have pJ:=Rk c1;have IS:(iD (l.take k)).length<=60000:=by rw[IR,List.length_take];omega
  generalize l[k]=x at*;obtain⟨p,d,lo⟩:=x;dsimp only at b1 b2 b3 b4 b5 b6 pJ;have e1:=KV b1 b2;have e2:=KV b3 b4;have e3:=KV b5 b6;generalize fT p.toNat=y1 at*;generalize fT d.toNat=y2 at*;generalize fT lo.toNat=y3 at*;generalize hN:iD (l.take k)=N at*
  repeat(first|refine GA ?_|refine gV (aR bI.eq aI.ty I I c1) ?_|refine gV (aU (cs:=iT (p,d,lo)) aI.ty I I (FV _)) ?_)
  refine aY I fun g5=>?_;refine zL ?_;refine gG 1 (cs':=(iT (p,d,lo)).toArray) ?_;refine zL ?_
  repeat(first|refine GA ?_|refine gV (aw (v:=ap av p) aI.ty I (aE (i:=1) I I)) ?_|refine gV (aw (v:=ap av d) aI.ty I (aE (i:=1) I I)) ?_|refine gV (aw (v:=ap av lo) aI.ty I (aE (i:=1) I I)) ?_|refine gV (iV bI.eq bI.eq I e1) ?_|refine gV (iV bI.eq bI.eq I e2) ?_|refine gV (iV bI.eq bI.eq I e3) ?_)
  refine SZ [Yj y1,Yj y2,Yj y3] I I I (by intro v hv;simp at hv;rcases hv with rfl|rfl|rfl<;>rfl) I I fun g22=>?_;refine zL ?_;refine eT (i:=0) (e:=5) (size:=1) (bytes:=1) (m:=N.length) (xs:=N.map Yj) (k:=3) (ys:=[Yj y1,Yj y2,Yj y3]) I (k9 (i:=2) I (fun j u h=>by simpa using h) (aT 3) akV) I I I (by intro u hu;simp at hu;rcases hu with rfl|rfl|rfl<;>rfl) J J I fun v'=>?_;refine zL ?_
  try refine GA ?_
  refine dv [0] ?_;exact bO (k+1,v') (by show k+1<=l.length;omega) (by show l.length-(k+1)<l.length-k;omega) (hl:=by dsimp only;rw[pJ,bK,eb];rfl)
 ·obtain rfl:k=l.length:=by omega
  rw[List.take_length]
  repeat(first|refine GA ?_|refine gV (U4 bI.eq bI.eq bI.eq I I (kX (i:=0) I)) ?_)
  exact dR
theorem Hs(T N:Nat)(hT:T<=1000)(hN:N<=1000)(vp:Value)(w:World):
 Calls aC 130 #[dD (T:Int) (N:Int) vp] w (cJ (dr 148 2 (lR T N).length ((lR T N).flatMap dS) id) w):=by
 have Ft:=fun(q:Int)=>IJ 1 q;have JX:=fun(q:Int)=>IJ 2 q;refine enter (args:=[dD (T:Int) (N:Int) vp]) (n:=29) Tryz.func130 I I I ?_;refine bY (a_ (bQ I I I fun g1=>?_));refine zL ?_
 repeat(first|refine GA ?_|refine gV (aw (v:=ap av (T:Int)) aI.ty I (aE (i:=0) I I)) ?_)
 refine jw 148 2 ?_
 conv=>arg 7;simp only[zA,zB,zC,zD,zE,zF,zG,zH,zI,dr,ret,id_eq]
 refine dU (ι:=Nat×Value) (fun(k,_)=>k<=T) (fun(k,v)=>[(1,aH (ah ⟨g1,0,aj⟩)),(3,v),(7,ap av (T:Int)),(8,ap av (k:Int))])
  (fun(k,v)=>[aO g1 (dD (T:Int) (N:Int) vp).cells 33,bx 148 2 v ((eu k).map (fun n:Nat=>((1:Int),(n:Int)))).length (((eu k).map (fun n:Nat=>((1:Int),(n:Int)))).flatMap dS)]) (fun(k,_)=>T-k) (0,ak aj 0 0) (bC _) ?_
 rintro⟨k,v⟩ i1;dsimp only at i1⊢
 by_cases c1:k<T
 ·have pJ:(eu (k+1)).map (fun n:Nat=>((1:Int),(n:Int)))=(eu k).map (fun n:Nat=>((1:Int),(n:Int)))++[((1:Int),(k:Int))]:=by rw[yR,eb];rfl
  have IS:((eu k).map (fun n:Nat=>((1:Int),(n:Int)))).length=k:=by rw[dw,qj]
  generalize hA:(eu k).map (fun n:Nat=>((1:Int),(n:Int)))=A at*
  repeat(first|refine GA ?_|refine gV (bz I (Ft _)) ?_)
  refine k7 (i:=1) I I I I I I I (fun z h=>by cases h;rfl) J J I fun z v'=>?_;refine zL ?_
  try refine GA ?_
  exact bO (k+1,v') (by show k+1<=T;omega) (by show T-(k+1)<T-k;omega) (hl:=by dsimp only;rw[pJ,bK,fH];rfl)
 obtain rfl:k=T:=by omega
 have IS:((eu k).map (fun n:Nat=>((1:Int),(n:Int)))).length=k:=by rw[dw,qj]
 have hS:lR k N=(eu k).map (fun n:Nat=>((1:Int),(n:Int)))++(eu N).map (fun n:Nat=>((2:Int),(n:Int))):=rfl;generalize lR k N=S at*;generalize hA:(eu k).map (fun n:Nat=>((1:Int),(n:Int)))=A at*
 repeat(first|refine GA ?_|refine gV (aw (v:=ap av (N:Int)) aI.ty I (aE (i:=0) I I)) ?_)
 refine lX (ι:=Nat×Value) (fun(j,_)=>j<=N) (fun(j,v)=>[(3,v),(18,ap av (N:Int)),(19,ap av (j:Int))])
  (fun(j,v)=>[aO g1 (dD (k:Int) (N:Int) vp).cells 33,bx 148 2 v (A++(eu j).map (fun n:Nat=>((2:Int),(n:Int)))).length ((A++(eu j).map (fun n:Nat=>((2:Int),(n:Int)))).flatMap dS)]) (fun(j,_)=>N-j) (0,v) (bC _) (by repeat' (first|exact cY|refine cK I ?_)) (by simp only[List.range_zero,mu,dQ]) ?_
 rintro⟨j,v⟩ j1;dsimp only at j1⊢
 by_cases c2:j<N
 ·have pJ:A++(eu (j+1)).map (fun n:Nat=>((2:Int),(n:Int)))=(A++(eu j).map (fun n:Nat=>((2:Int),(n:Int))))++[((2:Int),(j:Int))]:=by rw[yR,eb,dL];rfl
  have akD:(A++(eu j).map (fun n:Nat=>((2:Int),(n:Int)))).length<=2000:=by rw[bK,dw,qj];omega
  generalize hD:A++(eu j).map (fun n:Nat=>((2:Int),(n:Int)))=D at*
  repeat(first|refine GA ?_|refine gV (bz I (JX _)) ?_)
  refine k7 (i:=1) I I I I I I I (fun z h=>by cases h;rfl) J J I fun z v'=>?_;refine zL ?_
  try refine GA ?_
  exact bO (j+1,v') (by show j+1<=N;omega) (by show N-(j+1)<N-j;omega) (hl:=by dsimp only;rw[pJ,bK,fH];rfl)
 obtain rfl:j=N:=by omega
 rw[<-hS]
 try refine GA ?_
 exact dq I I fun w hm=>hm.meets (S:=dr 148 2 S.length (S.flatMap dS) id) v trivial [1] akV I
end cg
namespace cg
open Go.RowKit cT ey aM dN dx bP c_
def KW:zk bP.Item:=zM iT 3 (fun _=>rfl) (fun _=>True)
theorem KX{κ τ:Type}[DecidableEq κ][DecidableEq τ](f:κ->τ)(x:κ):∀(D:List κ),(∀y∈D,f y=f x->y=x)->idx (D.map f) (f x)=idx D x
 |[],_=>rfl
 | y::D,h=>by
  have ih:=KX f x D fun z hz=>h z (iI _ hz);unfold idx at ih⊢;rw[fw,Z5,Z5,ih]
  by_cases e:y=x
  subst e;simp;have:¬f y=f x:=fun e2=>e (h y (fc ..) e2);rw[show(f y==f x)=aD by simpa using this,show(y==x)=aD by simpa using e]
def w9(s:List bP.Item):Prop:=∀it∈s,0<=it.1/\it.1<256/\0<=it.2.1/\it.2.1<256/\0<=it.2.2/\it.2.2<256
theorem Wm{S:List (List bP.Item)}{s:List bP.Item}(hS:∀t∈S,w9 t)(hs:w9 s):iD s∈S.map iD↔s∈S:=by
 constructor
 ·intro h
  obtain⟨t,ht,e⟩:=eI.1 h;rw[<-FP (hS t ht) hs e];exact ht
 exact List.mem_map_of_mem
def stL(g6 gm g7:Nat)(vS vN:Value)(w_:List Value)(F:Nat->Prop)(S:List (List bP.Item)):List b9:=
 [aO g6 #[.map (ah gm)] 175,fq iw gm (kD (S.map iD)) S.length,aO g7 #[vS,vN] 203,bx 273 1 vS S.length w_,eY (cB KW) F (w_.map fun v=>[v]) S]
theorem Ay{w:World}{e:TypeId}{size n:Nat}{v:Value}{xs:List Value}(h:(bx e size v n xs).holds w):∀k,v.ownBlock=ah k->k<w.heap.size:=fun k hk=>(bx e size v n xs).lt w h k (.inl hk)
theorem Wn{w:World}{v:Value}{l:List bP.Item}(h:(bx 278 3 v l.length (l.flatMap iT)).holds w):(cB KW).is (fun k=>v.ownBlock=ah k) w [v] l:=
 ⟨v,rfl,kK.of_flat (Sl.dy h) (fun _ _=>trivial) (fun _ h=>h) (fun a n cp hv=>by rw[hv];rfl)⟩
theorem Cx(g6 gm g7:Nat)(vS vN:Value)(w_:List Value)(F:Nat->Prop)(S:List (List bP.Item))(vl:Value)(s:List bP.Item)(hS:∀t∈S,w9 t)(hs:w9 s)(hSl:S.length<=1000)(vD:s.length<=20000)(w:World)(B:b_)
 (hm:Mem B (stL g6 gm g7 vS vN w_ F S++[bx 278 3 vl s.length (s.flatMap iT)]) w):
 Calls aC 127 #[vl,aH (ah ⟨g6,0,aj⟩),aH (ah ⟨g7,0,aj⟩)] w (dX ⟨fun(_:Value×List Value×(Nat->Prop))=>True,fun _=>ap av ((jl S s).1:Int),fun x=>stL g6 gm g7 x.1 vN x.2.1 x.2.2 (jl S s).2⟩ B):=by
 have Cy:=Wm hS hs;have hix:=KX iD s S fun t ht e=>FP (hS t ht) hs e;have mJ:iw.ok (iD s):=by
  show(iD s).length<=9223372036854775807
  rw[IR];omega
 unfold stL at hm;refine eR hm (args:=[vl,aH (ah ⟨g6,0,aj⟩),aH (ah ⟨g7,0,aj⟩)]) (n:=30) Tryz.func127 I I I ?_;refine iH (i:=3) I gj fun gv=>?_;obtain⟨aS,cS,rfl,-⟩:=gv
 try refine GA ?_
 refine dK ([aO g6 #[.map (ah gm)] 175,fq iw gm (kD (S.map iD)) S.length,bx 278 3 vl s.length (s.flatMap iT)]) (.calm 0 (.calm 1 (.calm 2 (.calm 3 (.calm 4 (.calm 5 (.calm 6 (.calm 7 (.calm 8 (.done)))))))))) (bZ [0,1,5]) ?_
 repeat(first|refine GW ?_|(refine GN ?_;first|refine QW (aw (v:= .map (ah gm)) aI.ty I (aE (i:=0) I I)) ?_))
 refine na I (kZ aF.en I I) (fun w hm=>FU vl s w (Sl.dy (hm.get (i:=2) I)) hs vD) I I I ?_
 by_cases c:s∈S
 ·have hst:jl S s=(idx S s,S):=if_pos c
  rw[hst]
  repeat(first|refine GW ?_|(refine GN ?_;first|refine QW (uV (K:=iw) (x:=iD s) bI.eq oL (i:=1) I I I mJ (Cy.2 c)) ?_))
  rw[hix]
  try refine GA ?_
  exact dq I I fun w hm=>hm.cZ (S:=⟨fun(_:Value×List Value×(Nat->Prop))=>True,fun _=>ap av (idx S s:Int),fun x=>stL g6 gm g7 x.1 vN x.2.1 x.2.2 S⟩) (ak aS S.length cS,w_,F) trivial [0,1,2,3,4] akV I
 ·have hst:jl S s=(S.length,S++[s]):=if_neg c
  rw[hst];have hn:iD s∉S.map iD:=fun h=>c (Cy.1 h);have Hq:=Ic hn;have ah0:kD (S.map iD) (iD s)=none:=if_neg hn;rw[dw]at Hq;clear hix Cy
  repeat(first|refine GW ?_|(refine GN ?_;first|refine QW (uW (K:=iw) (x:=iD s) bI.eq oL (i:=1) I I I mJ hn) ?_))
  repeat(first|refine GA ?_|refine gV (aw (v:=ak aS S.length cS) aI.ty I (aE (i:=2) I I)) ?_)
  refine dK ([aO g6 #[.map (ah gm)] 175,bx 278 3 vl s.length (s.flatMap iT)]) (.calm 0 (.calm 1 (.calm 2 (.calm 3 (.one 4 (.done)))))) (bZ [0,5]) ?_
  repeat(first|refine GW ?_|(refine GN ?_;first|refine QW (aw (v:= .map (ah gm)) aI.ty I (aE (i:=0) I I)) ?_))
  refine na I (kZ aF.en I I) (fun w hm=>FU vl s w (Sl.dy (hm.get (i:=1) I)) hs vD) I I I ?_
  try refine GW ?_
  refine aJ I ?_;refine mK (i:=1) (x:=iD s) (v:=ap av (S.length:Int)) iw bI.eq I I I I mJ J ?_;refine zL ?_;rw[Hq,ah0,if_neg akV];refine aK (bZ [0,5]) ?_
  try refine GW ?_
  repeat(first|refine GA ?_|refine gV (aw (v:=ak aS S.length cS) aI.ty I (aE (i:=2) I I)) ?_)
  refine aV (i:=5) I fun JW J1=>?_;refine ka (i:=3) I I JW J1 I I (fun z h=>by cases h;rfl) J J I fun z vS'=>?_;refine zL ?_;refine zN (eY (cB KW) (fun k=>F k\/vl.ownBlock=ah k) ((w_.map fun v=>[v])++[[vl]]) (S++[s])) 5 4 [0,1,2,3] akV I I I (fun k hk=>hk.elim (fun h=>by cases h) fun h=>h.elim (fun h=> .inr (.inr h)) fun h=> .inl (.inl h)) (fun w hr he=>r9 he (Wn hr) (Ay hr)) ?_;refine zL ?_
  try refine GA ?_
  refine aV (i:=3) I fun jM nG=>bT (i:=2) I I I jM nG I ?_;refine zL ?_
  try refine GA ?_
  exact dq I I fun w hm=>hm.cZ (S:=⟨fun(_:Value×List Value×(Nat->Prop))=>True,fun _=>ap av (S.length:Int),fun x=>stL g6 gm g7 x.1 vN x.2.1 x.2.2 (S++[s])⟩) (vS',w_++[vl],fun k=>F k\/vl.ownBlock=ah k) trivial [0,1,2,3,4] akV (by dsimp only[stL];rw[eb,eb,bK];rfl)
end cg
namespace c_
section
variable(A:uh)(bl:Nat->Nat)
def FW(Q:List Nat)(tq:Int):List Nat:=if bl tq.toNat∈Q.map bl then Q else Q++[tq.toNat]
def qt(Q:List Nat)(tq:Int):List Nat×Int:=if val bl tq=0 then(Q,-1)else(FW bl Q tq,(idx ((FW bl Q tq).map bl) (bl tq.toNat):Int))
def lL(q:Nat)(Q:List Nat):Nat->List Nat×List Int
 |0=>(Q,[])
 |k+1=>((qt bl (lL q Q k).1 (A.d q k)).1,(lL q Q k).2++[(qt bl (lL q Q k).1 (A.d q k)).2])
def vec(l:List Int):Row:=rK fun b:Fin 256=>l.getD b 0
def xM:Nat->Nat->List Nat->List Row->List Nat×List Row
 |0,_,Q,out=>(Q,out)
 |f+1,n,Q,out=>if n<Q.length then xM f (n+1) (lL A bl (Q.getD n 0) Q 256).1 (out++[vec (lL A bl (Q.getD n 0) Q 256).2])else(Q,out)
def ny:List Nat×List Row:=xM A bl (A.n+1) 0 [0] []
end
def qu(A:uh):uh:=⟨(ny A (du A)).1.length,fun k b=>((ny A (du A)).2.getD k (eA 256 0)).toList.getD b 0,fun k=>((ny A (du A)).1.map A.tag).getD k 0⟩
section
variable{A:uh}{bl:Nat->Nat}
structure Wo(A:uh)(bl:Nat->Nat)(Q:List Nat):Prop where
 head:∃R,Q=0::R/\∀q∈R,bl q≠0
 lt:∀q∈Q,q<A.n
 nodup:(Q.map bl).Nodup
theorem Wo.len{Q:List Nat}(h:Wo A bl Q):Q.length<=A.n/\0<Q.length:=by
 have h1:Q.Nodup:=agp bl (fun a b hne e=>hne (by rw[e])) h.nodup;refine⟨oD h1 h.lt,?_⟩;obtain⟨R,rfl,_⟩:=h.head;simp
theorem ah1(hA:A.Ok):Wo A bl [0]:=⟨⟨[],rfl,by simp⟩,fun q hq=>by simp at hq;subst hq;exact hA.pos,by simp⟩
theorem adK{Q:List Nat}(h:Wo A bl Q){tq:Int}(h1:St A tq)(h0:val bl tq≠0):Wo A bl (FW bl Q tq):=by
 unfold FW;unfold val at h0;split at h0;exact absurd I h0;split;exact h
 rename_i ah2 hn
 unfold St at h1;obtain⟨R,rfl,hR⟩:=h.head;refine⟨⟨R++[tq.toNat],rfl,fun q hq=>?_⟩,fun q hq=>?_,?_⟩
 ·rcases gH.1 hq with hq|hq
  exact hR q hq;simp at hq;subst hq;exact h0
 ·rcases gH.1 hq with hq|hq
  exact h.lt q hq;simp at hq;subst hq;omega
 rw[eb];refine Eh.2 ⟨h.nodup,by simp,fun a ha b hb e=>?_⟩;simp at hb;subst hb e;exact hn ha
theorem adL(Q:List Nat)(tq:Int):∃E,FW bl Q tq=Q++E:=by
 unfold FW;split;exact⟨[],by simp⟩;exact⟨_,rfl⟩
theorem adM(Q:List Nat)(tq:Int):bl tq.toNat∈(FW bl Q tq).map bl:=by
 unfold FW;split
 assumption
 simp
theorem NQ{Q:List Nat}(h:Wo A bl Q){tq:Int}(h1:St A tq):Wo A bl (qt bl Q tq).1:=by
 unfold qt;split;exact h
 rename_i h0;exact adK h h1 h0
theorem NR(Q:List Nat)(tq:Int):∃E,(qt bl Q tq).1=Q++E:=by
 unfold qt;split;exact⟨[],by simp⟩;exact adL Q tq
theorem KY(q:Nat)(Q:List Nat):∀k,(lL A bl q Q k).2.length=k
 |0=>rfl
 |k+1=>by simp[lL,KY q Q k]
theorem ajJ(hA:A.Ok){q:Nat}(hq:q<A.n){b:Nat}(hb:b<256):St A (A.d q b):=hA.step q hq b hb
theorem DE(hA:A.Ok){Q:List Nat}(h:Wo A bl Q){q:Nat}(hq:q<A.n):∀k,k<=256->Wo A bl (lL A bl q Q k).1
 |0,_=>h
 |k+1,hk=>NQ (DE hA h hq k J) (ajJ hA hq J)
theorem KZ(q:Nat)(Q:List Nat):∀k,∃E,(lL A bl q Q k).1=Q++E
 |0=>⟨[],by simp[lL]⟩
 |k+1=>by
  obtain⟨E,h⟩:=KZ q Q k;obtain⟨E',h'⟩:=NR (bl:=bl) (lL A bl q Q k).1 (A.d q k);exact⟨E++E',by simp only[lL];rw[h',h,dL]⟩
def Cz(A:uh)(bl:Nat->Nat)(Q:List Nat)(q b:Nat)(x:Int):Prop:=(val bl (A.d q b)=0->x= -1)/\(val bl (A.d q b)≠0->val bl (A.d q b)∈Q.map bl/\x=(idx (Q.map bl) (val bl (A.d q b)):Int))
theorem Cz.more{Q:List Nat}{q b:Nat}{x:Int}(h:Cz A bl Q q b x)(E:List Nat):Cz A bl (Q++E) q b x:=by
 refine⟨h.1,fun h0=>?_⟩;obtain⟨h1,h2⟩:=h.2 h0;rw[eb,qY h1];exact⟨uC _ h1,h2⟩
theorem adN(Q:List Nat)(q b:Nat):Cz A bl (qt bl Q (A.d q b)).1 q b (qt bl Q (A.d q b)).2:=by
 unfold qt;split
 ·rename_i h;exact⟨fun _=>rfl,fun h'=>absurd h h'⟩
 rename_i h
 refine⟨fun h'=>absurd h' h,fun _=>?_⟩;have e:val bl (A.d q b)=bl (A.d q b).toNat:=by
  unfold val at h⊢;split at h;exact absurd I h
  rename_i hn;rw[if_neg hn]
 rw[e];exact⟨adM Q _,rfl⟩
theorem aaw(q:Nat)(Q:List Nat):∀k b,b<k->Cz A bl (lL A bl q Q k).1 q b ((lL A bl q Q k).2.getD b 0)
 |0,_,h=>by omega
 | k +1,b,h=>by
  have hl:=KY (A:=A) (bl:=bl) q Q k;simp only[lL]
  by_cases c:b<k
  ·have ih:=aaw q Q k b c
   obtain⟨E,e⟩:=NR (bl:=bl) (lL A bl q Q k).1 (A.d q k);rw[e,jx J];exact ih.more E
  obtain rfl:b=k:=by omega
  rw[mz J,hl,qk];exact adN _ q b
theorem adO(l:List Int)(b:Nat)(hb:b<256):(vec l).toList.getD b 0=l.getD b 0:=by
 have h:b<(vec l).toList.length:=by simp;exact hb
 rw[bD,bm h,iz,mF];unfold vec;rw[jk]
structure Wp(A:uh)(bl:Nat->Nat)(n:Nat)(Q:List Nat)(out:List Row):Prop where
 len:out.length=n
 le:n<=Q.length
 rows:∀k,k<n->∀b,b<256->Cz A bl Q (Q.getD k 0) b ((out.getD k (eA 256 0)).toList.getD b 0)
theorem IT(_:A.Ok){n:Nat}{Q:List Nat}{out:List Row}(h:Wp A bl n Q out)(hn:n<Q.length):Wp A bl (n+1) (lL A bl (Q.getD n 0) Q 256).1 (out++[vec (lL A bl (Q.getD n 0) Q 256).2]):=by
 obtain⟨E,e⟩:=KZ (A:=A) (bl:=bl) (Q.getD n 0) Q 256;have hr:=aaw (A:=A) (bl:=bl) (Q.getD n 0) Q 256;have hlen:=h.len;refine⟨by simp[hlen],by rw[e];simp;omega,fun k hk b hb=>?_⟩;have nu:k<Q.length:=by omega
 rw[e]at hr⊢;rw[jx nu]
 by_cases c:k<n
 ·rw[jx J]
  exact(h.rows k c b hb).more E
 obtain rfl:k=n:=by omega
 rw[mz J,hlen,qk];show Cz A bl (Q++E) (Q.getD k 0) b ((vec _).toList.getD b 0)
 rw[adO _ b hb];exact hr b hb
theorem wh{Q:List Nat}{n:Nat}(h:n<Q.length):Q.getD n 0∈Q:=by
 rw[bD,bm h];exact bV h
theorem aax(hA:A.Ok):∀(f n:Nat) (Q:List Nat) (out:List Row),Wo A bl Q->Wp A bl n Q out->A.n+1<=f+n->Wo A bl (xM A bl f n Q out).1/\Wp A bl (xM A bl f n Q out).1.length (xM A bl f n Q out).1 (xM A bl f n Q out).2
 |0,n,Q,out,hQ,hO,hf=>by have:=hQ.len;have:=hO.le;omega
 | f +1,n,Q,out,hQ,hO,hf=>by
  unfold xM;split
  ·rename_i hn
   exact aax hA f _ _ _ (DE hA hQ (hQ.lt _ (wh hn)) 256 (aT _)) (IT hA hO hn) J
  rename_i hn
  have:=hO.le;obtain rfl:n=Q.length:=by omega
  exact⟨hQ,hO⟩
theorem FX(hA:A.Ok):Wo A bl (ny A bl).1/\Wp A bl (ny A bl).1.length (ny A bl).1 (ny A bl).2:=
 aax hA _ _ _ _ (ah1 hA) ⟨rfl,bC _,fun k hk=>by omega⟩ J
theorem NS(hA:A.Ok){k:Nat}(hk:k<(qu A).n){b:Nat}(hb:b<256):Cz A (du A) (ny A (du A)).1 ((ny A (du A)).1.getD k 0) b ((qu A).d k b):=
 (FX (bl:=du A) hA).2.rows k hk b hb
theorem KX{Q:List Nat}(hn:(Q.map bl).Nodup){k:Nat}(hk:k<Q.length):idx (Q.map bl) (bl (Q.getD k 0))=k:=by
 have h:k<(Q.map bl).length:=by simpa using hk
 have:=EF hn h;rw[oZ]at this;rw[bD,bm hk];exact this
theorem T2{k:Nat}(hk:k<(qu A).n):(qu A).tag k=A.tag ((ny A (du A)).1.getD k 0):=by
 have nu:k<(ny A (du A)).1.length:=hk;show((ny A (du A)).1.map A.tag).getD k 0=_
 rw[bD,eQ,bD,bm nu];rfl
theorem DF(hA:A.Ok):(qu A).Ok:=by
 obtain⟨hQ,hO⟩:=FX (bl:=du A) hA;obtain⟨h1,h2⟩:=hQ.len;have hle:=hA.le;refine⟨h2,eC h1 hle,fun k hk b hb=>?_,fun k hk=>by rw[T2 hk];exact hA.tags _ (hQ.lt _ (wh hk))⟩;have hr:=NS hA hk hb
 by_cases c:val (du A) (A.d ((ny A (du A)).1.getD k 0) b)=0
 rw[hr.1 c];exact⟨by omega,by omega⟩;obtain⟨r1,r2⟩:=hr.2 c;have:=lf r1;rw[dw]at this;rw[r2];exact⟨by omega,by show _<((ny A (du A)).1.length:Int);omega⟩
def IU(A:uh)(k:Int):Int:=if k<0 then-1 else((ny A (du A)).1.getD k.toNat 0:Int)
theorem aay(hA:A.Ok){k:Int}(hk:St (qu A) k):St A (IU A k):=by
 unfold IU St at*;have:=hA.pos;split;omega;have:=(FX (bl:=du A) hA).1.lt _ (wh (show k.toNat<(ny A (du A)).1.length by have:=hk.2;show _<(qu A).n;omega));omega
theorem ajK(hA:A.Ok):IU A 0=0:=by
 obtain⟨R,e,_⟩:=(FX (bl:=du A) hA).1.head;show((ny A (du A)).1.getD 0 0:Int)=0
 rw[e];rfl
theorem aaz(hA:A.Ok){k:Int}(hk:St (qu A) k){b:Nat}(hb:b<256):val (du A) (IU A (dt (qu A) k b))=val (du A) (dt A (IU A k) b):=by
 by_cases c:k<0
 unfold dt IU;rw[if_pos c,if_pos c];rfl;have hkl:k.toNat<(qu A).n:=by unfold St at hk;omega
 have hr:=NS hA hkl hb;have hq:(ny A (du A)).1.getD k.toNat 0=(IU A k).toNat:=by unfold IU;rw[if_neg c];rfl
 have ah2:¬IU A k<0:=by unfold IU;rw[if_neg c];omega
 have e1:dt (qu A) k b=(qu A).d k.toNat b:=by unfold dt;rw[if_neg c]
 have e2:dt A (IU A k) b=A.d (IU A k).toNat b:=by unfold dt;rw[if_neg ah2]
 rw[hq]at hr;rw[e1,e2]
 by_cases c2:val (du A) (A.d (IU A k).toNat b)=0
 rw[hr.1 c2,c2];rfl;obtain⟨r1,r2⟩:=hr.2 c2;have hlt:=lf r1;rw[r2];generalize hv:val (du A) (A.d (IU A k).toNat b)=v at*;have hg:=th hlt;rw[dw]at hlt;rw[oZ]at hg;unfold IU;rw[if_neg J,cX];show val (du A) (((ny A (du A)).1.getD (idx ((ny A (du A)).1.map (du A)) v) 0:Nat):Int)=v
 unfold val;rw[if_neg J,cX,bD,bm hlt];exact hg
theorem IV(hA:A.Ok):∀(s:List UInt8) {k:Int},St (qu A) k->tg (qu A) (go (qu A) k s)=tg A (go A (IU A k) s)
 |[],k,hk=>by
  unfold go tg IU
  by_cases c:k<0
  rw[if_pos c,if_pos c];rfl;rw[if_neg c,if_neg c,if_neg J,cX];exact T2 (by unfold St at hk;omega)
 |b::s,k,hk=>by
  have hb:=b.toNat_lt;have h1:=IV hA s (xC (DF hA) hk hb);have h2:same A (IU A (dt (qu A) k b.toNat)) (dt A (IU A k) b.toNat):=((Ib hA).same hA (aay hA (xC (DF hA) hk hb)) (xC hA (aay hA hk) hb)).1 (aaz hA hk hb);show tg (qu A) (go (qu A) (dt (qu A) k b.toNat) s)=tg A (go A (dt A (IU A k) b.toNat) s)
  rw[h1];exact h2 s
theorem Wq(hA:A.Ok)(s:List UInt8):tg (qu A) (go (qu A) 0 s)=tg A (go A 0 s):=by
 have:=IV hA s (k:=0) ⟨by omega,by have:=(DF hA).pos;omega⟩
 rwa [ajK hA]at this
end
end c_
namespace c_
section
variable{A B:uh}
def Rm(A B:uh)(q r:Int):Prop:=∀s,tg A (go A q s)=tg B (go B r s)
theorem Rm.step{q r:Int}(h:Rm A B q r)(b:Nat)(hb:b<256):Rm A B (dt A q b) (dt B r b):=fun s=>by
 have:=h (fT b::s);have e:(fT b).toNat=b:=by simp;omega
 simp only[go,e]at this;exact this
theorem Az(f:Nat->Nat)(q:Nat):val f (q:Int)=f q:=by unfold val;rw[if_neg J,cX]
end
end c_
namespace cg
open Go.RowKit cT ey zS c_
def eZ(r:Row):List Value:=r.toList.map (.int .i16)
theorem dE(r:Row):(eZ r).length=256:=by simp[eZ]
theorem qw(r:Row){b:Nat}(hb:b<256):(eZ r)[b]?=ah (.int .i16 r[b]):=by
 unfold eZ;rw[eQ,bm (by simpa using hb),mF];rfl
theorem row_one(l:List Row):∀u∈l.flatMap eZ,u.oneCell'=true:=by
 intro u hu;obtain⟨x,_,h⟩:=List.mem_flatMap.1 hu;obtain⟨n,_,rfl⟩:=eI.1 h;rfl
theorem so(r:Row):(eZ r).all f_=true:=oR.2 fun u hu=>row_one [r] u (by simpa using hu)
def iM(vr vt:Value):Value:=aP #[vr,vt]
def wj:Row:=eA 256 0
structure Ht(w:World)(vr vt:Value)(R:List Row)(tags:List Int):Prop where
 hR:Sl w vr R.length (R.flatMap eZ)
 hT:Sl w vt tags.length (tags.flatMap cT.eX)
 rng:∀r∈R,∀x∈r.toList,-32768<=x/\x<=32767
 okT:∀x∈tags,cT.dM x
theorem Ht.gr{w w':World}{vr vt:Value}{R:List Row}{tags:List Int}(h:Ht w vr vt R tags)(hg:Gr w w'):Ht w' vr vt R tags:=⟨h.hR.gr hg,h.hT.gr hg,h.rng,h.okT⟩
theorem Ht.ah3{w:World}{vr vt:Value}{R:List Row}{tags:List Int}(h:Ht w vr vt R tags):ae5 w (iM vr vt) (R.map QX) tags:=by
 refine⟨vr,vt,rfl,?_,?_,fun r hr=>by obtain⟨x,_,rfl⟩:=eI.1 hr;simp⟩
 ·obtain⟨base,cap,h1,h2,h3,h4⟩:=h.hR
  refine⟨base,cap,by rw[dw];exact h1,by rw[dw];exact h2,h3,fun h0=>?_⟩;rw[dw]at h0;obtain⟨b,off,h5,h6⟩:=h4 h0;refine⟨b,off,h5,fun i hi=>?_⟩;have pP:i<R.length:=by simpa using hi
  refine⟨eZ R[i],⟨by simp,by simp[eZ],fun x hx=>h.rng R[i] (bV pP) x (by simpa using hx)⟩,fun j u hj=>?_⟩;have Yn:j<256:=by have:=(cU.1 hj).1;rwa [dE]at this
  have:=h6 (i*256+j) u (by rw[yi dE R i j pP Yn];exact hj);rw[Nat.add_assoc];exact this
 obtain⟨base,cap,h1,h2,h3,h4⟩:=h.hT;refine⟨base,cap,h1,h2,h3,fun h0=>?_⟩;obtain⟨b,off,h5,h6⟩:=h4 h0;refine⟨b,off,h5,fun i hi=>⟨[ap av tags[i]],⟨rfl,h.okT _ (bV hi)⟩,fun j u hj=>?_⟩⟩;have hj0:j=0:=by have:=(cU.1 hj).1;simpa using this
 subst hj0;rw[kQ,ji];refine h6 i u ?_;rw[show tags.flatMap cT.eX=tags.map (.int .i64)from cT.aeV tags,eQ,bm hi];exact hj
def eM(R:List Row)(tags:List Int):uh:=⟨R.length,fun i b=>(R.getD i wj).toList.getD b 0,fun i=>tags.getD i 0⟩
def lC(R:List Row)(tags:List Int):Int:=Bq (R.map QX) tags
theorem IW(R:List Row){i:Nat}(hi:i<R.length):(R.map QX).getD i []=(R.getD i wj).toList:=by
 rw[bD,eQ,bD,bm hi];rfl
theorem pe{R:List Row}{tags:List Int}(h:lC R tags=0):(eM R tags).Ok/\tags.length=R.length:=by
 obtain⟨h1,h2,h3,h4⟩:=Zj h;rw[dw]at h1 h2 h3 h4;refine⟨⟨h2,h1,fun i hi b hb=>?_,fun i hi=>?_⟩,h3⟩
 ·have:=(h4 i hi).2.2
  rw[IW R hi]at this;refine this _ ?_;show(R.getD i wj).toList.getD b 0∈_
  rw[bD (l:=(R.getD i wj).toList),bm (by simpa using hb)];exact bV _
 have:=h4 i hi;exact⟨this.1,this.2.1⟩
theorem K0{R:List Row}{tags:List Int}(h:(eM R tags).Ok)(hl:tags.length=R.length):lC R tags=0:=by
 have h1:R.length<=200:=h.le;have h2:0<R.length:=h.pos;unfold lC Bq;rw[dw,if_neg J,if_neg J,if_neg];simp only[oT,List.mem_range,not_exists,not_and];intro i hi;have ht:=h.tags i hi;have hs:=h.step i hi;rw[IW R hi];simp only[nX,lZ,decide_eq_true_eq,oT,not_or,not_exists,not_and];refine⟨⟨?_,?_⟩,fun t ht'=>?_⟩
 ·show ¬tags.getD i 0< -1
  have: -1<=tags.getD i 0:=ht.1;omega
 ·have:tags.getD i 0<20:=ht.2
  omega
 obtain⟨b,hb,rfl⟩:=jG.1 ht';have JJ:b<256:=by simpa using hb
 have:=hs b JJ;have e:(eM R tags).d i b=(R.getD i wj).toList[b]:=by
  show(R.getD i wj).toList.getD b 0=_
  rw[bD (l:=(R.getD i wj).toList),bm hb];rfl
 rw[e]at this;have e2:(eM R tags).n=R.length:=rfl;omega
theorem T3{A:uh}(hA:A.Ok):St A 0:=⟨by decide,by have:=hA.pos;show(0:Int)<A.n;omega⟩
def mD(R:List Row)(tags:List Int)(s:List UInt8):Int×Int:=if lC R tags=0 then(tg (eM R tags) (go (eM R tags) 0 s),0)else(0,lC R tags)
end cg
namespace cg
open Go.RowKit cT ey zS c_
theorem AA{R:List Row}{tags:List Int}{i:Nat}(h:i<tags.length):(eM R tags).tag i=tags[i]:=by
 show tags.getD i 0=_
 rw[bD,bm h];rfl
theorem NT{R:List Row}{tags:List Int}{i b:Nat}(h:i<R.length)(hb:b<256):(eM R tags).d i b=(R[i])[b]:=by
 show(R.getD i wj).toList.getD b 0=_
 rw[bD (l:=R),bm h,iz,bD,bm (by simpa using hb),iz,mF]
theorem T4(r:Row){b:Nat}(hb:b<256)(x:Int):(eZ r).toArray.setIfInBounds b (.int .i16 x)=(eZ (r.set b x)).toArray:=by
 unfold eZ;rw[Vector.toList_set,o7];simp
theorem sq{P:Program}{n:Nat}{W:b_}{fr:Fr}{L:List b9}{Q:Exit->Act->World->Prop}{ops:Array Oper}{rest:List Oper}{ty:TypeId}{pos:String}{after:Array Edge}{t:TypeId}{p x:Operand}{i g b:Nat}{r:Row}{T:TypeId}{agg:Bool}{z:Int}[hT:aI P t agg 1](hi:L[i]?=ah (aO g (eZ r).toArray T))(hp:ev fr p=ah (aH (ah ⟨g,0+b,aj⟩)))(hx:ev fr x=ah (.int .i16 z))(hb:b<256)
 (h:TL P n W ops Q rest fr (L.set i (aO g (eZ (r.set b z)).toArray T))):TL P n W ops Q (⟨aj,.store t p x,ty,pos,after,aj⟩::rest) fr L:=by
 rw[cI]at hp;refine bT hi hp hx I I ?_ ?_
 ·rw[eN,dE];exact FC▸hb
 ·rw[T4 r hb];exact h
def AB(x y:Int)(b:Nat):Row:=rK fun i:Fin 256=>if i<b then x else y
theorem Ws(x y:Int)(b:Nat)(hb:b<256):(AB x y b).set b x=AB x y (b+1):=by
 refine kA fun i hi=>?_;unfold AB;rw[vO,jk,jk];split
 ·rename_i e;subst e;simp
 have:i<b↔i<b+1:=by omega
 simp only[this]
theorem adP(x y:Int):AB x y 0=eA 256 y:=by
 refine kA fun i hi=>?_;unfold AB;simp
theorem Wt(x y:Int):AB x y 256=eA 256 x:=by
 refine kA fun i hi=>?_;unfold AB;simp[hi]
theorem FY:(db 256 (ap .i16 0)).toArray=(eZ (eA 256 0)).toArray:=by
 unfold eZ;rw[Vector.toList_replicate,List.map_replicate]
def C9(r:Row):Value:=aP (eZ r).toArray
theorem CA(x:Int)(w:World):Calls aC 118 #[.int .i16 x] w (cJ (ret (C9 (eA 256 x))) w):=by
 refine enter (args:=[.int .i16 x]) (n:=13) Tryz.func118 I I I ?_;refine bY (a_ (aY I fun g=>?_))
 try refine GA ?_
 refine aY I fun g3=>?_;refine zL ?_;rw[FY]
 try refine GA ?_
 rw[<-adP x 0];refine dU (ι:=Nat) (fun b=>b<=256) (fun b=>[(0,.int .i16 x),(2,aH (ah ⟨g,0,aj⟩)),(3,aH (ah ⟨g3,0,aj⟩)),(5,ap av (b:Int))]) (fun b=>[aO g (eZ (AB x 0 0)).toArray 257,aO g3 (eZ (AB x 0 b)).toArray 257]) (fun b=>256-b) 0 (bC _) ?_;intro b hb
 by_cases c:b<256
 ·repeat(first|refine GA ?_|refine gV (io bI.eq aI.ty I I c) ?_)
  refine sq (i:=1) I I I c ?_;rw[Ws x 0 b c];refine zL ?_
  try refine GA ?_
  exact bO (b+1) J (by show 256-(b+1)<256-b;omega)
 obtain rfl:b=256:=by omega
 rw[Wt]
 repeat(first|refine GA ?_|refine gV (aL (i:=1) aI.ty I I (by rw[eN,dE])) ?_)
 refine aX (i:=0) I I I (by rw[eN,dE]) (by have:=so (eA 256 x);simpa using this) (by rw[eN,dE]) ?_;refine zL ?_
 try refine GA ?_
 exact gU (i:=0) I I I (by rw[eN,dE]) fun w hm=>hm.ret
end cg
namespace cg
open Go.RowKit cT ey c_
def re(k:Kind):List Value:=ap av k.1::eZ k.2
def NU(k:Kind):Value:=aP (re k).toArray
theorem mN(k:Kind):(re k).length=257:=by simp[re,dE]
def T5(r:Row):Prop:=∀(b:Nat) (h:b<256),(-32768:Int)<=r[b]/\r[b]<=32767
theorem aaA{r r':Row}(h:eZ r=eZ r'):r=r':=by
 refine kA fun b hb=>?_;have h1:=qw r hb;rw[h,qw r' hb]at h1;simp at h1;exact h1.symm
theorem agx{r:Row}(h:T5 r)(d:Nat):KL aC (d+2) 257 (eZ r):=by
 have e2:aC.cellsOf 257=256:=by kernel_rfl
 have e3:aC.cellsOf 255=1:=by kernel_rfl
 refine YW (d:=d+1) Tryz.underlying257 (by rw[dE,e2]) fun i hi=>?_;have hc:((eZ r).drop (i*aC.cellsOf 255)).take (aC.cellsOf 255)=[.int .i16 r[i]]:=by
  rw[e3,kQ];have hl:i<(eZ r).length:=by rw[dE];exact hi
  rw[dJ hl];have:=qw r hi;rw[bm hl]at this;rw[nO this];rfl
 rw[hc];exact uP Tryz.underlying255 (h i hi).1 (h i hi).2
set_option maxRecDepth 100000 in
theorem aaB(k:Kind)(h:cT.dM k.1/\T5 k.2):∃l,keyOf aC 310 (NU k)=ah l:=by
 have e1:aC.cellsOf 310=257:=by kernel_rfl
 have e2:aC.cellsOf 257=256:=by kernel_rfl
 have e3:aC.cellsOf 3=1:=by kernel_rfl
 refine J4 (m:=3) (by kernel_rfl) (by kernel_rfl) (by rw[mN,e1]) (Dr 3 (by kernel_rfl)) fun d=>?_;refine Bm (d:=d+2) Tryz.underlying310 (by rw[mN,e1]) (by kernel_rfl) fun f hf=>?_;simp only[df,fI,or_false]at hf;rcases hf with rfl|rfl
 ·rw[e3]
  exact uP (d:=d+1) Tryz.underlying3 h.1.1 h.1.2
 show KL aC (d+2) 257 (((re k).drop 1).take (aC.cellsOf 257))
 rw[e2];have:((re k).drop 1).take 256=eZ k.2:=by
  show(eZ k.2).take 256=_
  rw[ig (by rw[dE];omega)]
 rw[this];exact agx h.2 d
theorem adQ:(310:TypeId)<aC.types.size:=of_decide_eq_true (by kernel_rfl)
set_option maxRecDepth 100000 in
def wk:yl aC 310 Kind where
 kv:=NU
 ok k:=cT.dM k.1/\T5 k.2
 law:=deep_law_laid Dq (m:=3) J adQ (by kernel_rfl) (by kernel_rfl)
 key x h:=aaB x h
 inj x y h:=by
  simp only[NU,nb,oX,re,fg,Fz,true_and]at h;exact nP h.1 (aaA h.2)
abbrev DG:=Vector Int 200
def yV(c:DG):List Value:=c.toList.map (.int .i16)
def agy(c:DG):Value:=aP (yV c).toArray
theorem sr(c:DG):(yV c).length=200:=by simp[yV]
theorem FZ(c:DG){b:Nat}(hb:b<200):(yV c)[b]?=ah (.int .i16 c[b]):=by
 unfold yV;rw[eQ,bm (by simpa using hb),mF];rfl
def aaC(c:DG):Prop:=∀(b:Nat) (h:b<200),(-32768:Int)<=c[b]/\c[b]<=32767
set_option maxRecDepth 100000 in
theorem adR(c:DG)(h:aaC c):∃l,keyOf aC 263 (agy c)=ah l:=by
 have e2:aC.cellsOf 263=200:=by kernel_rfl
 have e3:aC.cellsOf 255=1:=by kernel_rfl
 refine J4 (m:=2) (by kernel_rfl) (by kernel_rfl) (by rw[sr,e2]) (Dr 2 (by kernel_rfl)) fun d=>?_;refine YW (d:=d+1) Tryz.underlying263 (by rw[sr,e2]) fun i hi=>?_;have hc:((yV c).drop (i*aC.cellsOf 255)).take (aC.cellsOf 255)=[.int .i16 c[i]]:=by
  rw[e3,kQ];have hl:i<(yV c).length:=by rw[sr];exact hi
  rw[dJ hl];have:=FZ c hi;rw[bm hl]at this;rw[nO this];rfl
 rw[hc];exact uP Tryz.underlying255 (h i hi).1 (h i hi).2
theorem agz:(263:TypeId)<aC.types.size:=of_decide_eq_true (by kernel_rfl)
set_option maxRecDepth 100000 in
def NV:yl aC 263 DG where
 kv:=agy
 ok:=aaC
 law:=deep_law_laid Dq (m:=2) J agz (by kernel_rfl) (by kernel_rfl)
 key x h:=adR x h
 inj x y h:=by
  simp only[agy,nb,oX]at h;refine kA fun b hb=>?_;have h1:=FZ x hb;rw[h,FZ y hb]at h1;simp at h1;exact h1.symm
theorem aaD(w:World):(zeroValue 3).run aC w= .ok (ap av 0) w:=by kernel_rfl
end cg
namespace cg
open Go.RowKit cT ey zS c_
set_option maxRecDepth 100000 in
theorem Rn(w:World):(dm 310 #[(1,C9 (eA 256 0))]).run aC w= .ok (NU dead) w:=by kernel_rfl
set_option maxRecDepth 100000 in
theorem Ro(x:Int)(w:World):(dm 310 #[(0,ap av x)]).run aC w= .ok (NU (x,eA 256 0)) w:=by kernel_rfl
theorem Rp{x:Int}(h0: -32768<=x)(h1:x<=32767):ZY.wrap x=x:=by
 simp only[ZX,lU,sQ];simp;omega
abbrev l8(x:Int):Value:=ap av x
theorem aaE(x:Int)(r:Row){b:Nat}(hb:b<256)(y:Int):(re (x,r)).toArray.setIfInBounds (1+b) (.int .i16 y)=(re (x,r.set b y)).toArray:=by
 have e:1+b=b+1:=by omega
 unfold re;rw[e,Ee,A'];have:=T4 r hb y;rw[Ee]at this;have h2:(eZ r).set b (.int .i16 y)=eZ (r.set b y):=by simpa using this
 rw[h2]
section
variable{P:Program}{n:Nat}{W:b_}{fr:Fr}{L:List b9}{Q:Exit->Act->World->Prop}{ops:Array Oper}{rest:List Oper}{ty:TypeId}{pos:String}{after:Array Edge}
theorem Wu{t:TypeId}{p x:Operand}{i g b:Nat}{y:Int}{r:Row}{T:TypeId}{agg:Bool}{z:Int}[hT:aI P t agg 1](hi:L[i]?=ah (aO g (re (y,r)).toArray T))(hp:ev fr p=ah (aH (ah ⟨g,1+b,aj⟩)))(hx:ev fr x=ah (.int .i16 z))(hb:b<256)
 (h:TL P n W ops Q rest fr (L.set i (aO g (re (y,r.set b z)).toArray T))):TL P n W ops Q (⟨aj,.store t p x,ty,pos,after,aj⟩::rest) fr L:=by
 refine bT hi hp hx I I ?_ ?_
 ·rw[eN,mN];exact FC▸(by omega:1+b<257)
 ·rw[aaE y r hb];exact h
end
def F0(A:uh)(now:Nat->Nat)(i b:Nat):Row:=rK fun j:Fin 256=>if j<b then(val now (A.d i j):Int)else 0
theorem agA(A:uh)(now:Nat->Nat)(i:Nat):F0 A now i 0=eA 256 0:=by
 refine kA fun j hj=>?_;unfold F0;simp
theorem aaF(A:uh)(now:Nat->Nat)(i:Nat):((now i:Int),F0 A now i 256)=kind A now i:=by
 refine nP I (kA fun j hj=>?_);unfold F0 kind;simp[hj]
theorem NW(A:uh)(now:Nat->Nat)(i b:Nat)(hb:b<256):(F0 A now i b).set b (val now (A.d i b):Int)=F0 A now i (b+1):=by
 refine kA fun j hj=>?_;unfold F0;rw[vO,jk,jk];split
 ·rename_i e;subst e;simp
 have:j<b↔j<b+1:=by omega
 simp only[this]
theorem Wv(A:uh)(now:Nat->Nat)(i b:Nat)(hb:b<256)(h0:val now (A.d i b)=0):F0 A now i b=F0 A now i (b+1):=by
 rw[<-NW A now i b hb,h0];refine kA fun j hj=>?_;rw[vO];split
 ·rename_i e;subst e;unfold F0;simp
 rfl
structure K1(A:uh)(f n:Nat)(now:Nat->Nat):Prop where
 eq:du A=Ia A f n now
 rd:n=0\/Tj A n now
 le:n<=A.n+1
 fuel:A.n+2<=f+n
 lim:∀i,i<A.n->now i<=200
theorem adS{A:uh}(hA:A.Ok):K1 A (A.n+2) 0 (zT A):=⟨rfl,.inl I,bC _,by omega,fun i hi=>by unfold zT;have:=hA.tags i hi;omega⟩
theorem NX{A:uh}(hA:A.Ok){f n:Nat}{now:Nat->Nat}(h:K1 A f n now):∃f',f=f'+1/\((l_ A now).length=n->du A=next A now)/\((l_ A now).length≠n->K1 A f' (l_ A now).length (next A now)):=by
 have h1:=h.le;have h2:=h.fuel;obtain⟨f',rfl⟩:∃f',f=f'+1:=⟨f-1,by omega⟩;have e:=h.eq;unfold Ia at e;refine⟨f',rfl,fun hc=>by rw[e,if_pos hc],fun hc=>⟨by rw[e,if_neg hc],.inr ⟨now,rfl,rfl⟩,Bt now,?_,fun i hi=>?_⟩⟩
 ·have hp:=Ti (A:=A) now
  rcases h.rd with rfl|hr
  omega;have:=(yx hr).1;omega
 have:=qZ (A:=A) (now:=now) (q:=(i:Int)) J;rw[Az]at this;have h3:=Bt (A:=A) now;have h4:=hA.le;omega
theorem adT{A:uh}{now:Nat->Nat}(h:∀i,i<A.n->now i<=200){q:Int}(hq:St A q):val now q<=200:=by
 unfold val;split;omega;exact h _ (by unfold St at hq;omega)
theorem adU{A:uh}(hA:A.Ok){now:Nat->Nat}(h:∀i,i<A.n->now i<=200){i:Nat}(hi:i<A.n):cT.dM (kind A now i).1/\T5 (kind A now i).2:=by
 refine⟨?_,fun b hb=>?_⟩
 ·have:=h i hi
  show cT.dM (now i:Int)
  exact⟨by omega,by omega⟩
 have:=adT h (hA.step i hi b hb);unfold kind;rw[jk];show-32768<=(val now (A.d i b):Int)/\(val now (A.d i b):Int)<=32767
 omega
def kl(A:uh)(now:Nat->Nat)(i:Nat):List Kind:=dO [dead] ((kinds A now).take i)
theorem Ww(A:uh)(now:Nat->Nat):kl A now A.n=l_ A now:=by unfold kl l_;rw[ig (by simp[kinds])]
theorem IX(A:uh)(now:Nat->Nat){i:Nat}(hi:i<A.n):∃h:i<(kinds A now).length,(kinds A now)[i]=kind A now i:=⟨by simpa[kinds]using hi,by simp[kinds]⟩
theorem adV(A:uh)(now:Nat->Nat){i:Nat}(hi:i<A.n)(h:kind A now i∈kl A now i):kl A now (i+1)=kl A now i/\next A now i=idx (kl A now i) (kind A now i):=by
 obtain⟨hl,e⟩:=IX A now hi;have h2:=YY (D:=[dead]) hl;unfold kl at h;rw[e,if_pos h]at h2;refine⟨?_,h2⟩;unfold kl;rw[ir hl,k_,e,more,if_pos];exact h
theorem adW(A:uh)(now:Nat->Nat){i:Nat}(hi:i<A.n)(h:kind A now i∉kl A now i):kl A now (i+1)=kl A now i++[kind A now i]/\next A now i=(kl A now i).length:=by
 obtain⟨hl,e⟩:=IX A now hi;have h2:=YY (D:=[dead]) hl;unfold kl at h;rw[e,if_neg h]at h2;refine⟨?_,h2⟩;unfold kl;rw[ir hl,k_,e,more,if_neg];exact h
theorem aaG(A:uh)(now:Nat->Nat)(i:Nat):(kl A now i).length<=A.n+1:=by
 have h:=Bt (A:=A) now;have e:kinds A now=(kinds A now).take i++(kinds A now).drop i:=(List.take_append_drop _ _).symm;have hap:∀(a b D:List Kind),dO D (a++b)=dO (dO D a) b:=by
  intro a
  induction a with
  |nil=>intro b D;rfl
  |cons x a ih=>intro b D;exact ih b _
 obtain⟨E,h2⟩:=te ((kinds A now).drop i) (kl A now i);have h3:l_ A now=kl A now i++E:=by
  unfold l_;rw[e,hap];exact h2
 rw[h3,bK]at h;omega
set_option maxRecDepth 100000 in
theorem K2(vr vt:Value)(R:List Row)(tags:List Int)(w:World)(h:Ht w vr vt R tags)(hc:lC R tags=0):
 Calls aC 117 #[iM vr vt] w (cJ ⟨fun _=>True,fun(g:Nat)=>ak (ah ⟨g,0,aj⟩) R.length R.length,fun g=>[dI 3 l8 g R.length fun i=>(du (eM R tags) i:Int)]⟩ w):=by
 obtain⟨hA,hlt⟩:=pe hc;obtain⟨bt,ct,rfl,ht1,Zk,L4⟩:=h.hT;obtain⟨br,cr,rfl,Pd,pC,EP⟩:=h.hR;have en:(eM R tags).n=R.length:=rfl;have BN:0<R.length:=hA.pos;have hle:R.length<=200:=hA.le;obtain⟨b,off,rfl,hr⟩:=EP BN;obtain⟨bb,oy,rfl,hrt⟩:=L4 J;unfold maxLen at pC Zk;have agB:∀i,i<R.length->(eM R tags).tag i=tags.getD i 0:=fun i _=>rfl;clear EP L4 h;refine enter (args:=[iM (ak (ah ⟨b,off,aj⟩) R.length cr) (ak (ah ⟨bb,oy,aj⟩) tags.length ct)]) (n:=98) Tryz.func117 I I I ?_;refine bY (a_ (bQ I I I fun g1=>?_))
 repeat(first|refine GA ?_|refine gV (aw aI.ty I (aE (i:=0) I I)) ?_)
 refine lg l8 0 I I J J I fun g3=>?_;refine zL ?_
 repeat(first|refine GA ?_|refine gV (aw aI.ty I (aE (i:=0) I I)) ?_)
 refine lX (ι:=Nat) (fun i=>i<=tags.length) (fun i=>[(1,aH (ah ⟨g1,0,aj⟩)),(3,ak (ah ⟨g3,0,aj⟩) R.length R.length),(22,ak (ah ⟨bb,oy,aj⟩) tags.length ct),(23,ap av (tags.length:Int)),(24,ap av (i:Int))])
  (fun i=>[aO g1 (iM (ak (ah ⟨b,off,aj⟩) R.length cr) (ak (ah ⟨bb,oy,aj⟩) tags.length ct)).cells 186,dI 3 l8 g3 R.length fun j=>if j<i then(zT (eM R tags) j:Int)else 0]) (fun i=>tags.length-i) 0 (bC _) (by repeat' (first|exact cY|refine cK I ?_)) (by rw[mA (f':=fun j=>if j<0 then(zT (eM R tags) j:Int)else 0) fun i _=>by simp]) ?_
 intro i hi
 by_cases c1:i<tags.length
 ·have eK:=hU (W:=w) (L:=[aO g1 (iM (ak (ah ⟨b,off,aj⟩) R.length cr) (ak (ah ⟨bb,oy,aj⟩) tags.length ct)).cells 186,dI 3 l8 g3 R.length fun j=>if j<i then(zT (eM R tags) j:Int)else 0]) (c:=1) (f:=cT.eX) (fun _=>rfl) hrt c1 0 _ I
  have htg:=hA.tags i J;have h0:(zT (eM R tags) i:Int)=tags[i]+1:=by
   unfold zT;rw[AA c1]at htg⊢;omega
  rw[AA c1]at htg;generalize tags[i]=x at*
  repeat(first|refine GA ?_|refine gV (aR bI.eq aI.ty I I c1) ?_|refine gV (aw aI.ty I eK) ?_|refine gV (a8 bI.eq aI.ty I I (show i<R.length by omega)) ?_)
  refine eV (i:=1) (off:=i) (v:=x+1) (fun j=>if j<i+1 then(zT (eM R tags) j:Int)else 0) aI.ty I I I I I J (fun j hj=>?_) ?_
  ·by_cases e:j=i
   subst e;rw[if_pos J,if_pos I,h0];rw[if_neg e];have:j<i+1↔j<i:=by omega
   simp only[this]
  refine zL ?_
  try refine GA ?_
  exact bO (i+1) J (by show tags.length-(i+1)<tags.length-i;omega)
 ·obtain rfl:i=tags.length:=by omega
  rw[mA (f':=fun j=>(zT (eM R tags) j:Int)) fun j hj=>if_pos (show j<tags.length by omega)];clear c1 hi
  try refine GA ?_
  refine dU (ι:=Nat×Nat×(Nat->Nat)×Nat) (fun(f,c,now,_)=>K1 (eM R tags) f c now) (fun(_,c,_,g3)=>[(1,aH (ah ⟨g1,0,aj⟩)),(3,ak (ah ⟨g3,0,aj⟩) R.length R.length),(6,ap av (c:Int))])
   (fun(_,_,now,g3)=>[aO g1 (iM (ak (ah ⟨b,off,aj⟩) R.length cr) (ak (ah ⟨bb,oy,aj⟩) tags.length ct)).cells 186,dI 3 l8 g3 R.length fun j=>(now j:Int)]) (fun(f,_,_,_)=>f) (R.length+2,0,zT (eM R tags),g3) (adS hA) ?_
  clear g3;rintro⟨f,c,now,g3⟩ fZ;dsimp only at fZ⊢;obtain⟨f',rfl,agC,hgo⟩:=NX hA fZ;have Ey:=fZ.lim;have rv:=CA 0;clear fZ;have ah4:=Bt (A:=eM R tags) now;rw[en]at ah4
  try refine GA ?_
  refine Bu (K:=wk) I fun gm=>?_;refine zL ?_
  try refine GA ?_
  refine aW (kZ aF.en I I) (fun w hm=>rv _) I I I ?_;intro _ _
  repeat(first|refine GA ?_|refine gV (bz I Rn) ?_)
  refine aY I fun g8=>?_;refine zL ?_;refine aX (i:=3) (cs':=(re dead).toArray) I I I (by rw[eN,mN]) (by kernel_rfl) (by kernel_rfl) ?_;refine zL ?_
  repeat(first|refine GA ?_|refine gV (aL (i:=3) aI.ty I I (by rw[eN,mN])) ?_)
  refine Bv (K:=wk) (i:=2) (D:=[]) (x:=dead) bI.eq I I I I ⟨⟨by decide,by decide⟩,fun b hb=>by show-32768<=(eA 256 (0:Int))[b]/\(eA 256 (0:Int))[b]<=32767;rw[Vector.getElem_replicate];decide⟩ (by simp) akV ?_;refine zL ?_;refine Et [0,1,2] ?_
  try refine GA ?_
  refine lg l8 0 I I J J I fun g9=>?_;refine zL ?_
  repeat(first|refine GA ?_|refine gV (aw aI.ty I (aE (i:=0) I I)) ?_)
  refine lX (ι:=Nat) (fun i=>i<=R.length) (fun i=>[(1,aH (ah ⟨g1,0,aj⟩)),(3,ak (ah ⟨g3,0,aj⟩) R.length R.length),(6,ap av (c:Int)),(7,.map (ah gm)),(9,ak (ah ⟨g9,0,aj⟩) R.length R.length),(44,ak (ah ⟨b,off,aj⟩) R.length cr),(45,ap av (R.length:Int)),(46,ap av (i:Int))])
   (fun i=>[aO g1 (iM (ak (ah ⟨b,off,aj⟩) R.length cr) (ak (ah ⟨bb,oy,aj⟩) tags.length ct)).cells 186,dI 3 l8 g3 R.length fun j=>(now j:Int),fq wk gm (kD (kl (eM R tags) now i)) (kl (eM R tags) now i).length,dI 3 l8 g9 R.length fun j=>if j<i then(next (eM R tags) now j:Int)else 0]) (fun i=>R.length-i) 0 (bC _) (by repeat' (first|exact cY|refine cK I ?_)) (by rw[mA (g:=g9) (f:=fun _=>(0:Int)) (f':=fun j=>if j<0 then(next (eM R tags) now j:Int)else 0) fun i _=>by simp];rfl) ?_
  intro i hi
  by_cases c2:i<R.length
  ·have eK:=hU (W:=w) (L:=[aO g1 (iM (ak (ah ⟨b,off,aj⟩) R.length cr) (ak (ah ⟨bb,oy,aj⟩) tags.length ct)).cells 186,dI 3 l8 g3 R.length fun j=>(now j:Int),fq wk gm (kD (kl (eM R tags) now i)) (kl (eM R tags) now i).length,dI 3 l8 g9 R.length fun j=>if j<i then(next (eM R tags) now j:Int)else 0]) dE hr c2
   have gv:∀(q:Nat) (hq:q<256),(eM R tags).d i q=(R[i])[q]:=fun q hq=>NT c2 hq;have hst:∀b,b<256->St (eM R tags) ((eM R tags).d i b):=fun b hb=>hA.step i c2 b hb;generalize R[i]=r at*
   repeat(first|refine GA ?_|refine gV (aR bI.eq aI.ty I I c2) ?_|refine gV (aU aI.ty I (dE r) eK) ?_)
   refine aY I fun g11=>?_;refine zL ?_
   try refine GA ?_
   refine aX (i:=4) (cs':=(eZ r).toArray) I I I (by rw[eN,dE]) (by simpa using so r) (by kernel_rfl) ?_;refine zL ?_;have IS:=Ey i c2
   repeat(first|refine GA ?_|refine gV (a8 bI.eq aI.ty I I c2) ?_|refine gV (aw aI.ty I (eG (i:=1) I c2)) ?_|refine gV (bz I (Ro _)) ?_)
   refine aY I fun g12=>?_;refine zL ?_;refine aX (i:=5) (cs':=(re ((now i:Int),eA 256 0)).toArray) I I I (by rw[eN,mN]) (by rw[<-List.all_toArray];kernel_rfl) (by kernel_rfl) ?_;refine zL ?_
   repeat(first|refine GA ?_|refine gV (aL (i:=4) aI.ty I I (by rw[eN,dE])) ?_)
   rw[<-agA (eM R tags) now i];refine s7 [0,1,2,3,5] ?_;refine dU (ι:=Nat) (fun q=>q<=256) (fun q=>[(1,aH (ah ⟨g1,0,aj⟩)),(3,ak (ah ⟨g3,0,aj⟩) R.length R.length),(6,ap av (c:Int)),(7,.map (ah gm)),(9,ak (ah ⟨g9,0,aj⟩) R.length R.length),(44,ak (ah ⟨b,off,aj⟩) R.length cr),(45,ap av (R.length:Int)),(46,ap av (i:Int)),(10,ap av (i:Int)),(12,aH (ah ⟨g12,0,aj⟩)),(56,C9 r),(57,ap av (q:Int))])
    (fun q=>[aO g1 (iM (ak (ah ⟨b,off,aj⟩) R.length cr) (ak (ah ⟨bb,oy,aj⟩) tags.length ct)).cells 186,dI 3 l8 g3 R.length fun j=>(now j:Int),fq wk gm (kD (kl (eM R tags) now i)) (kl (eM R tags) now i).length,dI 3 l8 g9 R.length fun j=>if j<i then(next (eM R tags) now j:Int)else 0,aO g12 (re ((now i:Int),F0 (eM R tags) now i q)).toArray 310]) (fun q=>256-q) 0 (bC _) ?_
   intro q hq
   by_cases c3:q<256
   ·have hcell:(eZ r).toArray[q]?=ah (.int .i16 r[q]):=by rw[List.getElem?_toArray];exact qw r c3
    have hdq:=gv q c3;have hsq:=hst q c3;have sW:=NW (eM R tags) now i q c3;have IY:=Wv (eM R tags) now i q c3;rw[hdq]at hsq sW IY;clear hdq gv hst;generalize r[q]=x at*;unfold St at hsq
    by_cases c4:x<0
    ·have hv:val now x=0:=by unfold val;rw[if_pos c4]
     rw[IY hv]
     repeat(first|refine GA ?_|refine gV (jv bI.eq aI.ty I I c3 hcell) ?_)
     exact bO (q+1) J (by show 256-(q+1)<256-q;omega)
    obtain⟨m,rfl⟩:∃m:Nat,x=m:=⟨x.toNat,by omega⟩;have hm:m<R.length:=by omega
    have hlm:=Ey m hm;rw[Az]at sW
    repeat(first|refine GA ?_|refine gV (jv bI.eq aI.ty I I c3 hcell) ?_|refine gV (a8 bI.eq aI.ty I I hm) ?_|refine gV (aw aI.ty I (eG (i:=1) I hm)) ?_|refine gV (iV bI.eq bI.eq I (Rp J J)) ?_|refine gV (io bI.eq aI.ty I I c3) ?_)
    refine Wu (i:=4) I I I c3 ?_;rw[sW];refine zL ?_
    try refine GA ?_
    exact bO (q+1) J (by show 256-(q+1)<256-q;omega)
   obtain rfl:q=256:=by omega
   rw[aaF];have mJ:=adU hA Ey (i:=i) c2
   by_cases c5:kind (eM R tags) now i∈kl (eM R tags) now i
   ·obtain⟨e1,e2⟩:=adV (eM R tags) now (i:=i) c2 c5
    generalize kind (eM R tags) now i=k at*
    repeat(first|refine GA ?_|refine gV (aL (i:=4) aI.ty I I (by rw[eN,mN])) ?_|refine gV (uV (K:=wk) (i:=2) (x:=k) bI.eq aaD I I I mJ c5) ?_|refine gV (a8 bI.eq aI.ty I I c2) ?_)
    refine eV (i:=3) (off:=i) (v:=(next (eM R tags) now i:Int)) (fun j=>if j<i+1 then(next (eM R tags) now j:Int)else 0) aI.ty I I (by rw[e2];rfl) I I c2 (fun j hj=>?_) ?_
    ·by_cases e:j=i
     subst e;rw[if_pos J,if_pos I];rw[if_neg e];have:j<i+1↔j<i:=by omega
     simp only[this]
    refine zL ?_
    try refine GA ?_
    refine dv [0,1,2,3] ?_;exact bO (i+1) J (by show R.length-(i+1)<R.length-i;omega) (hl:=by rw[e1];rfl)
   obtain⟨e1,e2⟩:=adW (eM R tags) now (i:=i) c2 c5;have afH:=aaG (eM R tags) now i;rw[en]at afH;generalize kind (eM R tags) now i=k at*
   repeat(first|refine GC ?_|refine gV (aL (i:=4) aI.ty I I (by rw[eN,mN])) ?_|refine gV (uW (K:=wk) (i:=2) (x:=k) bI.eq aaD I I I mJ c5) ?_|refine gV (wS wk bI.eq (i:=2) I I) ?_|refine GB ?_)
   refine Bv (K:=wk) (i:=2) (x:=k) bI.eq I I I I mJ c5 J ?_;refine zL ?_
   repeat(first|refine GA ?_|refine gV (a8 bI.eq aI.ty I I c2) ?_)
   refine eV (i:=3) (off:=i) (v:=(next (eM R tags) now i:Int)) (fun j=>if j<i+1 then(next (eM R tags) now j:Int)else 0) aI.ty I I (by rw[e2];rfl) I I c2 (fun j hj=>?_) ?_
   ·by_cases e:j=i
    subst e;rw[if_pos J,if_pos I];rw[if_neg e];have:j<i+1↔j<i:=by omega
    simp only[this]
   refine zL ?_
   try refine GA ?_
   refine dv [0,1,2,3] ?_;exact bO (i+1) J (by show R.length-(i+1)<R.length-i;omega) (hl:=by rw[e1];rfl)
  obtain rfl:i=R.length:=by omega
  rw[show kl (eM R tags) now R.length=l_ (eM R tags) now from Ww (eM R tags) now];rw[mA (f':=fun j=>(next (eM R tags) now j:Int)) fun j hj=>if_pos hj]
  by_cases c6:(l_ (eM R tags) now).length=c
  ·rw[agC c6]
   repeat(first|refine GC ?_|refine gV (wS wk bI.eq (i:=2) I I) ?_|refine gV (cP (b:=aB) I I (decide_eq_true J)) ?_|refine GB ?_)
   exact dq I I fun w hm=>hm.meets (S:=⟨fun _=>True,fun(g:Nat)=>ak (ah ⟨g,0,aj⟩) R.length R.length,fun g=>[dI 3 l8 g R.length fun i=>(next (eM R tags) now i:Int)]⟩) g9 trivial [3] akV I
  repeat(first|refine GC ?_|refine gV (wS wk bI.eq (i:=2) I I) ?_|refine gV (cP (b:=aD) I I (decide_eq_false J)) ?_|refine GB ?_)
  refine dv [0,3] ?_;exact bO (f',(l_ (eM R tags) now).length,next (eM R tags) now,g9) (hgo c6) (o_ f')
end cg
namespace cg
open Go.RowKit cT ey zS c_
theorem F3(vr vt:Value)(R:List Row)(tags:List Int)(w:World)(h:Ht w vr vt R tags):Calls aC 116 #[iM vr vt] w (cJ (ret (ap av (lC R tags))) w):=EO _ _ _ w h.ah3
end cg
namespace cg
open Go.RowKit cT ey dj gu eB nw c_
set_option maxRecDepth 100000 in
theorem agD(x y:C4)(w:World):(pM 10000 303 (aP (d_ x).toArray) (aP (d_ y).toArray)).run aC w= .ok (decide (x=y)) w:=by
 show(pM 10000 303 (aP #[v64 x.a,v64 x.b,v64 x.c,v64 x.d]) (aP #[v64 y.a,v64 y.b,v64 y.c,v64 y.d])).run aC w=_
 have e:(pM 10000 303 (aP #[v64 x.a,v64 x.b,v64 x.c,v64 x.d]) (aP #[v64 y.a,v64 y.b,v64 y.c,v64 y.d])).run aC w= .ok ((gh x.a==gh y.a)&&((gh x.b==gh y.b)&&((gh x.c==gh y.c)&&(gh x.d==gh y.d)))) w:=by
  unfold v64;rw[run_equalIn_array (P:=aC) w 9999 (n:=4) (e:=114) _ _ I I];have h1:aC.cellsOf 114=1:=rfl;simp[Op.eqItems,go_sem,Z1,h1]
  by_cases e1:gh x.a=gh y.a<;>by_cases e2:gh x.b=gh y.b<;>by_cases e3:gh x.c=gh y.c<;>by_cases e4:gh x.d=gh y.d<;>simp[e1,e2,e3,e4]
 rw[e]
 congr 1
 by_cases h:x=y
 subst h;simp;rw[decide_eq_false h]
 by_cases e1:gh x.a=gh y.a<;>by_cases e2:gh x.b=gh y.b<;>by_cases e3:gh x.c=gh y.c<;>by_cases e4:gh x.d=gh y.d<;>simp[e1,e2,e3,e4]
 exact h (C4.ext' (pt e1) (pt e2) (pt e3) (pt e4))
theorem Rq(w:World):(dm 303 (#[]:Array (Nat×Value))).run aC w= .ok (aP (d_ C4.zero).toArray) w:=by kernel_rfl
theorem adX{x:Int}(h0: -32768<=x)(h1:x<=32767):ZY.wrap x=x:=by
 simp only[ZX,lU,sQ];simp;omega
theorem NY(r:Row):(eZ r).toArray.toList.all f_=true:=oR.2 fun u hu=>row_one [r] u (by simpa using hu)
def IZ(m:MS)(vc vr vf vfol vl ve rows:Value)(g gm n:Nat)(d:DM):Spec (Value×Value):=
 ⟨fun _=>True,fun _=>C9 (qM m n d).1,fun x=>L8 vc vr vf vfol vl ve rows g gm x.1 x.2 (qM m n d).2⟩
theorem adY(p:PS)(all:C4)(b i:Nat):Ku p all b (i+1)=if all.mem i=aB/\(p.aZ.getD i C4.zero).mem b=aB then(Ku p all b i).bit i else Ku p all b i:=rfl
theorem Rr(p:PS)(all:C4)(f b:Nat)(r:Row)(d:DM):ng p all (f+1) b r d=if 200<(fX p all b r d).2.S.length+1 then fX p all b r d else ng p all f (b+1) (fX p all b r d).1 (fX p all b r d).2:=rfl
theorem adZ{p:PS}{all:C4}{b:Nat}{r:Row}{d:DM}(hb:b<256)(h:Kv p all b=C4.zero):fX p all b r d=(r.set b (-1),d):=by unfold fX;rw[if_pos h,dif_pos hb]
theorem ad0{p:PS}{all:C4}{b:Nat}{r:Row}{d:DM}(hb:b<256)(h:Kv p all b≠C4.zero):fX p all b r d=((r.set b (-1)).set b ((iS p d (Kv p all b)).1:Int),(iS p d (Kv p all b)).2):=by unfold fX;rw[if_neg h,dif_pos hb]
set_option maxRecDepth 100000 in
theorem K3(m:MS)(vc vr vf vfol vl ve rows:Value)(d:DM)(g gm n:Nat)(vs vt:Value)(w0:World)(hp:Ho w0 (aP #[vc,vr,vf,vfol,vl,ve]) m)(h:Ks m)(hd:DOk m.ps d)(hd2:d.S.length+1<=200)(hn:n<=d.S.length)(w:World)(B:b_)(ho:mv w0 B)
 (hm:Mem B (L8 vc vr vf vfol vl ve rows g gm vs vt d) w):
 Calls aC 115 #[aH (ah ⟨g,0,aj⟩),ap av (n:Int)] w (dX (IZ m vc vr vf vfol vl ve rows g gm n d) B):=by
 have pJ:=fun w' (hg:Gr w0 w') h1 h2=>Hp m vc vr vf vfol vl ve vs (.map (ah gm)) rows vt d.S g n w' (hp.gr hg) h h1 h2 hn;have hst:=fun d' s qd zl h1 h2 w' B' JP pV=>FE m vc vr vf vfol vl ve rows d' s g gm qd zl w0 hp h h1 h2 w' B' JP pV;obtain⟨_,_,_,_,_,_,he,h1,-⟩:=hp;simp only[nb,oX,fg,and_true]at he;obtain⟨rfl,rfl,rfl,rfl,rfl,rfl⟩:=he;have hmf:=h.Cq;clear h;obtain⟨ac,cc,rfl,-,-,hrc⟩:=h1;unfold IZ qM;generalize kf m d.S n=all at*;obtain⟨p,fi,em⟩:=m;dsimp only at*;unfold L8 at hm;have hB0:=Rq;refine eR hm (args:=[aH (ah ⟨g,0,aj⟩),ap av (n:Int)]) (n:=60) Tryz.func115 I I I ?_;clear hm;refine bY (a_ (aY I fun g4=>?_));refine zL ?_;rw[FY]
 try refine GA ?_
 refine aW (fP aF.en I I I) (fun w hm=>pJ w (ho.mem hm) (hm.get (i:=0) I) (Sl.dy (hm.get (i:=1) I))) I I I ?_;intro _ _;refine zL ?_;clear pJ
 try refine GA ?_
 refine aY I fun g5=>?_;refine zL ?_;refine gG 5 (cs':=(d_ all).toArray) ?_;refine zL ?_
 try refine GA ?_
 refine aY I fun g6=>?_;refine zL ?_;rw[FY]
 try refine GA ?_
 clear hn;generalize lK:ng p all 256 0 (eA 256 0) d=fin;refine dU (ι:=Nat×Row×DM×Value×Value) (fun(b,r,d,_,_)=>b<=256/\DOk p d/\d.S.length+1<=200/\ng p all (256-b) b r d=fin) (fun(b,_,_,_,_)=>[(0,aH (ah ⟨g,0,aj⟩)),(4,aH (ah ⟨g4,0,aj⟩)),(5,aH (ah ⟨g5,0,aj⟩)),(6,aH (ah ⟨g6,0,aj⟩)),(14,ap av (b:Int))])
  (fun(_,r,d,vs,vt)=>[aO g (L7 (ak ac p.aZ.length cc) vr vf vfol vl ve vs (.map (ah gm)) rows vt) 254,pq vs d.S,tI gm d.S,gC vt d.tags,aO g4 (eZ (eA 256 0)).toArray 257,aO g5 (d_ all).toArray 303,aO g6 (eZ r).toArray 257]) (fun(b,_,_,_,_)=>256-b) (0,eA 256 0,d,vs,vt) ⟨bC _,hd,hd2,lK⟩ ?_
 clear hd hd2 lK d vs vt;rintro⟨b,r,d,vs,vt⟩ ⟨i1,i2,i3,i4⟩;dsimp only at i1 i2 i3 i4⊢
 by_cases c1:b<256
 ·rw[show 256-b=(256-(b+1))+1 by omega,Rr]at i4
  try refine GA ?_
  refine aY I fun g8=>?_;refine zL ?_
  repeat(first|refine GA ?_|refine gV (aw (v:=ak ac p.aZ.length cc) aI.ty I (aE (i:=0) I I)) ?_)
  refine dU (ι:=Nat) (fun k=>k<=p.aZ.length) (fun k=>[(0,aH (ah ⟨g,0,aj⟩)),(4,aH (ah ⟨g4,0,aj⟩)),(5,aH (ah ⟨g5,0,aj⟩)),(6,aH (ah ⟨g6,0,aj⟩)),(7,ap av (b:Int)),(8,aH (ah ⟨g8,0,aj⟩)),(14,ap av (b:Int)),(21,ak ac p.aZ.length cc),(22,ap av p.aZ.length),(23,ap av (k:Int))])
   (fun k=>[aO g (L7 (ak ac p.aZ.length cc) vr vf vfol vl ve vs (.map (ah gm)) rows vt) 254,pq vs d.S,tI gm d.S,gC vt d.tags,aO g4 (eZ (eA 256 0)).toArray 257,aO g5 (d_ all).toArray 303,aO g6 (eZ r).toArray 257,aO g8 (d_ (Ku p all b k)).toArray 303]) (fun k=>p.aZ.length-k) 0 (bC _) ?_
  intro k hk
  by_cases c2:k<p.aZ.length
  ·have hts:=adY p all b k
   have QH:p.aZ.getD k C4.zero=p.aZ[k]:=by rw[bD,bm c2];rfl
   rw[QH]at hts;obtain⟨bc,ajL,rfl,ah5⟩:=hrc J;have ah6:=fun(L:List b9)=>QF (L:=L) (f:=d_) (c:=4) (fun _=>rfl) ho ah5 c2;clear ah5 hrc QH;generalize p.aZ[k]=c at*;have ah7:∀(L:List b9) (j:Nat) (u:Value),(d_ c)[j]?=ah u->At B L ⟨bc,ajL+k*4+j,aj⟩ u:=ah6;clear ah6;have ZV:=fun w=>tB all k J w;have ajM:=fun w=>Vn c b c1 w;generalize Ku p all b k=tz at*;generalize all.mem k=b1 at*;generalize c.mem b=b2 at*;have hu8:KD.wrap (b:Int)=(b:Int):=by rw[KC];omega
   repeat(first|refine GA ?_|refine gV (aR bI.eq aI.ty I I c2) ?_|refine gV (aU (cs:=d_ c) aI.ty I I (ah7 _)) ?_)
   refine aY I fun g10=>?_;refine zL ?_
   try refine GA ?_
   refine gG 8 (cs':=(d_ c).toArray) ?_;refine zL ?_
   repeat(first|refine GA ?_|refine gV (aL (i:=5) aI.ty I I I) ?_)
   refine aW (fP aF.en I I I) (fun w hm=>ZV w) I I I ?_;intro _ _;refine zL ?_
   by_cases q1:b1=aB
   ·subst q1
    repeat(first|refine GA ?_|refine gV (aL (i:=8) aI.ty I I I) ?_|refine gV (iV bI.eq bI.eq I hu8) ?_)
    refine kV (fP aF.en I I I) (fun w hm=>ajM w) I I I I I ?_;intro _ _;refine zL ?_
    by_cases q2:b2=aB
    ·subst q2
     rw[if_pos ⟨rfl,rfl⟩]at hts
     try refine GA ?_
     refine bH [7] [0,1,2,3,4,5,6] akV I I (fP aF.en I I I) (fun w hm hb=>tC tz k J g8 w _ hb) I I I ?_;intro _ _;refine zL ?_
     try refine GA ?_
     exact bO (k+1) J (by show p.aZ.length-(k+1)<p.aZ.length-k;omega) (hl:=by rw[hts])
    rw[if_neg (fun h=>q2 h.2)]at hts;obtain rfl:=Fy.2 q2
    try refine GA ?_
    refine dv [0,1,2,3,4,5,6,7] ?_;exact bO (k+1) J (by show p.aZ.length-(k+1)<p.aZ.length-k;omega) (hl:=by rw[hts];rfl)
   rw[if_neg (fun h=>q1 h.1)]at hts;obtain rfl:=Fy.2 q1
   try refine GA ?_
   refine dv [0,1,2,3,4,5,6,7] ?_;exact bO (k+1) J (by show p.aZ.length-(k+1)<p.aZ.length-k;omega) (hl:=by rw[hts];rfl)
  obtain rfl:k=p.aZ.length:=by omega
  have hF:Ku p all b p.aZ.length=Kv p all b:=rfl;rw[hF];have L3:=adZ (p:=p) (all:=all) (r:=r) (d:=d) c1;have r8:=ad0 (p:=p) (all:=all) (r:=r) (d:=d) c1;have Pa:=agD (Kv p all b) C4.zero;clear hF hrc;generalize Kv p all b=tz at*
  repeat(first|refine GA ?_|refine gV (io bI.eq aI.ty I I c1) ?_)
  refine sq (i:=6) I I I c1 ?_;refine zL ?_
  by_cases q1:tz=C4.zero
  ·rw[decide_eq_true q1]at Pa
   rw[L3 q1,if_neg (by show ¬200<d.S.length+1;omega)]at i4;refine qW (i:=1) I gj fun gv=>?_;obtain⟨ab,cs,rfl,hmS,-⟩:=gv
   repeat(first|refine GC ?_|refine gV (aL (i:=7) aI.ty I I I) ?_|refine gV (bz I hB0) ?_|refine gV (Es I I (by kernel_rfl) Pa I) ?_|refine gV (aw (v:=ak ab (d.S.length+1) cs) aI.ty I (aE (i:=0) I I)) ?_|refine gV (eP (b:=aD) I I (decide_eq_false J)) ?_|refine GB ?_)
   refine dv [0,1,2,3,4,5,6] ?_;exact bO (b+1,r.set b (-1),d,ak ab (d.S.length+1) cs,vt) ⟨by omega,i2,i3,i4⟩ (by show 256-(b+1)<256-b;omega)
  rw[decide_eq_false q1]at Pa;rw[r8 q1]at i4;obtain⟨s1,s2,s3,s4,s5⟩:=Nf i2 tz
  repeat(first|refine GC ?_|refine gV (aL (i:=7) aI.ty I I I) ?_|refine gV (bz I hB0) ?_|refine gV (Es I I (by kernel_rfl) Pa I) ?_|refine GB ?_)
  refine bH [0,1,2,3] [4,5,6,7] akV I I (fP aF.en I I I) (fun w hm hb=>hst d tz vs vt J (by have:=i2.tags;omega) w _ (ho.on hm (by simp[L8])) hb) I I I ?_;rintro⟨qd,zl⟩ _
  conv=>arg 8;simp only[zJ,dr,ret,id_eq,adz,L8]
  conv=>arg 7;simp only[adz]
  generalize iS p d tz=R at*;obtain⟨q,d'⟩:=R;dsimp only at i4 s1 s2 s3 s4 s5⊢;have hq:q<=200:=by omega
  refine qW (i:=5) I gj fun gv=>?_;obtain⟨ab,cs,rfl,hmS,-⟩:=gv
  repeat(first|refine GA ?_|refine gV (iV bI.eq bI.eq I (adX J J)) ?_|refine gV (io bI.eq aI.ty I I c1) ?_)
  refine sq (i:=2) I I I c1 ?_;refine zL ?_;generalize (r.set b (-1)).set b (q:Int)=r' at*
  by_cases q2:200<d'.S.length+1
  ·rw[if_pos q2]at i4
   subst i4
   repeat(first|refine GC ?_|refine gV (aw (v:=ak ab (d'.S.length+1) cs) aI.ty I (aE (i:=4) I I)) ?_|refine gV (eP (b:=aB) I I (decide_eq_true J)) ?_|refine gV (aL (i:=2) aI.ty I I (by rw[eN,dE])) ?_|refine GB ?_)
   refine aX (i:=0) (cs':=(eZ r').toArray) I I I (by rw[eN,dE]) (NY r') (by rw[eN,dE]) ?_;refine zL ?_
   try refine GA ?_
   exact gU (i:=0) I I I (by rw[eN,dE]) fun w hm=>hm.cZ (S:=⟨fun(_:Value×Value)=>True,fun _=>C9 r',fun x=>L8 (ak ac p.aZ.length cc) vr vf vfol vl ve rows g gm x.1 x.2 d'⟩) (ak ab (d'.S.length+1) cs,zl) trivial [4,5,6,7] akV I
  rw[if_neg q2]at i4
  repeat(first|refine GC ?_|refine gV (aw (v:=ak ab (d'.S.length+1) cs) aI.ty I (aE (i:=4) I I)) ?_|refine gV (eP (b:=aD) I I (decide_eq_false J)) ?_|refine GB ?_)
  refine dv [4,5,6,7,0,1,2] ?_;exact bO (b+1,r',d',ak ab (d'.S.length+1) cs,zl) ⟨by omega,s1,by show d'.S.length+1<=200;omega,i4⟩ (by show 256-(b+1)<256-b;omega)
 ·obtain rfl:b=256:=by omega
  have i4:(r,d)=fin:=i4;subst i4
  repeat(first|refine GA ?_|refine gV (aL (i:=6) aI.ty I I (by rw[eN,dE])) ?_)
  refine aX (i:=4) (cs':=(eZ r).toArray) I I I (by rw[eN,dE]) (NY r) (by rw[eN,dE]) ?_;refine zL ?_
  try refine GA ?_
  exact gU (i:=4) I I I (by rw[eN,dE]) fun w hm=>hm.cZ (S:=⟨fun(_:Value×Value)=>True,fun _=>C9 r,fun x=>L8 (ak ac p.aZ.length cc) vr vf vfol vl ve rows g gm x.1 x.2 d⟩) (vs,vt) trivial [0,1,2,3] akV I
end cg
namespace cg
open Go.RowKit cT ey dj gu eB nw c_
def tL(m:MS):List Row×List Int×Int:=match vC m with
 |some (R,d)=>(R,d.tags,0)
 |none=>([],[],8)
def T6(m:MS):Spec (Value×Value):=⟨fun _=>True,fun x=> .tuple #[iM x.1 x.2,ap av (tL m).2.2],fun x=>[bx 257 256 x.1 (tL m).1.length ((tL m).1.flatMap eZ),gC x.2 (tL m).2.1]⟩
theorem yW{m:MS}{R:List Row}{d:DM}(h:vC m=ah (R,d)):tL m=(R,d.tags,0):=by unfold tL;rw[h]
theorem Rs{m:MS}(h:vC m=aj):tL m=([],[],8):=by unfold tL;rw[h]
theorem I0(m:MS)(f n:Nat)(R:List Row)(d:DM):tF m (f+1) n R d=if n<d.S.length+1 then(if 200<(qM m n d).2.S.length+1 then aj else tF m f (n+1) (R++[(qM m n d).1]) (qM m n d).2)else ah (R,d):=rfl
theorem Rt(w:World):(dm 186 (#[]:Array (Nat×Value))).run aC w= .ok (aP #[ak aj 0 0,ak aj 0 0]) w:=by kernel_rfl
theorem NZ(vc vr vf vfol vl ve:Value)(g gm:Nat)(w:World):(dm 254 #[(0,aP #[vc,vr,vf,vfol,vl,ve]),(1,ak (ah ⟨g,0,aj⟩) 1 1),(2,.map (ah gm))]).run aC w= .ok (.agg (L7 vc vr vf vfol vl ve (ak (ah ⟨g,0,aj⟩) 1 1) (.map (ah gm)) (ak aj 0 0) (ak aj 0 0))) w:=by
 unfold L7;go_simp
theorem N2{g:Nat}{w:World}(h:(aO g (madeCells #[ap .u64 0,ap .u64 0,ap .u64 0,ap .u64 0] (1*4)) 303).holds w):(pq (ak (ah ⟨g,0,aj⟩) 1 1) []).holds w:=by
 rw[ae0 (k:=4) I akV]at h;exact⟨rfl,.inr ⟨g,1,_,rfl,bC _,h,aT _,by decide,rfl,rfl⟩⟩
theorem BO(v:Value)(R:List Row)(r:Row):bx 257 256 v (R++[r]).length ((R++[r]).flatMap eZ)=bx 257 256 v (R.length+1) (R.flatMap eZ++eZ r):=by
 rw[bK,fH];simp
theorem agE{vc vr vf vfol vl ve vs num rows tags v:Value}{j:Nat}(h:[rows,tags][j]?=ah v):(L7 vc vr vf vfol vl ve vs num rows tags)[8+j]?=ah v:=by
 match j,h with
 |0,h=>exact h
 |1,h=>exact h
theorem K4(r:Row):(eZ r).toArray=([C9 r].flatMap fun v=>v.cells.toList).toArray:=by
 show _=((eZ r).toArray.toList++[]).toArray
 simp
theorem F4(r:Row):∀v∈[C9 r],v.cells.size=256:=by
 intro v hv;rw[dH.1 hv];show(eZ r).toArray.size=256
 rw[eN,dE]
set_option maxRecDepth 100000 in
theorem Hu(v:Value)(m:MS)(w:World)(hp:Ho w v m)(h:Ks m):
 Calls aC 77 #[v] w (cJ (T6 m) w):=by
 have h_:=fun w' (hg:Gr w w')=>Fw v m w' (hp.gr hg) h;obtain⟨vc,vr,vf,vfol,vl,ve,rfl,h1,h2,h3,h4,h5,h6⟩:=id hp;have Ru:=fun rows d g gm n vs vt hd hd2 hn w' B ho hm=>K3 m vc vr vf vfol vl ve rows d g gm n vs vt w hp h hd hd2 hn w' B ho hm;clear h1 h2 h3 h4 h5 hp;have hms:=h.some;have xp:=h.adm;clear h;obtain⟨ae,ce,rfl,-,hme,hre⟩:=h6;unfold maxLen at hme;have hbz:=Rt;refine enter (args:=[aP #[vc,vr,vf,vfol,vl,ak ae m.empty.length ce]]) (n:=78) Tryz.func77 I I I ?_;refine bY (a_ (bQ I I I fun g1=>aY I fun g2=>?_));refine zL ?_
 repeat(first|refine GA ?_|refine gV (aL (i:=0) aI.ty I I I) ?_)
 refine aW (kZ aF.en I I) (fun w hm=>h_ _ hm.below) I I I ?_;intro _ _;refine zL ?_;clear h_
 repeat(first|refine GC ?_|refine gV (dz (b:=aD) I I (decide_eq_false (by simp))) ?_|refine GB ?_)
 (repeat refine bY ?_)
 refine my (ι:=Nat×Nat×Nat) (fun _=>True) (fun(_,_,g5)=>[(1,aH (ah ⟨g1,0,aj⟩)),(2,aH (ah ⟨g2,0,aj⟩)),(5,aH (ah ⟨g5,0,aj⟩))])
  (fun(gs,gm,g5)=>[aO g1 #[vc,vr,vf,vfol,vl,ak ae m.empty.length ce] 181,aO g2 #[ak aj 0 0,ak aj 0 0] 186,aO g5 (L7 vc vr vf vfol vl (ak ae m.empty.length ce) (ak (ah ⟨gs,0,aj⟩) 1 1) (.map (ah gm)) (ak aj 0 0) (ak aj 0 0)) 254,pq (ak (ah ⟨gs,0,aj⟩) 1 1) [],tI gm []]) ?_ ?_
 ·refine dK ([aO g1 #[vc,vr,vf,vfol,vl,ak ae m.empty.length ce] 181]) (.calm 0 (.two 1 (.one 2 (.calm 3 (.one 4 (.calm 5 (.done))))) 2 (.one 1 (.calm 3 (.one 4 (.calm 5 (.done))))))) (bZ [0]) ?_
  repeat(first|refine GW ?_|(refine GN ?_;first|refine QW (aL (i:=0) aI.ty I I I) ?_))
  refine fe I I ?_ ?_
  ·refine uM (m:=1) (cap:=1) I I (aT 1) akV akV I fun gs=>aK (bZ [0]) ?_
   refine aJ I (ym QY I fun gm=>aK (bZ [0]) ?_)
   repeat(first|refine GW ?_|(refine GN ?_;first|refine QW (bz I (NZ _ _ _ _ _ _ _ _)) ?_))
   refine aJ I (bQ I I I fun g5=>aK (bZ [0]) ?_)
   try refine GW ?_
   refine pw (i:=2) (pq (ak (ah ⟨gs,0,aj⟩) 1 1) []) I (fun w h=>N2 h) (fun k h=>h) ?_;refine pw (i:=3) (tI gm []) I (fun w h=>by unfold tI;rw[<-FD];exact h) (fun k h=>h) ?_;refine dv [0,1,4,2,3] ?_;exact e_ (gs,gm,g5) trivial (by repeat' (first|exact cY|refine cK I ?_)) I
  refine ym QY I fun gm=>aK (bZ [0]) ?_;refine aJ I (uM (m:=1) (cap:=1) I I (aT 1) akV akV I fun gs=>aK (bZ [0]) ?_)
  repeat(first|refine GW ?_|(refine GN ?_;first|refine QW (bz I (NZ _ _ _ _ _ _ _ _)) ?_))
  refine aJ I (bQ I I I fun g5=>aK (bZ [0]) ?_)
  try refine GW ?_
  refine pw (i:=3) (pq (ak (ah ⟨gs,0,aj⟩) 1 1) []) I (fun w h=>N2 h) (fun k h=>h) ?_;refine pw (i:=2) (tI gm []) I (fun w h=>by unfold tI;rw[<-FD];exact h) (fun k h=>h) ?_;refine dv [0,1,4,3,2] ?_;exact e_ (gs,gm,g5) trivial (by repeat' (first|exact cY|refine cK I ?_)) I
 rintro⟨gs,gm,g5⟩ _;dsimp only
 try refine GA ?_
 refine fF (cs:=#[ap av (-1)]) [ap av (-1)] I I I (by intro v hv;simp at hv;subst hv;rfl) I I I fun g20=>?_;refine zL ?_
 try refine GA ?_
 refine bT (i:=2) I I I I I I ?_;refine zL ?_
 repeat(first|refine GC ?_|refine gV (aw (v:=ak ae m.empty.length ce) aI.ty I (aE (i:=0) I I)) ?_|refine gV (eD (r:=(m.empty.length:Int)-1) I I J J I) ?_|refine GB ?_)
 refine lX (ι:=Nat) (fun k=>k<=m.empty.length) (fun k=>[(1,aH (ah ⟨g1,0,aj⟩)),(2,aH (ah ⟨g2,0,aj⟩)),(5,aH (ah ⟨g5,0,aj⟩)),(6,ap av ((k:Int)-1))])
  (fun k=>[aO g1 #[vc,vr,vf,vfol,vl,ak ae m.empty.length ce] 181,aO g2 #[ak aj 0 0,ak aj 0 0] 186,aO g5 (L7 vc vr vf vfol vl (ak ae m.empty.length ce) (ak (ah ⟨gs,0,aj⟩) 1 1) (.map (ah gm)) (ak aj 0 0) (ak (ah ⟨g20,0,aj⟩) 1 1)) 254,pq (ak (ah ⟨gs,0,aj⟩) 1 1) [],tI gm [],aO g20 #[ap av (fD (m.empty.drop k) k)] 3]) (fun k=>k) m.empty.length (aT _) (by repeat' (first|exact cY|refine cK I ?_)) (by rw[List.drop_eq_nil_of_le (aT _)];rfl) ?_
 intro k hk
 by_cases c1:0<k
 ·obtain⟨j,rfl⟩:∃j,k=j+1:=⟨k-1,by omega⟩
  have hj:j<m.empty.length:=by omega
  obtain⟨be,agF,rfl,Rv⟩:=hre J;have ajN:=fun(L:List b9)=>hU (L:=L) TJ Rv hj 0 _ I;have hst:fD (m.empty.drop j) j=if m.empty[j]=aB then(j:Int)else fD (m.empty.drop (j+1)) ((j:Int)+1):=by rw[dJ hj,fD]
  rw[show(((j+1:Nat):Int))=(j:Int)+1 by omega]at*;generalize fD (m.empty.drop (j+1)) ((j:Int)+1)=t at*;generalize m.empty[j]=b at*;rw[show(j:Int)+1-1=(j:Int)by omega];have afc:∀(L:List b9),At (w:b_) L ⟨be,agF+j*1+0,aj⟩ (.bool b):=ajN
  by_cases c2:b=aB
  ·subst c2
   rw[if_pos I]at hst
   repeat(first|refine GC ?_|refine gV (fx (b:=aB) I I (decide_eq_true J)) ?_|refine gV (aw (v:=ak (ah ⟨be,agF,aj⟩) m.empty.length ce) aI.ty I (aE (i:=0) I I)) ?_|refine gV (aR bI.eq aI.ty I I hj) ?_|refine gV (aw (v:= .bool aB) aI.ty I (afc _)) ?_|refine gV (aw (v:=ak (ah ⟨g20,0,aj⟩) 1 1) aI.ty I (aE (i:=2) I I)) ?_|refine gV (aR (j:=0) bI.eq aI.ty I I akV) ?_|refine GB ?_)
   refine bT (i:=5) I I I I I I ?_;refine zL ?_
   repeat(first|refine GC ?_|refine gV (eD (r:=(j:Int)-1) I I J J I) ?_|refine GB ?_)
   exact bO j J (by show j<j+1;omega) (hl:=by rw[hst];rfl)
  rw[if_neg c2]at hst;obtain rfl:=Fy.2 c2
  repeat(first|refine GC ?_|refine gV (fx (b:=aB) I I (decide_eq_true J)) ?_|refine gV (aw (v:=ak (ah ⟨be,agF,aj⟩) m.empty.length ce) aI.ty I (aE (i:=0) I I)) ?_|refine gV (aR bI.eq aI.ty I I hj) ?_|refine gV (aw (v:= .bool aD) aI.ty I (afc _)) ?_|refine gV (eD (r:=(j:Int)-1) I I J J I) ?_|refine GB ?_)
  exact bO j J (by show j<j+1;omega) (hl:=by rw[hst])
 ·obtain rfl:k=0:=by omega
  rw[show fD (m.empty.drop 0) ((0:Nat):Int)=fD m.empty 0 from I];have lK:tF m (201-0) 0 [] ⟨[],[fD m.empty 0]⟩=vC m:=rfl;generalize fD m.empty 0=t0 at*;refine Tc (i:=5) (gC (ak (ah ⟨g20,0,aj⟩) 1 1) [t0]) I (fun w h=>Ky h) (fun k h=>h) ?_
  repeat(first|refine GC ?_|refine gV (fx (b:=aD) I I (decide_eq_false J)) ?_|refine GB ?_)
  refine jw 257 256 ?_;refine s7 [1,2,3,4,5,6] ?_;clear hre;refine dU (ι:=Nat×List Row×DM×Value×Value×Value) (fun(n,R,d,_,_,_)=>R.length=n/\n<=d.S.length+1/\DOk m.ps d/\d.S.length+1<=200/\tF m (201-n) n R d=vC m) (fun(n,_,_,_,_,_)=>[(2,aH (ah ⟨g2,0,aj⟩)),(5,aH (ah ⟨g5,0,aj⟩)),(7,ap av (n:Int))])
   (fun(_,R,d,vs,wl,vt)=>[aO g2 #[ak aj 0 0,ak aj 0 0] 186,aO g5 (L7 vc vr vf vfol vl (ak ae m.empty.length ce) vs (.map (ah gm)) wl vt) 254,pq vs d.S,tI gm d.S,gC vt d.tags,bx 257 256 wl R.length (R.flatMap eZ)]) (fun(n,_,_,_,_,_)=>201-n) (0,[],⟨[],[t0]⟩,ak (ah ⟨gs,0,aj⟩) 1 1,ak aj 0 0,ak (ah ⟨g20,0,aj⟩) 1 1) ⟨rfl,bC _,⟨Z6,rfl⟩,by show 0+1<=200;omega,lK⟩ ?_
  clear lK hk c1;rintro⟨n,R,d,vs,wl,vt⟩ ⟨i0,i1,i2,i3,i4⟩;dsimp only at i0 i1 i2 i3 i4⊢;refine iH (i:=2) I gj fun gv=>?_;obtain⟨ab,cs,rfl,hmS,-⟩:=gv
  by_cases c1:n<d.S.length+1
  ·rw[show 201-n=(201-(n+1))+1 by omega,I0,if_pos c1]at i4
   obtain⟨s1,s2,s3⟩:=Ng (p:=m.ps) (kf m d.S n) 256 0 (eA 256 0) d i2 i3;have aaH:=fun w' (pV:Mem (w:b_) [aO g2 #[ak aj 0 0,ak aj 0 0] 186,aO g5 (L7 vc vr vf vfol vl (ak ae m.empty.length ce) (ak ab (d.S.length+1) cs) (.map (ah gm)) wl vt) 254,pq (ak ab (d.S.length+1) cs) d.S,tI gm d.S,gC vt d.tags,bx 257 256 wl R.length (R.flatMap eZ)] w') (hb:Mem (b_.on w' (L8 vc vr vf vfol vl (ak ae m.empty.length ce) wl g5 gm (ak ab (d.S.length+1) cs) vt d)) (L8 vc vr vf vfol vl (ak ae m.empty.length ce) wl g5 gm (ak ab (d.S.length+1) cs) vt d) w')=>Ru wl d g5 gm n (ak ab (d.S.length+1) cs) vt i2 i3 J w' _ ((mv.self w).on pV (by simp[L8])) hb;rw[show ng m.ps (kf m d.S n) 256 0 (eA 256 0) d=qM m n d from I]at s1 s2 s3;obtain⟨r',d',ow⟩:∃r' d',qM m n d=(r',d'):=⟨_,_,rfl⟩;rw[ow]at i4 s1 s2 s3;dsimp only at i4 s1 s2 s3
   repeat(first|refine GC ?_|refine gV (aw (v:=ak ab (d.S.length+1) cs) aI.ty I (aE (i:=1) I I)) ?_|refine gV (dT (b:=aB) I I (decide_eq_true J)) ?_|refine GB ?_)
   (repeat refine bY ?_)
   refine my (ι:=Value×Value×Value) (fun _=>True) (fun _=>[(2,aH (ah ⟨g2,0,aj⟩)),(5,aH (ah ⟨g5,0,aj⟩)),(7,ap av (n:Int))])
    (fun(qd,rN,zl)=>[aO g2 #[ak aj 0 0,ak aj 0 0] 186,aO g5 (L7 vc vr vf vfol vl (ak ae m.empty.length ce) qd (.map (ah gm)) rN zl) 254,pq qd d'.S,tI gm d'.S,gC zl d'.tags,bx 257 256 rN (R++[r']).length ((R++[r']).flatMap eZ)]) ?_ ?_
   ·refine dK ([]) (.calm 0 (.calm 1 (.calm 2 (.calm 3 (.calm 4 (.calm 6 (.calm 7 (.two 5 (.one 8 (.one 9 (.one 10 (.calm 11 (.calm 12 (.calm 13 (.one 14 (.done)))))))) 8 (.two 5 (.one 9 (.one 10 (.calm 11 (.calm 12 (.calm 13 (.one 14 (.done))))))) 9 (.one 5 (.one 10 (.calm 11 (.calm 12 (.calm 13 (.one 14 (.done)))))))))))))))) (bZ []) ?_
    try refine GW ?_
    refine fe I I ?_ ?_
    ·refine dC (aw (v:=wl) aI.ty I (aE (i:=1) I I)) I I I (aK (bZ []) ?_)
     refine aJ I (bH [1,2,3,4] [0,5] akV I I (fP aF.en I I I) (fun w' hm hb=>aaH w' hm hb) I I I ?_);rintro⟨qd,zl⟩ _
     conv=>arg 8;simp only[zJ,dr,ret,id_eq,IZ,L8]
     conv=>arg 7;simp only[IZ]
     rw[ow];dsimp only;refine aK (bZ []) ?_;refine aJ I (fF (cs:=(eZ r').toArray) [C9 r'] I I I (F4 r') I (K4 r') I fun g62=>(aK (bZ []) ?_));refine aJ I (eT (i:=1) (e:=257) (size:=256) (bytes:=512) (m:=R.length) (xs:=R.flatMap eZ) (k:=1) (ys:=eZ r') I (k9 (i:=6) I (fun j u h=>by simpa using h) (aT 1) akV) I I (by rw[dE]) (fun u hu=>row_one [r'] u (by simpa using hu)) J J I fun rN=>(aK (bZ []) ?_))
     try refine GW ?_
     refine aJ I (aV (i:=1) I fun jM nG=>bT (i:=2) I I I jM nG I (aK (bZ []) ?_))
     try refine GW ?_
     refine dv [0,2,3,4,5,1] ?_;exact e_ (qd,rN,zl) trivial (by repeat' (first|exact cY|refine cK I ?_)) (by dsimp only;rw[BO];rfl)
    refine bH [1,2,3,4] [0,5] akV I I (fP aF.en I I I) (fun w' hm hb=>aaH w' hm hb) I I I ?_;rintro⟨qd,zl⟩ _
    conv=>arg 8;simp only[zJ,dr,ret,id_eq,IZ,L8]
    conv=>arg 7;simp only[IZ]
    rw[ow];dsimp only;refine aK (bZ []) ?_;refine fe I I ?_ ?_
    ·refine dC (aw (v:=wl) aI.ty I (aE (i:=2) I I)) I I I (aK (bZ []) ?_)
     refine aJ I (fF (cs:=(eZ r').toArray) [C9 r'] I I I (F4 r') I (K4 r') I fun g62=>(aK (bZ []) ?_));refine aJ I (eT (i:=1) (e:=257) (size:=256) (bytes:=512) (m:=R.length) (xs:=R.flatMap eZ) (k:=1) (ys:=eZ r') I (k9 (i:=6) I (fun j u h=>by simpa using h) (aT 1) akV) I I (by rw[dE]) (fun u hu=>row_one [r'] u (by simpa using hu)) J J I fun rN=>(aK (bZ []) ?_))
     try refine GW ?_
     refine aJ I (aV (i:=1) I fun jM nG=>bT (i:=2) I I I jM nG I (aK (bZ []) ?_))
     try refine GW ?_
     refine dv [0,2,3,4,5,1] ?_;exact e_ (qd,rN,zl) trivial (by repeat' (first|exact cY|refine cK I ?_)) (by dsimp only;rw[BO];rfl)
    refine fF (cs:=(eZ r').toArray) [C9 r'] I I I (F4 r') I (K4 r') I fun g62=>(aK (bZ []) ?_);refine aJ I (dC (aw (v:=wl) aI.ty I (aE (i:=2) I I)) I I I (aK (bZ []) ?_));refine aJ I (eT (i:=1) (e:=257) (size:=256) (bytes:=512) (m:=R.length) (xs:=R.flatMap eZ) (k:=1) (ys:=eZ r') I (k9 (i:=6) I (fun j u h=>by simpa using h) (aT 1) akV) I I (by rw[dE]) (fun u hu=>row_one [r'] u (by simpa using hu)) J J I fun rN=>(aK (bZ []) ?_))
    try refine GW ?_
    refine aJ I (aV (i:=1) I fun jM nG=>bT (i:=2) I I I jM nG I (aK (bZ []) ?_))
    try refine GW ?_
    refine dv [0,2,3,4,5,1] ?_;exact e_ (qd,rN,zl) trivial (by repeat' (first|exact cY|refine cK I ?_)) (by dsimp only;rw[BO];rfl)
   clear aaH;rintro⟨qd,rN,zl⟩ _;dsimp only;refine iH (i:=2) I gj fun gv=>?_;obtain⟨ab',cs',rfl,akE,-⟩:=gv
   by_cases c2:200<d'.S.length+1
   ·rw[if_pos c2]at i4
    have ho:=Rs i4.symm;unfold T6;rw[ho]
    repeat(first|refine GC ?_|refine gV (aw (v:=ak ab' (d'.S.length+1) cs') aI.ty I (aE (i:=1) I I)) ?_|refine gV (eP (b:=aB) I I (decide_eq_true J)) ?_|refine gV (bz I hbz) ?_|refine GB ?_)
    refine gG 0 ?_;refine zL ?_
    try refine GA ?_
    refine eL 257 256 (eL 3 1 ?_);exact ez (i:=0) I I I I I fun w hm=>hm.meets (S:=⟨fun(_:Value×Value)=>True,fun x=> .tuple #[iM x.1 x.2,ap av 8],fun x=>[bx 257 256 x.1 0 [],bx 3 1 x.2 0 []]⟩) (ak aj 0 0,ak aj 0 0) trivial [6,7] akV I
   rw[if_neg c2]at i4
   repeat(first|refine GC ?_|refine gV (aw (v:=ak ab' (d'.S.length+1) cs') aI.ty I (aE (i:=1) I I)) ?_|refine gV (eP (b:=aD) I I (decide_eq_false J)) ?_|refine GB ?_)
   exact bO (n+1,R++[r'],d',ak ab' (d'.S.length+1) cs',rN,zl) ⟨by rw[bK,i0];rfl,by show n+1<=d'.S.length+1;omega,s1,by show d'.S.length+1<=200;omega,i4⟩ (by show 201-(n+1)<201-n;omega)
  have i5:vC m=ah (R,d):=by
   rw[<-i4,show 201-n=(201-(n+1))+1 by omega,I0,if_neg c1]
  have ho:=yW i5;unfold T6;rw[ho];refine iH (i:=4) I gj fun gv=>?_;obtain⟨at',ct',rfl,-⟩:=gv;refine iH (i:=5) I gj fun gv=>?_;obtain⟨ar',cr',rfl,-⟩:=gv
  repeat(first|refine GC ?_|refine gV (aw (v:=ak ab (d.S.length+1) cs) aI.ty I (aE (i:=1) I I)) ?_|refine gV (dT (b:=aD) I I (decide_eq_false J)) ?_|refine gV (aU (cs:=[ak ar' R.length cr',ak at' d.tags.length ct']) aI.ty I I (fun j v hj=>aE (i:=1) I (agE hj))) ?_|refine GB ?_)
  refine gG 0 (cs':=#[ak ar' R.length cr',ak at' d.tags.length ct']) ?_;refine zL ?_
  try refine GA ?_
  exact ez (i:=0) I I I I I fun w hm=>hm.meets (S:=⟨fun(_:Value×Value)=>True,fun x=> .tuple #[iM x.1 x.2,ap av 0],fun x=>[bx 257 256 x.1 R.length (R.flatMap eZ),gC x.2 d.tags]⟩) (ak ar' R.length cr',ak at' d.tags.length ct') trivial [5,4] akV I
end cg
namespace nw
open dj gu eB c_
open cg (lC eM wj K0)
def N3(p:PS)(S:List C4)(all:C4)(b:Nat):Int:=if Kv p all b=C4.zero then-1 else((idx S (Kv p all b)+1:Nat):Int)
def wm(p:PS)(S:List C4)(all:C4)(b:Nat)(x:Int):Prop:=x=N3 p S all b/\(Kv p all b=C4.zero\/Kv p all b∈S)
theorem wm.Qp{p:PS}{S:List C4}{all:C4}{b:Nat}{x:Int}(h:wm p S all b x)(E:List C4):wm p (S++E) all b x:=by
 obtain⟨h1,h2⟩:=h;refine⟨?_,h2.imp id fun h=>uC _ h⟩;rw[h1];unfold N3
 by_cases c:Kv p all b=C4.zero
 rw[if_pos c,if_pos c];rw[if_neg c,if_neg c,qY (h2.resolve_left c)]
def rO(p:PS)(t0:Int)(d:DM):Prop:=d.tags=t0::d.S.map (nw.mD p)
theorem Wy(p:PS)(t0:Int)(d:DM)(s:C4):(∃E,(iS p d s).2.S=d.S++E)/\s∈(iS p d s).2.S/\(iS p d s).1=idx (iS p d s).2.S s+1/\(rO p t0 d->rO p t0 (iS p d s).2):=by
 unfold iS
 by_cases c:s∈d.S
 ·rw[if_pos c]
  exact⟨⟨[],(dQ _).symm⟩,c,rfl,id⟩
 rw[if_neg c];refine⟨⟨[s],rfl⟩,KF _ (dH.2 I),?_,fun h=>?_⟩
 ·show d.S.length+1=idx (d.S++[s]) s+1
  unfold idx;rw[List.idxOf_append,if_neg c];simp
 show d.tags++[nw.mD p s]=t0::(d.S++[s]).map (nw.mD p)
 rw[h,eb];rfl
theorem aaI(p:PS)(t0:Int)(all:C4)(b:Nat)(hb:b<256)(r:Row)(d:DM):(∃E,(fX p all b r d).2.S=d.S++E)/\(∀c (h:c<256),c≠b->(fX p all b r d).1[c]=r[c])/\wm p (fX p all b r d).2.S all b ((fX p all b r d).1[b])/\(rO p t0 d->rO p t0 (fX p all b r d).2):=by
 unfold fX
 by_cases c:Kv p all b=C4.zero
 ·rw[if_pos c,dif_pos hb]
  refine⟨⟨[],(dQ _).symm⟩,fun c' h hc=>?_,⟨?_,.inl c⟩,id⟩;exact QU hb h (yb hc);rw[Z' hb];unfold N3;rw[if_pos c]
 rw[if_neg c,dif_pos hb];obtain⟨h1,h2,h3,h4⟩:=Wy p t0 d (Kv p all b);refine⟨h1,fun c' h hc=>?_,⟨?_,.inr h2⟩,h4⟩
 ·dsimp only
  rw[QU hb h (yb hc),QU hb h (yb hc)]
 dsimp only;rw[Z' hb,h3];unfold N3;rw[if_neg c]
theorem T7(p:PS)(t0:Int)(all:C4):∀(f b:Nat) (r:Row) (d:DM),b+f=256->(ng p all f b r d).2.S.length+1<=200->
 (∃E,(ng p all f b r d).2.S=d.S++E)/\(∀c (h:c<256),c<b->(ng p all f b r d).1[c]=r[c])/\(∀c (h:c<256),b<=c->wm p (ng p all f b r d).2.S all c ((ng p all f b r d).1[c]))/\(rO p t0 d->rO p t0 (ng p all f b r d).2)
 |0,b,r,d,hbf,_=>⟨⟨[],(dQ _).symm⟩,fun _ _ _=>rfl,fun c h hc=>by omega,id⟩
 | f +1,b,r,d,hbf,hl=>by
  obtain⟨⟨E1,h1⟩,h2,h3,h4⟩:=aaI p t0 all b J r d;have e:ng p all (f+1) b r d=if 200<(fX p all b r d).2.S.length+1 then fX p all b r d else ng p all f (b+1) (fX p all b r d).1 (fX p all b r d).2:=rfl
  rw[e]at hl⊢
  by_cases c:200<(fX p all b r d).2.S.length+1
  rw[if_pos c]at hl;omega;rw[if_neg c]at hl⊢;obtain⟨⟨E2,q1⟩,q2,q3,q4⟩:=T7 p t0 all f (b+1) _ _ J hl;refine⟨⟨E1++E2,by rw[q1,h1,dL]⟩,fun c' h hc=>?_,fun c' h hc=>?_,fun h=>q4 (h4 h)⟩;rw[q2 c' h J,h2 c' h J]
  by_cases ec:c'=b
  ·subst ec
   rw[q2 c' h J,q1];exact h3.Qp E2
  exact q3 c' h J
theorem I1(m:MS)(S E:List C4){n:Nat}(h:n<=S.length):kf m (S++E) n=kf m S n:=by
 cases n with
 |zero=>rfl
 |succ n=>
  show n_ m.ps ((S++E).getD n C4.zero) _=n_ m.ps (S.getD n C4.zero) _
  rw[jx J]
structure MkI(m:MS)(t0:Int)(n:Nat)(R:List Row)(d:DM):Prop where
 len:R.length=n
 le:n<=d.S.length+1
 Cq:d.S.length+1<=200
 cell:∀q,q<n->∀c (h:c<256),wm m.ps d.S (kf m d.S q) c ((R.getD q wj)[c])
 tags:rO m.ps t0 d
theorem N4(m:MS)(t0:Int):∀(f n:Nat) (R:List Row) (d:DM) (R':List Row) (d':DM),tF m f n R d=ah (R',d')->MkI m t0 n R d->MkI m t0 (d'.S.length+1) R' d'
 |0,_,_,_,_,_,h,_=>by cases h
 | f + 1,n,R,d,R',d',h,hi=>by
  have e:tF m (f+1) n R d=if n<d.S.length+1 then(if 200<(qM m n d).2.S.length+1 then aj else tF m f (n+1) (R++[(qM m n d).1]) (qM m n d).2)else ah (R,d):=rfl
  rw[e]at h
  by_cases c1:n<d.S.length+1
  ·rw[if_pos c1]at h
   by_cases c2:200<(qM m n d).2.S.length+1
   rw[if_pos c2]at h;cases h;rw[if_neg c2]at h;refine N4 m t0 f (n+1) _ _ R' d' h ?_;obtain⟨⟨E,q1⟩,_,q3,q4⟩:=T7 m.ps t0 (kf m d.S n) 256 0 (eA 256 0) d rfl (by show(qM m n d).2.S.length+1<=200;omega);have q1:(qM m n d).2.S=d.S++E:=q1;have q3:∀c (h:c<256),0<=c->wm m.ps (qM m n d).2.S (kf m d.S n) c ((qM m n d).1[c]):=q3;have hlen:=congrArg nV q1;rw[bK]at hlen;refine⟨by rw[bK,hi.len];rfl,by omega,by omega,fun q hq c hc=>?_,q4 hi.tags⟩
   by_cases eq:q=n
   ·subst eq
    rw[mz (by rw[hi.len];exact aT _),hi.len,qk];show wm m.ps (qM m q d).2.S (kf m (qM m q d).2.S q) c ((qM m q d).1[c])
    rw[q1,I1 m d.S E J,<-q1];exact q3 c hc (bC _)
   rw[jx (by rw[hi.len];omega),q1,I1 m d.S E J];exact(hi.cell q J c hc).Qp E
  rw[if_neg c1]at h;simp only[dg,iu]at h;obtain⟨rfl,rfl⟩:=h;have:n=d.S.length+1:=by have:=hi.le;omega
  rw[<-this];exact hi
theorem BP{m:MS}{R:List Row}{d:DM}(h:vC m=ah (R,d)):MkI m (fD m.empty 0) (d.S.length+1) R d:=
 N4 m (fD m.empty 0) 201 0 [] ⟨[],[fD m.empty 0]⟩ R d h ⟨rfl,bC _,by show 0+1<=200;decide,fun q hq=>absurd hq (ni q),rfl⟩
theorem aaJ(R:List Row)(q c:Nat)(h:c<256):((R.getD q wj).toList.getD c 0)=(R.getD q wj)[c]:=by
 rw[bD,bm (by simpa using h),iz,mF]
theorem K5{p:PS}{n:Nat}(hr:∀r∈p.rules,0<=r/\r<n)(hl:p.rules.length=p.aZ.length)(s:C4):∀k,k<=p.aZ.length->(kF p s k= -1/\∀i,i<k->s.mem i=aB->p.last.getD i aD=aB->False)\/(∃i,i<k/\s.mem i=aB/\p.last.getD i aD=aB/\kF p s k=p.rules.getD i 0/\0<=kF p s k/\kF p s k<n/\∀i,i<k->s.mem i=aB->p.last.getD i aD=aB->kF p s k<=p.rules.getD i 0)
 |0,_=> .inl ⟨rfl,fun i hi=>absurd hi (ni i)⟩
 | k +1,hk=>by
  have Vj:0<=p.rules.getD k 0/\p.rules.getD k 0<n:=by
   rw[bD,bm J,iz];exact hr _ (bV _)
  have e:kF p s (k+1)=if s.mem k=aB/\p.last.getD k aD=aB/\(kF p s k<0\/p.rules.getD k 0<kF p s k)then p.rules.getD k 0 else kF p s k:=rfl
  rw[e];have ih:=K5 hr hl s k J
  by_cases c:s.mem k=aB/\p.last.getD k aD=aB/\(kF p s k<0\/p.rules.getD k 0<kF p s k)
  ·rw[if_pos c]
   refine .inr ⟨k,o_ k,c.1,c.2.1,rfl,Vj.1,Vj.2,fun i hi h1 h2=>?_⟩
   by_cases ei:i=k
   subst ei;exact kz _;rcases ih with⟨_,h⟩|⟨_,_,_,_,_,h0,_,h⟩
   exact(h i J h1 h2).elim;have h7:=h i J h1 h2;have h8:=c.2.2;omega
  rw[if_neg c];rcases ih with⟨h0,h⟩|⟨i,hi,h1,h2,h3,h4,h5,h6⟩
  ·refine .inl ⟨h0,fun i hi h1 h2=>?_⟩
   by_cases ei:i=k
   subst ei;exact c ⟨h1,h2,.inl (by rw[h0];decide)⟩;exact h i J h1 h2
  refine .inr ⟨i,by omega,h1,h2,h3,h4,h5,fun j hj g1 g2=>?_⟩
  by_cases ej:j=k
  ·subst ej
   have h9:¬(kF p s j<0\/p.rules.getD j 0<kF p s j):=fun h=>c ⟨g1,g2,h⟩;omega
  exact h6 j J g1 g2
theorem F5:∀(l:List Bool) (k:Nat),(fD l k= -1/\∀i,i<l.length->l.getD i aD=aD)\/(∃i,i<l.length/\fD l k=((k+i:Nat):Int)/\l.getD i aD=aB/\∀j,j<i->l.getD j aD=aD)
 |[],_=> .inl ⟨rfl,fun _ _=>rfl⟩
 |true::l,k=> .inr ⟨0,Nat.zero_lt_succ _,rfl,rfl,fun j hj=>absurd hj (ni j)⟩
 | false::l,k=>by
  have e:fD (false::l) (k:Int)=fD l ((k+1:Nat):Int):=rfl;rw[e];rcases F5 l (k+1)with⟨h1,h2⟩|⟨i,h1,h2,h3,h4⟩
  ·refine .inl ⟨h1,fun i hi=>?_⟩
   cases i with
   |zero=>rfl
   |succ i=>exact h2 i (by simpa using hi)
  refine .inr ⟨i+1,by simpa using h1,by rw[h2];congr 1;omega,h3,fun j hj=>?_⟩
  cases j with
  |zero=>rfl
  |succ j=>exact h4 j J
theorem I2{l:List Bool}: -1<=fD l 0/\fD l 0<(l.length:Int):=by
 rcases F5 l 0 with⟨h1,_⟩|⟨i,h1,h2,_⟩
 ·have h1:fD l 0= -1:=h1
  rw[h1];omega
 have h2:fD l 0=((0+i:Nat):Int):=h2;rw[h2];omega
section
variable{es:List Re}{m:MS}{R:List Row}{d:DM}
theorem ad1(hm:Ks m)(hi:MkI m (fD m.empty 0) (d.S.length+1) R d){k:Nat}(hk:k<d.S.length+1):d.tags.getD k 0=(if h:k=0 then fD m.empty 0 else nw.mD m.ps (d.S[k-1]' J))/\ -1<=d.tags.getD k 0/\d.tags.getD k 0<20:=by
 have h:=hi.tags;unfold rO at h;rw[h];have h20:=hm.adm
 cases k with
 |zero=>
  have:=I2 (l:=m.empty);refine⟨rfl,this.1,?_⟩;have e:(fD m.empty 0::d.S.map (nw.mD m.ps)).getD 0 0=fD m.empty 0:=rfl;rw[e];omega
 | succ k=>
  have hk:k<d.S.length:=by omega
  have e:(fD m.empty 0::d.S.map (nw.mD m.ps)).getD (k+1) 0=nw.mD m.ps d.S[k]:=by
   rw[List.getD_cons_succ,bD,eQ,bm hk];rfl
  rw[e];refine⟨rfl,?_⟩;unfold nw.mD;rcases K5 hm.rules hm.ok.ps.rules d.S[k] m.ps.aZ.length (aT _)with⟨h1,_⟩|⟨_,_,_,_,_,h1,h2,_⟩
  rw[h1];omega;omega
theorem aaK(hm:Ks m)(hi:MkI m (fD m.empty 0) (d.S.length+1) R d):lC R d.tags=0:=by
 have hl:=hi.len;have hf:=hi.Cq;refine K0 ⟨?_,?_,fun q hq b hb=>?_,fun q hq=>?_⟩ ?_;show 0<R.length;omega
 show R.length<=200;omega
 ·have hq:q<R.length:=hq
  show-1<=(R.getD q wj).toList.getD b 0/\(R.getD q wj).toList.getD b 0<(R.length:Int)
  rw[aaJ R q b hb,(hi.cell q J b hb).1];unfold N3
  by_cases c:Kv m.ps (kf m d.S q) b=C4.zero
  rw[if_pos c];omega;rw[if_neg c];have:=lf ((hi.cell q J b hb).2.resolve_left c);omega
 ·have hq:q<R.length:=hq
  exact(ad1 hm hi J).2
 have h:=hi.tags;unfold rO at h;rw[h,hl,cO,dw]
end
end nw
namespace cg
open Go.RowKit cT ey
section
variable{α:Type}{s:zk α}{F:Nat->Prop}{vs:List Value}{S:List (List α)}{W:b_}{L:List b9}{w:World}
theorem I3(h:(eY (cB s) F (vs.map fun v=>[v]) S).holds w):vs.length=S.length:=by have:=h.1.1;rwa [dw]at this
theorem Rw(h:(eY (cB s) F (vs.map fun v=>[v]) S).holds w){q:Nat}(hq:q<S.length){v:Value}(hv:vs[q]?=ah v):kK s F w v S[q]:=by
 have hnv:q<vs.length:=(cU.1 hv).1;obtain⟨v',e,hs⟩:=h.1.2 q hq (by rw[dw];exact hnv);rw[oZ]at e;have h2:=(cU.1 hv).2;rw[h2]at e;rw[(oc e).1];exact hs
theorem aaL(h:(eY (cB s) F (vs.map fun v=>[v]) S).holds w){q:Nat}(hq:q<S.length){v:Value}(hv:vs[q]?=ah v):∃base cap,v= .slice base S[q].length cap/\S[q].length<=cap/\cap<=9223372036854775807/\(0<S[q].length->∃b off,base=ah ⟨b,off,aj⟩):=by
 obtain⟨base,cap,e,h1,h2,h3⟩:=Rw h hq hv;exact⟨base,cap,e,h1,by unfold maxLen at h2;omega,fun hn=>let ⟨b,off,h4,_⟩:=h3 hn;⟨b,off,h4⟩⟩
theorem Ry{f:α->List Value}{c:Nat}{hc:∀a,(f a).length=c}{p:α->Prop}(L3:0<c){i:Nat}(hi:L[i]?=ah (eY (cB (zM f c hc p)) F (vs.map fun v=>[v]) S)){q:Nat}(hq:q<S.length){v:Value}(hv:vs[q]?=ah v):SlL W L v S[q].length (S[q].flatMap f):=fun _ hm=>
 kK.flat L3 (Rw (hm.get hi) hq hv)
end
end cg
namespace cg
open Go.RowKit cT ey aM dN dx bP c_
def F6(c:bP.Item->Nat)(x:bP.Item):Value:=ap av (c x:Int)
def BQ(c:bP.Item->Nat)(it:bP.Item)(x:bP.Item):Nat:=if x=it then c x+1 else c x
structure su(c:bP.Item->Nat)(out:List bP.Item)(b:Nat):Prop where
 zero:∀x,c x=0↔x∉out
 le:∀x,c x<=b
theorem su.put{c:bP.Item->Nat}{out:List bP.Item}{b:Nat}(h:su c out b)(it:bP.Item):su (BQ c it) (more out it) (b+2):=by
 refine⟨fun x=>?_,fun x=>?_⟩
 ·unfold BQ
  by_cases e:x=it
  ·subst e
   rw[if_pos I]
   constructor
   intro h;omega;intro h;exact absurd (uQ.2 (.inr I)) h
  rw[if_neg e,h.zero x];rw[uQ]
  constructor
  intro h1 h2;exact h2.elim h1 e;intro h1 h2;exact h1 (.inl h2)
 unfold BQ;have:=h.le x;split<;>omega
def Hv(g5 gm g6 b:Nat)(v:Value)(c:bP.Item->Nat)(out:List bP.Item):List b9:=
 [aO g5 #[.map (ah gm)] 316,oV KS gm (ap av 0) (F6 c) b,aO g6 #[v] 273,bx 278 3 v out.length (out.flatMap iT)]
theorem ad2(x:bP.Item):∀u∈iT x,u.oneCell'=true:=by
 intro u hu;simp only[iT,df,fI,or_false]at hu;rcases hu with rfl|rfl|rfl<;>rfl
theorem N5(g5 gm g6 b:Nat)(v:Value)(c:bP.Item->Nat)(out:List bP.Item)(it:bP.Item)(hit:KS.ok it)(hp:su c out b)(hb:b+2<=1152921504606846976)(ho:out.length+1<=1000000)(w:World)(B:b_)(hm:Mem B (Hv g5 gm g6 b v c out) w):
 Calls aC 157 #[aP (iT it).toArray,aH (ah ⟨g5,0,aj⟩),aH (ah ⟨g6,0,aj⟩)] w (dX ⟨fun _=>True,fun _=> .tuple #[],fun v'=>Hv g5 gm g6 (b+2) v' (BQ c it) (more out it)⟩ B):=by
 unfold Hv at hm;have hle:=hp.le it;have hz:=hp.zero it;obtain⟨n,hn⟩:∃n,c it=n:=⟨_,rfl⟩;obtain⟨F,hF⟩:∃F,F6 c=F:=⟨_,rfl⟩;obtain⟨F',hF'⟩:∃F',F6 (BQ c it)=F':=⟨_,rfl⟩;have hcv:F it=ap av (n:Int):=by rw[<-hF,<-hn];rfl
 have hF1:F' it=ap av ((n+1:Nat):Int):=by rw[<-hF',<-hn];show ap .i64 ((BQ c it it:Nat):Int)=_;unfold BQ;rw[if_pos I]
 have pJ:∀y,KS.ok y->F' y=if y=it then ap av ((n+1:Nat):Int)else F y:=fun y _=>by
  rw[<-hF',<-hF,<-hn];show ap .i64 ((BQ c it y:Nat):Int)=if y=it then _ else ap .i64 ((c y:Nat):Int)
  unfold BQ
  by_cases e:y=it
  subst e;rw[if_pos I,if_pos I];rw[if_neg e,if_neg e]
 rw[hF]at hm;rw[hn]at hle hz;clear hp;refine eR hm (args:=[aP (iT it).toArray,aH (ah ⟨g5,0,aj⟩),aH (ah ⟨g6,0,aj⟩)]) (n:=18) Tryz.func157 I I I ?_;refine bY (a_ (bQ I I I fun g3=>?_));refine zL ?_
 try refine GA ?_
 (repeat refine bY ?_)
 refine my (ι:=Unit) (fun _=>True) (fun _=>[(1,aH (ah ⟨g5,0,aj⟩)),(2,aH (ah ⟨g6,0,aj⟩)),(3,aH (ah ⟨g3,0,aj⟩))]) (fun _=>[aO g5 #[.map (ah gm)] 316,oV KS gm (ap av 0) F' (b+1+1),aO g6 #[v] 273,bx 278 3 v out.length (out.flatMap iT),aO g3 (iT it).toArray 278]) ?_ ?_
 ·refine dK ([aO g5 #[.map (ah gm)] 316,aO g3 (iT it).toArray 278]) (.calm 0 (.calm 1 (.two 2 (.calm 3 (.one 4 (.calm 5 (.one 6 (.done))))) 4 (.calm 5 (.one 2 (.calm 3 (.one 6 (.done)))))))) (bZ [0,4]) ?_
  repeat(first|refine GW ?_|(refine GN ?_;first|refine QW (aw (v:= .map (ah gm)) aI.ty I (aE (i:=0) I I)) ?_|refine QW (aL (i:=1) aI.ty I I I) ?_))
  refine fe I I ?_ ?_
  ·refine dC (r_ KS bI.eq oL (i:=1) I I (x:=it) I hit hcv) I I I (aK (bZ [0,4]) ?_)
   repeat(first|(refine GN ?_;first|refine QW QP ?_|refine QW (dh (r:=((n+1:Nat):Int)) I I J J J) ?_|refine GX ?_)|refine GW ?_)
   refine aJ I (Nt KS bI.eq oL (i:=1) I I (x:=it) I hit J I fun st=>aK (bZ [0,4]) ?_)
   try refine GW ?_
   refine aJ I (IG KS F' bI.eq (i:=1) I I I I hit J pJ (aK (bZ [0,4]) ?_))
   try refine GW ?_
   exact e_ () trivial (by repeat' (first|exact cY|refine cK I ?_)) I
  refine Nt KS bI.eq oL (i:=1) I I (x:=it) I hit J I fun st=>aK (bZ [0,4]) ?_
  try refine GW ?_
  refine aJ I (dC (aai KS bI.eq oL (i:=1) I I (x:=it) I hit hcv) I I I (aK (bZ [0,4]) ?_))
  repeat(first|(refine GN ?_;first|refine QW QP ?_|refine QW (dh (r:=((n+1:Nat):Int)) I I J J J) ?_|refine GX ?_)|refine GW ?_)
  refine aJ I (IG KS F' bI.eq (i:=1) I I I I hit J pJ (aK (bZ [0,4]) ?_))
  try refine GW ?_
  exact e_ () trivial (by repeat' (first|exact cY|refine cK I ?_)) I
 rintro⟨⟩ _
 by_cases c1:it∈out
 ·have hm1:more out it=out:=if_pos c1
  rw[hm1];have hn0:n≠0:=fun e=>hz.1 e c1;clear pJ hcv
  repeat(first|refine GC ?_|refine gV (aw (v:= .map (ah gm)) aI.ty I (aE (i:=0) I I)) ?_|refine gV (aL (i:=4) aI.ty I I I) ?_|refine gV (r_ KS bI.eq oL (i:=1) I I (x:=it) I hit hF1) ?_|refine gV (cP (b:=aD) I I (decide_eq_false J)) ?_|refine GB ?_)
  exact Bj I fun w hm=>hm.cZ (S:=⟨fun(_:Value)=>True,fun _=> .tuple #[],fun v'=>Hv g5 gm g6 (b+2) v' (BQ c it) out⟩) v trivial [0,1,2,3] akV (by unfold Hv;rw[<-hF'];rfl)
 ·have hm1:more out it=out++[it]:=if_neg c1
  rw[hm1];have hn0:n=0:=hz.2 c1;clear pJ hcv
  repeat(first|refine GC ?_|refine gV (aw (v:= .map (ah gm)) aI.ty I (aE (i:=0) I I)) ?_|refine gV (aL (i:=4) aI.ty I I I) ?_|refine gV (r_ KS bI.eq oL (i:=1) I I (x:=it) I hit hF1) ?_|refine gV (cP (b:=aB) I I (decide_eq_true J)) ?_|refine gV (aw (v:=v) aI.ty I (aE (i:=2) I I)) ?_|refine GB ?_)
  refine fF (cs:=(iT it).toArray) [aP (iT it).toArray] I I I (by intro v hv;simp only[df,fI,or_false]at hv;subst hv;rfl) I I I fun g16=>?_;refine zL ?_;refine eT (i:=3) (e:=278) (size:=3) (bytes:=24) (m:=out.length) (xs:=out.flatMap iT) (k:=1) (ys:=iT it) I (k9 (i:=5) I (fun j u h=>by simpa using h) (aT 1) akV) I I I (ad2 it) J J I fun v'=>?_;refine zL ?_;refine aV (i:=3) I fun jM nG=>?_;refine bT (i:=2) I I I jM nG I ?_;refine zL ?_
  try refine GA ?_
  exact Bj I fun w hm=>hm.cZ (S:=⟨fun(_:Value)=>True,fun _=> .tuple #[],fun v'=>Hv g5 gm g6 (b+2) v' (BQ c it) (out++[it])⟩) v' trivial [0,1,2,3] akV (by unfold Hv;rw[<-hF',fH,bK];rfl)
end cg
namespace cg
open Go.Shelf
def Rz:Go.Shelf.Ren:=⟨fun|6=>160|15=>176|14=>177|28=>197|29=>198|20=>199|21=>200|22=>201|23=>202|24=>203|25=>204|26=>205|27=>206|46=>215|47=>211|48=>212|49=>216|50=>217|57=>219|n=>n,fun|22=>273|24=>278|25=>321|3=>3|39=>281|0=>0|53=>360|55=>114|4=>4|46=>354|45=>353|50=>178|5=>5|9=>9|66=>369|70=>149|76=>376|77=>377|n=>n,fun|n=>n⟩
theorem aaM:Go.Proofs.SlLaysF0.n6 aC Rz:={
 mixed:=by kernel_rfl
 f6:=⟨Tryz.f160.name,by decide,Tryz.func160.trans (congrArg ah (by kernel_rfl))⟩
 f14:=⟨Tryz.f177.name,by decide,Tryz.func177.trans (congrArg ah (by kernel_rfl))⟩
 f15:=Tryz.func176.trans (congrArg ah (by kernel_rfl))
 f20:=⟨Tryz.f199.name,by decide,Tryz.func199.trans (congrArg ah (by kernel_rfl))⟩
 f21:=⟨Tryz.f200.name,by decide,Tryz.func200.trans (congrArg ah (by kernel_rfl))⟩
 f22:=⟨Tryz.f201.name,by decide,Tryz.func201.trans (congrArg ah (by kernel_rfl))⟩
 f23:=⟨Tryz.f202.name,by decide,Tryz.func202.trans (congrArg ah (by kernel_rfl))⟩
 f24:=⟨Tryz.f203.name,by decide,Tryz.func203.trans (congrArg ah (by kernel_rfl))⟩
 f25:=⟨Tryz.f204.name,by decide,Tryz.func204.trans (congrArg ah (by kernel_rfl))⟩
 f26:=⟨Tryz.f205.name,by decide,Tryz.func205.trans (congrArg ah (by kernel_rfl))⟩
 f27:=⟨Tryz.f206.name,by decide,Tryz.func206.trans (congrArg ah (by kernel_rfl))⟩
 f28:=Tryz.func197.trans (congrArg ah (by kernel_rfl))
 f29:=Tryz.func198.trans (congrArg ah (by kernel_rfl))
 f46:=⟨Tryz.f215.name,by decide,Tryz.func215.trans (congrArg ah (by kernel_rfl))⟩
 f47:=Tryz.func211.trans (congrArg ah (by kernel_rfl))
 f48:=Tryz.func212.trans (congrArg ah (by kernel_rfl))
 f49:=⟨Tryz.f216.name,by decide,Tryz.func216.trans (congrArg ah (by kernel_rfl))⟩
 f50:=⟨Tryz.f217.name,by decide,Tryz.func217.trans (congrArg ah (by kernel_rfl))⟩
 f57:=⟨Tryz.f219.name,by decide,Tryz.func219.trans (congrArg ah (by kernel_rfl))⟩
 t0:=Tryz.underlying0
 a0:=Tryz.isAgg0
 z0:=Tryz.sizeOf0
 v0:=Tryz.zeroValue0
 t3:=Tryz.underlying3
 a3:=Tryz.isAgg3
 z3:=Tryz.sizeOf3
 v3:=Tryz.zeroValue3
 t4:=Tryz.underlying4
 a4:=Tryz.isAgg4
 z4:=Tryz.sizeOf4
 v4:=Tryz.zeroValue4
 t5:=Tryz.underlying5
 a5:=Tryz.isAgg5
 z5:=Tryz.sizeOf5
 v5:=Tryz.zeroValue5
 t9:=Tryz.underlying9
 a9:=Tryz.isAgg9
 z9:=Tryz.sizeOf9
 v9:=Tryz.zeroValue9
 t22:=Tryz.underlying273
 a22:=Tryz.isAgg273
 z22:=Tryz.sizeOf273
 v22:=Tryz.zeroValue273
 t25:=Tryz.underlying321
 a25:=Tryz.isAgg321
 z25:=Tryz.sizeOf321
 v25:=Tryz.zeroValue321
 t39:=Tryz.underlying281
 a39:=Tryz.isAgg281
 z39:=Tryz.sizeOf281
 v39:=Tryz.zeroValue281
 t45:=Tryz.underlying353
 a45:=Tryz.isAgg353
 z45:=Tryz.sizeOf353
 v45:=Tryz.zeroValue353
 t46:=Tryz.underlying354
 a46:=Tryz.isAgg354
 z46:=Tryz.sizeOf354
 v46:=Tryz.zeroValue354
 t50:=Tryz.underlying178
 a50:=Tryz.isAgg178
 z50:=Tryz.sizeOf178
 v50:=Tryz.zeroValue178
 t53:=Tryz.underlying360
 a53:=Tryz.isAgg360
 z53:=Tryz.sizeOf360
 v53:=Tryz.zeroValue360
 t55:=Tryz.underlying114
 a55:=Tryz.isAgg114
 z55:=Tryz.sizeOf114
 v55:=Tryz.zeroValue114
 t66:=Tryz.underlying369
 a66:=Tryz.isAgg369
 z66:=Tryz.sizeOf369
 v66:=Tryz.zeroValue369
 t70:=Tryz.underlying149
 a70:=Tryz.isAgg149
 z70:=Tryz.sizeOf149
 v70:=Tryz.zeroValue149
 t76:=Tryz.underlying376
 a76:=Tryz.isAgg376
 z76:=Tryz.sizeOf376
 v76:=Tryz.zeroValue376
 t77:=Tryz.underlying377
 a77:=Tryz.isAgg377
 z77:=Tryz.sizeOf377
 v77:=Tryz.zeroValue377}
end cg
namespace cg
open Go.RowKit cT ey bP Go.Sort
theorem RA(w:World)(n g:Nat)(d:Array Value)(os:Array Obj){k:Nat}(hk:k<w.heap.size)(hg:k≠g):(grow (putRow id (Go.Sort.ahead w n) g 0 d) os).heap[k]?=w.heap[k]?:=by
 rw[heap_grow_old _ _ (by rw[size_putRow];exact hk)];show(w.heap.modify g _)[k]?=w.heap[k]?
 rw[EI,if_neg (fun h=>hg h.symm)]
theorem aaN{B:b_}{w:World}{e:TypeId}{g cap m size:Nat}{xs:List Value}(hm:Mem B [bx e size (ak (ah ⟨g,0,aj⟩) m cap) m xs] w)(d:Array Value)(hd:d.size=m*size)(n:Nat)(os:Array Obj):
 Mem B [bx e size (ak (ah ⟨g,0,aj⟩) m cap) m d.toList] (grow (putRow id (Go.Sort.ahead w n) g 0 d) os):=by
 have ho:w.ownsRow 0 e size (ak (ah ⟨g,0,aj⟩) m cap) m xs:=hm.get (i:=0) I;obtain⟨hl,hr⟩:=ho;rcases hr with⟨h,_⟩|⟨g2,agc,oU,hv,_,hg,hc,hx,hs,ht⟩
 ·cases h
 cases hv
 have Nj:B.may g:=(hm.owns.all 0 _ I).2 g (.inl I);have hgw:g<w.heap.size:=(kq.1 hg).1;have ZM:(grow (putRow id (Go.Sort.ahead w n) g 0 d) os).heap[g]?=ah (.cells (putCells id 0 d oU) e (0,0)):=by
  rw[heap_grow_old _ _ (by rw[size_putRow];exact hgw)];show(w.heap.modify g (onCells (putCells id 0 d)))[g]?=_
  rw[EI,if_pos I,hg];rfl
 have hle:m*size<=cap*size:=ru _ hc;refine⟨⟨hm.low.os,hm.low.tape,hm.low.output,?_,fun k hk hx=>?_⟩,fl.one ⟨?_,.inr ⟨g,cap,_,rfl,bC _,ZM,hc,hx,?_,?_⟩⟩ fun k hk=>?_⟩
 ·rw[size_grow,size_putRow];exact eC hm.low.size (Nat.le_add_right _ _)
 ·have hkg:k≠g:=fun e=>by
   subst e;rcases Nj with h|h
   omega;exact hx h
  rw[RA w n g d os (Nat.lt_of_lt_of_le hk hm.low.size) hkg];exact hm.low.block k hk hx
 ·rw[pL,hd]
 ·unfold putCells;rw[Array.size_mapIdx];exact hs
 ·apply mq
  intro j;rw[yw]
  by_cases hj:j<m*size
  ·have hjc:j<oU.size:=by omega
   rw[if_pos hj,rC,rC];unfold putCells;rw[Array.getElem?_mapIdx,yu hjc,Option.map_some,if_pos ⟨bC _,by omega⟩,Nat.sub_zero,getElem!_pos d j J,yu (by omega:j<d.size)];rfl
  rw[if_neg hj,rC,Array.getElem?_eq_none J]
 ·rcases hk with h|h
  simp only[bx,Value.ownBlock,dg]at h;subst h;exact Nj;exact h.elim
theorem agG:SWO (ltOf NC):=⟨TT,fun _ _ _ h1 h2=>ags h1 h2,fun x y z h1 h2=>by
 have h1:Q7 x y=false:=h1;have h2:Q7 y z=false:=h2;show Q7 x z=aD
 rw[Q8]at*;omega⟩
theorem T8(l:List bP.Item):(flatK iT 3 l.toArray).toList=l.flatMap iT:=by
 have hL:(l.flatMap iT).length=l.length*3:=nS mi l;apply mq;intro t
 by_cases ht:t<l.length*3
 ·have hd:t/3<l.length:=by omega
  have h1:=get_flatK iT 3 l.toArray t (by simpa using ht);rw[getElem!_pos (flatK iT 3 l.toArray) t (by simpa using ht),getElem!_pos l.toArray (t/3) (by simpa using hd)]at h1;have h2:=uN (c:=3) (l.map iT) (fun x hx=>by obtain⟨y,_,rfl⟩:=eI.1 hx;exact mi y) (t/3) (t %3) (by simpa using hd) (Be _ akV);rw[show t/3*3+t %3=t by omega,oZ]at h2;rw[rC,yu (by simpa using ht),h1];show _=(l.map iT).flatten[t]?
  rw[h2];have h3:t %3<(iT l[t/3]).length:=by rw[mi];exact Be _ akV
  rw[bm h3];simp only[List.getElem_toArray];rw[getElem!_pos (iT l[t/3]) (t %3) h3]
 rw[ii (by rw[pL,size_flatK];simp;omega),ii J]
theorem RB{w:World}{e:TypeId}{g cap m size:Nat}{xs:List Value}(ho:w.ownsRow 0 e size (ak (ah ⟨g,0,aj⟩) m cap) m xs)(d:Array Value)(hd:d.toList=xs):Holds id w g 0 d/\g<w.heap.size:=by
 obtain⟨hl,hr⟩:=ho;rcases hr with⟨h,_⟩|⟨g2,agc,oU,hv,_,hg,hc,hx,hs,ht⟩
 cases h
 cases hv
 refine⟨fun j hj=>?_,(kq.1 hg).1⟩;have hle:m*size<=cap*size:=ru _ hc;have hj2:j<xs.length:=by rw[<-hd];simpa using hj
 have hcj:oU[j]?=ah d[j]:=by
  have:=congrArg (fun l=>l[j]?) ht;rw[yw,if_pos J,rC,<-hd,rC,yu hj]at this;exact this
 refine⟨?_,?_⟩;rw[cell_of_row w g (0+j) _ _ _ hg,cI,hcj,getElem!_pos d j hj];rfl;unfold World.frozen?;rw[hg];simp
def ad3:Prop:=∀(x y:bP.Item) (w:World),Calls aC 161 #[aP (iT x).toArray,aP (iT y).toArray] w fun e w'=>e= .returned (ap av (NC x y))/\∃q os',w'=grow (w.drewN q) os'
theorem ad4(ajO:ad3)(v:Value)(l:List bP.Item)(w:World)(B:b_)(hm:Mem B [bx 278 3 v l.length (l.flatMap iT)] w)(hl:l.length<4611686018427387904):
 Calls aC 160 #[v,.func (.func 161) #[] #[]] w (dX ⟨fun(_:Unit)=>True,fun _=> .tuple #[],fun _=>[bx 278 3 v l.length ((vZ l).flatMap iT)]⟩ B):=by
 have ho:w.ownsRow 0 278 3 v l.length (l.flatMap iT):=hm.get (i:=0) I;have Hd:=ho;rcases ho.2 with⟨rfl,h0⟩|⟨g,cap,oU,rfl,_,hg,hc,hx,hs,ht⟩
 ·obtain rfl:l=[]:=List.length_eq_zero_iff.1 h0
  refine(AnyF.slices_SortFunc_none aaM aj 0 _ w).mono fun e w' ⟨he,hw⟩=>⟨(),trivial,he,?_⟩;rw[hw];exact(by simpa[vZ]using hm)
 ·obtain⟨h1,h2⟩:=RB Hd (flatK iT 3 l.toArray) (T8 l)
  have ajP:CmpLays aC 161 #[] iT 3 NC g 0 l.toArray.size w:=fun m os dk _ x y=>by
   have h:=ajO x y (sortWorldK iT 3 w g 0 m dk os)
   simpa using h
  have h:=AnyQ.slices_SortFunc_total aaM 3 Tryz.isAgg278 Tryz.sizeOf278 iT mi (fun x v hv=>by simp only[iT,df,fI,or_false]at hv;rcases hv with rfl|rfl|rfl<;>rfl) NC agG 161 #[] g 0 cap l.toArray w aF.en ajP h1 h2 (by simpa using hl) Wc;have hz:l.toArray.size=l.length:=by simp
  rw[hz]at h;refine h.mono fun e w' ⟨he,n,os,hw⟩=>⟨(),trivial,he,?_⟩;have hlen:(vZ l).length=l.length:=NE l;have hq:=aaN hm (flatK iT 3 (vZ l).toArray) (by rw[size_flatK];simp[hlen]) n os;rw[T8]at hq;rw[hw];exact hq
end cg
end Go.Proofs.YtdmgcnggnejnnaaGreat

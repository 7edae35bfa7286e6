/- Part 3 of what SessionOnce needs: DfT, PlacesG, ClassP, SmIn, MapE, BoolC, TreeS, FactsA, FactsB, FactsC, FactsD, FactsO, Look, Brk, SymS2, FactsE, FactsF, CountA, ItL, ItM, LrL, ItB, ItC, OrdK, OrdJ, ItH, ItN, ItO, SmM, SmU, SmP, SmO, SmT, SmK, SmW, SmD, DfX, DfM, DfQ, Els, ItD, SortJ, ItE, ItF, ItG. -/
import Derived.Test.YtaobbfedlnddcaaGreatMgB
import Derived.Sort.Grow
import Derived.Deep.RegionWith
import Derived.Deep.RegionHeld
import Derived.Shelf.SlGeneric
import Derived.Shelf.SlSortCmp.NoneTotal
import Derived.Ground.SlsfProg
namespace Go.Proofs.YtaobbfedlnddcaaGreat
set_option linter.unusedVariables false
set_option linter.unusedSimpArgs false
open _root_.And renaming intro->bX
open _root_.Array renaming getElem?_eq_some_iff->jm,length_toList->lG,getElem?_toList->qL,getElem?_eq_getElem->xL,getElem?_modify->Dw,toList_modify->Ph,size_push->Pj,ext'->r7
open _root_.Array.mk renaming injEq->sv
open _root_.BitVec renaming getLsbD_eq_getElem->Pk,ofInt->xh,getLsbD_ofNat->Pl,ofInt_natCast->Yg
open _root_.Bool renaming false->aE,true->aD,or_eq_true->lU,eq_false_iff->AS
open _root_.Classical renaming choose_spec->C1,choose->Ij
open _root_.Go.Instr renaming build->dh,mapUpdate->zZ,lookup->Jg,entryStore->Pm,mapEntry->Pn
open _root_.Go.IntKind renaming i64->az,bits->lI,signed->tP,wrap_u64->sc,u64->tQ,wrap_u8->Jh,wrap->Yh,min->Io,max->Ip,i16->Yi,u8->Ji
open _root_.Go.MapKept renaming run_getObj_map->AT,run_setObj_map->Jj
open _root_.Go.Op renaming shift->iq,equalIn->lJ
open _root_.Go.Oper renaming wp->fR
open _root_.Go.Program renaming keyLits->Ap
open _root_.Go.Proofs.Tryz renaming prog->aB
open _root_.Go.Result renaming andThen->lK
open _root_.Go.Sem renaming run_pure->na
open _root_.Go.Value renaming slice->ap,int->av,pointer->aJ,agg->aQ,oneCell'->eZ,bool->fS
open _root_.Go.Value.agg renaming injEq->lV
open _root_.Go.Value.int renaming injEq->Jk
open _root_.Go.Value.slice renaming injEq->iX
open _root_.Int renaming toNat_natCast->dq,eq_ofNat_of_zero_le->h_,le_refl->lg
open _root_.List renaming getElem?_eq_getElem->bD,getD_eq_getElem?_getD->b9,length_append->bI,getElem?_eq_some_iff->cX,getElem_mem->cD,length_cons->de,replicate->da,drop_eq_getElem_cons->eN,mem_singleton->dR,getElem?_append_left->eR,length_map->dF,size_toArray->dZ,take_succ_eq_append_getElem->iv,mem_cons->dA,append_nil->dW,append_assoc->eD,map_append->eV,getElem?_map->eS,nil_append->eu,flatMap_append->fC,take_of_length_le->gB,mem_cons_self->gd,mem_append->fu,range->eh,not_mem_nil->fv,mem_map->eX,drop_of_length_le->jo,mem_iff_getElem->hY,mem_cons_of_mem->kM,length_nil->ia,map_cons->gh,getElem?_eq_none->kG,cons_append->iY,length_take->iZ,flatMap_cons->lO,mem_of_getElem?->lP,take_length->mH,length_range->pH,any_eq_true->qN,ext_getElem?->nb,getElem_map->pg,getElem?_take->qO,all_eq_true->nc,mem_append_left->xM,setIfInBounds_toArray->ux,set_cons_zero->xN,mem_of_mem_drop->AU,map_set->ph,mem_filter->xO,range_succ->ye,eq_of_mem_replicate->Po,set_cons_succ->As,getElem_append_left->C7,map_nil->qI,mem_filterMap->Pp,length->yf,nodup_append->Dz,range_succ_eq_map->Yj,modify_succ_cons->Yk,mem_append_right->Yl,mergeSort_perm->Ym,getElem?_range->Yn,idxOf_cons->Yo,nodup_nil->Yp
open _root_.List.Pairwise renaming and_mem->aeo,of_map->aep
open _root_.List.cons renaming injEq->gi,inj->Pq
open _root_.Nat renaming le_refl->bx,zero_le->bH,zero_add->cV,le_trans->fw,mul_le_mul_right->oP,not_lt_zero->l5,lt_succ_self->nv,mul_one->kH,sub_self->oa,xor_lt_two_pow->Jl,div_le_self->Aw,pow_lt_pow_right->DA,mod_lt->Af,or_lt_two_pow->Yq,blt_eq->Ee
open _root_.Ne renaming symm->xu
open _root_.Option renaming some->aj,none->ak,getD_some->kp,isSome->Ps,getD->Yr
open _root_.Option.some renaming injEq->df,inj->oQ
open _root_.Prod renaming ext->qJ
open _root_.Prod.mk renaming injEq->fD
open _root_.True renaming intro->bZ
open _root_.UInt8 renaming ofNat->fE,toNat_ofNat'->Ys
open _root_.Vector renaming replicate->ee,getElem_ofFn->kq,getElem_toList->oc,ext->kr,getElem_set->uO,getElem_set_ne->Pt,ofFn->yg,toList->Pu,getElem_set_self->Yt
set_option maxHeartbeats 16000000
namespace cI
open Go.RowKit cU dS dl gj eo ns cT
theorem abk:laidOutB aB=true:=by kernel_rfl
theorem setRow:(233:TypeId)<aB.types.size:=of_decide_eq_true (by kernel_rfl)
theorem abl:(match aB.underlying 233 with|some (.array _ _)|some (.struct _)=>aD|_=>aE)=true:=by kernel_rfl
theorem abm(x:C4):∃l,keyOf aB 233 (oy x)=aj l:=by
 obtain⟨a,b,c,d⟩:=x;have e1:aB.keyType 233=true:=by kernel_rfl
 have e2:aB.cellsOf 233=4:=by kernel_rfl
 have e3:aB.cellsOf 75=1:=by kernel_rfl
 have e4:∃d,aB.types.size+1=d+2:=⟨aB.types.size-1,by have:0<aB.types.size:=Nat.lt_of_le_of_lt (bH 233) setRow;omega⟩;obtain⟨dd,e4⟩:=e4;have key:∀v:BitVec 64,aB.keyLits (dd+1) 75 [.int .u64 (fT v)]=aj [.int .u64 (fT v)]:=λv=>by
  have hw:(Lit.int .u64 (fT v)).wf=true:=by
   have h0:=adT v;have h1:=adU v;simp[Lit.wf,Io,Ip,tP,lI,h0,h1]
  simp[Ap,Tryz.underlying75,hw]
 have hl:aB.keyLits (dd+2) 233 [.int .u64 (fT a),.int .u64 (fT b),.int .u64 (fT c),.int .u64 (fT d)]=aj [.int .u64 (fT a),.int .u64 (fT b),.int .u64 (fT c),.int .u64 (fT d)]:=by
  unfold Ap;simp[Tryz.underlying233,e2,e3,Yj,key]
 have hf:(oy ⟨a,b,c,d⟩).formed aB 233=true:=by simp[oy,Value.formed,Tryz.underlying233,e2]
 unfold keyOf;rw[Tryz.underlying233];refine⟨.string (keyBytes ([.int .u64 (fT a),.int .u64 (fT b),.int .u64 (fT c),.int .u64 (fT d)])),?_⟩;show(if(aB.keyType 233&&(oy ⟨a,b,c,d⟩).formed aB 233)=aD then(aB.keyLits (aB.types.size+1) 233 [.int .u64 (fT a),.int .u64 (fT b),.int .u64 (fT c),.int .u64 (fT d)]).map (λls=>Lit.string (keyBytes ls))else ak)=_
 rw[e1,hf,e4,hl];rfl
set_option maxRecDepth 100000 in
def Pv:yN aB 233 C4 where
 kv:=oy
 ok _:=True
 law:=deep_law_laid abk (m:=2) J setRow (by kernel_rfl) abl
 key x _:=abm x
 inj x y h:=by
  simp only[oy,lV,sv,gi,Jk,true_and,and_true]at h;exact C4.ext' (ox h.1) (ox h.2.1) (ox h.2.2.1) (ox h.2.2.2)
theorem LY(w:World):(zeroValue 3).run aB w= .ok (av az 0) w:=by kernel_rfl
def pI(D:List C4)(x:C4):Option Value:=if x∈D then aj (av az ((idx D x+1:Nat):Int))else ak
theorem Pw{D:List C4}{x:C4}(hn:x∉D):(λy=>if y=x then aj (av az ((D.length+1:Nat):Int))else pI D y)=pI (D++[x]):=by
 funext y
 unfold pI
 by_cases c:y=x
 ·subst c
  rw[if_pos I,if_pos (by simp)];have:=rp (D:=D) (k:=y);unfold more at this;rw[if_neg hn,if_neg hn]at this;rw[this]
 rw[if_neg c]
 by_cases c2:y∈D
 rw[if_pos c2,if_pos (xM _ c2),qq c2];rw[if_neg c2,if_neg (by simp[c,c2])]
theorem Ef:(λ(_:C4)=>(none:Option Value))=pI []:=by funext y;unfold pI;rw[if_neg (by simp)]
abbrev oq(vs:Value)(S:List C4):cH:=a_ 233 4 vs (S.length+1) (Pg S)
abbrev sM(gm:Nat)(S:List C4):cH:=fe Pv gm (pI S) S.length
def KP(vc vr vf vfol vl ve rows:Value)(g gm:Nat)(vs vt:Value)(d:DM):List cH:=
 [aP g (KO vc vr vf vfol vl ve vs (.map (aj gm)) rows vt) 184,oq vs d.S,sM gm d.S,fY vt d.tags]
def abn(p:PS)(vc vr vf vfol vl ve rows:Value)(g gm:Nat)(d:DM)(s:C4):Spec (Value×Value):=
 ⟨λ_=>True,λ_=>av az ((iL p d s).1:Int),λx=>KP vc vr vf vfol vl ve rows g gm x.1 x.2 (iL p d s).2⟩
theorem Yu(v:Value)(l:List Int)(x:Int):fY v (l++[x])=a_ 3 1 v (l.length+1) (l.map (av .i64)++[av az x]):=by
 unfold fY;rw[bI,eV];rfl
theorem Hq(S:List C4)(s:C4):Pg (S++[s])=Pg S++dV s:=by
 unfold Pg;rw[<-iY,fC];simp
theorem RZ(s:C4):∀u∈dV s,u.oneCell'=true:=by
 intro u h;simp only[dV,dA,fv,or_false]at h;rcases h with rfl|rfl|rfl|rfl<;>rfl
theorem Yv(p:PS)(s:C4)(i:Nat):kx p s (i+1)=if s.mem i=aD/\p.last.getD i aE=aD/\(kx p s i<0\/p.rules.getD i 0<kx p s i)then p.rules.getD i 0 else kx p s i:=rfl
theorem Yw{S:List C4}{s:C4}{gm:Nat}(hn:s∉S):fe Pv gm (λy=>if y=s then aj (av az ((S.length+1:Nat):Int))else pI S y) (if(pI S s).isSome then S.length else S.length+1)=sM gm (S++[s]):=by
 rw[Pw hn,show pI S s=ak from if_neg hn];unfold sM;rw[bI];rfl
attribute [local irreducible] Op.shift Go.bits in
theorem Eg(m:MS)(vc vr vf vfol vl ve rows:Value)(d:DM)(s:C4)(g gm:Nat)(vs vt:Value)(w0:World)(hp:FZ w0 (aQ #[vc,vr,vf,vfol,vl,ve]) m)(h:I9 m)(hd:d.S.length<=100000)(hdt:d.tags.length<=100001)(w:World)(B:bO)(ho:pZ w0 B)
 (hm:Mem B (KP vc vr vf vfol vl ve rows g gm vs vt d) w):
 Calls aB 108 #[aJ (aj ⟨g,0,ak⟩),oy s] w (cY (abn m.ps vc vr vf vfol vl ve rows g gm d s) B):=by
 obtain⟨_,_,_,_,_,_,he,h1,h2,h3,h4,h5,h6⟩:=hp;simp only[lV,sv,gi,and_true]at he;obtain⟨rfl,rfl,rfl,rfl,rfl,rfl⟩:=he;have hmf:=h.B7;have NI:=h.ok.ps.rules;have KW:=h.ok.ps.last;have hmr:=h.rules;clear h h3 h4 h6;obtain⟨ac,cc,rfl,-⟩:=h1;obtain⟨ar,cr,rfl,-,ait,hrr⟩:=h2;obtain⟨al,cl,rfl,-,aiu,FM⟩:=h5;unfold KP at hm;unfold abn;obtain⟨S,tags⟩:=d;obtain⟨p,fi,em⟩:=m;dsimp only at*;refine dm hm (args:=[aJ (aj ⟨g,0,ak⟩),oy s]) (n:=105) Tryz.func108 I I I ?_;clear hm;refine cC (bz (bR I I I λg3=>?_));refine zL ?_
 by_cases c1:s∈S
 ·have hst:iL p ⟨S,tags⟩ s=(idx S s+1,⟨S,tags⟩):=if_pos c1
  have KQ:pI S s=aj (av az ((idx S s+1:Nat):Int)):=if_pos c1;rw[hst]
  try refine GA ?_
  refine dN ([aP g (KO (ap ac p.aZ.length cc) (ap ar p.rules.length cr) vf vfol (ap al p.last.length cl) ve vs (.map (aj gm)) rows vt) 184,sM gm S,aP g3 (dV s).toArray 233]) (.calm 0 (.calm 1 (.calm 2 (.calm 3 (.calm 4 (.calm 5 (.calm 6 (.calm 7 (.calm 8 (.calm 9 (.calm 10 (.done)))))))))))) (bW [0,2,4]) ?_
  repeat(first|refine GW ?_|(refine GN ?_;first|refine QW (aC (v:= .map (aj gm)) aK.ty I (aH (i:=0) I I)) ?_|refine QW (aO (i:=2) aK.ty I I I) ?_|refine QW (jH Pv (x:=s) bM.eq LY (i:=1) I I I trivial KQ) ?_))
  try refine GA ?_
  refine dj [0,1,2,3] ?_;exact cJ I I λw hm=>hm.bV (S:=⟨λ(_:Value×Value)=>True,λ_=>av az ((idx S s+1:Nat):Int),λx=>KP (ap ac p.aZ.length cc) (ap ar p.rules.length cr) vf vfol (ap al p.last.length cl) ve rows g gm x.1 x.2 ⟨S,tags⟩⟩) (vs,vt) trivial [0,1,2,3] aiT I
 ·have hst:iL p ⟨S,tags⟩ s=(S.length+1,⟨S++[s],tags++[wO p s]⟩):=if_neg c1
  have KQ:pI S s=none:=if_neg c1;rw[hst];refine qn (i:=1) I fW λgJ=>?_;obtain⟨ab,cs,rfl,hmS,-⟩:=gJ
  try refine GA ?_
  refine dN ([aP g (KO (ap ac p.aZ.length cc) (ap ar p.rules.length cr) vf vfol (ap al p.last.length cl) ve (ap ab (S.length+1) cs) (.map (aj gm)) rows vt) 184,sM gm S,aP g3 (dV s).toArray 233]) (.calm 0 (.calm 1 (.calm 2 (.calm 3 (.calm 4 (.calm 5 (.calm 6 (.calm 7 (.calm 8 (.calm 9 (.calm 10 (.done)))))))))))) (bW [0,2,4]) ?_
  repeat(first|refine GW ?_|(refine GN ?_;first|refine QW (aC (v:= .map (aj gm)) aK.ty I (aH (i:=0) I I)) ?_|refine QW (aO (i:=2) aK.ty I I I) ?_|refine QW (jI Pv (x:=s) bM.eq LY (i:=1) I I I trivial KQ) ?_))
  try refine GA ?_
  (repeat refine cC ?_)
  refine k8 (ι:=Unit) (λ_=>True) (λ_=>[(0,aJ (aj ⟨g,0,ak⟩)),(3,aJ (aj ⟨g3,0,ak⟩))]) (λ_=>[aP g (KO (ap ac p.aZ.length cc) (ap ar p.rules.length cr) vf vfol (ap al p.last.length cl) ve (ap ab (S.length+1) cs) (.map (aj gm)) rows vt) 184,oq (ap ab (S.length+1) cs) S,sM gm (S++[s]),fY vt tags,aP g3 (dV s).toArray 233]) ?_ ?_
  ·refine dN ([aP g (KO (ap ac p.aZ.length cc) (ap ar p.rules.length cr) vf vfol (ap al p.last.length cl) ve (ap ab (S.length+1) cs) (.map (aj gm)) rows vt) 184,aP g3 (dV s).toArray 233]) (.calm 0 (.calm 1 (.calm 2 (.calm 3 (.calm 4 (.calm 5 (.calm 6 (.calm 7 (.calm 8 (.calm 9 (.one 10 (.done)))))))))))) (bW [0,4]) ?_
   repeat(first|refine GW ?_|(refine GN ?_;first|refine QW (aC (v:= .map (aj gm)) aK.ty I (aH (i:=0) I I)) ?_|refine QW (aO (i:=1) aK.ty I I I) ?_|refine QW (aC (v:=ap ab (S.length+1) cs) aK.ty I (aH (i:=0) I I)) ?_))
   refine aL I (l_ Pv (i:=2) (x:=s) bM.eq I I I I trivial J (aM (bW [0,4]) ?_))
   try refine GW ?_
   exact dE () trivial (by repeat' (first|exact bZ|refine bX I ?_)) (by rw[<-Yw c1];rfl)
  intro _ _
  (repeat refine cC ?_)
  refine k8 (ι:=Value) (λ_=>True) (λ_=>[(0,aJ (aj ⟨g,0,ak⟩)),(3,aJ (aj ⟨g3,0,ak⟩))]) (λpC=>[aP g (KO (ap ac p.aZ.length cc) (ap ar p.rules.length cr) vf vfol (ap al p.last.length cl) ve pC (.map (aj gm)) rows vt) 184,oq pC (S++[s]),sM gm (S++[s]),fY vt tags,aP g3 (dV s).toArray 233]) ?_ ?_
  ·refine dN ([aP g3 (dV s).toArray 233]) (.calm 0 (.calm 1 (.calm 2 (.calm 3 (.calm 5 (.two 4 (.one 6 (.one 7 (.calm 8 (.calm 9 (.one 10 (.done)))))) 6 (.one 4 (.one 7 (.calm 8 (.calm 9 (.one 10 (.done)))))))))))) (bW [4]) ?_
   repeat(first|refine GW ?_|(refine GN ?_;first|refine QW (aO (i:=0) aK.ty I I I) ?_))
   refine eG I I ?_ ?_
   ·refine dx (aC (v:=ap ab (S.length+1) cs) aK.ty I (aH (i:=0) I I)) I I I (aM (bW [4]) ?_)
    refine aL I (fy (cs:=(dV s).toArray) [oy s] I I I (by intro v hv;simp at hv;subst hv;rfl) I I I λg36=>(aM (bW [4]) ?_));refine aL I (eK (i:=1) (e:=233) (size:=4) (bytes:=32) (m:=S.length+1) (xs:=Pg S) (k:=1) (ys:=dV s) I (k_ (i:=5) I (λj u h=>by simpa using h) (bx 1) aiT) I I I (λu hu=>RZ s u hu) J J I λpC=>(aM (bW [4]) ?_))
    try refine GW ?_
    refine aL I (aU (i:=1) I λkT lC=>bU (i:=0) I I I kT lC I (aM (bW [4]) ?_))
    try refine GW ?_
    refine dj [0,1,2,3,4] ?_;exact dE pC trivial (by repeat' (first|exact bZ|refine bX I ?_)) (by unfold oq;rw[Hq,bI];rfl)
   refine fy (cs:=(dV s).toArray) [oy s] I I I (by intro v hv;simp at hv;subst hv;rfl) I I I λg36=>(aM (bW [4]) ?_);refine aL I (dx (aC (v:=ap ab (S.length+1) cs) aK.ty I (aH (i:=0) I I)) I I I (aM (bW [4]) ?_));refine aL I (eK (i:=1) (e:=233) (size:=4) (bytes:=32) (m:=S.length+1) (xs:=Pg S) (k:=1) (ys:=dV s) I (k_ (i:=5) I (λj u h=>by simpa using h) (bx 1) aiT) I I I (λu hu=>RZ s u hu) J J I λpC=>(aM (bW [4]) ?_))
   try refine GW ?_
   refine aL I (aU (i:=1) I λkT lC=>bU (i:=0) I I I kT lC I (aM (bW [4]) ?_))
   try refine GW ?_
   refine dj [0,1,2,3,4] ?_;exact dE pC trivial (by repeat' (first|exact bZ|refine bX I ?_)) (by unfold oq;rw[Hq,bI];rfl)
  clear hmS;intro pC _;refine iu (i:=1) I fW λgJ=>?_;obtain⟨ab',cs',rfl,hmS,-⟩:=gJ
  repeat(first|refine GA ?_|refine gV (aC (v:=ap ac p.aZ.length cc) aK.ty I (aH (i:=0) I I)) ?_)
  refine ea (ι:=Nat×Int) (λ(k,t)=>k<=p.aZ.length/\t=kx p s k) (λ(k,t)=>[(0,aJ (aj ⟨g,0,ak⟩)),(3,aJ (aj ⟨g3,0,ak⟩)),(7,av az t),(45,av az p.aZ.length),(46,av az (k:Int))])
   (λ_=>[aP g (KO (ap ac p.aZ.length cc) (ap ar p.rules.length cr) vf vfol (ap al p.last.length cl) ve (ap ab' ((S++[s]).length+1) cs') (.map (aj gm)) rows vt) 184,oq (ap ab' ((S++[s]).length+1) cs') (S++[s]),sM gm (S++[s]),fY vt tags,aP g3 (dV s).toArray 233]) (λ(k,_)=>p.aZ.length-k) (0,-1) ⟨bH _,rfl⟩ ?_
  rintro⟨k,t⟩ ⟨hk,ht⟩;dsimp only at hk ht⊢
  by_cases q1:k<p.aZ.length
  ·have hst:=Yv p s k
   have hkr:k<p.rules.length:=by omega
   have hkl:k<p.last.length:=by omega
   rw[b9 (l:=p.rules),bD hkr,kp,b9 (l:=p.last),bD hkl,kp]at hst;obtain⟨br,Pe,rfl,afQ⟩:=hrr J;obtain⟨bl,Yx,rfl,afR⟩:=FM J;have aej:=λ(L:List cH)=>Pf (L:=L) j0 ho afQ hkr 0 _ I;have ahy:=λ(L:List cH)=>Pf (L:=L) RY ho afR hkl 0 _ I;have hr0:=(hmr _ (cD hkr)).1;have Yf:=λw=>sD s k J w;clear afQ afR hrr FM hmr;generalize p.rules[k]=r at*;generalize p.last[k]=lb at*;generalize s.mem k=b at*;rw[<-ht]at hst;clear ht;have Yy:∀(L:List cH),At B L ⟨br,Pe+k*1+0,ak⟩ (av az r):=aej;have R0:∀(L:List cH),At B L ⟨bl,Yx+k*1+0,ak⟩ (.bool lb):=ahy
   repeat(first|refine GA ?_|refine gV (aO (i:=4) aK.ty I I I) ?_)
   refine aV (fO aI.en I I I) (λw hm=>Yf w) I I I ?_;intro _ _;refine zL ?_;have skip:∀(_:¬(b=aD/\lb=aD/\(t<0\/r<t))),kx p s (k+1)=t:=λh=>by rw[hst,if_neg h]
   have take:b=aD/\lb=aD/\(t<0\/r<t)->kx p s (k+1)=r:=λh=>by rw[hst,if_pos h]
   clear hst
   by_cases q2:b=aD
   ·subst q2
    by_cases q3:lb=aD
    ·subst q3
     by_cases q4:t<0
     ·have e:=(take ⟨rfl,rfl,.inl q4⟩).symm
      repeat(first|refine GC ?_|refine gV (aC (v:=ap (aj ⟨bl,Yx,ak⟩) p.last.length cl) aK.ty I (aH (i:=0) I I)) ?_|refine gV (aX bM.eq aK.ty I I hkl) ?_|refine gV (aC (v:= .bool aD) aK.ty I (R0 _)) ?_|refine gV (dQ (b:=aD) I I (decide_eq_true q4)) ?_|refine gV (aC (v:=ap (aj ⟨br,Pe,ak⟩) p.rules.length cr) aK.ty I (aH (i:=0) I I)) ?_|refine gV (aX bM.eq aK.ty I I hkr) ?_|refine gV (aC (v:=av az r) aK.ty I (Yy _)) ?_|refine GB ?_)
      exact bY (k+1,r) ⟨by omega,e⟩ (by show p.aZ.length-(k+1)<p.aZ.length-k;omega)
     by_cases q5:r<t
     ·have e:=(take ⟨rfl,rfl,.inr q5⟩).symm
      repeat(first|refine GC ?_|refine gV (aC (v:=ap (aj ⟨bl,Yx,ak⟩) p.last.length cl) aK.ty I (aH (i:=0) I I)) ?_|refine gV (aX bM.eq aK.ty I I hkl) ?_|refine gV (aC (v:= .bool aD) aK.ty I (R0 _)) ?_|refine gV (dQ (b:=aE) I I (decide_eq_false q4)) ?_|refine gV (aC (v:=ap (aj ⟨br,Pe,ak⟩) p.rules.length cr) aK.ty I (aH (i:=0) I I)) ?_|refine gV (aX bM.eq aK.ty I I hkr) ?_|refine gV (aC (v:=av az r) aK.ty I (Yy _)) ?_|refine gV (dQ (b:=aD) I I (decide_eq_true q5)) ?_|refine GB ?_)
      exact bY (k+1,r) ⟨by omega,e⟩ (by show p.aZ.length-(k+1)<p.aZ.length-k;omega)
     have e:=(skip (λh=>h.2.2.elim q4 q5)).symm
     repeat(first|refine GC ?_|refine gV (aC (v:=ap (aj ⟨bl,Yx,ak⟩) p.last.length cl) aK.ty I (aH (i:=0) I I)) ?_|refine gV (aX bM.eq aK.ty I I hkl) ?_|refine gV (aC (v:= .bool aD) aK.ty I (R0 _)) ?_|refine gV (dQ (b:=aE) I I (decide_eq_false q4)) ?_|refine gV (aC (v:=ap (aj ⟨br,Pe,ak⟩) p.rules.length cr) aK.ty I (aH (i:=0) I I)) ?_|refine gV (aX bM.eq aK.ty I I hkr) ?_|refine gV (aC (v:=av az r) aK.ty I (Yy _)) ?_|refine gV (dQ (b:=aE) I I (decide_eq_false q5)) ?_|refine GB ?_)
     exact bY (k+1,t) ⟨by omega,e⟩ (by show p.aZ.length-(k+1)<p.aZ.length-k;omega)
    have e:=(skip (λh=>q3 h.2.1)).symm;obtain rfl:=AS.2 q3
    repeat(first|refine GA ?_|refine gV (aC (v:=ap (aj ⟨bl,Yx,ak⟩) p.last.length cl) aK.ty I (aH (i:=0) I I)) ?_|refine gV (aX bM.eq aK.ty I I hkl) ?_|refine gV (aC (v:= .bool aE) aK.ty I (R0 _)) ?_)
    exact bY (k+1,t) ⟨by omega,e⟩ (by show p.aZ.length-(k+1)<p.aZ.length-k;omega)
   have e:=(skip (λh=>q2 h.1)).symm;obtain rfl:=AS.2 q2
   try refine GA ?_
   exact bY (k+1,t) ⟨by omega,e⟩ (by show p.aZ.length-(k+1)<p.aZ.length-k;omega)
  ·obtain rfl:k=p.aZ.length:=by omega
   rw[show wO p s=t from ht.symm]at*
   repeat(first|refine GA ?_|refine gV (aC (v:=vt) aK.ty I (aH (i:=0) I I)) ?_)
   refine jT (i:=3) I I I I I I (λz h=>by cases h;rfl) J J I λz' oD=>?_;refine zL ?_
   try refine GA ?_
   refine aU (i:=3) I λkT lC=>bU (i:=0) I I I kT lC I ?_;refine zL ?_
   repeat(first|refine GC ?_|refine gV (aC (v:=ap ab' ((S++[s]).length+1) cs') aK.ty I (aH (i:=0) I I)) ?_|refine gV (eJ (r:=((S.length+1:Nat):Int)) I I (by simp;omega) (by simp;omega) (by simp)) ?_|refine GB ?_)
   refine dj [0,1,2,3] ?_;exact cJ I I λw hm=>hm.bV (S:=⟨λ(_:Value×Value)=>True,λ_=>av az ((S.length+1:Nat):Int),λx=>KP (ap ac p.aZ.length cc) (ap ar p.rules.length cr) vf vfol (ap al p.last.length cl) ve rows g gm x.1 x.2 ⟨S++[s],tags++[t]⟩⟩) (ap ab' ((S++[s]).length+1) cs',oD) trivial [0,1,2,3] aiT (by unfold KP;rw[<-Yu];rfl)
  done
end cI
namespace eo
open dl gj
def npl:Re->Nat
 | .byte _=>1
 | .IC a b=>npl a+npl b
 | .ID a b=>npl a+npl b
 | .star a=>npl a
 |_=>0
inductive R4(P:List Nat->Prop):List Nat->Prop
 |nil:R4 P []
 |cons {u v:List Nat}:P u->R4 P v->R4 P (u++v)
def Wd:Re->Nat->List Nat->Prop
 | .none,_,_=>False
 | .empty,_,l=>l=[]
 | .byte _,n,l=>l=[n]
 | .IC a b,n,l=>∃u v,l=u++v/\Wd a n u/\Wd b (n+npl a) v
 | .ID a b,n,l=>Wd a n l\/Wd b (n+npl a) l
 | .star a,n,l=>R4 (Wd a n) l
def Chn(F:Nat->Nat->Prop)(T:Nat->Prop):Nat->List Nat->Prop
 |x,[]=>T x
 |x,y::r=>F x y/\Chn F T y r
theorem Chn.mono{F F':Nat->Nat->Prop}{T T':Nat->Prop}(hF:∀x y,F x y->F' x y)(hT:∀x,T x->T' x):∀{l:List Nat} {x:Nat},Chn F T x l->Chn F' T' x l
 |[],_,h=>hT _ h
 |_::_,_,⟨h,h'⟩=>⟨hF _ _ h,Chn.mono hF hT h'⟩
theorem Chn.TU{F F':Nat->Nat->Prop}{T T':Nat->Prop}(hF:∀x y,F x y->F' x y){y:Nat}{r:List Nat}(hT:∀x,T x->F' x y)(hr:Chn F' T' y r):∀{l:List Nat} {x:Nat},Chn F T x l->Chn F' T' x (l++y::r)
 |[],_,h=>⟨hT _ h,hr⟩
 |_::_,_,⟨h,h'⟩=>⟨hF _ _ h,Chn.TU hF hT hr h'⟩
end eo
namespace dl
def one(x:C4):List C4:=if x=C4.zero then []else [x]
structure LZ(S:List C4)(all:List C4):Prop where
 some:∀x∈all,x≠C4.zero
 apart:all.Pairwise λx y=>x.WN y=C4.zero
 sum:(all.map WT).sum=256
 whole:∀n,n<256->∃x∈all,x.mem n=aD
 each:∀c∈S,∀x∈all,x.WN c=x\/x.WN c=C4.zero
 told:all.Pairwise λx y=>∃c∈S,decide (x.WN c=x)≠decide (y.WN c=y)
theorem Yz{x:C4}:x=C4.zero↔∀n,n<256->x.mem n=false:=
 ⟨λh n _=>by rw[h,K5],λh=>ext_mem λn hn=>by rw[h n hn,K5]⟩
theorem YA{x:C4}(h:WT x=0):x=C4.zero:=by
 have:xE x=[]:=List.eq_nil_of_length_eq_zero h;refine Yz.2 λn hn=>?_
 cases e:x.mem n with
 |false=>rfl
 |true=>exact absurd (Tk.2 ⟨hn,e⟩) (by rw[this];simp)
theorem R5:∀all:List C4,(∀x∈all,x≠C4.zero)->all.length<=(all.map WT).sum
 |[],_=>bx _
 |x::all,h=>by
  have ih:=R5 all λy hy=>h y (by simp[hy]);have:WT x≠0:=λe=>h x (by simp) (YA e);simp only[de,gh,List.sum_cons];omega
theorem LZ.len{S all:List C4}(h:LZ S all):all.length<=256:=by
 have:=R5 all h.some;rw[h.sum]at this;exact this
theorem LZ.more{S S' all:List C4}(h:LZ S all)(h1:∀c,c∈S'->c∈S)(h2:∀c,c∈S->c∈S'):LZ S' all:=
 ⟨h.some,h.apart,h.sum,h.whole,λc hc=>h.each c (h1 c hc),h.told.imp λ⟨c,hc,h⟩=>⟨c,h2 c hc,h⟩⟩
end dl
namespace cI
open Go.RowKit cU dS
theorem B9(v:Value)(l:List Int)(w:World)(hs:Sl w v l.length (l.flatMap cU.ez))(hl:l.length*8<=140737488355328):
 Calls aB 53 #[v] w (cB (cK 3 1 l.length (l.flatMap cU.ez) id) w):=by
 obtain⟨base,cap,rfl,ly,kl,eL⟩:=hs;unfold maxLen at kl;refine enter (args:=[ap base l.length cap]) (n:=8) Tryz.func53 I I I ?_;have ry:∀w',Gr w w'->Sl w' (ap base l.length cap) l.length (l.flatMap cU.ez):=λw' hg=>Sl.gr ⟨base,cap,rfl,ly,kl,eL⟩ hg;clear eL
 cases base with
 | none=>
  repeat(first|refine GC ?_|refine gV (jV bM.eq I I I) ?_|refine GB ?_)
  have h0:l=[]:=by
   cases l with
   |nil=>rfl
   |cons x l=>obtain⟨_,_,h,_,_,h2⟩:=ry w (Gr.refl w);simp only[iX]at h;obtain⟨rfl,_⟩:=h;obtain⟨b,off,h,_⟩:=h2 (by simp);cases h
  subst h0;refine dK 3 1 ?_;exact cJ I I λw hm=>hm.meets (S:=cK 3 1 0 [] id) _ trivial [0] aiT I
 |some p=>
  repeat(first|refine GC ?_|refine gV (jV bM.eq I I I) ?_|refine GB ?_)
  refine wq I λg=>?_
  try refine GA ?_
  refine eK (i:=0) I (λw' hm=>ry w' hm.below) I I (k9 j0 l) (RN l) J J I λv'=>?_;rw[eu]
  try refine GA ?_
  refine cJ I I λw hm=>?_;exact hm.meets (S:=cK 3 1 l.length (l.flatMap cU.ez) id) v' trivial [0] aiT (by simp[cK])
end cI
namespace cI
open Go.RowKit cU dS
open Go.WideElems (Fit findIdx_arr findIdx_born modify_last)
open Go.ChangeMaps Go.MapKept Go.WideShapes
section
variable{P:Program}{k:TypeId}{κ:Type}(K:yN P k κ)
theorem Bx{α:Type}(f:α->α):∀(l:List α) (j:Nat) (a:α),l[j]?=aj a->f a=a->l.modify j f=l
 |[],_,_,h,_=>by simp at h
 |b::r,0,a,h,hf=>by simp at h;subst h;simp[hf]
 |b::r,j+1,a,h,hf=>by simp at h;simp[Yk,Bx f r j a h hf]
theorem modify_eq{α:Type}(f f':α->α):∀(l:List α) (j:Nat) (a:α),l[j]?=aj a->f a=f' a->l.modify j f=l.modify j f'
 |[],_,_,h,_=>by simp at h
 |b::r,0,a,h,hf=>by simp at h;subst h;simp[hf]
 |b::r,j+1,a,h,hf=>by simp at h;simp[Yk,modify_eq f f' r j a h hf]
def YB(g:Nat)(x:κ)(st:Nat)(z:Value)(f:κ->Value)(b:Nat):cH:=
 ⟨aj g,λ_=>False,λw=>(p8 K g z f b).holds w/\∃es clock e0,w.heap[g]?=aj (.map es clock)/\e0∈es.toList/\e0.key=K.kv x/\e0.born=st,
  λw h q hq=>(p8 K g z f b).lt w h.1 q hq,
  λw w' ⟨h1,es,clock,e0,h2,h3⟩ hs hk=>⟨(p8 K g z f b).stay w w' h1 hs hk,es,clock,e0,(hk g (.inl I)).trans h2,h3⟩⟩
theorem Eh{w:World}{g:Nat}{es:Array MapEntry}{c:Nat}(h:w.heap[g]?=aj (.map es c)):setBlock w g (.map es c)=w:=by
 have e:w.heap.setIfInBounds g (.map es c)=w.heap:=by
  apply Array.ext_getElem?;intro i
  by_cases hi:i=g
  subst hi;exact(heap_setBlock_same h _).trans h.symm;exact heap_setBlock_other h _ hi
 unfold setBlock;rw[e]
variable[DecidableEq κ]
theorem Uc{w:World}{t e:TypeId}{g b:Nat}{f:κ->Value}{x:κ}{z:Value}(ht:P.underlying t=aj (.map k e))(hz:∀u:World,(zeroValue e).run P u= .ok z u)(h:(p8 K g z f b).holds w)(hx:K.ok x)(hc:b<=1152921504606846976):
 ∃st w1,(Pn t (.map (aj g)) (K.kv x)).run P w= .ok (.tuple #[f x,goInt (st:Nat)]) w1/\w.grownBy w1 (aj g)/\(YB K g x st z f (b+1)).holds w1:=by
 have By:=G1 K (f:=f) ht hz h hx;obtain⟨l,Ei⟩:=K.key x hx;obtain⟨m,n,h1,⟨D,⟨es,clock,hb,F,hs,hD⟩,hi⟩,h3⟩:=id h;rcases K.law.find w Ei es.toList F.keys with⟨k1,k2⟩|⟨j,e0,k1,k2,k3⟩
 ·have hfx:f x=z:=by
   have:(Jg t (.map (aj g)) (K.kv x) aE).run P w= .ok z w:=by
    simp[Jg,run_underlying ht,AT hb,K.law.check w _ Ei,k1,hz,lK]
   rw[By]at this
   simpa using this
  obtain⟨w',r1,r2,r3⟩:=Le K (f':=f) (v:=z) ht h hx hc (λy _=>by by_cases e:y=x<;>simp[e,hfx]);have r1':(zZ t (.map (aj g)) (K.kv x) z).run P w= .ok () (setBlock w g (.map (es.push ⟨K.kv x,z,clock⟩) (clock+1))):=by
   simp[zZ,run_underlying ht,AT hb,K.law.check w aE Ei,k1,Jj _ hb,lK,setBlock]
  have ew:w'=setBlock w g (.map (es.push ⟨K.kv x,z,clock⟩) (clock+1)):=by
   rw[r1]at r1';simpa using r1'
  refine⟨clock,w',?_,r3,r2,es.push ⟨K.kv x,z,clock⟩,clock+1,⟨K.kv x,z,clock⟩,?_,by simp,rfl,rfl⟩
  ·rw[ew,hfx]
   simp[Pn,run_underlying ht,AT hb,K.law.check w aE Ei,k1,hz,Jj _ hb,lK,setBlock]
  rw[ew];exact heap_setBlock_same hb _
 ·have hj:es[j]?=aj e0:=by simpa using k2
  have hfx:f x=e0.val:=by
   have:(Jg t (.map (aj g)) (K.kv x) aE).run P w= .ok e0.val w:=by
    simp[Jg,run_underlying ht,AT hb,K.law.check w _ Ei,k1,lK]
   rw[By]at this
   simpa using this
  have td:es.modify j (λe=>{e with key:=K.kv x})=es:=by
   apply r7;rw[Ph];exact Bx _ _ _ _ k2 (by rw[<-k3])
  refine⟨e0.born,w,?_,⟨rfl,rfl,rfl,bx _,λ_ _ _=>rfl⟩,Tw J (λ_ _=>rfl) w h,es,clock,e0,hb,lP k2,k3,rfl⟩;rw[hfx];have:=Eh hb;simp[Pn,run_underlying ht,AT hb,K.law.check w aE Ei,k1,hj,k3,K.law.stays w Ei,td,Jj _ hb,lK];exact this
theorem Ud{w:World}{t e:TypeId}{g b st:Nat}{f f':κ->Value}{x:κ}{z v:Value}(ht:P.underlying t=aj (.map k e))(h:(YB K g x st z f b).holds w)(hx:K.ok x)(hc:b<=1152921504606846976)(hf:∀y,K.ok y->f' y=if y=x then v else f y):
 ∃w',(Pm t (.map (aj g)) (goInt (st:Nat)) v).run P w= .ok () w'/\(p8 K g z f' (b+1)).holds w'/\w.grownBy w' (aj g):=by
 obtain⟨h,es',ahz,e1,NH,hZ,hk1,Bo⟩:=h;obtain⟨w',r1,r2,r3⟩:=Le K (f':=f') (v:=v) ht h hx hc hf;refine⟨w',?_,r2,r3⟩;rw[<-r1];obtain⟨l,Ei⟩:=K.key x hx;obtain⟨m,n,h1,⟨D,⟨es,clock,hb,F,hs,hD⟩,hi⟩,h3⟩:=h;rw[hb]at NH;simp only[df,Obj.map.injEq]at NH;obtain⟨rfl,rfl⟩:=NH;obtain⟨s1,s2,s3⟩:=F.stamped;rcases K.law.find w Ei es.toList F.keys with⟨k1,k2⟩|⟨j,e0,k1,k2,k3⟩
 ·exact absurd hk1 (k2 e1 hZ)
 ·have hj:es[j]?=aj e0:=by simpa using k2
  obtain⟨i,oV⟩:=List.getElem?_of_mem hZ;have re:i=j:=by
   have Ts:=(cX.1 oV);have hj2:=(cX.1 k2);obtain⟨li,ei⟩:=Ts;obtain⟨lj,ej⟩:=hj2;refine(List.getElem_inj (h₀:=by simpa using li) (h₁:=by simpa using lj) s3).1 ?_;simp only[pg,ei,ej,hk1,k3]
  subst re;have e01:e1=e0:=by rw[oV]at k2;simpa using k2
  subst e01;subst Bo;have aeq:es.findIdx? (λe=>((e.born:Nat):Int)==((e1.born:Nat):Int))=aj i:=by
   rw[findIdx_arr];exact findIdx_born s2 k2
  have S6:es.modify i (λe=>{e with val:=v})=es.modify i (λe'=>{e' with key:=K.kv x,val:=v}):=by
   apply r7;rw[Ph,Ph];exact modify_eq _ _ _ _ _ k2 (by rw[<-k3])
  simp[Pm,zZ,run_underlying ht,AT hb,asInt,asIntOf,goInt,aeq,S6,K.law.check w aE Ei,k1,hj,k3,K.law.stays w Ei,Jj _ hb,lK]
section
variable{W:bO}{fr:Fr}{L:List cH}{Q:Exit->Act->World->Prop}{ops:Array Oper}{rest:List Oper}{n d:Nat}{dst:Option Tmp}{ty:TypeId}{pos:String}{after:Array Edge}{guard:Option (Nat×Bool)}{i g b:Nat}{t e:TypeId}{f:κ->Value}{x:κ}{z:Value}{xm xk xv xs:Operand}
theorem L1(ht:P.underlying t=aj (.map k e))(hz:∀u:World,(zeroValue e).run P u= .ok z u)(hi:L[i]?=aj (p8 K g z f b))(hm:ev fr xm=aj (.map (aj g)))(hk:ev fr xk=aj (K.kv x))(hx:K.ok x)(hc:b<=1152921504606846976)(hn:Nat.blt d n=aD)
 (h:∀st:Nat,TL P n W ops Q rest ((d,.tuple #[f x,av az (st:Int)])::fr) (L.set i (YB K g x st z f (b+1)))):
 TL P n W ops Q (⟨aj d,.mapEntry t xm xk,ty,pos,after,ak⟩::rest) fr L:=kJ I λa w hr hw KK hK=>by
 obtain⟨st,w1,h1,h2,h3⟩:=Uc K ht hz (hw.get hi) hx hc;have e1:(execOp a.eval ⟨aj d,.mapEntry t xm xk,ty,pos,after,ak⟩).run P w= .ok (.value (.tuple #[f x,av az (st:Int)])) w1:=by
  simp[execOp,hr.ev hm,hr.ev hk,h1,goInt,lK]
 unfold fR;rw[e1];exact hK _ _ ((h st).go _ _ (hr.put hn _) (hw.B1 hi h2 h3 λq hq=> .inl hq))
theorem Hr{st:Nat}{v:Value}(f':κ->Value)(ht:P.underlying t=aj (.map k e))(hi:L[i]?=aj (YB K g x st z f b))(hm:ev fr xm=aj (.map (aj g)))(hs:ev fr xs=aj (av az (st:Int)))(hv:ev fr xv=aj v)(hx:K.ok x)(hc:b<=1152921504606846976)(hf:∀y,K.ok y->f' y=if y=x then v else f y)
 (h:TL P n W ops Q rest fr (L.set i (p8 K g z f' (b+1)))):
 TL P n W ops Q (⟨ak,.entryStore t xm xs xv,ty,pos,after,ak⟩::rest) fr L:=kJ I λa w hr hw KK hK=>by
 obtain⟨w1,h1,h2,h3⟩:=Ud K ht (hw.get hi) hx hc hf;have e1:(execOp a.eval ⟨ak,.entryStore t xm xs xv,ty,pos,after,ak⟩).run P w= .ok .skip w1:=by
  have h1':(Pm t (.map (aj g)) (av az (st:Int)) v).run P w= .ok () w1:=h1;simp[execOp,hr.ev hm,hr.ev hs,hr.ev hv,h1',lK]
 unfold fR;rw[e1];exact hK _ _ (h.go _ _ (hr.tX undef) (hw.B1 hi h3 h2 λq hq=> .inl hq))
omit [DecidableEq κ]in
theorem YC{st:Nat}{v:Value}(ht:P.underlying t=aj (.map k e))(hz:∀w,(zeroValue e).run P w= .ok z w)(hi:L[i]?=aj (YB K g x st z f b))(hm:ev fr xm=aj (.map (aj g)))(hk:ev fr xk=aj (K.kv x))(hx:K.ok x)(hv:f x=v):RR P n W ⟨dst,.lookup t xm xk aE,ty,pos,after,guard⟩ fr L v:=
 Ld K ht hz (λ_ hw=>(hw.get hi).1) hm hk hx hv
end
end
end cI
namespace cI
open Go.RowKit cU dS
theorem B_(v:Value)(l:List Bool)(x:Bool)(w:World)(hs:Sl w v l.length (l.map .bool)):
 Calls aB 44 #[v,.bool x] w (cB (ret (av az (ri (· ==x) l))) w):=by
 obtain⟨base,cap,rfl,ly,kl,eL⟩:=hs;unfold maxLen at kl;refine enter (args:=[ap base l.length cap,.bool x]) (n:=19) Tryz.func44 I I I ?_
 try refine GA ?_
 refine ea (ι:=Nat) (λk=>k<=l.length/\∀j (hj:j<l.length),j<k->(l[j]==x)=aE) (λk=>[(0,ap base l.length cap),(1,.bool x),(7,av az l.length),(8,av az (k:Int))]) (λ_=>[]) (λk=>l.length-k) 0 ⟨by omega,λj hj h=>by omega⟩ ?_;rintro k ⟨h1,h2⟩
 by_cases c2:k<l.length
 ·obtain⟨b,off,rfl,hr⟩:=eL J
  have du:=WB (L:=([]:List cH)) hr c2
  by_cases c3:(l[k]==x)=aD
  ·rw[rj c2 c3 h2]
   have e:x=l[k]:=by simpa using(beq_iff_eq.1 c3).symm
   clear h2 eL;subst e
   repeat(first|refine GC ?_|refine gV (cz bM.eq aK.ty I I c2) ?_|refine gV (aC aK.ty I du) ?_|refine gV (GO (c:=aD) bM.eq I I (by simp)) ?_|refine GB ?_)
   exact eM
  have NM:(l[k]==x)=false:=by simpa using c3
  have e:(x==l[k])=false:=by rw[beq_eq_false_iff_ne]at NM⊢;exact λh=>NM h.symm
  clear eL c3
  repeat(first|refine GC ?_|refine gV (cz bM.eq aK.ty I I c2) ?_|refine gV (aC aK.ty I du) ?_|refine gV (GO (c:=aE) bM.eq I I e) ?_|refine GB ?_)
  exact bY (k+1) ⟨by omega,λj hj h=>if e:j<k then h2 j hj e else(by obtain rfl:j=k:=J;exact NM)⟩ (by show l.length-(k+1)<l.length-k;omega)
 ·rw[rl λj hj=>h2 j hj J]
  clear h2 eL
  try refine GA ?_
  exact eM
theorem pJ(v:Value)(l:List Bool)(x:Bool)(w:World)(hs:Sl w v l.length (l.map .bool)):
 Calls aB 21 #[v,.bool x] w (cB (ret (.bool (l.any (· ==x)))) w):=by
 refine enter (args:=[v,.bool x]) (n:=9) Tryz.func21 I I I ?_;have hh:=λw' (hg:Gr w w')=>B_ v l x w' (hs.gr hg);have hr:=o_ (· ==x) l
 rw[<-uh (· ==x) l]
 generalize ri (· ==x) l=r at*
 try refine GA ?_
 refine aV (fO aI.en I I I) (λw hm=>hh _ hm.below) I I I ?_;intro _ _
 repeat(first|refine GC ?_|refine gV (eU I I I) ?_|refine GB ?_)
 exact eM
end cI
namespace cI
open Go.RowKit cU dS aT dP
inductive pK(F:Nat->Prop)(w:World):List Value->Tree->Prop
 |mk {p k:Int} {kids:List Tree} {base:Option Addr} {cap:Nat} (fX:List (List Value)):cU.d_ p->cU.d_ k->kids.length<=cap->cap<=maxLen->fX.length=kids.length->
  (∀i (h:i<kids.length) (h':i<fX.length),pK F w fX[i] kids[i])->(0<kids.length->∃b off,base=aj ⟨b,off,ak⟩/\F b/\∀i (_:i<kids.length) (h':i<fX.length),Rd w b (off+i*3) fX[i])->
  pK F w [av az p,av az k,ap base kids.length cap] (.mk p k kids)
theorem pK.ahA{F:Nat->Prop}{w:World}{cs:List Value}{t:Tree}(h:pK F w cs t):cs.length=3:=by
 cases h;rfl
theorem pK.IK{F:Nat->Prop}{w w':World}{cs:List Value}{t:Tree}(h:pK F w cs t)(hk:∀k,F k->w'.heap[k]?=w.heap[k]?):pK F w' cs t:=by
 induction h with
 |mk fX h1 h2 h3 h4 h5 h6 h7 ih=>
  refine .mk fX h1 h2 h3 h4 h5 ih λhl=>?_;obtain⟨b,off,e,hF,hr⟩:=h7 hl;exact⟨b,off,e,hF,λi hi oV=>rd_stay (hr i hi oV) (hk b hF)⟩
theorem pK.mono{F F':Nat->Prop}{w:World}{cs:List Value}{t:Tree}(h:pK F w cs t)(hk:∀k,F k->F' k):pK F' w cs t:=by
 induction h with
 |mk fX h1 h2 h3 h4 h5 h6 h7 ih=>
  refine .mk fX h1 h2 h3 h4 h5 ih λhl=>?_;obtain⟨b,off,e,hF,hr⟩:=h7 hl;exact⟨b,off,e,hk b hF,hr⟩
def afS:wL Tree:=⟨3,pK,λh=>h.ahA,λh hk=>h.IK hk,λh hk=>h.mono hk⟩
def afT(p k:Int)(v:Value):Value:=aQ #[av az p,av az k,v]
def YD(F:Nat->Prop)(w:World)(v:Value)(t:Tree):Prop:=∃vk,v=afT t.prod t.tok vk/\cU.d_ t.prod/\cU.d_ t.tok/\jW afS F w vk t.kids
theorem YD.gr{w w':World}{v:Value}{t:Tree}(h:YD (λk=>k<w.heap.size) w v t)(hg:Gr w w'):YD (λk=>k<w'.heap.size) w' v t:=
 let ⟨vk,h1,h2,h3,h4⟩:=h;⟨vk,h1,h2,h3,h4.gr hg⟩
section
end
end cI
namespace cI
open Go.RowKit cU dS aT dL
def gK(n:Nat):Value:= .int .u64 (n:Int)
theorem CF{l:List Bool}{i:Nat}(hi:i<l.length):(l.map fS)[i]?=aj (.bool (l.getD i aE)):=by
 simp[hi]
theorem Jm{l:List Nat}{i:Nat}(hi:i<l.length):(l.map gK)[i]?=aj (gK (l.getD i 0)):=by
 simp[hi]
theorem Px(g cap:Nat)(l:List Bool)(i:Nat)(b:Bool)(w:World)(B:bO)(hi:i<l.length)(hm:Mem B [a_ 4 1 (ap (aj ⟨g,0,ak⟩) l.length cap) l.length (l.map .bool)] w):
 Calls aB 77 #[ap (aj ⟨g,0,ak⟩) l.length cap,av az (i:Int),.bool b] w (cY ⟨λ(_:Unit)=>True,λ_=> .bool (fP l i b).2,λ_=>[a_ 4 1 (ap (aj ⟨g,0,ak⟩) l.length cap) l.length ((fP l i b).1.map .bool)]⟩ B):=by
 have hb:=CF hi;refine dm hm (args:=[ap (aj ⟨g,0,ak⟩) l.length cap,av az (i:Int),.bool b]) (n:=18) Tryz.func77 I I I ?_;unfold fP
 cases b
 ·rw[if_neg (by simp)]
  try refine GA ?_
  exact cJ I I λw hm=>hm.bV (S:=⟨λ(_:Unit)=>True,λ_=> .bool aE,λ_=>[a_ 4 1 (ap (aj ⟨g,0,ak⟩) l.length cap) l.length (l.map .bool)]⟩) () trivial [0] aiT I
 ·generalize hx:l.getD i aE=x at*
  cases x
  ·rw[if_pos ⟨rfl,rfl⟩]
   repeat(first|refine GA ?_|refine gV (cz bM.eq aK.ty I I hi) ?_|refine gV (aC aK.ty I (ki (i:=0) I (by rw[cV];exact hb))) ?_)
   refine l9 (i:=0) aK.ty I I I I I I (by simpa using hi) ?_
   try refine GA ?_
   exact cJ I I λw hm=>hm.bV (S:=⟨λ(_:Unit)=>True,λ_=> .bool aD,λ_=>[a_ 4 1 (ap (aj ⟨g,0,ak⟩) l.length cap) l.length ((l.set i aD).map .bool)]⟩) () trivial [0] aiT (by simp[ph])
  rw[if_neg (by simp)]
  repeat(first|refine GA ?_|refine gV (cz bM.eq aK.ty I I hi) ?_|refine gV (aC aK.ty I (ki (i:=0) I (by rw[cV];exact hb))) ?_)
  exact cJ I I λw hm=>hm.bV (S:=⟨λ(_:Unit)=>True,λ_=> .bool aE,λ_=>[a_ 4 1 (ap (aj ⟨g,0,ak⟩) l.length cap) l.length (l.map .bool)]⟩) () trivial [0] aiT I
theorem yh(v vb:Value)(l:List Bool)(body:List dy)(aR:Bool)(w:World)(hs:Sl w v l.length (l.map .bool))(zT:Sl w vb body.length (body.flatMap eA))(lq:∀x∈body,x.1=2->0<=x.2/\x.2<l.length):
 Calls aB 78 #[v,vb,.bool aR] w (cB (ret (.bool (py l body aR))) w):=by
 obtain⟨bv,cv,rfl,h1,h2,h3⟩:=hs;obtain⟨bb,cb,rfl,h4,h5,h6⟩:=zT;unfold maxLen at h2 h5;refine enter (args:=[ap bv l.length cv,ap bb body.length cb,.bool aR]) (n:=36) Tryz.func78 I I I ?_
 try refine GA ?_
 refine ea (ι:=Nat) (λk=>k<=body.length/\py l body aR=py l (body.drop k) aR) (λk=>[(0,ap bv l.length cv),(2,.bool aR),(9,ap bb body.length cb),(10,av az body.length),(11,av az (k:Int))]) (λ_=>[]) (λk=>body.length-k) 0 ⟨bH _,rfl⟩ ?_;rintro k ⟨i1,i2⟩;rw[i2];clear i2
 by_cases c6:k<body.length
 ·obtain⟨b,off,rfl,hr⟩:=h6 J
  have du:=gO (L:=([]:List cH)) nL hr c6;have abo:=lq body[k] (cD c6);have hd:py l (body.drop k) aR=((if body[k].1=1 then aR else if body[k].1=2 then l.getD body[k].2.toNat aE else aD)&&py l (body.drop (k+1)) aR):=by
   rw[eN c6];rfl
  rw[hd];clear hd h6 lq hr;generalize body[k]=x at*;obtain⟨q,m⟩:=x;dsimp only at*
  by_cases c1:q=1
  ·rw[if_pos c1]
   cases aR
   ·repeat(first|refine GA ?_|refine gV (aX bM.eq aK.ty I I c6) ?_|refine gV (a8 aK.ty I I du) ?_)
    refine aY I λg8=>?_;refine gC 0 ?_
    repeat(first|refine GA ?_|refine gV (aC aK.ty I (aH (i:=0) I I)) ?_)
    exact eM
   repeat(first|refine GA ?_|refine gV (aX bM.eq aK.ty I I c6) ?_|refine gV (a8 aK.ty I I du) ?_)
   refine aY I λg8=>?_;refine gC 0 ?_
   repeat(first|refine GA ?_|refine gV (aC aK.ty I (aH (i:=0) I I)) ?_)
   refine dj [] ?_;exact bY (k+1) ⟨by omega,by simp⟩ (by show body.length-(k+1)<body.length-k;omega)
  rw[if_neg c1]
  by_cases c2:q=2
  ·rw[if_pos c2]
   obtain⟨o1,o2⟩:=abo c2;obtain⟨mm,rfl⟩:∃mm:Nat,m=mm:=⟨m.toNat,by omega⟩;have tv:mm<l.length:=by omega
   obtain⟨b',AA,rfl,GI⟩:=h3 J;rw[dq];have hcell:=CF tv;generalize l.getD mm aE=y at*
   cases y
   ·repeat(first|refine GA ?_|refine gV (aX bM.eq aK.ty I I c6) ?_|refine gV (a8 aK.ty I I du) ?_)
    refine aY I λg8=>?_;refine gC 0 ?_
    repeat(first|refine GA ?_|refine gV (aC aK.ty I (aH (i:=0) I I)) ?_|refine gV (cz bM.eq aK.ty I I tv) ?_|refine gV (aC aK.ty I (iI GI hcell)) ?_)
    exact eM
   repeat(first|refine GA ?_|refine gV (aX bM.eq aK.ty I I c6) ?_|refine gV (a8 aK.ty I I du) ?_)
   refine aY I λg8=>?_;refine gC 0 ?_
   repeat(first|refine GA ?_|refine gV (aC aK.ty I (aH (i:=0) I I)) ?_|refine gV (cz bM.eq aK.ty I I tv) ?_|refine gV (aC aK.ty I (iI GI hcell)) ?_)
   refine dj [] ?_;exact bY (k+1) ⟨by omega,by simp⟩ (by show body.length-(k+1)<body.length-k;omega)
  rw[if_neg c2]
  repeat(first|refine GA ?_|refine gV (aX bM.eq aK.ty I I c6) ?_|refine gV (a8 aK.ty I I du) ?_)
  refine aY I λg8=>?_;refine gC 0 ?_
  repeat(first|refine GA ?_|refine gV (aC aK.ty I (aH (i:=0) I I)) ?_)
  refine dj [] ?_;exact bY (k+1) ⟨by omega,by simp⟩ (by show body.length-(k+1)<body.length-k;omega)
 ·rw[jo J]
  try refine GA ?_
  exact eM
end cI
namespace cI
open Go.RowKit cU dS aT dL
theorem rA{x y:Nat}(hx:x<18446744073709551616)(hy:y<18446744073709551616):bits .or .u64 (x:Int) (y:Int)=((x|||y:Nat):Int):=by
 have h:=bits_nat .u64 64 aiT (λn h0 h1=>by rw[sc];omega) x y (by simpa using hx) (by simpa using hy);exact h.2
theorem afU{x y:Nat}(hx:x<18446744073709551616)(hy:y<18446744073709551616):x|||y<18446744073709551616:=Yq (n:=64) hx hy
theorem zb{m:Nat}(h:m<64):2^m<18446744073709551616:=by
 have:(2:Nat)^m<2^64:=DA aiT h
 simpa using this
theorem abp{P:Program}(m:Nat)(hm:m<64)(w:World):(iq .shl .u64 1 .i64 (m:Int)).run P w= .ok (.int .u64 ((2^m:Nat):Int)) w:=by
 have e:min m 64=m:=by omega
 have hp:=zb hm;have e2:(2:Int)^m=((2^m:Nat):Int):=by rw[Int.natCast_pow];rfl
 have e3:tQ.wrap ((1:Int)*2^m)=((2^m:Nat):Int):=by
  rw[e2,sc,Int.one_mul];generalize 2^m=q at hp;omega
 have h0:¬((m:Int)<0):=by omega
 simp only[iq,if_neg h0,lI,dq,e,e3,na]
attribute [local irreducible] Op.shift Go.bits in
theorem Ue(g cap:Nat)(l:List Nat)(i b:Nat)(w:World)(B:bO)(hi:i<l.length)(h64:∀x∈l,x<18446744073709551616)(hb:b<18446744073709551616)(hm:Mem B [a_ 75 1 (ap (aj ⟨g,0,ak⟩) l.length cap) l.length (l.map gK)] w):
 Calls aB 79 #[ap (aj ⟨g,0,ak⟩) l.length cap,av az (i:Int),gK b] w (cY ⟨λ(_:Unit)=>True,λ_=> .bool (n' l i b).2,λ_=>[a_ 75 1 (ap (aj ⟨g,0,ak⟩) l.length cap) l.length ((n' l i b).1.map gK)]⟩ B):=by
 have hc:=Jm hi;have abq:l.getD i 0<18446744073709551616:=by
  have e:l.getD i 0=l[i]:=by rw[b9,bD hi];rfl
  rw[e];exact h64 _ (cD hi)
 refine dm hm (args:=[ap (aj ⟨g,0,ak⟩) l.length cap,av az (i:Int),gK b]) (n:=25) Tryz.func79 I I I ?_;unfold n';generalize l.getD i 0=x at*;have KN:=rA abq hb;have tu:((l.map gK).set i (.int .u64 ((x|||b:Nat):Int)))[0+i]?=aj (.int .u64 ((x|||b:Nat):Int)):=by
  rw[cV,List.getElem?_set_self (by simpa using hi)]
 generalize x|||b=y at*
 by_cases c:y=x
 ·rw[show(!decide (y=x))=aE by simp[c]]
  repeat(first|refine GA ?_|refine gV (cz bM.eq aK.ty I I hi) ?_|refine gV (aC aK.ty I (ki (i:=0) I (by rw[cV];exact hc))) ?_|refine gV (yG I I KN) ?_)
  refine l9 (i:=0) aK.ty I I I I I I (by simpa using hi) ?_
  conv=>arg 8;simp only[xN,cV]
  repeat(first|refine GA ?_|refine gV (cz bM.eq aK.ty I I hi) ?_|refine gV (aC aK.ty I (ki (i:=0) I tu)) ?_)
  exact cJ I I λw hm=>hm.bV (S:=⟨λ(_:Unit)=>True,λ_=> .bool aE,λ_=>[a_ 75 1 (ap (aj ⟨g,0,ak⟩) l.length cap) l.length ((l.set i y).map gK)]⟩) () trivial [0] aiT (by simp[ph];rfl)
 ·rw[show(!decide (y=x))=aD by simp[c]]
  repeat(first|refine GA ?_|refine gV (cz bM.eq aK.ty I I hi) ?_|refine gV (aC aK.ty I (ki (i:=0) I (by rw[cV];exact hc))) ?_|refine gV (yG I I KN) ?_)
  refine l9 (i:=0) aK.ty I I I I I I (by simpa using hi) ?_
  conv=>arg 8;simp only[xN,cV]
  repeat(first|refine GA ?_|refine gV (cz bM.eq aK.ty I I hi) ?_|refine gV (aC aK.ty I (ki (i:=0) I tu)) ?_)
  exact cJ I I λw hm=>hm.bV (S:=⟨λ(_:Unit)=>True,λ_=> .bool aD,λ_=>[a_ 75 1 (ap (aj ⟨g,0,ak⟩) l.length cap) l.length ((l.set i y).map gK)]⟩) () trivial [0] aiT (by simp[ph];rfl)
theorem Jn(E:List Bool)(F:List Nat)(behind:Nat)(x:dy)(r:List dy)(out:Nat):mD E F behind (x::r) out=if x.1=1 then out|||2^x.2.toNat else if E.getD x.2.toNat aE=aD then mD E F behind r (out|||F.getD x.2.toNat 0)else out|||F.getD x.2.toNat 0:=rfl
theorem L2(E:List Bool)(F:List Nat)(behind out:Nat):mD E F behind [] out=out|||behind:=rfl
def mj(vE vF vL vR vM:Value):Value:=aQ #[vE,vF,vL,vR,vM]
attribute [local irreducible] Op.shift Go.bits in
theorem uP(vE vF vL vR vM vb:Value)(E:List Bool)(F:List Nat)(body:List dy)(behind:Nat)(w:World)(hE:Sl w vE E.length (E.map .bool))(hF:Sl w vF F.length (F.map gK))(hs:Sl w vb body.length (body.flatMap eA))(hEF:E.length=F.length)
 (lq:∀x∈body,(x.1=1->0<=x.2/\x.2<64)/\(x.1≠1->0<=x.2/\x.2<F.length)) (h64:∀x∈F,x<18446744073709551616) (hb:behind<18446744073709551616):
 Calls aB 80 #[mj vE vF vL vR vM,vb,gK behind] w (cB (ret (gK (fU E F body behind))) w):=by
 obtain⟨bE,cE,rfl,e1,e2,e3⟩:=hE;obtain⟨bF,cF,rfl,f1,f2,f3⟩:=hF;obtain⟨bb,cb,rfl,h4,h5,h6⟩:=hs;unfold maxLen at e2 f2 h5;refine enter (args:=[mj (ap bE E.length cE) (ap bF F.length cF) vL vR vM,ap bb body.length cb,gK behind]) (n:=44) Tryz.func80 I I I ?_;refine cC (bz (bR I I I λg3=>?_))
 try refine GA ?_
 unfold fU;refine ea (ι:=Nat×Nat) (λ(k,out)=>k<=body.length/\out<18446744073709551616/\mD E F behind body 0=mD E F behind (body.drop k) out) (λ(k,out)=>[(2,gK behind),(3,aJ (aj ⟨g3,0,ak⟩)),(7,gK out),(10,ap bb body.length cb),(11,av az body.length),(12,av az (k:Int))]) (λ_=>[aP g3 (mj (ap bE E.length cE) (ap bF F.length cF) vL vR vM).cells 65]) (λ(k,_)=>body.length-k) (0,0) ⟨bH _,by decide,rfl⟩ ?_;rintro⟨k,out⟩ ⟨i1,i3,i2⟩;dsimp only at i1 i3 i2⊢;rw[i2];clear i2
 by_cases c6:k<body.length
 ·obtain⟨b,off,rfl,hr⟩:=h6 J
  have du:=gO (L:=[aP g3 (mj (ap bE E.length cE) (ap bF F.length cF) vL vR vM).cells 65]) nL hr c6;have abo:=lq body[k] (cD c6);have hd:mD E F behind (body.drop k) out=mD E F behind (body[k]::body.drop (k+1)) out:=by
   rw[eN c6]
  rw[hd];clear hd h6 lq hr;generalize body[k]=x at*;obtain⟨q,m⟩:=x;dsimp only at*;rw[Jn];dsimp only
  by_cases c1:q=1
  ·rw[if_pos c1]
   obtain⟨o1,o2⟩:=abo.1 c1;obtain⟨mm,rfl⟩:∃mm:Nat,m=mm:=⟨m.toNat,by omega⟩;rw[dq];have Xt:=λw=>abp (P:=aB) mm J w;have KN:=rA i3 (zb (m:=mm) J)
   repeat(first|refine GA ?_|refine gV (aX bM.eq aK.ty I I c6) ?_|refine gV (a8 aK.ty I I du) ?_)
   refine aY I λg8=>?_;refine gC 1 ?_
   repeat(first|refine GA ?_|refine gV (aC aK.ty I (aH (i:=1) I I)) ?_|refine gV (Dd I I Xt) ?_|refine gV (yG I I KN) ?_)
   exact eM
  rw[if_neg c1];obtain⟨o1,o2⟩:=abo.2 c1;obtain⟨mm,rfl⟩:∃mm:Nat,m=mm:=⟨m.toNat,by omega⟩;rw[dq];have tv:mm<F.length:=by omega
  have hmE:mm<E.length:=by omega
  obtain⟨b1,aiv,rfl,hr1⟩:=e3 J;obtain⟨b2,abr,rfl,wk⟩:=f3 J;have hcE:=CF hmE;have hcF:=Jm tv;have abq:F.getD mm 0<18446744073709551616:=by
   have e:F.getD mm 0=F[mm]:=by rw[b9,bD tv];rfl
   rw[e];exact h64 _ (cD tv)
  have KN:=rA i3 abq;have hlt:=afU i3 abq;generalize E.getD mm aE=y at*;generalize F.getD mm 0=z at*;generalize out|||z=o2 at*
  cases y
  ·rw[if_neg aiT]
   repeat(first|refine GA ?_|refine gV (aX bM.eq aK.ty I I c6) ?_|refine gV (a8 aK.ty I I du) ?_)
   refine aY I λg8=>?_;refine gC 1 ?_
   repeat(first|refine GA ?_|refine gV (aC aK.ty I (aH (i:=1) I I)) ?_|refine gV (aC aK.ty I (aH (i:=0) I I)) ?_|refine gV (cz bM.eq aK.ty I I tv) ?_|refine gV (cz bM.eq aK.ty I I hmE) ?_|refine gV (aC aK.ty I (iI hr1 hcE)) ?_|refine gV (aC aK.ty I (iI wk hcF)) ?_|refine gV (yG I I KN) ?_)
   exact eM
  rw[if_pos I]
  repeat(first|refine GA ?_|refine gV (aX bM.eq aK.ty I I c6) ?_|refine gV (a8 aK.ty I I du) ?_)
  refine aY I λg8=>?_;refine gC 1 ?_
  repeat(first|refine GA ?_|refine gV (aC aK.ty I (aH (i:=1) I I)) ?_|refine gV (aC aK.ty I (aH (i:=0) I I)) ?_|refine gV (cz bM.eq aK.ty I I tv) ?_|refine gV (cz bM.eq aK.ty I I hmE) ?_|refine gV (aC aK.ty I (iI hr1 hcE)) ?_|refine gV (aC aK.ty I (iI wk hcF)) ?_|refine gV (yG I I KN) ?_)
  refine dj [0] ?_;exact bY (k+1,o2) ⟨by omega,hlt,rfl⟩ (by show body.length-(k+1)<body.length-k;omega)
 ·rw[jo J]
  have KN:=rA i3 hb;rw[L2]
  repeat(first|refine GA ?_|refine gV (yG I I KN) ?_)
  exact eM
end cI
namespace cI
open Go.RowKit cU dS aT dL
def ep(n g c:Nat)(l:List Bool):cH:=a_ 4 1 (ap (aj ⟨g,0,ak⟩) n c) n (l.map .bool)
theorem uQ(n g cap:Nat)(l:List Bool)(i:Nat)(b:Bool)(w:World)(B:bO)(hl:l.length=n)(hi:i<n)(hm:Mem B [ep n g cap l] w):
 Calls aB 77 #[ap (aj ⟨g,0,ak⟩) n cap,av az (i:Int),.bool b] w (cY ⟨λ(_:Unit)=>True,λ_=> .bool (fP l i b).2,λ_=>[ep n g cap (fP l i b).1]⟩ B):=by
 subst hl;exact Px g cap l i b w B hi hm
structure afV where
 gE:Nat
 cE:Nat
 gR:Nat
 cR:Nat
 gM:Nat
 cM:Nat
def dw(n g c:Nat):Value:=ap (aj ⟨g,0,ak⟩) n c
theorem L3(h:Nat)(x:dy)(r:List dy)(R:List Bool)(more:Bool):nl h (x::r) R more=nl h r (Br h x R more).1 (Br h x R more).2:=rfl
theorem L4(p:aT.Prod)(r:List aT.Prod)(s:FS):gD (p::r) s=gD r (pz p s):=rfl
theorem L5(w0:World)(v:Value)(g:eb)(h:kj (λk=>k<w0.heap.size) w0 v g)(iW:b_ g=0)(n:Nat)(hn:g.bC=n)(x:afV)(vF vL:Value)(E R M:List Bool)(hE:E.length=n)(hR:R.length=n)(hM:M.length=n)(w:World)(B:bO)(ho:pZ w0 B)(hm:Mem B [ep n x.gE x.cE E,ep n x.gR x.cR R,ep n x.gM x.cM M] w):
 Calls aB 42 #[v,mj (dw n x.gE x.cE) vF vL (dw n x.gR x.cR) (dw n x.gM x.cM)] w (cY ⟨λ(_:Unit)=>True,λ_=> .bool (gD g.aF ⟨E,R,M,aE⟩).more,λ_=>[ep n x.gE x.cE (gD g.aF ⟨E,R,M,aE⟩).E,ep n x.gR x.cR (gD g.aF ⟨E,R,M,aE⟩).R,ep n x.gM x.cM (gD g.aF ⟨E,R,M,aE⟩).M]⟩ B):=by
 obtain⟨gE,cE,gR,cR,gM,cM⟩:=x;dsimp only at*;obtain⟨_,_,_,_,hlen,hps⟩:=cP iW;obtain⟨vp,rfl,h1,_⟩:=h;obtain⟨bp,cp,rfl,IZ,FL,oo⟩:=h1;unfold maxLen at FL;obtain⟨t,nn,aF⟩:=g;dsimp only at*;subst hn;refine dm hm (args:=[dJ t (n:Int) (ap bp aF.length cp),mj (dw n gE cE) vF vL (dw n gR cR) (dw n gM cM)]) (n:=70) Tryz.func42 I I I<|cC (bz (bR I I I λg2=>bR I I I λg3=>?_));refine zL ?_
 refine GM ?_
 refine uc [0,1,2,4] ?_;generalize ja:gD aF ⟨E,R,M,aE⟩=fin;refine ea (ι:=Nat×FS) (λ(k,s)=>k<=aF.length/\s.E.length=n/\s.R.length=n/\s.M.length=n/\gD (aF.drop k) s=fin) (λ(k,s)=>[(3,aJ (aj ⟨g3,0,ak⟩)),(5,.bool s.more),(11,ap bp aF.length cp),(12,av az aF.length),(13,av az (k:Int))])
  (λ(_,s)=>[ep n gE cE s.E,ep n gR cR s.R,ep n gM cM s.M,aP g3 (mj (dw n gE cE) vF vL (dw n gR cR) (dw n gM cM)).cells 65]) (λ(k,_)=>aF.length-k) (0,⟨E,R,M,aE⟩) ⟨bH _,hE,hR,hM,ja⟩ ?_
 clear hm hE hR hM ja;rintro⟨k,E,R,M,more⟩ ⟨i1,i2,i3,i4,i5⟩;dsimp only at i1 i2 i3 i4 i5⊢
 by_cases c6:k<aF.length
 ·obtain⟨b,off,rfl,_,hr⟩:=oo J
  obtain⟨bb,cb,q1,q2,q3⟩:=lA hr c6;have dG:=hps aF[k] (cD c6);rw[eN c6,L4]at i5;have du:∀(L:List cH) (j:Nat) (v:Value),([av az aF[k].1,.slice bb aF[k].2.length cb]:List Value)[j]?=aj v->At B L ⟨b,off+k*2+j,ak⟩ v:=λL j v hj=>iC ho (q1 j v hj);have wP:=q3.flat aiT;clear hr oo q1 hps q3;generalize aF[k]=p at*;obtain⟨hd,body⟩:=p;obtain⟨p1,p2,p3,p4⟩:=dG;dsimp only at*;obtain⟨hn,rfl⟩:∃hn:Nat,hd=hn:=⟨hd.toNat,by omega⟩;have hhn:hn<n:=by omega
  have R6:∀x∈body,x.1=2->0<=x.2/\x.2<(n:Int):=λx hx fJ=>by
   have:=p4 x hx;unfold right at this;rw[if_neg J,if_pos fJ]at this
   simpa using this
  have hsb:∀w' L,Mem B L w'->Sl w' (ap bb body.length cb) body.length (body.flatMap eA):=λw' L hm=>wP.gr (ho.mem hm);unfold pz at i5;dsimp only at i5;rw[dq]at i5;have YE:=λw' L (hm:Mem B L w') (hx:Sl w' (dw n gE cE) E.length (E.map .bool))=>yh (dw n gE cE) (ap bb body.length cb) E body aE w' hx (hsb w' L hm) (λx hx fJ=>by rw[i2];exact R6 x hx fJ);have pL:=λw' L (hm:Mem B L w') (hx:Sl w' (dw n gM cM) M.length (M.map .bool))=>yh (dw n gM cM) (ap bb body.length cb) M body aD w' hx (hsb w' L hm) (λx hx fJ=>by rw[i4];exact R6 x hx fJ);generalize py E body aE=a1 at*;generalize py M body aD=a2 at*;have afW:=λw' B' hm=>uQ n gE cE E hn a1 w' B' i2 hhn hm;have afX:=λw' B' hm=>uQ n gM cM M hn a2 w' B' i4 hhn hm;have NJ:=nk E hn a1;have II:=nk M hn a2;rw[i2]at NJ YE;rw[i4]at II pL;generalize fP E hn a1=m1 at*;generalize fP M hn a2=m2 at*;obtain⟨E1,b1⟩:=m1;obtain⟨M1,b2⟩:=m2;dsimp only at*
  repeat(first|refine GA ?_|refine gV (aX bM.eq aK.ty I I c6) ?_|refine gV (a8 aK.ty I I (du _)) ?_)
  clear du;refine aY I λg7=>?_;refine gC 4 ?_;refine zL ?_
  repeat(first|refine QV QP ?_|refine kI ?_|refine lQ ?_|refine qs I I I I I I ?_|((try refine qg I I I ?_);first|refine QV QP ?_|refine QV QL ?_|refine QV QA ?_|refine QV QlT ?_|refine QV QlF ?_|refine QV QeT ?_|refine QV QeF ?_|refine QV QaA ?_))
  (repeat refine cC ?_)
  refine k8 (ι:=Unit) (λ_=>True) (λ_=>[(3,aJ (aj ⟨g3,0,ak⟩)),(5,.bool (b1||more)),(7,aJ (aj ⟨g7,0,ak⟩)),(11,ap (aj ⟨b,off,ak⟩) aF.length cp),(12,av az aF.length),(13,av az (k:Int))])
   (λ_=>[ep n gE cE E1,ep n gR cR R,ep n gM cM M,aP g3 (mj (dw n gE cE) vF vL (dw n gR cR) (dw n gM cM)).cells 65,aP g7 #[av az (hn:Int),ap bb body.length cb] 132]) ?_ ?_
  ·refine dN ([aP g3 (mj (dw n gE cE) vF vL (dw n gR cR) (dw n gM cM)).cells 65,aP g7 #[av az (hn:Int),ap bb body.length cb] 132]) (.calm 0 (.calm 1 (.calm 2 (.calm 3 (.calm 4 (.calm 5 (.calm 6 (.calm 7 (.one 8 (.one 9 (.calm 10 (.calm 11 (.calm 12 (.calm 13 (.done))))))))))))))) (bW [3,4]) ?_
   repeat(first|refine GW ?_|(refine GN ?_;first|refine QW (aC aK.ty I (aH (i:=0) I I)) ?_|refine QW (aC aK.ty I (aH (i:=1) I I)) ?_))
   refine aL I<|aV (rX aI.en I I I I) (λw hm=>YE _ _ hm (lR (i:=0) I w hm)) I I I ?_;intro _ _;refine zL ?_;refine aM (bW [3,4])<|aL I<|bm [0] [1,2,3,4] aiT I I (rX aI.en I I I I) (λw hm hb=>afW w _ hb) I I I ?_;intro _ _;refine zL ?_;refine aM (bW [2,3]) ?_
   cases b1
   ·refine GW ?_
    refine dj [4,0,1,2,3] ?_;exact dE () trivial (by repeat' (first|exact bZ|refine bX I ?_)) I
   refine GW ?_
   refine dj [4,0,1,2,3] ?_;exact dE () trivial (by repeat' (first|exact bZ|refine bX I ?_)) I
  intro _ _
  (repeat refine cC ?_)
  refine k8 (ι:=Unit) (λ_=>True) (λ_=>[(3,aJ (aj ⟨g3,0,ak⟩)),(5,.bool (b2||(b1||more))),(7,aJ (aj ⟨g7,0,ak⟩)),(11,(ap (aj ⟨b,off,ak⟩) aF.length cp)),(12,av az aF.length),(13,av az (k:Int))])
   (λ_=>[ep n gE cE E1,ep n gR cR R,ep n gM cM M1,aP g3 (mj (dw n gE cE) vF vL (dw n gR cR) (dw n gM cM)).cells 65,aP g7 #[av az (hn:Int),ap bb body.length cb] 132]) ?_ ?_
  ·refine dN ([aP g3 (mj (dw n gE cE) vF vL (dw n gR cR) (dw n gM cM)).cells 65,aP g7 #[av az (hn:Int),ap bb body.length cb] 132]) (.calm 0 (.calm 1 (.calm 2 (.calm 3 (.calm 4 (.calm 5 (.calm 6 (.calm 7 (.one 8 (.one 9 (.calm 10 (.calm 11 (.calm 12 (.calm 13 (.done))))))))))))))) (bW [3,4]) ?_
   repeat(first|refine GW ?_|(refine GN ?_;first|refine QW (aC aK.ty I (aH (i:=0) I I)) ?_|refine QW (aC aK.ty I (aH (i:=1) I I)) ?_))
   refine aL I<|aV (rX aI.en I I I I) (λw hm=>pL _ _ hm (lR (i:=2) I w hm)) I I I ?_;intro _ _;refine zL ?_;refine aM (bW [3,4])<|aL I<|bm [2] [0,1,3,4] aiT I I (rX aI.en I I I I) (λw hm hb=>afX w _ hb) I I I ?_;intro _ _;refine zL ?_;refine aM (bW [2,3]) ?_;generalize (b1||more)=mo
   cases b2
   ·refine GW ?_
    refine dj [0,1,4,2,3] ?_;exact dE () trivial (by repeat' (first|exact bZ|refine bX I ?_)) I
   refine GW ?_
   refine dj [0,1,4,2,3] ?_;exact dE () trivial (by repeat' (first|exact bZ|refine bX I ?_)) I
  intro _ _;generalize (b2||(b1||more))=mo at*;clear afW afX YE pL
  refine GM ?_
  generalize hfr:nl hn body R mo=fr at*;obtain⟨R2,mo2⟩:=fr;dsimp only at i5;refine ea (ι:=Nat×List Bool×Bool) (λ(j,R',m')=>j<=body.length/\R'.length=n/\nl hn (body.drop j) R' m'=(R2,mo2)) (λ(j,_,m')=>[(3,aJ (aj ⟨g3,0,ak⟩)),(5,.bool m'),(7,aJ (aj ⟨g7,0,ak⟩)),(11,(ap (aj ⟨b,off,ak⟩) aF.length cp)),(12,av az aF.length),(13,av az (k:Int)),(44,ap bb body.length cb),(45,av az body.length),(46,av az (j:Int))])
   (λ(_,R',_)=>[ep n gE cE E1,ep n gR cR R',ep n gM cM M1,aP g3 (mj (dw n gE cE) vF vL (dw n gR cR) (dw n gM cM)).cells 65,aP g7 #[av az (hn:Int),ap bb body.length cb] 132]) (λ(j,_,_)=>body.length-j) (0,R,mo) ⟨bH _,i3,hfr⟩ ?_
  clear hfr;rintro⟨j,R',m'⟩ ⟨j1,j2,j3⟩;dsimp only at j1 j2 j3⊢
  by_cases c7:j<body.length
  ·obtain⟨b',AA,rfl,hrb⟩:=(by
    obtain⟨bs,cs,hv,_,_,eL⟩:=wP;simp only[iX,true_and]at hv;obtain⟨rfl,rfl⟩:=hv;exact eL J:∃b' AA,bb=aj ⟨b',AA,ak⟩/\Rd w0 b' AA (body.flatMap eA))
   have Uf:∀(L:List cH) (q:Nat) (u:Value),(eA body[j])[q]?=aj u->At B L ⟨b',AA+j*2+q,ak⟩ u:=λL=>uf nL (λq u hq=>iC ho (hrb q u hq)) c7;have fJ:=R6 body[j] (cD c7);rw[eN c7,L3]at j3;clear R6 hrb wP hsb p4;generalize body[j]=x at*;obtain⟨q,m⟩:=x;dsimp only at fJ;unfold Br at j3;dsimp only at j3
   by_cases c8:q=2
   ·subst c8
    rw[if_pos I]at j3;obtain⟨y1,y2⟩:=fJ rfl;obtain⟨mm,rfl⟩:∃mm:Nat,m=mm:=⟨m.toNat,by omega⟩;rw[dq]at j3;have hcell:=CF (l:=R') (i:=hn) J;generalize R'.getD hn aE=bh at*;have NL:=λw' B' hm=>uQ n gR cR R' mm bh w' B' j2 J hm;have XF:=nk R' mm bh;rw[j2]at XF;generalize fP R' mm bh=m3 at*;obtain⟨R3,b3⟩:=m3;dsimp only at*
    repeat(first|refine GA ?_|refine gV (aX bM.eq aK.ty I I c7) ?_|refine gV (a8 aK.ty I I (Uf _)) ?_)
    clear Uf;refine aY I λg9=>?_;refine gC 5 ?_;refine zL ?_
    refine GM ?_
    refine dN ([aP g3 (mj (dw n gE cE) vF vL (dw n gR cR) (dw n gM cM)).cells 65,aP g7 #[av az (hn:Int),ap (aj ⟨b',AA,ak⟩) body.length cb] 132,aP g9 #[av az 2,av az (mm:Int)] 156]) (.calm 0 (.calm 1 (.calm 2 (.calm 3 (.calm 4 (.calm 5 (.calm 6 (.calm 7 (.calm 8 (.one 9 (.one 10 (.calm 11 (.calm 12 (.calm 13 (.calm 14 (.done)))))))))))))))) (bW [3,4,5]) ?_
    repeat(first|refine GW ?_|(refine GN ?_;first|refine QW (aC aK.ty I (aH (i:=0) I I)) ?_|refine QW (aC aK.ty I (aH (i:=1) I I)) ?_|refine QW (aC aK.ty I (aH (i:=2) I I)) ?_|refine QW (cz bM.eq aK.ty I I (show hn<n by omega)) ?_))
    refine aL I (dx (aC aK.ty I (ki (i:=1) I (by rw[cV];exact hcell))) I I I (aM (bW [3,4,5]) ?_));refine aL I<|bm [1] [0,2,3,4,5] aiT I I (rX aI.en I I I I) (λw hm hb=>NL w _ hb) I I I ?_;intro _ _;refine zL ?_;refine aM (bW [2,3,4]) ?_
    cases b3
    ·refine GW ?_
     refine GA ?_
     refine dj [0,5,1,2,3] ?_;exact bY (j+1,R3,aE||m') ⟨by omega,XF,j3⟩ J
    refine GW ?_
    refine GA ?_
    refine dj [0,5,1,2,3] ?_;exact bY (j+1,R3,aD||m') ⟨by omega,XF,j3⟩ J
   rw[if_neg c8]at j3;dsimp only at j3
   repeat(first|refine GA ?_|refine gV (aX bM.eq aK.ty I I c7) ?_|refine gV (a8 aK.ty I I (Uf _)) ?_)
   clear Uf;refine aY I λg9=>?_;refine gC 5 ?_;refine zL ?_
   refine GM ?_
   refine dj [0,1,2,3,4] ?_;exact bY (j+1,R',m') ⟨by omega,j2,j3⟩ J
  rw[jo J]at j3;have j3:(R',m')=(R2,mo2):=j3;simp only[fD]at j3;obtain⟨rfl,rfl⟩:=j3
  refine GA ?_
  refine dj [0,1,2,3] ?_;exact bY (k+1,⟨E1,R',M1,m'⟩) ⟨by omega,NJ,j2,II,i5⟩ J
 ·rw[jo J]at i5
  have i5:(⟨E,R,M,more⟩:FS)=fin:=i5;subst i5
  refine GA ?_
  exact cJ I I λw hm=>hm.bV (S:=⟨λ(_:Unit)=>True,λ_=> .bool more,λ_=>[ep n gE cE E,ep n gR cR R,ep n gM cM M]⟩) () trivial [0,1,2] aiT I
end cI
namespace cI
open Go.RowKit cU dS aT dL
def ix(n g c:Nat)(l:List Nat):cH:=a_ 75 1 (ap (aj ⟨g,0,ak⟩) n c) n (l.map gK)
theorem Ej(n g cap:Nat)(l:List Nat)(i b:Nat)(w:World)(B:bO)(hl:zV n l)(hi:i<n)(hb:b<18446744073709551616)(hm:Mem B [ix n g cap l] w):
 Calls aB 79 #[ap (aj ⟨g,0,ak⟩) n cap,av az (i:Int),gK b] w (cY ⟨λ(_:Unit)=>True,λ_=> .bool (n' l i b).2,λ_=>[ix n g cap (n' l i b).1]⟩ B):=by
 obtain⟨rfl,h64⟩:=hl;exact Ue g cap l i b w B hi h64 hb hm
structure Rows4 where
 gE:Nat
 cE:Nat
 gF:Nat
 cF:Nat
 gW:Nat
 cW:Nat
 gM:Nat
 cM:Nat
theorem Py(E M:List Bool)(p:aT.Prod)(r:List aT.Prod)(F:List Nat)(more:Bool):rr E M (p::r) F more=rr E M r (He E M p F more).1 (He E M p F more).2:=rfl
theorem Pz(E:List Bool)(F:List Nat)(p:aT.Prod)(r:List aT.Prod)(W:List Nat)(more:Bool):nM E F (p::r) W more=nM E F r (jK E F p.1.toNat p.2 W more).1 (jK E F p.1.toNat p.2 W more).2:=rfl
theorem L6(E:List Bool)(F:List Nat)(h:Nat)(x:dy)(r:List dy)(W:List Nat)(more:Bool):jK E F h (x::r) W more=jK E F h r (jg E F h x r W more).1 (jg E F h x r W more).2:=rfl
def rB(E M:List Bool)(l:List aT.Prod)(F:List Nat):List Nat:=dL.fix (λF=>rr E M l F aE) np F
def wY(E:List Bool)(F:List Nat)(l:List aT.Prod)(W:List Nat):List Nat:=dL.fix (λW=>nM E F l W aE) np W
theorem PA(w0:World)(v:Value)(g:eb)(h:kj (λk=>k<w0.heap.size) w0 v g)(iW:b_ g=0)(n:Nat)(hn:g.bC=n)(x:Rows4)(vR:Value)(E:List Bool)(F W:List Nat)(M:List Bool)(hE:E.length=n)(hF:zV n F)(hW:zV n W)(hM:M.length=n)(w:World)(B:bO)(ho:pZ w0 B)(hm:Mem B [ep n x.gE x.cE E,ix n x.gF x.cF F,ix n x.gW x.cW W,ep n x.gM x.cM M] w):
 Calls aB 43 #[v,mj (dw n x.gE x.cE) (dw n x.gF x.cF) (dw n x.gW x.cW) vR (dw n x.gM x.cM)] w (cY ⟨λ(_:Unit)=>True,λ_=> .tuple #[],λ_=>[ep n x.gE x.cE E,ix n x.gF x.cF (rB E M g.aF F),ix n x.gW x.cW (wY E (rB E M g.aF F) g.aF W),ep n x.gM x.cM M]⟩ B):=by
 obtain⟨gE,cE,gF,cF,gW,cW,gM,cM⟩:=x;dsimp only at*;have rC:=y6 iW hn;obtain⟨_,_,_,_,hlen,_⟩:=cP iW;obtain⟨vp,rfl,h1,_⟩:=h;obtain⟨bp,cp,rfl,IZ,FL,oo⟩:=h1;unfold maxLen at FL;obtain⟨t,nn,aF⟩:=g;dsimp only at*;subst hn;have yi:=O1 (E:=E) (M:=M) rC;refine dm hm (args:=[dJ t (n:Int) (ap bp aF.length cp),mj (dw n gE cE) (dw n gF cF) (dw n gW cW) vR (dw n gM cM)]) (n:=80) Tryz.func43 I I I<|cC (bz (bR I I I λg2=>bR I I I λg3=>?_));refine zL ?_
 refine GA ?_
 generalize ja:rB E M aF F=fin;refine ea (ι:=List Nat×Bool) (λ(F,more)=>zV n F/\(more=aD->rB E M aF F=fin)/\(more=aE->F=fin)) (λ(_,more)=>[(2,aJ (aj ⟨g2,0,ak⟩)),(3,aJ (aj ⟨g3,0,ak⟩)),(4,.bool more)])
  (λ(F,_)=>[ep n gE cE E,ix n gF cF F,ix n gW cW W,ep n gM cM M,aP g2 (dJ t (n:Int) (ap bp aF.length cp)).cells 34,aP g3 (mj (dw n gE cE) (dw n gF cF) (dw n gW cW) vR (dw n gM cM)).cells 65]) (λ(F,more)=>2*np F+(if more=aD then 1 else 0)) (F,aD) ⟨hF,λ_=>ja,λh=>by cases h⟩ ?_
 clear hm hF ja;rintro⟨F,more⟩ ⟨i1,i2,i3⟩;dsimp only at i1 i2 i3⊢
 cases more
 ·have i3 :=i3 I
  subst i3;clear i2 yi;have yi:=X2 (E:=E) i1 rC
  refine GA ?_
  generalize ja:wY E F aF W=fin;refine ea (ι:=List Nat×Bool) (λ(W,more)=>zV n W/\(more=aD->wY E F aF W=fin)/\(more=aE->W=fin)) (λ(_,more)=>[(2,aJ (aj ⟨g2,0,ak⟩)),(3,aJ (aj ⟨g3,0,ak⟩)),(7,.bool more)])
   (λ(W,_)=>[ep n gE cE E,ix n gF cF F,ix n gW cW W,ep n gM cM M,aP g2 (dJ t (n:Int) (ap bp aF.length cp)).cells 34,aP g3 (mj (dw n gE cE) (dw n gF cF) (dw n gW cW) vR (dw n gM cM)).cells 65]) (λ(W,more)=>2*np W+(if more=aD then 1 else 0)) (W,aD) ⟨hW,λ_=>ja,λh=>by cases h⟩ ?_
  clear ja hW;clear W;rintro⟨W,more⟩ ⟨j1,j2,j3⟩;dsimp only at j1 j2 j3⊢
  cases more
  ·have j3:=j3 I
   subst j3
   refine GA ?_
   exact jG I λw hm=>hm.bV (S:=⟨λ(_:Unit)=>True,λ_=> .tuple #[],λ_=>[ep n gE cE E,ix n gF cF F,ix n gW cW W,ep n gM cM M]⟩) () trivial [0,1,2,3] aiT I
  have j2:=j2 I;clear j3;have hdone:∀W' m',nM E F aF W aE=(W',m')->zV n W'/\(m'=aD->wY E F aF W'=fin)/\(m'=aE->W'=fin)/\2*np W'+(if m'=aD then 1 else 0)<2*np W+1:=λW' m' hp=>by
   have hk:=y7 (E:=E) i1 aF W aE rC j1;rw[hp]at hk;dsimp only at hk;refine⟨hk.1,λc=>?_,λc=>?_,?_⟩
   ·rw[<-j2]
    unfold wY;rw[I1 yi j1 (by grind),hp]
   ·rw[<-j2]
    unfold wY;rw[yZ (by grind),hp]
   grind
  refine GM ?_
  generalize hfp:nM E F aF W aE=fp at*;obtain⟨Wx,mx⟩:=fp;have hdone:=hdone Wx mx I;refine ea (ι:=Nat×List Nat×Bool) (λ(k,W,m)=>k<=aF.length/\zV n W/\nM E F (aF.drop k) W m=(Wx,mx)) (λ(k,_,m)=>[(2,aJ (aj ⟨g2,0,ak⟩)),(3,aJ (aj ⟨g3,0,ak⟩)),(7,.bool m),(40,ap bp aF.length cp),(41,av az aF.length),(42,av az (k:Int))])
   (λ(_,W,_)=>[ep n gE cE E,ix n gF cF F,ix n gW cW W,ep n gM cM M,aP g2 (dJ t (n:Int) (ap bp aF.length cp)).cells 34,aP g3 (mj (dw n gE cE) (dw n gF cF) (dw n gW cW) vR (dw n gM cM)).cells 65]) (λ(k,_,_)=>aF.length-k) (0,W,aE) ⟨bH _,j1,hfp⟩ ?_
  clear hfp j2;rintro⟨k,W',m⟩ ⟨k1,k2,k3⟩;dsimp only at k1 k2 k3⊢
  by_cases c6:k<aF.length
  ·obtain⟨b,off,rfl,_,hr⟩:=oo J
   obtain⟨bb,cb,q1,q2,q3⟩:=lA hr c6;have FO:=rC.head aF[k] (cD c6);have Vu:=rC.DR aF[k] (cD c6);have hp3:=rC.non aF[k] (cD c6);rw[eN c6,Pz]at k3;have du:∀(L:List cH) (j:Nat) (v:Value),([av az aF[k].1,.slice bb aF[k].2.length cb]:List Value)[j]?=aj v->At B L ⟨b,off+k*2+j,ak⟩ v:=λL j v hj=>iC ho (q1 j v hj);have wP:=q3.flat aiT;clear hr oo q1 q3;generalize aF[k]=p at*;obtain⟨hd,body⟩:=p;dsimp only at*;obtain⟨hn,rfl⟩:∃hn:Nat,hd=hn:=⟨hd.toNat,by omega⟩;rw[dq]at FO k3;have hsb:∀w' L,Mem B L w'->Sl w' (ap bb body.length cb) body.length (body.flatMap eA):=λw' L hm=>wP.gr (ho.mem hm);obtain⟨bb2,cb2,he,h4,h5,h6⟩:=wP;simp only[iX,true_and]at he;obtain⟨rfl,rfl⟩:=he;unfold maxLen at h5
   repeat(first|refine GA ?_|refine gV (aX bM.eq aK.ty I I c6) ?_|refine gV (a8 aK.ty I I (du _)) ?_)
   clear du;refine aY I λg9=>?_;refine gC 6 ?_;refine zL ?_
   refine GM ?_
   refine ea (ι:=Nat×List Nat×Bool) (λ(j,W,m)=>j<=body.length/\zV n W/\nM E F (aF.drop (k+1)) (jK E F hn (body.drop j) W m).1 (jK E F hn (body.drop j) W m).2=(Wx,mx)) (λ(j,_,m)=>[(2,aJ (aj ⟨g2,0,ak⟩)),(3,aJ (aj ⟨g3,0,ak⟩)),(7,.bool m),(9,aJ (aj ⟨g9,0,ak⟩)),(40,ap (aj ⟨b,off,ak⟩) aF.length cp),(41,av az aF.length),(42,av az (k:Int)),(47,ap bb body.length cb),(48,av az body.length),(49,av az (j:Int))])
    (λ(_,W,_)=>[ep n gE cE E,ix n gF cF F,ix n gW cW W,ep n gM cM M,aP g2 (dJ t (n:Int) (ap (aj ⟨b,off,ak⟩) aF.length cp)).cells 34,aP g3 (mj (dw n gE cE) (dw n gF cF) (dw n gW cW) vR (dw n gM cM)).cells 65,aP g9 #[av az (hn:Int),ap bb body.length cb] 132]) (λ(j,_,_)=>body.length-j) (0,W',m) ⟨bH _,k2,k3⟩ ?_
   clear k2 k3;rintro⟨j,W2,m2⟩ ⟨k2,k3,k4⟩;dsimp only at k2 k3 k4⊢
   by_cases c7:j<body.length
   ·obtain⟨b2,abr,rfl,wk⟩:=h6 J
    have tA:=uf (W:=B) (L:=[ep n gE cE E,ix n gF cF F,ix n gW cW W2,ep n gM cM M,aP g2 (dJ t (n:Int) (ap (aj ⟨b,off,ak⟩) aF.length cp)).cells 34,aP g3 (mj (dw n gE cE) (dw n gF cF) (dw n gW cW) vR (dw n gM cM)).cells 65,aP g9 #[av az (hn:Int),ap (aj ⟨b2,abr,ak⟩) body.length cb] 132]) nL (λq x hq=>iC ho (wk q x hq)) c7;have hx3:=hp3 body[j] (cD c7);have kg:∀w' L,Mem B L w'->Sl w' (tw (aj ⟨b2,abr,ak⟩) cb 2 (j+1) body.length) (body.drop (j+1)).length ((body.drop (j+1)).flatMap eA):=λw' L hm=>by
     have:=Dq nL (hsb w' L hm) (i:=j+1) (j:=body.length) J (bx _)
     grind
    have ON:fU E F (body.drop (j+1)) (W2.getD hn 0)<18446744073709551616:=oL i1 (oC k3 _) λx hx h=>(Vu x (AU hx) h).2;have B2:=λw' L (hm:Mem B L w') (hx:Sl w' (dw n gE cE) E.length (E.map .bool)) (hy:Sl w' (dw n gF cF) F.length (F.map gK))=>uP (dw n gE cE) (dw n gF cF) (dw n gW cW) vR (dw n gM cM) _ E F (body.drop (j+1)) (W2.getD hn 0) w' hx hy (kg w' L hm) (by rw[hE,i1.1]) (λx hx=>⟨λh=>by grind,λh=>by have:=hp3 x (AU hx) h;rw[i1.1];omega⟩) i1.2 (oC k3 _);rw[hE,i1.1]at B2;have hcW:(W2.map gK)[hn]?=aj (gK (W2.getD hn 0)):=Jm (by rw[k3.1];exact FO.2);rw[eN c7,L6]at k4;generalize body[j]=x at*;obtain⟨q,mn⟩:=x;dsimp only at hx3;unfold jg at k4;dsimp only at k4;generalize W2.getD hn 0=bh at*;generalize fU E F (body.drop (j+1)) bh=bg at*
    repeat(first|refine GA ?_|refine gV (aX bM.eq aK.ty I I c7) ?_|refine gV (a8 aK.ty I I tA) ?_)
    clear tA wk;refine aY I λg11=>?_;refine zL ?_
    refine GA ?_
    refine gC 7 ?_;refine zL ?_
    by_cases c1:q=2
    ·rw[if_pos c1]at k4
     obtain⟨_,o1,o2⟩:=hx3 J;subst c1;obtain⟨mm,rfl⟩:∃mm:Nat,mn=mm:=⟨mn.toNat,by omega⟩;rw[dq]at k4 o2;have Ug:=CB (i:=mm) k3 ON;have F3:=λw' B' hm=>Ej n gW cW W2 mm bg w' B' k3 o2 ON hm;generalize n' W2 mm bg=ad at*;obtain⟨W3,ch⟩:=ad;dsimp only at k4 Ug F3
     refine GM ?_
     refine dN ([aP g3 (mj (dw n gE cE) (dw n gF cF) (dw n gW cW) vR (dw n gM cM)).cells 65,aP g9 #[av az (hn:Int),ap (aj ⟨b2,abr,ak⟩) body.length cb] 132,aP g11 #[av az 2,av az (mm:Int)] 156]) (.calm 0 (.calm 1 (.calm 2 (.calm 3 (.calm 4 (.calm 5 (.calm 6 (.calm 7 (.calm 8 (.calm 9 (.calm 10 (.calm 11 (.calm 12 (.calm 13 (.calm 14 (.one 15 (.one 16 (.one 17 (.calm 18 (.calm 19 (.calm 20 (.calm 21 (.done))))))))))))))))))))))) (bW [5,6,7]) ?_
     repeat(first|(refine GN ?_;first|refine QW QP ?_|refine QW (aC aK.ty I (aH (i:=0) I I)) ?_|refine QW (aC aK.ty I (aH (i:=1) I I)) ?_|refine QW (aC aK.ty I (aH (i:=2) I I)) ?_|refine QW (aO (i:=0) aK.ty I I I) ?_|refine QW (rm (i:=j+1) bM.eq aK.ty I I c7 h4) ?_|refine QW (cz bM.eq aK.ty I I FO.2) ?_|refine GX ?_)|refine GW ?_)
     refine aL I<|dx (aC aK.ty I (ki (i:=2) I (by grind))) I I I<|aM (bW [5,6,7])<|aL I<|aV (rX aI.en I I I I) (λw hm=>B2 _ _ hm (lR (i:=0) I w hm) (lR (i:=1) I w hm)) I I I ?_;intro _ _;refine zL ?_;refine aM (bW [5,6,7])<|aL I<|bm [2] [0,1,3,4,5,6,7] aiT I I (rX aI.en I I I I) (λw hm hb=>F3 w _ hb) I I I ?_;intro _ _;refine zL ?_;refine aM (bW [4,5,6]) ?_
     cases ch
     ·refine GW ?_
      refine GA ?_
      refine dj [0,1,7,2,3,4,5] ?_;exact bY (j+1,W3,aE||m2) ⟨by omega,Ug,k4⟩ J
     refine GW ?_
     refine GA ?_
     refine dj [0,1,7,2,3,4,5] ?_;exact bY (j+1,W3,aD||m2) ⟨by omega,Ug,k4⟩ J
    rw[if_neg c1]at k4
    refine GM ?_
    refine dj [0,1,2,3,4,5,6] ?_;exact bY (j+1,W2,m2) ⟨c7,k3,k4⟩ J
   rw[show body.drop j=[]from jo J]at k4
   refine GA ?_
   refine dj [0,1,2,3,4,5] ?_;exact bY (k+1,W2,m2) ⟨by omega,k3,k4⟩ J
  rw[jo J]at k3;have k3:(W',m)=(Wx,mx):=k3;simp only[fD]at k3;obtain⟨rfl,rfl⟩:=k3;obtain⟨d1,d2,d3,d4⟩:=hdone
  refine GA ?_
  exact bY (W',m) ⟨d1,d2,d3⟩ d4
 ·have i2:=i2 I
  clear i3;have hdone:∀F' m',rr E M aF F aE=(F',m')->zV n F'/\(m'=aD->rB E M aF F'=fin)/\(m'=aE->F'=fin)/\2*np F'+(if m'=aD then 1 else 0)<2*np F+1:=λF' m' hp=>by
   have hk:=uG (E:=E) (M:=M) aF F aE rC i1;rw[hp]at hk;dsimp only at hk;refine⟨hk.1,λc=>?_,λc=>?_,?_⟩
   ·rw[<-i2]
    unfold rB;rw[I1 yi i1 (by grind),hp]
   ·rw[<-i2]
    unfold rB;rw[yZ (by grind),hp]
   grind
  refine GM ?_
  generalize hfp:rr E M aF F aE=fp at*;obtain⟨Fx,mx⟩:=fp;have hdone:=hdone Fx mx I;refine ea (ι:=Nat×List Nat×Bool) (λ(k,F,m)=>k<=aF.length/\zV n F/\rr E M (aF.drop k) F m=(Fx,mx)) (λ(k,_,m)=>[(2,aJ (aj ⟨g2,0,ak⟩)),(3,aJ (aj ⟨g3,0,ak⟩)),(4,.bool m),(14,ap bp aF.length cp),(15,av az aF.length),(16,av az (k:Int))])
   (λ(_,F,_)=>[ep n gE cE E,ix n gF cF F,ix n gW cW W,ep n gM cM M,aP g2 (dJ t (n:Int) (ap bp aF.length cp)).cells 34,aP g3 (mj (dw n gE cE) (dw n gF cF) (dw n gW cW) vR (dw n gM cM)).cells 65]) (λ(k,_,_)=>aF.length-k) (0,F,aE) ⟨bH _,i1,hfp⟩ ?_
  clear hfp i2;rintro⟨k,F',m⟩ ⟨j1,j2,j3⟩;dsimp only at j1 j2 j3⊢
  by_cases c6:k<aF.length
  ·obtain⟨b,off,rfl,_,hr⟩:=oo J
   obtain⟨bb,cb,q1,q2,q3⟩:=lA hr c6;have FO:=rC.head aF[k] (cD c6);have Vu:=rC.DR aF[k] (cD c6);have hp3:=rC.non aF[k] (cD c6);rw[eN c6,Py]at j3;have du:∀(L:List cH) (j:Nat) (v:Value),([av az aF[k].1,.slice bb aF[k].2.length cb]:List Value)[j]?=aj v->At B L ⟨b,off+k*2+j,ak⟩ v:=λL j v hj=>iC ho (q1 j v hj);have wP:=q3.flat aiT;clear hr oo q1 q3;generalize aF[k]=p at*;obtain⟨hd,body⟩:=p;dsimp only at*;obtain⟨hn,rfl⟩:∃hn:Nat,hd=hn:=⟨hd.toNat,by omega⟩;rw[dq]at FO;have hsb:∀w' L,Mem B L w'->Sl w' (ap bb body.length cb) body.length (body.flatMap eA):=λw' L hm=>wP.gr (ho.mem hm);have oT:=λw' L (hm:Mem B L w') (hx:Sl w' (dw n gM cM) M.length (M.map .bool))=>yh (dw n gM cM) (ap bb body.length cb) M body aD w' hx (hsb w' L hm) (λx hx fJ=>by grind);rw[hM]at oT;have B2:=λw' L (hm:Mem B L w') (hx:Sl w' (dw n gE cE) E.length (E.map .bool)) (hy:Sl w' (dw n gF cF) F'.length (F'.map gK))=>uP (dw n gE cE) (dw n gF cF) (dw n gW cW) vR (dw n gM cM) (ap bb body.length cb) E F' body 0 w' hx hy (hsb w' L hm) (by rw[hE,j2.1]) (λx hx=>⟨λh=>by grind,λh=>by have:=hp3 x hx h;rw[j2.1];omega⟩) j2.2 aiT;rw[hE,j2.1]at B2;unfold He at j3;dsimp only at j3;rw[dq]at j3;generalize py M body aD=a1 at*;have ON:fU E F' body 0<18446744073709551616:=oL j2 aiT λx hx h=>(Vu x hx h).2;generalize fU E F' body 0=bg at*
   repeat(first|refine GA ?_|refine gV (aX bM.eq aK.ty I I c6) ?_|refine gV (a8 aK.ty I I (du _)) ?_)
   clear du;refine aY I λg6=>?_;refine gC 6 ?_;refine zL ?_
   refine GM ?_
   refine aV (rX aI.en I I I I) (λw hm=>oT _ _ hm (lR (i:=3) I w hm)) I I I ?_;intro _ _;refine zL ?_
   cases a1
   ·rw[if_neg aiT]at j3
    refine GA ?_
    refine dj [0,1,2,3,4,5] ?_;exact bY (k+1,F',m) ⟨by omega,j2,j3⟩ J
   rw[if_pos I]at j3;have Ug:=CB (i:=hn) j2 ON;have F3:=λw' B' hm=>Ej n gF cF F' hn bg w' B' j2 FO.2 ON hm;generalize n' F' hn bg=ad at*;obtain⟨F2,ch⟩:=ad;dsimp only at*
   refine GA ?_
   refine dN ([aP g3 (mj (dw n gE cE) (dw n gF cF) (dw n gW cW) vR (dw n gM cM)).cells 65,aP g6 #[av az (hn:Int),ap bb body.length cb] 132]) (.calm 0 (.calm 1 (.calm 2 (.calm 3 (.calm 4 (.calm 5 (.calm 6 (.one 7 (.one 8 (.calm 9 (.calm 10 (.calm 11 (.calm 12 (.done)))))))))))))) (bW [5,6]) ?_
   repeat(first|refine GW ?_|(refine GN ?_;first|refine QW (aC aK.ty I (aH (i:=0) I I)) ?_|refine QW (aC aK.ty I (aH (i:=1) I I)) ?_|refine QW (aO (i:=0) aK.ty I I I) ?_))
   refine aL I<|aV (rX aI.en I I I I) (λw hm=>B2 _ _ hm (lR (i:=0) I w hm) (lR (i:=1) I w hm)) I I I ?_;intro _ _;refine zL ?_;refine aM (bW [5,6])<|aL I<|bm [1] [0,2,3,4,5,6] aiT I I (rX aI.en I I I I) (λw hm hb=>F3 w _ hb) I I I ?_;intro _ _;refine zL ?_;refine aM (bW [4,5]) ?_
   cases ch
   ·refine GW ?_
    refine GA ?_
    refine dj [0,6,1,2,3,4] ?_;exact bY (k+1,F2,aE||m) ⟨by omega,Ug,j3⟩ J
   refine GW ?_
   refine GA ?_
   refine dj [0,6,1,2,3,4] ?_;exact bY (k+1,F2,aD||m) ⟨by omega,Ug,j3⟩ J
  rw[jo J]at j3;have j3:(F',m)=(Fx,mx):=j3;simp only[fD]at j3;obtain⟨rfl,rfl⟩:=j3;obtain⟨d1,d2,d3,d4⟩:=hdone
  refine GA ?_
  exact bY (F',m) ⟨d1,d2,d3⟩ d4
end cI
namespace cI
open Go.RowKit cU dS aT dL
def wQ(n:Nat)(l:List aT.Prod):FS:=dL.fix (LB l) (Bu n) ⟨da n aE,(da n aE).set 0 aD,da n aE,aE⟩
def NO(n:Nat)(l:List aT.Prod):List Nat:=rB (wQ n l).E (wQ n l).M l (da n 0)
def NP(n:Nat)(l:List aT.Prod):List Nat:=wY (wQ n l).E (NO n l) l ((da n 0).set 0 9223372036854775808)
structure Ek extends Rows4 where
 gR:Nat
 cR:Nat
def Ek.val(n:Nat)(x:Ek):Value:=mj (dw n x.gE x.cE) (dw n x.gF x.cF) (dw n x.gW x.cW) (dw n x.gR x.cR) (dw n x.gM x.cM)
theorem Hs(a b c d e:Option Addr)(n1 n2 n3 n4 n5 c1 c2 c3 c4 c5:Nat)(w:World):(dh 65 #[(0,ap a n1 c1),(1,ap b n2 c2),(2,ap c n3 c3),(3,ap d n4 c4),(4,ap e n5 c5)]).run aB w= .ok (aQ #[ap a n1 c1,ap b n2 c2,ap c n3 c3,ap d n4 c4,ap e n5 c5]) w:=by
 go_simp
def YF(i d n:Nat):Mk:=⟨i,d,λg=>ap (aj ⟨g,0,ak⟩) n n,λg=>aP g (madeCells #[.bool aE] (n*1)) 4⟩
def mkN(i d n:Nat):Mk:=⟨i,d,λg=>ap (aj ⟨g,0,ak⟩) n n,λg=>aP g (madeCells #[.int .u64 0] (n*1)) 75⟩
def mkF(i d:Nat):Mk:=⟨i,d,λg=>aJ (aj ⟨g,0,ak⟩),λg=>aP g #[ap ak 0 0,ap ak 0 0,ap ak 0 0,ap ak 0 0,ap ak 0 0] 65⟩
theorem rD{P:Program}{k:Nat}{W:bO}{Q:Exit->Act->World->Prop}{fr:Fr}{L:List cH}{c:Code}{i g m:Nat}{e:TypeId}{z:Value}(hi:L[i]?=aj (aP g (madeCells #[z] (m*1)) e))(hm:m<=9223372036854775807)(h:T P k W c Q fr (L.set i (a_ e 1 (ap (aj ⟨g,0,ak⟩) m m) m (da m z)))):T P k W c Q fr L:=
 W6 1 hi (by rw[size_madeCells]) (bx _) hm (by
  have:(madeCells #[z] (m*1)).toList.take (m*1)=da m z:=by
   rw[acY,Nat.mul_one,List.take_of_length_le (by simp)]
  rw[this];exact h)
theorem Em(v:Value)(g:eb)(w:World)(h:kj (λk=>k<w.heap.size) w v g)(iW:b_ g=0)(n:Nat)(hn:g.bC=n):
 Calls aB 20 #[v] w (cY ⟨λ(_:Ek)=>True,λx=> .tuple #[x.val n,av az 0],λx=>[ep n x.gE x.cE (wQ n g.aF).E,ix n x.gF x.cF (NO n g.aF),ix n x.gW x.cW (NP n g.aF),ep n x.gR x.cR (wQ n g.aF).R,ep n x.gM x.cM (wQ n g.aF).M]⟩ w):=by
 obtain⟨n1,n2,_,_,hlen,_⟩:=cP iW;have hcc:=λw' L (hm:Mem w L w')=>jJ v g w' (h.gr ((pZ.self w).mem hm));rw[iW]at hcc;have h0:=h;obtain⟨vp,rfl,h1,_⟩:=h;obtain⟨bp,cp,rfl,IZ,FL,oo⟩:=h1;unfold maxLen at FL;obtain⟨t,nn,aF⟩:=g;dsimp only at*;subst hn;refine enter (args:=[dJ t (n:Int) (ap bp aF.length cp)]) (n:=39) Tryz.func20 I I I ?_;refine cC (bz (bR I I I λg1=>aY I λg2=>?_));refine zL ?_
 repeat(first|refine GA ?_|refine gV (aO (i:=0) aK.ty I I I) ?_)
 refine aV (hZ aI.en I I) (λw hm=>hcc _ _ hm) I I I ?_;intro _ _;refine zL ?_
 repeat(first|refine GA ?_|refine gV (aC aK.ty I (aH (i:=0) I I)) ?_)
 refine k8 (ι:=Nat×Nat×Nat×Nat×Nat×Nat) (λ_=>True) (λ(_,_,_,_,_,g6)=>[(1,aJ (aj ⟨g1,0,ak⟩)),(2,aJ (aj ⟨g2,0,ak⟩)),(6,aJ (aj ⟨g6,0,ak⟩))])
  (λ(gE,gF,gW,gR,gM,g6)=>[aP g1 (dJ t (n:Int) (ap bp aF.length cp)).cells 34,aP g2 #[ap ak 0 0,ap ak 0 0,ap ak 0 0,ap ak 0 0,ap ak 0 0] 65,aP gE (madeCells #[.bool aE] (n*1)) 4,aP gF (madeCells #[.int .u64 0] (n*1)) 75,aP gW (madeCells #[.int .u64 0] (n*1)) 75,aP gR (madeCells #[.bool aE] (n*1)) 4,aP gM (madeCells #[.bool aE] (n*1)) 4,aP g6 (mj (dw n gE n) (dw n gF n) (dw n gW n) (dw n gR n) (dw n gM n)).cells 65]) ?_ ?_
 rotate_left
 ·rintro⟨gE,gF,gW,gR,gM,g6⟩ _
  dsimp only;refine rD (i:=2) I J ?_;refine rD (i:=3) I J ?_;refine rD (i:=4) I J ?_;refine rD (i:=5) I J ?_;refine rD (i:=6) I J ?_
  conv=>arg 7;simp only[As,xN]
  rw[show da n (fS aE)=(da n aE).map .bool by simp,show da n (av .u64 0)=(da n 0).map gK by simp[gK]];have hn0:0<n:=by omega
  repeat(first|refine GA ?_|refine gV (aC aK.ty I (aH (i:=7) I I)) ?_|refine gV (cz (j:=0) bM.eq aK.ty I I hn0) ?_)
  refine l9 (i:=5) aK.ty I I I I I I (by simpa using hn0) ?_
  repeat(first|refine GA ?_|refine gV (aC aK.ty I (aH (i:=7) I I)) ?_|refine gV (cz (j:=0) bM.eq aK.ty I I hn0) ?_)
  refine l9 (i:=4) aK.ty I I I I I I (by simpa using hn0) ?_
  conv=>arg 8;simp only[As,xN,cV]
  try refine GA ?_
  generalize ja:wQ n aF=fin;have rC:=y6 (g:=⟨t,n,aF⟩) iW I;have yi:=D5 rC;refine nZ (ι:=FS) (λs=>X3 n s/\dL.fix (LB aF) (Bu n) s=fin) (λ_=>[(1,aJ (aj ⟨g1,0,ak⟩)),(2,aJ (aj ⟨g2,0,ak⟩)),(6,aJ (aj ⟨g6,0,ak⟩))])
   (λs=>[aP g1 (dJ t (n:Int) (ap bp aF.length cp)).cells 34,aP g2 #[ap ak 0 0,ap ak 0 0,ap ak 0 0,ap ak 0 0,ap ak 0 0] 65,ep n gE n s.E,ix n gF n (da n 0),ix n gW n ((da n 0).set 0 9223372036854775808),ep n gR n s.R,ep n gM n s.M,aP g6 (mj (dw n gE n) (dw n gF n) (dw n gW n) (dw n gR n) (dw n gM n)).cells 65])
   (λs=>Bu n s) ⟨da n aE,(da n aE).set 0 aD,da n aE,aE⟩ ⟨⟨by simp,by simp,by simp⟩,ja⟩ (by repeat' (first|exact bZ|refine bX I ?_)) (by simp[ep,ix,gK,ph]) ?_
  rintro⟨E,R,M,mo⟩ ⟨i1,i2⟩;dsimp only at i2⊢;have eL:=λw' B' (ho:pZ w B') hm=>L5 w _ ⟨t,n,aF⟩ h0 iW n I ⟨gE,n,gR,n,gM,n⟩ (dw n gF n) (dw n gW n) E R M i1.1 i1.2.1 i1.2.2 w' B' ho hm;dsimp only at eL
  repeat(first|refine GA ?_|refine gV (aO (i:=0) aK.ty I I I) ?_|refine gV (aO (i:=7) aK.ty I I I) ?_)
  refine bm [2,5,6] [0,1,3,4,7] aiT I I (fO aI.en I I I) (λw' hm hb=>eL w' _ ((pZ.self w).on hm (by intro o ho;simp at ho⊢;rcases ho with h|h|h<;>simp[h])) hb) I I I ?_;intro _ _;refine zL ?_;clear eL;have hk:=qu aF ⟨E,R,M,aE⟩ rC i1;have hgo:(gD aF ⟨E,R,M,aE⟩).more=aD->dL.fix (LB aF) (Bu n) (gD aF ⟨E,R,M,aE⟩)=fin/\Bu n (gD aF ⟨E,R,M,aE⟩)<Bu n ⟨E,R,M,mo⟩:=λc=>⟨by rw[<-i2,I1 yi i1 c];rfl,yi.dec _ i1 c⟩;have hst:(gD aF ⟨E,R,M,aE⟩).more=aE->gD aF ⟨E,R,M,aE⟩=fin:=λc=>by rw[<-i2,yZ (s:=(⟨E,R,M,mo⟩:FS)) c];rfl
  generalize gD aF ⟨E,R,M,aE⟩=r at*;obtain⟨E',R',M',m'⟩:=r;dsimp only at hgo hst⊢
  cases m'
  ·have hst:=hst I
   have adf:=λw' B' (ho:pZ w B') hm=>PA w _ ⟨t,n,aF⟩ h0 iW n I ⟨gE,n,gF,n,gW,n,gM,n⟩ (dw n gR n) E' (da n 0) ((da n 0).set 0 9223372036854775808) M' hk.1.1 ⟨by simp,λx hx=>by rw[Po hx];decide⟩ ⟨by simp,λx hx=>by
    rcases List.mem_or_eq_of_mem_set hx with h|h
    rw[Po h];decide;rw[h];decide⟩ hk.1.2.2 w' B' ho hm
   dsimp only at adf
   repeat(first|refine GA ?_|refine gV (aO (i:=0) aK.ty I I I) ?_|refine gV (aO (i:=4) aK.ty I I I) ?_)
   refine bm [5,2,3,7] [0,1,6,4] aiT I I (fO aI.en I I I) (λw' hm hb=>adf w' _ ((pZ.self w).on hm (by intro o ho;simp at ho⊢;rcases ho with h|h|h|h<;>simp[h])) hb) I I I ?_;intro _ _;refine zL ?_
   repeat(first|refine GA ?_|refine gV (aO (i:=3) aK.ty I I I) ?_)
   refine gC 1 ?_;refine zL ?_
   try refine GA ?_
   subst hst;have eF:NO n aF=rB E' M' aF (da n 0):=by unfold NO;rw[ja]
   have eW:NP n aF=wY E' (rB E' M' aF (da n 0)) aF ((da n 0).set 0 9223372036854775808):=by unfold NP;rw[eF,ja]
   rw[eF,eW];refine eE (i:=1) I I I I (z:=av az 0) ?_ λw' hm=>?_;rfl;exact hm.bV (S:=⟨λ(_:Ek)=>True,λx=> .tuple #[x.val n,av az 0],λx=>[ep n x.gE x.cE E',ix n x.gF x.cF (rB E' M' aF (da n 0)),ix n x.gW x.cW (wY E' (rB E' M' aF (da n 0)) aF ((da n 0).set 0 9223372036854775808)),ep n x.gR x.cR R',ep n x.gM x.cM M']⟩) ⟨⟨gE,n,gF,n,gW,n,gM,n⟩,gR,n⟩ trivial [4,5,6,2,7] aiT I
  try refine GA ?_
  refine dj [0,1,5,2,3,6,7,4] ?_;exact bY ⟨E',R',M',aD⟩ ⟨hk.1,(hgo I).1⟩ (hgo I).2
 refine XA [] wo (by kernel_rfl) (by kernel_rfl) (by intro c a d v w h;cases d<;>exact h) ?_;refine qP 0 (by kernel_rfl) I (wh I) I I I ?_;refine qP 2 (by kernel_rfl) I (wh I) I I I ?_;refine qP 4 (by kernel_rfl) I (wh I) I I I ?_;refine qP 6 (by kernel_rfl) I (wh I) I I I ?_;refine qP 8 (by kernel_rfl) I (wh I) I I I ?_;refine Lj [YF 1 16 n,mkN 3 18 n,mkN 5 20 n,YF 7 22 n,YF 9 24 n,mkF 11 6] (λm=>!Nat.beq m.i 11) 2 (by kernel_rfl) (by kernel_rfl) ?_ (λq=>?_) λq=>?_
 ·intro m hm
  simp only[dA,fv,or_false]at hm;rcases hm with rfl|rfl|rfl|rfl|rfl|rfl
  exact nJ I I I (bx _) J J I;exact nJ I I I (bx _) J J I;exact nJ I I I (bx _) J J I;exact nJ I I I (bx _) J J I;exact nJ I I I (bx _) J J I;exact G5 I I
 ·simp only[YF,mkN,mkF,gh,qI]
  generalize q 1=gE;generalize q 3=gF;generalize q 5=gW;generalize q 7=gR;generalize q 9=gM;generalize q 11=g6;clear q;refine Cz (.calm 10 (.one 12 .done)) (by kernel_rfl) I ?_
  repeat(first|refine GW ?_|(refine GN ?_;first|refine QW (bB I (Hs _ _ _ _ _ _ _ _ _ _ _ _ _ _ _)) ?_))
  refine aL I ?_;refine gC 7 ?_;refine aM wo ?_
  try refine GW ?_
  exact dE (gE,gF,gW,gR,gM,g6) trivial (by repeat' (first|exact bZ|refine bX I ?_)) I
 ·rw[show List.filter (λm:Mk=>!Nat.beq m.i 11) [YF 1 16 n,mkN 3 18 n,mkN 5 20 n,YF 7 22 n,YF 9 24 n,mkF 11 6]=[YF 1 16 n,mkN 3 18 n,mkN 5 20 n,YF 7 22 n,YF 9 24 n]from I]
  simp only[YF,mkN,mkF,gh,qI];generalize q 1=gE;generalize q 3=gF;generalize q 5=gW;generalize q 7=gR;generalize q 9=gM;clear q;refine Cz (.calm 10 (.one 11 (.one 12 .done))) (by kernel_rfl) (by kernel_rfl) ?_
  repeat(first|refine GW ?_|(refine GN ?_;first|refine QW (bB I (Hs _ _ _ _ _ _ _ _ _ _ _ _ _ _ _)) ?_))
  refine aL I ?_;refine aY I λg6=>?_;refine aM wo ?_;refine aL I ?_;refine gC 7 ?_;refine aM wo ?_
  try refine GW ?_
  exact dE (gE,gF,gW,gR,gM,g6) trivial (by repeat' (first|exact bZ|refine bX I ?_)) I
end cI
namespace cI
open Go.RowKit cU dS aT dP dL fM
theorem Uh{x y:Nat}(hx:x<18446744073709551616)(hy:y<18446744073709551616):bits .and .u64 (x:Int) (y:Int)=((x&&&y:Nat):Int):=bits_and_u64_nat x y hx hy
theorem En{L:List cH}{R:List Nat}{o:cH}(h:o∈R.filterMap λi=>L[i]?):o∈L:=by
 obtain⟨i,_,hi⟩:=Pp.1 h;exact lP hi
end cI
namespace cI
open Go.RowKit cU dS aT
theorem abt{α:Type}{s:wL α}{F:Nat->Prop}{w:World}{v:Value}{l:List α}(h:jW s F w v l):v.oneCell'=true:=by
 obtain⟨b,c,rfl,_⟩:=h;rfl
theorem Ht(k q:Int)(w:World):(dh 156 #[(0,av az k),(1,av az q)]).run aB w= .ok (aQ #[av az k,av az q]) w:=by
 go_simp
theorem Hu:cU.d_ 2:=⟨by decide,by decide⟩
end cI
namespace cI
open Go.RowKit cU dS aT
theorem Ca(v:Value)(l:List dy)(w:World)(hs:Sl w v l.length (l.flatMap eA))(hl:l.length*16<=140737488355328):
 Calls aB 55 #[v] w (cB (cK 156 2 l.length (l.flatMap eA) id) w):=by
 obtain⟨base,cap,rfl,ly,kl,eL⟩:=hs;unfold maxLen at kl;refine enter (args:=[ap base l.length cap]) (n:=8) Tryz.func55 I I I ?_;have ry:∀w',Gr w w'->Sl w' (ap base l.length cap) l.length (l.flatMap eA):=λw' hg=>Sl.gr ⟨base,cap,rfl,ly,kl,eL⟩ hg;clear eL
 cases base with
 | none=>
  repeat(first|refine GC ?_|refine gV (jV bM.eq I I I) ?_|refine GB ?_)
  have h0:l=[]:=by
   cases l with
   |nil=>rfl
   |cons x l=>obtain⟨_,_,h,_,_,h2⟩:=ry w (Gr.refl w);simp only[iX]at h;obtain⟨rfl,_⟩:=h;obtain⟨b,off,h,_⟩:=h2 (by simp);cases h
  subst h0;refine dK 156 2 ?_;exact cJ I I λw hm=>hm.meets (S:=cK 156 2 0 [] id) _ trivial [0] aiT I
 |some p=>
  repeat(first|refine GC ?_|refine gV (jV bM.eq I I I) ?_|refine GB ?_)
  refine wq I λg=>?_
  try refine GA ?_
  refine eK (i:=0) I (λw' hm=>ry w' hm.below) I I (k9 nL l) (aa3 l) J J I λv'=>?_;rw[eu]
  try refine GA ?_
  refine cJ I I λw hm=>?_;exact hm.meets (S:=cK 156 2 l.length (l.flatMap eA) id) v' trivial [0] aiT (by simp[cK])
end cI
namespace cI
open Go.RowKit cU dS aT dL
section
variable{P:Program}{n:Nat}{W:bO}{fr:Fr}{L:List cH}{dst:Option Tmp}{ty:TypeId}{pos:String}{after:Array Edge}{guard:Option (Nat×Bool)}{t u:TypeId}{x y:Operand}{k:IntKind}{m m' r:Int}
theorem R7(hx:ev fr x=aj (.int k m))(hy:ev fr y=aj (.int k m'))(h:bits .andNot k m m'=r):RR P n W ⟨dst,.binOp .andNot t x y u,ty,pos,after,guard⟩ fr L (.int k r):=IA (.inr (.inr (.inr I))) hx hy h
end
theorem Eo{ι:Type}{S:Spec ι}{w w':World}{e:Ending}(h:cY S w e w'):cB S w e w':=let ⟨x,h1,h2,h3⟩:=h;⟨x,h1,h2,h3.below,h3.ac2⟩
theorem PB(w:World):(dh 65 (#[]:Array (Nat×Value))).run aB w= .ok (aQ #[ap ak 0 0,ap ak 0 0,ap ak 0 0,ap ak 0 0,ap ak 0 0]) w:=by
 go_simp
theorem Ui(v:Value)(g:eb)(w:World)(h:kj (λk=>k<w.heap.size) w v g)(h0:b_ g≠0):
 Calls aB 20 #[v] w (cB (ret (.tuple #[mj (ap ak 0 0) (ap ak 0 0) (ap ak 0 0) (ap ak 0 0) (ap ak 0 0),av az (b_ g)])) w):=by
 have iW:=λw' (hg:Gr w w')=>jJ v g w' (h.gr hg);obtain⟨vp,rfl,h1,_⟩:=h;obtain⟨bp,cp,rfl,IZ,FL,oo⟩:=h1;generalize b_ g=e at*;obtain⟨t,n,aF⟩:=g;dsimp only at*;refine enter (args:=[dJ t n (ap bp aF.length cp)]) (n:=39) Tryz.func20 I I I ?_;refine cC (bz (bR I I I λg1=>aY I λg2=>?_))
 repeat(first|refine GA ?_|refine gV (aO (i:=0) aK.ty I I I) ?_)
 refine aV (hZ aI.en I I) (λw hm=>iW _ hm.below) I I I ?_;intro _ _;refine zL ?_
 repeat(first|refine GA ?_|refine gV (bB I PB) ?_)
 refine gC 1 ?_
 try refine GA ?_
 exact eE (i:=1) I I I I I λw hm=>hm.ret
end cI
namespace cI
open Go.RowKit cU dS aT dL
def F4(t n:Int):List dy->Int
 |[]=>0
 |x::r=>if right t n x=aD then F4 t n r else 1
theorem Jo{t n:Int}:∀{l:List dy},F4 t n l=0->∀x∈l,right t n x=aD
 |[],_,_,h=>by cases h
 | y ::r,h,x,hx=>by
  unfold F4 at h;split at h
  ·rename_i c
   rcases dA.1 hx with rfl|hx
   exact c;exact Jo h x hx
  cases h
theorem Jp{t n:Int}:∀{l:List dy},(∀x∈l,right t n x=aD)->F4 t n l=0
 |[],_=>rfl
 |y::r,h=>by unfold F4;rw[if_pos (h y (by simp))];exact Jp λx hx=>h x (by simp[hx])
def uR(g:eb)(body:List dy):Int:=if b_ g≠0 then b_ g else if 60<body.length then 1 else F4 g.aR g.bC body
def Cb(g:eb)(body:List dy)(behind:Nat):Nat:=if uR g body=0 then fU (wQ g.bC.toNat g.aF).E (NO g.bC.toNat g.aF) body behind else 0
theorem L7{t n:Int}{x:dy}(h:right t n x=aE):(x.1≠1/\x.1≠2)\/(x.1=1/\x.2<0)\/(x.1=1/\0<=x.2/\t<=x.2)\/(x.1=2/\x.2<0)\/(x.1=2/\0<=x.2/\n<=x.2):=by
 unfold right at h;split at h;simp at h;omega;split at h;simp at h;omega;omega
theorem uS{t n:Int}{x:dy}(h:right t n x=aD):(x.1=1/\0<=x.2/\x.2<t)\/(x.1=2/\0<=x.2/\x.2<n):=by
 unfold right at h;split at h;simp at h;omega;split at h;simp at h;omega;simp at h
theorem Jq{g:eb}{n:Nat}(iW:b_ g=0)(hn:g.bC=n):X3 n (wQ n g.aF)/\zV n (NO n g.aF):=by
 have hf:=y6 iW hn
 constructor
 ·obtain⟨s',h1,h2,h3⟩:=y0 (D5 hf) _ ⟨da n aE,(da n aE).set 0 aD,da n aE,aE⟩ ⟨by simp,by simp,by simp⟩ (bx _)
  unfold wQ;rw[h3];exact(D5 hf).keep _ h1
 obtain⟨s',h1,h2,h3⟩:=y0 (O1 (E:=(wQ n g.aF).E) (M:=(wQ n g.aF).M) hf) _ (da n 0) ⟨by simp,λx hx=>by rw[Po hx];decide⟩ (bx _);unfold NO rB;rw[h3];exact(O1 hf).keep _ h1
theorem rF(v vb:Value)(g:eb)(body:List dy)(behind:Nat)(w:World)(h:kj (λk=>k<w.heap.size) w v g)(hs:Sl w vb body.length (body.flatMap eA))(hb:behind<18446744073709551616):
 Calls aB 45 #[v,vb,gK behind] w (cB (ret (.tuple #[gK (Cb g body behind),av az (uR g body)])) w):=by
 by_cases c0:b_ g=0
 ·obtain⟨_,_,k1,k2,k3,k4⟩:=cP c0
  obtain⟨n,hn⟩:∃n:Nat,g.bC=n:=⟨g.bC.toNat,by omega⟩;have Uj:=λw' (hg:Gr w w')=>Em v g w' (h.gr hg) c0 n hn;obtain⟨hS,hF⟩:=Jq c0 hn;obtain⟨vp,rfl,h1,_⟩:=h;obtain⟨bp,cp,rfl,IZ,FL,oo⟩:=h1;clear oo;have Vq:=hs;obtain⟨bb,cb,rfl,h4,h5,h6⟩:=hs;unfold maxLen at h5;obtain⟨t,nn,aF⟩:=g;dsimp only at*;subst hn;have B2:=λ(vE vF vL vR vM:Value) w' (hg:Gr w w') (hE:Sl w' vE n ((wQ n aF).E.map .bool)) (hF2:Sl w' vF n ((NO n aF).map gK)) lq=>uP vE vF vL vR vM _ (wQ n aF).E (NO n aF) body behind w' (by rw[hS.1];exact hE) (by rw[hF.1];exact hF2) (Vq.gr hg) (by rw[hS.1,hF.1]) lq hF.2 hb;rw[hF.1]at B2;have hV:Cb ⟨t,n,aF⟩ body behind=if uR ⟨t,n,aF⟩ body=0 then fU (wQ n aF).E (NO n aF) body behind else 0:=rfl
  have hE:uR ⟨t,n,aF⟩ body=if 60<body.length then 1 else F4 t n body:=by
   unfold uR;rw[if_neg (by rw[c0];simp)]
  generalize Cb ⟨t,n,aF⟩ body behind=rV at*;generalize uR ⟨t,n,aF⟩ body=rE at*;refine enter (args:=[dJ t (n:Int) (ap bp aF.length cp),ap bb body.length cb,gK behind]) (n:=71) Tryz.func45 I I I ?_;refine cC (bz (bR I I I λg3=>?_))
  repeat(first|refine GA ?_|refine gV (aO (i:=0) aK.ty I I I) ?_)
  refine aV (hZ aI.en I I) (λw' hm=>(Uj w' hm.below).mono λe w2 h=>Eo h) I I I ?_;intro x _
  conv=>arg 8;simp only[zJ,cK,ret,id_eq,Ek.val]
  try refine GA ?_
  refine aY I λg8=>?_;refine gC 6 ?_;refine zL ?_
  by_cases c1:60<body.length
  ·rw[if_pos c1]at hE
   subst hE;rw[if_neg aiT]at hV;subst hV
   try refine GA ?_
   exact si I I I λw hm=>hm.ret
  rw[if_neg c1]at hE
  try refine GA ?_
  refine ea (ι:=Nat) (λk=>k<=body.length/\rE=F4 t n (body.drop k)) (λk=>[(1,ap bb body.length cb),(2,gK behind),(3,aJ (aj ⟨g3,0,ak⟩)),(8,aJ (aj ⟨g8,0,ak⟩)),(23,ap bb body.length cb),(24,av az body.length),(25,av az (k:Int))])
   (λ_=>[aP g3 (dJ t (n:Int) (ap bp aF.length cp)).cells 34,ep n x.gE x.cE (wQ n aF).E,ix n x.gF x.cF (NO n aF),ix n x.gW x.cW (NP n aF),ep n x.gR x.cR (wQ n aF).R,ep n x.gM x.cM (wQ n aF).M,aP g8 (mj (dw n x.gE x.cE) (dw n x.gF x.cF) (dw n x.gW x.cW) (dw n x.gR x.cR) (dw n x.gM x.cM)).cells 65]) (λk=>body.length-k) 0 ⟨bH _,hE⟩ ?_
  rintro k ⟨i1,i2⟩
  by_cases c6:k<body.length
  ·obtain⟨b,off,rfl,hr⟩:=h6 J
   have du:=λL=>gO (L:=L) nL hr c6;rw[eN c6,F4]at i2;clear h6 hr Vq B2;generalize body[k]=y at*
   cases r:right t n y
   ·rw[if_neg (by rw[r];decide)]at i2
    clear hE;subst i2;rw[if_neg aiT]at hV;subst hV;have r':=L7 r;obtain⟨q,m⟩:=y;dsimp only at r';rcases r' with r'|r'|r'|r'|r'
    all_goals
     repeat(first|refine GA ?_|refine gV (aX bM.eq aK.ty I I c6) ?_|refine gV (a8 aK.ty I I (du _)) ?_)
     refine aY I λg11=>?_;refine gC 7 ?_;refine zL ?_
     repeat(first|refine GA ?_|refine gV (aC aK.ty I (aH (i:=7) I I)) ?_|refine gV (aC aK.ty I (aH (i:=0) I I)) ?_)
     exact si I I I λw hm=>hm.ret
   rw[if_pos r]at i2;have r':=uS r;obtain⟨q,m⟩:=y;dsimp only at r';rcases r' with r'|r'
   all_goals
    repeat(first|refine GA ?_|refine gV (aX bM.eq aK.ty I I c6) ?_|refine gV (a8 aK.ty I I (du _)) ?_)
    refine aY I λg11=>?_;refine gC 7 ?_;refine zL ?_
    repeat(first|refine GA ?_|refine gV (aC aK.ty I (aH (i:=7) I I)) ?_|refine gV (aC aK.ty I (aH (i:=0) I I)) ?_)
    refine dj [0,1,2,3,4,5,6] ?_;exact bY (k+1) ⟨by omega,i2⟩ (by show body.length-(k+1)<body.length-k;omega)
  rw[jo J]at i2;have i2:rE=0:=by rw[i2];rfl
  have oT:∀x∈body,right t n x=true:=Jo (hE.symm.trans i2);clear hE;rw[if_pos i2]at hV;subst i2 hV
  repeat(first|refine GA ?_|refine gV (aO (i:=6) aK.ty I I I) ?_)
  refine aV (rX aI.en I I I I) (λw hm=>B2 _ _ _ _ _ w hm.below (lR (i:=1) I w hm) (lR (i:=2) I w hm) (λx hx=>by have:=uS (oT x hx);omega)) I I I ?_;intro _ _
  try refine GA ?_
  exact si I I I λw hm=>hm.ret
 ·have Uj:=λw' (hg:Gr w w')=>Ui v g w' (h.gr hg) c0
  have hE:uR g body=b_ g:=by unfold uR;rw[if_pos c0]
  have hV:Cb g body behind=0:=by unfold Cb;rw[hE,if_neg c0]
  rw[hE,hV];obtain⟨vp,rfl,h1,_⟩:=h;obtain⟨bb,cb,rfl,_⟩:=hs;generalize b_ g=e at*;obtain⟨t,n,aF⟩:=g;dsimp only at*;refine enter (args:=[dJ t n vp,ap bb body.length cb,gK behind]) (n:=71) Tryz.func45 I I I ?_;refine cC (bz (bR I I I λg3=>?_))
  repeat(first|refine GA ?_|refine gV (aO (i:=0) aK.ty I I I) ?_)
  refine aV (hZ aI.en I I) (λw hm=>Uj _ hm.below) I I I ?_;intro _ _
  try refine GA ?_
  refine aY I λg8=>?_;refine gC 1 ?_
  try refine GA ?_
  exact si I I I λw hm=>hm.ret
end cI
namespace cI
open Go.RowKit cU dS aT fM
theorem aer{W:World}{L:List cH}{b off:Nat}{l:List Int}(h:Rd W b off (l.map (.int .i64))){k:Nat}(hk:k<l.length):At W L ⟨b,off+k,ak⟩ (av az l[k]):=iI h (by simp[hk])
end cI
namespace bJ
open aT dP cT
abbrev Item:=Int×Int×Int
def uT(a b:Int):Int:=if a<b then-1 else if b<a then 1 else 0
def L8(a b:Item):Int:=if uT a.1 b.1≠0 then uT a.1 b.1 else if uT a.2.1 b.2.1≠0 then uT a.2.1 b.2.1 else uT a.2.2 b.2.2
def PC(a b:Item):Bool:=decide (L8 a b<0)
theorem R8(a b:Item):PC a b=aD↔a.1<b.1\/(a.1=b.1/\(a.2.1<b.2.1\/(a.2.1=b.2.1/\a.2.2<b.2.2))):=by
 unfold PC L8 uT;rw[decide_eq_true_eq]
 repeat' split
 all_goals omega
theorem PD(a b:Item):PC a b=aE↔¬(a.1<b.1\/(a.1=b.1/\(a.2.1<b.2.1\/(a.2.1=b.2.1/\a.2.2<b.2.2)))):=by
 rw[<-R8,Bool.not_eq_true]
def NQ(a b:Item):Bool:=!PC b a
theorem CG(a b:Item):NQ a b=aD↔¬(b.1<a.1\/(b.1=a.1/\(b.2.1<a.2.1\/(b.2.1=a.2.1/\b.2.2<a.2.2)))):=by
 unfold NQ;rw[Bool.not_eq_true',PD]
theorem Uk(a b c:Item)(h1:NQ a b=aD)(h2:NQ b c=aD):NQ a c=true:=by
 rw[CG]at*;omega
theorem Ul(a b:Item):(NQ a b||NQ b a)=true:=by
 rw[lU,CG,CG];omega
theorem L9{a b:Item}(h1:NQ a b=aD)(h2:NQ b a=aD):a=b:=by
 rw[CG]at*;obtain⟨a1,a2,a3⟩:=a;obtain⟨b1,b2,b3⟩:=b;dsimp only at h1 h2;rw[fD,fD];omega
theorem Um(x y:Item)(h1:PC x y=aE)(h2:PC y x=aE):x=y:=L9 (by unfold NQ;rw[h2];rfl) (by unfold NQ;rw[h1];rfl)
def aes(l:List Item):Prop:=l.Pairwise λa b=>PC a b=aD
theorem R9(a:Item):PC a a=false:=by rw[PD];omega
theorem aet{a b c:Item}(h1:PC a b=aD)(h2:PC b c=aD):PC a c=true:=by
 rw[R8]at*;omega
theorem Un{l:List Item}(h:aes l):l.Nodup:=h.imp λ{a b} DW e=>by subst e;rw[R9]at DW;cases DW
def uU(l:List Item):List Item:=l.mergeSort NQ
theorem YG{l:List Item}{x:Item}:x∈uU l↔x∈l:=(Ym l NQ).mem_iff
theorem L_(l:List Item):(uU l).length=l.length:=List.length_mergeSort _
theorem YH{l:List Item}(h:l.Nodup):aes (uU l):=by
 have h1:(uU l).Pairwise λa b=>NQ a b=true:=List.pairwise_mergeSort Uk Ul l;have h2:(uU l).Nodup:=(Ym l NQ).nodup_iff.2 h;refine(h1.and h2).imp λ{a b} DW=>?_
 cases e:PC a b with
 |true=>rfl
 |false=>exact absurd (L9 DW.1 (by unfold NQ;rw[e];rfl)) DW.2
section
variable(l:List aT.Prod)(T:Nat)(lk:Int->Int->Nat)
def fI(p:Int):List dy:=if p=(l.length:Int)then [(2,0)]else(dc l p).2
def qw(it:Item):Option dy:=(fI l it.1)[it.2.1.toNat]?
def uV(it:Item):Nat:=if(lk it.1 it.2.1).testBit 62=aD then(lk it.1 it.2.1^^^2^62)|||2^it.2.2.toNat else lk it.1 it.2.1
def fz(i:Nat)(bits:Nat)(out:List Item):Nat->List Item
 |0=>out
 |k+1=>if bits.testBit k=aD then more (fz i bits out k) ((i:Int),0,(k:Int))else fz i bits out k
def fA(N:Int)(bits:Nat)(out:List Item):Nat->List Item
 |0=>out
 |i+1=>if(dc l (i:Int)).1=N then fz i bits (fA N bits out i) (T+1)else fA N bits out i
def uW(it:Item)(out:List Item):List Item:=match qw l it with
 |some x=>if x.1=2 then fA l T x.2 (uV lk it) out l.length else out
 |none=>out
def ti:Nat->Nat->List Item->List Item
 |0,_,out=>out
 |f+1,n,out=>if n<out.length then ti f (n+1) (uW l T lk (out.getD n (0,0,0)) out)else out
def jO(l0:List Item):List Item:=uU (ti l T lk 12000 0 (dM [] l0))
def Jr(it x:Item):Prop:=∃N:Int,∃i k:Nat,qw l it=aj (2,N)/\i<l.length/\(dc l (i:Int)).1=N/\k<=T/\(uV lk it).testBit k=aD/\x=((i:Int),0,(k:Int))
inductive Cl(l0:List Item):Item->Prop
 |base {x:Item} (h:x∈l0):Cl l0 x
 |step {it x:Item} (h:Cl l0 it) (hx:Jr l T lk it x):Cl l0 x
def ey(it:Item):Prop:=0<=it.1/\it.1<=(l.length:Int)/\0<=it.2.1/\it.2.1<=((fI l it.1).length:Int)/\0<=it.2.2/\it.2.2<=(T:Int)
end
section
variable{l:List aT.Prod}{T:Nat}{lk:Int->Int->Nat}
theorem uX{i bits:Nat}{out:List Item}{x:Item}:∀k,x∈fz i bits out k↔x∈out\/∃j,j<k/\bits.testBit j=aD/\x=((i:Int),0,(j:Int))
 |0=>⟨.inl,λh=>h.elim id λ⟨j,hj,_⟩=>absurd hj (l5 j)⟩
 | k + 1=>by
  rw[fz]
  by_cases c:bits.testBit k=aD
  ·rw[if_pos c,uz,uX k]
   constructor
   ·rintro((h|⟨j,h1,h2⟩)|h)
    exact .inl h;exact .inr ⟨j,by omega,h2⟩;exact .inr ⟨k,by omega,c,h⟩
   rintro(h|⟨j,h1,h2,h3⟩);exact .inl (.inl h)
   by_cases e:j=k
   subst e;exact .inr h3;exact .inl (.inr ⟨j,by omega,h2,h3⟩)
  rw[if_neg c,uX k]
  constructor
  ·rintro(h|⟨j,h1,h2⟩)
   exact .inl h;exact .inr ⟨j,by omega,h2⟩
  rintro(h|⟨j,h1,h2,h3⟩);exact .inl h
  by_cases e:j=k
  subst e;exact absurd h2 c;exact .inr ⟨j,by omega,h2,h3⟩
theorem Bz(i bits:Nat)(out:List Item):∀k,∃E,fz i bits out k=out++E
 |0=>⟨[],(dW _).symm⟩
 | k +1=>by
  rw[fz];obtain⟨E,h⟩:=Bz i bits out k;split
  ·obtain⟨E2,h2⟩:=DC (fz i bits out k) (((i:Int),0,(k:Int)):Item)
   exact⟨E++E2,by rw[h2,h,eD]⟩
  exact⟨E,h⟩
theorem qV{i bits:Nat}{out:List Item}(h:out.Nodup):∀k,(fz i bits out k).Nodup
 |0=>h
 |k+1=>by
  rw[fz];split;exact DD (qV h k);exact qV h k
theorem uY{N:Int}{bits:Nat}{out:List Item}{x:Item}:∀n,x∈fA l T N bits out n↔x∈out\/∃i k:Nat,i<n/\(dc l (i:Int)).1=N/\k<=T/\bits.testBit k=aD/\x=((i:Int),0,(k:Int))
 |0=>⟨.inl,λh=>h.elim id λ⟨j,_,hj,_⟩=>absurd hj (l5 j)⟩
 | n + 1=>by
  rw[fA]
  by_cases c:(dc l (n:Int)).1=N
  ·rw[if_pos c,uX,uY n]
   constructor
   ·rintro((h|⟨i,k,h1,h2⟩)|⟨j,h1,h2,h3⟩)
    exact .inl h;exact .inr ⟨i,k,by omega,h2⟩;exact .inr ⟨n,j,by omega,c,by omega,h2,h3⟩
   rintro(h|⟨i,k,h1,h2,h3,h4,h5⟩);exact .inl (.inl h)
   by_cases e:i=n
   subst e;exact .inr ⟨k,by omega,h4,h5⟩;exact .inl (.inr ⟨i,k,by omega,h2,h3,h4,h5⟩)
  rw[if_neg c,uY n]
  constructor
  ·rintro(h|⟨i,k,h1,h2⟩)
   exact .inl h;exact .inr ⟨i,k,by omega,h2⟩
  rintro(h|⟨i,k,h1,h2,h3⟩);exact .inl h
  by_cases e:i=n
  subst e;exact absurd h2 c;exact .inr ⟨i,k,by omega,h2,h3⟩
theorem uZ(N:Int)(bits:Nat)(out:List Item):∀n,∃E,fA l T N bits out n=out++E
 |0=>⟨[],(dW _).symm⟩
 | n +1=>by
  rw[fA];obtain⟨E,h⟩:=uZ N bits out n;split
  ·obtain⟨E2,h2⟩:=Bz n bits (fA l T N bits out n) (T+1)
   exact⟨E++E2,by rw[h2,h,eD]⟩
  exact⟨E,h⟩
theorem qW{N:Int}{bits:Nat}{out:List Item}(h:out.Nodup):∀n,(fA l T N bits out n).Nodup
 |0=>h
 |n+1=>by
  rw[fA];split;exact qV (qW h n) _;exact qW h n
theorem CH{it:Item}{out:List Item}{x:Item}:x∈uW l T lk it out↔x∈out\/Jr l T lk it x:=by
 unfold uW Jr
 cases e:qw l it with
 |none=>exact⟨.inl,λh=>h.elim id λ⟨_,_,_,h,_⟩=>by cases h⟩
 | some s=>
  obtain⟨k,N⟩:=s;dsimp only
  by_cases c:k=2
  ·subst c
   rw[if_pos I,uY]
   constructor
   ·rintro(h|⟨i,j,h1,h2,h3,h4,h5⟩)
    exact .inl h;exact .inr ⟨N,i,j,rfl,h1,h2,h3,h4,h5⟩
   rintro(h|⟨N',i,j,h0,h1,h2,h3,h4,h5⟩);exact .inl h;simp only[df,fD,true_and]at h0;subst h0;exact .inr ⟨i,j,h1,h2,h3,h4,h5⟩
  rw[if_neg c];refine⟨.inl,λh=>h.elim id λ⟨N',_,_,h,_⟩=>?_⟩;simp only[df,fD]at h;exact absurd h.1 c
theorem abu(it:Item)(out:List Item):∃E,uW l T lk it out=out++E:=by
 unfold uW;split
 ·split
  exact uZ _ _ _ _;exact⟨[],(dW _).symm⟩
 exact⟨[],(dW _).symm⟩
theorem Uo{it:Item}{out:List Item}(h:out.Nodup):(uW l T lk it out).Nodup:=by
 unfold uW;split
 ·split
  exact qW h _;exact h
 exact h
theorem mI{p:Int}(hw:∀q∈l,q.2.length<=8):(fI l p).length<=8:=by
 unfold fI;split
 decide
 unfold dc;rw[b9]
 cases e:l[p.toNat]? with
 |none=>exact bH _
 |some q=>exact hw q (lP e)
theorem Uq{it x:Item}(h:Jr l T lk it x):ey l T x:=by
 obtain⟨N,i,k,_,h2,_,h4,_,rfl⟩:=h;exact⟨by dsimp only;omega,by dsimp only;omega,lg _,by dsimp only;omega,by dsimp only;omega,by dsimp only;omega⟩
theorem zc{l0:List Item}(h0:∀x∈l0,ey l T x){x:Item}(h:Cl l T lk l0 x):ey l T x:=by
 cases h with
 |base h=>exact h0 x h
 |step _ hx=>exact Uq hx
theorem AV{out:List Item}(hw:∀q∈l,q.2.length<=8)(hl:l.length<=40)(hT:T<=30)(hn:out.Nodup)(hr:∀x∈out,ey l T x):out.length<=11439:=by
 have:=nI (l:=out.map λx:Item=>x.1.toNat*279+x.2.1.toNat*31+x.2.2.toNat) (m:=11439) ?_ ?_
 rwa [dF]at this
 ·rw[List.nodup_iff_pairwise_ne,List.pairwise_map]
  refine(aeo.1 hn).imp λ{a b} DW e=>DW.2.2 ?_;have ha:=hr a DW.1;have hb:=hr b DW.2.1;have ha8:=mI (p:=a.1) hw;have hb8:=mI (p:=b.1) hw;unfold ey at ha hb;obtain⟨a1,a2,a3⟩:=a;obtain⟨b1,b2,b3⟩:=b;dsimp only at*;rw[fD,fD];omega
 intro x hx;obtain⟨a,ha,rfl⟩:=eX.1 hx;have h1:=hr a ha;have h8:=mI (p:=a.1) hw;unfold ey at h1;omega
structure WkI(l:List aT.Prod)(T:Nat)(lk:Int->Int->Nat)(l0:List Item)(n:Nat)(out:List Item):Prop where
 nd:out.Nodup
 le:n<=out.length
 has:∀x∈l0,x∈out
 cl:∀x∈out,Cl l T lk l0 x
 shut:∀j (h:j<out.length),j<n->∀x,Jr l T lk out[j] x->x∈out
theorem R_{l0:List Item}{n:Nat}{out:List Item}(h:WkI l T lk l0 n out)(hn:n<out.length):WkI l T lk l0 (n+1) (uW l T lk out[n] out):=by
 obtain⟨E,hE⟩:=abu (l:=l) (T:=T) (lk:=lk) out[n] out;have hlen:out.length<=(uW l T lk out[n] out).length:=by rw[hE,bI];omega
 have yd:∀j (h:j<out.length),(uW l T lk out[n] out)[j]' J=out[j]:=λj hj=>by
  simp only[hE,C7 hj]
 refine⟨Uo h.nd,by omega,λx hx=>CH.2 (.inl (h.has x hx)),λx hx=>?_,λj hj hjn x hx=>?_⟩
 ·rcases CH.1 hx with h1|h1
  exact h.cl x h1;exact .step (h.cl _ (cD hn)) h1
 have oU:j<out.length:=by omega
 rw[yd j oU]at hx
 by_cases e:j=n
 subst e;exact CH.2 (.inr hx);exact CH.2 (.inl (h.shut j oU J x hx))
theorem Ep{l0:List Item}(hw:∀q∈l,q.2.length<=8)(hl:l.length<=40)(hT:T<=30)(h0:∀x∈l0,ey l T x):∀(f n:Nat) (out:List Item),11440<=f+n->WkI l T lk l0 n out->WkI l T lk l0 (ti l T lk f n out).length (ti l T lk f n out)
 | 0,n,out,hf,h=>by
  have:=AV hw hl hT h.nd λx hx=>zc h0 (h.cl x hx);have:=h.le;omega
 | f +1,n,out,hf,h=>by
  rw[ti]
  by_cases c:n<out.length
  ·rw[if_pos c,b9,bD c,kp]
   exact Ep hw hl hT h0 f (n+1) _ J (R_ h c)
  rw[if_neg c];have:=h.le;rw[show out.length=n by omega];exact h
theorem Er(l0:List Item):WkI l T lk l0 0 (dM [] l0):=
 ⟨sx l0 [] Yp,bH _,λx hx=>kO.2 (.inr hx),λx hx=> .base ((kO.1 hx).resolve_left (by simp)),λj _ h=>absurd h (l5 j)⟩
section
variable(hw:∀q∈l,q.2.length<=8)(hl:l.length<=40)(hT:T<=30)
include hw hl hT
theorem ir{l0:List Item}(h0:∀x∈l0,ey l T x){x:Item}:x∈jO l T lk l0↔Cl l T lk l0 x:=by
 unfold jO;rw[YG];have h:=Ep (lk:=lk) hw hl hT h0 12000 0 _ J (Er l0);refine⟨h.cl x,λhx=>?_⟩
 induction hx with
 |base hb=>exact h.has _ hb
 |step _ hx ih=>
  obtain⟨j,hj,rfl⟩:=hY.1 ih;exact h.shut j hj hj _ hx
theorem PE{l0:List Item}(h0:∀x∈l0,ey l T x):aes (jO l T lk l0):=
 YH (Ep (lk:=lk) hw hl hT h0 12000 0 _ J (Er l0)).nd
theorem iR{l0:List Item}(h0:∀x∈l0,ey l T x):∀x∈jO l T lk l0,ey l T x:=λ_ hx=>zc h0 ((ir hw hl hT h0).1 hx)
theorem sN{l0:List Item}(h0:∀x∈l0,ey l T x):(jO l T lk l0).length<=11439:=
 AV hw hl hT (Un (PE hw hl hT h0)) (iR hw hl hT h0)
end
end
end bJ
namespace bJ
open aT dP cT
def abv(it:Item):Item:=(it.1,it.2.1+1,it.2.2)
section
variable(l:List aT.Prod)(T N:Nat)(lk:Int->Int->Nat)
def mJ(s:List Item)(x:dy):List Item:=(s.filter λit=>decide (qw l it=aj x)).map abv
def iS(s:List Item)(x:dy):List Item:=jO l T lk (mJ l s x)
def mK:List dy:=(eh T).map (λn:Nat=>((1:Int),(n:Int)))++(eh N).map (λn:Nat=>((2:Int),(n:Int)))
def jb(S:List (List Item))(s:List Item):Nat×List (List Item):=if s∈S then(idx S s,S)else(S.length,S++[s])
def qx(s:List Item)(x:dy)(S:List (List Item)):Int×List (List Item):=if iS l T lk s x=[]then(-1,S)else(((jb S (iS l T lk s x)).1:Int),(jb S (iS l T lk s x)).2)
def ze(s:List Item):List dy->List Int->List (List Item)->Option (List Int×List (List Item))
 |[],nx,S=>aj (nx,S)
 |x::r,nx,S=>if 200<(qx l T lk s x S).2.length then ak else ze s r (nx++[(qx l T lk s x S).1]) (qx l T lk s x S).2
def wZ:Nat->Nat->List (List Int)->List (List Item)->Option (List (List Int)×List (List Item))
 |0,_,_,_=>ak
 | f +1,n,Nx,S=>if n<S.length then(match ze l T lk (S.getD n []) (mK T N) [] S with
  |none=>ak
  |some (nx,S')=>wZ f (n+1) (Nx++[nx]) S')else aj (Nx,S)
def nw:List Item:=jO l T lk [((l.length:Int),0,(T:Int))]
def allI:Option (List (List Int)×List (List Item)):=wZ l T N lk 202 0 [] [nw l T lk]
end
theorem zf(T N:Nat):(mK T N).length=T+N:=by unfold mK;rw[bI,dF,dF,pH,pH]
theorem Ur{T N k:Nat}(h:k<T):(mK T N)[k]?=aj (1,(k:Int)):=by
 unfold mK;rw[eR (by simpa using h),eS,Yn h];rfl
theorem YI{T N k:Nat}(h:k<N):(mK T N)[T+k]?=aj (2,(k:Int)):=by
 unfold mK;rw[List.getElem?_append_right (by simp),dF,pH,Nat.add_sub_cancel_left,eS,Yn h];rfl
section
variable{l:List aT.Prod}{T N:Nat}{lk:Int->Int->Nat}
theorem Ma{s:List Item}{x:dy}{y:Item}:y∈mJ l s x↔∃it∈s,qw l it=aj x/\y=abv it:=by
 unfold mJ;rw[eX]
 constructor
 ·rintro⟨it,h,rfl⟩
  rw[xO,decide_eq_true_eq]at h;exact⟨it,h.1,h.2,rfl⟩
 rintro⟨it,h1,h2,rfl⟩;exact⟨it,xO.2 ⟨h1,decide_eq_true h2⟩,rfl⟩
theorem kR{s:List Item}{x:dy}(hs:∀it∈s,ey l T it):∀y∈mJ l s x,ey l T y:=by
 intro y hy;obtain⟨it,h1,h2,rfl⟩:=Ma.1 hy;have hr:=hs it h1;have hd:=(cX.1 h2).1;unfold ey abv at*;dsimp only;omega
structure Js(l:List aT.Prod)(T:Nat)(lk:Int->Int->Nat)(S:List (List Item)):Prop where
 nd:S.Nodup
 right:∀s∈S,∀it∈s,ey l T it
 shut:∀s∈S,∀it∈s,∀x,Jr l T lk it x->x∈s
def Es(l:List aT.Prod)(T:Nat)(lk:Int->Int->Nat)(S:List (List Item))(s:List Item)(x:dy)(c:Int):Prop:=
 (iS l T lk s x=[]/\c= -1)\/(iS l T lk s x≠[]/\iS l T lk s x∈S/\c=(idx S (iS l T lk s x):Int))
theorem Es.TU{S:List (List Item)}{s:List Item}{x:dy}{c:Int}(h:Es l T lk S s x c)(E:List (List Item)):Es l T lk (S++E) s x c:=by
 rcases h with h|⟨h1,h2,h3⟩
 exact .inl h;exact .inr ⟨h1,xM _ h2,by rw[h3,qq h2]⟩
section
variable(hw:∀q∈l,q.2.length<=8)(hl:l.length<=40)(hT:T<=30)
include hw hl hT
omit hw hl hT in
theorem PF{S:List (List Item)}(hS:Js l T lk S){s:List Item}(hs:∀it∈s,ey l T it)(Xt:∀it∈s,∀x,Jr l T lk it x->x∈s):(∃E,(jb S s).2=S++E)/\s∈(jb S s).2/\(jb S s).1=idx (jb S s).2 s/\Js l T lk (jb S s).2:=by
 unfold jb
 by_cases c:s∈S
 ·rw[if_pos c]
  exact⟨⟨[],(dW _).symm⟩,c,rfl,hS⟩
 rw[if_neg c];refine⟨⟨[s],rfl⟩,Yl _ (dR.2 I),?_,?_,?_,?_⟩
 ·show S.length=idx (S++[s]) s
  have:=rp (D:=S) (k:=s);unfold more at this;rw[if_neg c,if_neg c]at this;exact this.symm
 ·rw[Dz]
  exact⟨hS.nd,by simp,λa ha b hb e=>by rw[dR.1 hb]at e;subst e;exact c ha⟩
 ·intro s' xC it hit
  rcases fu.1 xC with h|h
  exact hS.right s' h it hit;rw[dR.1 h]at hit;exact hs it hit
 intro s' xC it hit x hx;rcases fu.1 xC with h|h
 exact hS.shut s' h it hit x hx;rw[dR.1 h]at hit⊢;exact Xt it hit x hx
theorem u_{l0:List Item}(h0:∀x∈l0,ey l T x):∀it∈jO l T lk l0,∀x,Jr l T lk it x->x∈jO l T lk l0:=λ_ hit _ hx=>
 (ir hw hl hT h0).2 (.step ((ir hw hl hT h0).1 hit) hx)
theorem Hv{S:List (List Item)}(hS:Js l T lk S){s:List Item}(hs:∀it∈s,ey l T it)(x:dy):(∃E,(qx l T lk s x S).2=S++E)/\Es l T lk (qx l T lk s x S).2 s x (qx l T lk s x S).1/\Js l T lk (qx l T lk s x S).2:=by
 unfold qx
 by_cases c:iS l T lk s x=[]
 ·rw[if_pos c]
  exact⟨⟨[],(dW _).symm⟩,.inl ⟨c,rfl⟩,hS⟩
 rw[if_neg c];obtain⟨h1,h2,h3,h4⟩:=PF hS (iR (lk:=lk) hw hl hT (kR (x:=x) hs)) (u_ hw hl hT (kR (x:=x) hs));exact⟨h1,.inr ⟨c,h2,congrArg _ h3⟩,h4⟩
theorem Mb{s:List Item}(hs:∀it∈s,ey l T it):∀(xs:List dy) (nx:List Int) (S:List (List Item)) (done:List dy) (YJ:List Int) (S':List (List Item)),Js l T lk S->ze l T lk s xs nx S=aj (YJ,S')->S.length<=200->nx.length=done.length->(∀k x,done[k]?=aj x->Es l T lk S s x (nx.getD k 0))->
 (∃E,S'=S++E)/\Js l T lk S'/\S'.length<=200/\YJ.length=(done++xs).length/\∀k x,(done++xs)[k]?=aj x->Es l T lk S' s x (YJ.getD k 0)
 | [],nx,S,done,YJ,S',hS,h,afY,hlen,hd=>by
  simp only[ze,df,fD]at h;obtain⟨rfl,rfl⟩:=h;rw[dW];exact⟨⟨[],(dW _).symm⟩,hS,afY,hlen,hd⟩
 | x ::xs,nx,S,done,YJ,S',hS,h,afY,hlen,hd=>by
  rw[ze]at h
  by_cases c:200<(qx l T lk s x S).2.length
  rw[if_pos c]at h;cases h;rw[if_neg c]at h;obtain⟨⟨E,h1⟩,h2,h3⟩:=Hv (lk:=lk) hw hl hT hS hs x;obtain⟨⟨E2,q1⟩,q2,q3,q4,q5⟩:=Mb hs xs (nx++[(qx l T lk s x S).1]) _ (done++[x]) YJ S' h3 h J (by rw[bI,bI,hlen];rfl) (λk y hk=>by
   by_cases ek:k<done.length
   ·rw[eR ek]at hk
    rw[jv J,h1];exact(hd k y hk).TU E
   have mT:=(cX.1 hk).1;rw[bI,List.length_singleton]at mT;obtain rfl:k=done.length:=by omega
   rw[List.getElem?_append_right (Nat.le_refl _),Nat.sub_self]at hk;simp only[List.getElem?_cons_zero,Option.some.injEq]at hk;subst hk;rw[lX J,hlen,Nat.sub_self];exact h2)
  rw[eD,List.singleton_append]at q4 q5;exact⟨⟨E++E2,by rw[q1,h1,eD]⟩,q2,q3,q4,q5⟩
structure Us(l:List aT.Prod)(T N:Nat)(lk:Int->Int->Nat)(n:Nat)(Nx:List (List Int))(S:List (List Item)):Prop where
 ss:Js l T lk S
 B7:S.length<=200
 le:n<=S.length
 len:Nx.length=n
 start:S[0]?=aj (nw l T lk)
 wide:∀q,q<n->(Nx.getD q []).length=T+N
 cell:∀q,q<n->∀k x,(mK T N)[k]?=aj x->Es l T lk S (S.getD q []) x ((Nx.getD q []).getD k 0)
theorem Mc:∀(f n:Nat) (Nx:List (List Int)) (S:List (List Item)) (Nx':List (List Int)) (S':List (List Item)),wZ l T N lk f n Nx S=aj (Nx',S')->Us l T N lk n Nx S->Us l T N lk S'.length Nx' S'
  |0,_,_,_,_,_,h,_=>by cases h
  | f + 1,n,Nx,S,Nx',S',h,hi=>by
    rw[wZ]at h
    by_cases c:n<S.length
    · rw[if_pos c]at h
      have yd:S.getD n []=S[n]:=by rw[b9,bD c];rfl
      have hs:∀it∈S.getD n [],ey l T it:=by rw[yd];exact hi.ss.right _ (cD c)
      cases e:ze l T lk (S.getD n []) (mK T N) [] S with
      |none=>rw[e]at h;cases h
      | some r=>
        obtain⟨nx,S1⟩:=r;rw[e]at h;dsimp only at h;obtain⟨⟨E,q1⟩,q2,q3,q4,q5⟩:=Mb (lk:=lk) hw hl hT hs (mK T N) [] S [] nx S1 hi.ss e hi.B7 rfl (λk x hk=>by simp at hk);rw[eu]at q4 q5;have hlen:=congrArg yf q1;rw[bI]at hlen;refine Mc f (n+1) _ S1 Nx' S' h ⟨q2,q3,by omega,by rw[bI,hi.len];rfl,?_,λq hq=>?_,λq hq k x hk=>?_⟩;rw[q1,eR (by have:=(cX.1 hi.start).1;omega)];exact hi.start
        · by_cases eq:q=n
          · subst eq
            rw[lX (by rw[hi.len];exact bx _),hi.len,oa];show nx.length=T+N
            rw[q4,zf]
          rw[jv (by rw[hi.len];omega)];exact hi.wide q J
        by_cases eq:q=n
        · subst eq
          rw[lX (by rw[hi.len];exact bx _),hi.len,oa];have e1:S1.getD q []=S.getD q []:=by rw[q1,jv c]
          rw[e1];exact q5 k x hk
        rw[jv (by rw[hi.len];omega)];have e1:S1.getD q []=S.getD q []:=by rw[q1,jv J]
        rw[e1,q1];exact(hi.cell q J k x hk).TU E
    rw[if_neg c]at h;simp only[df,fD]at h;obtain⟨rfl,rfl⟩:=h;have:n=S.length:=by have:=hi.le;omega
    rw[<-this];exact hi
omit hw in
theorem ij:∀x∈[(((l.length:Int),0,(T:Int)):Item)],ey l T x:=by
 intro x hx;rw[dR.1 hx];exact⟨by dsimp only;omega,lg _,lg _,by dsimp only;omega,by dsimp only;omega,lg _⟩
theorem Me{Nx:List (List Int)}{S:List (List Item)}(h:allI l T N lk=aj (Nx,S)):Us l T N lk S.length Nx S:=
 Mc hw hl hT 202 0 [] [nw l T lk] Nx S h
  ⟨⟨by simp,λs hs it hit=>by rw[dR.1 hs]at hit;exact iR (lk:=lk) hw hl hT (ij hl hT) it hit,λs hs it hit x hx=>by rw[dR.1 hs]at hit⊢;exact u_ hw hl hT (ij hl hT) it hit x hx⟩,by simp,bH _,rfl,rfl,λq hq=>absurd hq (l5 q),λq hq=>absurd hq (l5 q)⟩
end
end
def ik(s:List Item):List UInt8:=s.flatMap λit=>[fE it.1.toNat,fE it.2.1.toNat,fE it.2.2.toNat]
theorem PG{a b:Int}(ha:0<=a/\a<256)(hb:0<=b/\b<256)(h:fE a.toNat=fE b.toNat):a=b:=by
 have:=congrArg UInt8.toNat h;rw[Ys,Ys]at this;omega
theorem Et:∀{s s':List Item},(∀it∈s,0<=it.1/\it.1<256/\0<=it.2.1/\it.2.1<256/\0<=it.2.2/\it.2.2<256)->(∀it∈s',0<=it.1/\it.1<256/\0<=it.2.1/\it.2.1<256/\0<=it.2.2/\it.2.2<256)->ik s=ik s'->s=s'
 |[],[],_,_,_=>rfl
 |[],b::s',_,_,h=>by simp[ik]at h
 |a::s,[],_,_,h=>by simp[ik]at h
 | a ::s,b::s',h1,h2,h=>by
  have ha:=h1 a (gd ..);have hb:=h2 b (gd ..);unfold ik at h;rw[lO,lO]at h;simp only[iY,eu,gi]at h;obtain⟨e1,e2,e3,e4⟩:=h;have e1:=PG ⟨ha.1,ha.2.1⟩ ⟨hb.1,hb.2.1⟩ e1;have e2:=PG ⟨ha.2.2.1,ha.2.2.2.1⟩ ⟨hb.2.2.1,hb.2.2.2.1⟩ e2;have e3:=PG ⟨ha.2.2.2.2.1,ha.2.2.2.2.2⟩ ⟨hb.2.2.2.2.1,hb.2.2.2.2.2⟩ e3;have e:a=b:=by
   obtain⟨a1,a2,a3⟩:=a;obtain⟨b1,b2,b3⟩:=b;simp only at e1 e2 e3;rw[e1,e2,e3]
  rw[e,Et (λit hit=>h1 it (kM _ hit)) (λit hit=>h2 it (kM _ hit)) e4]
end bJ
namespace bJ
open aT dP fM dL cT
open B5 (D9)
abbrev Act:=Int×Int
section
variable(l:List aT.Prod)(T:Nat)
def zg(c:Nat)(it:Item):Option Act:=if it.2.2≠(c:Int)then ak else if it.1=(l.length:Int)/\it.2.1=1 then aj (3,0)else if it.1<(l.length:Int)/\it.2.1=((dc l it.1).2.length:Int)then aj (2,it.1)else ak
def kz(s:List Item)(nx:List Int)(c:Nat):List Act:=(if c<T/\0<=nx.getD c 0 then [(1,nx.getD c 0)]else [])++s.filterMap (zg l c)
end
section
variable(l:List aT.Prod)(T:Nat)(Nx:List (List Int))(S:List (List Item))
def pM(q c:Nat):Act:=(kz l T (S.getD q []) (Nx.getD q []) c).headD (0,0)
def afZ(q:Nat)(n:Int):Int:=(Nx.getD q []).getD (T+n.toNat) 0
def af0:Prop:=∀q,q<S.length->∀c,c<=T->(kz l T (S.getD q []) (Nx.getD q []) c).length<=1
inductive Jt(w:List Int):List Nat->Nat->List dy->List Nat->Nat->Prop
 |nil {σ:List Nat} {a:Nat}:Jt w σ a [] σ a
 |shift {q s:Nat} {σ σ':List Nat} {a a':Nat} {E:List dy} (ha:a<w.length) (h:pM l T Nx S q (D9 T w a)=(1,(s:Int))) (hr:Jt w (s::q::σ) (a+1) E σ' a'):Jt w (q::σ) a ((2,(a:Int))::E) σ' a'
 |reduce {q r tq:Nat} {p:Int} {σ ρ σ':List Nat} {a a':Nat} {E:List dy} (h:pM l T Nx S q (D9 T w a)=(2,p)) (hd:(q::σ).drop (dc l p).2.length=r::ρ) (hg:afZ T Nx r (dc l p).1=(tq:Int)) (hr:Jt w (tq::r::ρ) a E σ' a'):Jt w (q::σ) a ((4,p)::E) σ' a'
end
section
variable{l:List aT.Prod}{T N:Nat}{lk:Int->Int->Nat}{Nx:List (List Int)}{S:List (List Item)}{w:List Int}
theorem Jt.TU{σ σ1 σ2:List Nat}{a a1 a2:Nat}{E E2:List dy}(h:Jt l T Nx S w σ a E σ1 a1)(h2:Jt l T Nx S w σ1 a1 E2 σ2 a2):Jt l T Nx S w σ a (E++E2) σ2 a2:=by
 induction h with
 |nil=>exact h2
 |shift ha h _ ih=>exact .shift ha h (ih h2)
 |reduce h hd hg _ ih=>exact .reduce h hd hg (ih h2)
section
end
section
end
end
end bJ
namespace cI
open Go.RowKit cU dS aT dP dL bJ
def iP(x:bJ.Item):List Value:=[av az x.1,av az x.2.1,av az x.2.2]
theorem lD(x:bJ.Item):(iP x).length=3:=rfl
def AW(x:Option Nat):cH:=match x with
 |some g=>aP g #[av az 2,av az 0] 156
 |none=>⟨ak,λ_=>False,λ_=>True,λ_ _ k h=>by rcases h with h|h;cases h;exact h.elim,λ_ _ _ _ _=>trivial⟩
def abw(vb:Nat->Value)(n:Nat)(x:Option Nat):Value:=match x with
 |some g=>ap (aj ⟨g,0,ak⟩) 1 1
 |none=>vb n
def Ut(F:Nat->Prop)(w:World)(vb:Nat->Value)(l:List aT.Prod):Prop:=∀i,i<l.length->jW aa4 F w (vb i) (dc l (i:Int)).2
def zh(vb:Nat->Value)(n P:Nat):Spec (Option Nat):=⟨λx=>x.isSome=decide (n=P),λx=>abw vb n x,λx=>[AW x]⟩
theorem YK{F:Nat->Prop}{w:World}{vp:Value}{l:List aT.Prod}(h:jW om F w vp l):∃(vb:Nat->Value) (bp:Option Addr) (cp:Nat),vp=ap bp l.length cp/\l.length<=cp/\cp<=maxLen/\Ut F w vb l/\(0<l.length->∃b off,bp=aj ⟨b,off,ak⟩/\F b/\∀i,i<l.length->Rd w b (off+i*2) [av az (dc l (i:Int)).1,vb i]/\cU.d_ (dc l (i:Int)).1):=by
 obtain⟨bp,cp,rfl,h1,h2,h3⟩:=h
 by_cases h0:0<l.length
 ·obtain⟨b,off,rfl,hF,hr⟩:=h3 h0
  have key:∀i:Nat,∃v:Value,i<l.length->jW aa4 F w v (dc l (i:Int)).2/\Rd w b (off+i*2) [av az (dc l (i:Int)).1,v]/\cU.d_ (dc l (i:Int)).1:=λi=>by
   by_cases hi:i<l.length
   ·obtain⟨base,cap,q1,q2,q3⟩:=lA hr hi
    have e:dc l (i:Int)=l[i]:=by unfold dc;rw[dq,b9,bD hi];rfl
    exact⟨_,λ_=>by rw[e];exact⟨q3,q1,q2⟩⟩
   exact⟨undef,λh=>absurd h hi⟩
  refine⟨λi=>Ij (key i),aj ⟨b,off,ak⟩,cp,rfl,h1,h2,λi hi=>(C1 (key i) hi).1,λ_=>⟨b,off,rfl,hF,λi hi=>(C1 (key i) hi).2⟩⟩
 exact⟨λ_=>undef,bp,cp,rfl,h1,h2,λi hi=>absurd hi J,λh=>absurd h h0⟩
theorem aeu{n:Nat}{W:bO}{e:Exit}{Q:Exit->Act->World->Prop}{fr:Fr}{L:List cH}(h:E n W e Q fr (L++[AW ak])):E n W e Q fr L:=⟨λa w hr hm=>h.go a w hr ⟨hm.low,eH.both hm.owns (eH.one trivial λk hk=>by rcases hk with hk|hk;cases hk;exact hk.elim) λi j o o' _ hj k _ hk=>by
 match j,hj with
 |0,hj=>
  simp only[List.getElem?_cons_zero,df]at hj;subst hj;rcases hk with hk|hk
  cases hk
  exact hk.elim
 |j+1,hj=>simp at hj⟩⟩
theorem PH(w:World):(dh 156 #[(0,av az 2),(1,av az 0)]).run aB w= .ok (aQ #[av az 2,av az 0]) w:=by kernel_rfl
theorem sO(t n:Int)(bp:Option Addr)(cp:Nat)(l:List aT.Prod)(vb:Nat->Value)(w0 w:World)(B:bO)(k:Nat)(hk:k<=l.length)(ho:pZ w0 B)(hm:Mem B [] w)(zU:∀i,i<l.length->∃bb m cc,vb i=ap bb m cc)
 (hr:0<l.length->∃b off,bp=aj ⟨b,off,ak⟩/\∀i,i<l.length->Rd w0 b (off+i*2) [av az (dc l (i:Int)).1,vb i]):
 Calls aB 111 #[dJ t n (ap bp l.length cp),av az (k:Int)] w (cB (zh vb k l.length) w):=by
 have hb:=PH;have hr:∀i,i<l.length->∃b off,bp=aj ⟨b,off,ak⟩/\Rd w b (off+i*2) [av az (dc l (i:Int)).1,vb i]:=λi hi=>by
  obtain⟨b,off,q1,q2⟩:=hr J;exact⟨b,off,q1,λj u hj=>ho.cell hm (q2 i hi j u hj)⟩
 clear hm ho;refine enter (args:=[dJ t n (ap bp l.length cp),av az (k:Int)]) (n:=18) Tryz.func111 I I I ?_;refine cC (bz (bR I I I λg2=>?_));refine zL ?_
 by_cases c:k=l.length
 ·subst c
  repeat(first|refine GC ?_|refine gV (aC (v:=ap bp l.length cp) aK.ty I (aH (i:=0) I I)) ?_|refine gV (dg (b:=aD) I I (decide_eq_true I)) ?_|refine gV (bB I hb) ?_|refine GB ?_)
  refine fy (cs:=#[av az 2,av az 0]) [aQ #[av az 2,av az 0]] I I I (by intro v hv;simp at hv;subst hv;rfl) I I I λg11=>?_;refine zL ?_
  try refine GA ?_
  exact cJ I I λw hm=>hm.meets (S:=zh vb l.length l.length) (aj g11) (by show aD=decide (l.length=l.length);rw[decide_eq_true I]) [1] aiT I
 ·obtain⟨b,off,rfl,eL⟩:=hr k J
  obtain⟨bb,m,cc,hv⟩:=zU k J;have du:∀(L:List cH),At w L ⟨b,off+k*2+1,ak⟩ (vb k):=λL=>iI eL (j:=1) I;have hlt:k<l.length:=by omega
  repeat(first|refine GC ?_|refine gV (aC (v:=ap (aj ⟨b,off,ak⟩) l.length cp) aK.ty I (aH (i:=0) I I)) ?_|refine gV (dg (b:=aE) I I (decide_eq_false J)) ?_|refine gV (aX (j:=k) bM.eq aK.ty I I hlt) ?_|refine gV (aC (v:=vb k) aK.ty I (du _)) ?_|refine GB ?_)
  refine aeu ?_;exact cJ I I λw hm=>hm.meets (S:=zh vb k l.length) ak (by show aE=decide (k=l.length);rw[decide_eq_false c]) [1] aiT I
end cI
namespace cI
open Go.RowKit cU dS aT dP dL bJ
abbrev RK:=Int×Int
def rkV(x:RK):Value:=aQ #[av az x.1,av az x.2]
set_option maxRecDepth 100000 in
theorem aev(p:RK)(h:cU.d_ p.1/\cU.d_ p.2):∃l,keyOf aB 272 (rkV p)=aj l:=by
 have e1:aB.cellsOf 272=2:=by kernel_rfl
 have e3:aB.cellsOf 3=1:=by kernel_rfl
 refine IR (cs:=[av az p.1,av az p.2]) (m:=2) (by kernel_rfl) (by kernel_rfl) (by rw[e1];rfl) (Cx 2 (by kernel_rfl)) λd=>?_;refine Ay (d:=d+1) Tryz.underlying272 (by rw[e1];rfl) (by kernel_rfl) λf hf=>?_;simp only[dA,fv,or_false]at hf;rcases hf with rfl|rfl
 ·rw[e3]
  exact uy Tryz.underlying3 h.1.1 h.1.2
 rw[e3];exact uy Tryz.underlying3 h.2.1 h.2.2
theorem af1:(272:TypeId)<aB.types.size:=of_decide_eq_true (by kernel_rfl)
set_option maxRecDepth 100000 in
def iT:yN aB 272 RK where
 kv:=rkV
 ok p:=cU.d_ p.1/\cU.d_ p.2
 law:=deep_law_laid Cw (m:=2) J af1 (by kernel_rfl) (by kernel_rfl)
 key x h:=aev x h
 inj x y h:=by
  simp only[rkV,lV,sv,gi,Jk,true_and,and_true]at h;exact qJ h.1 h.2
set_option maxRecDepth 100000 in
theorem aew(p:bJ.Item)(h:cU.d_ p.1/\cU.d_ p.2.1/\cU.d_ p.2.2):∃l,keyOf aB 208 (aQ (iP p).toArray)=aj l:=by
 have e1:aB.cellsOf 208=3:=by kernel_rfl
 have e3:aB.cellsOf 3=1:=by kernel_rfl
 refine IR (cs:=iP p) (m:=2) (by kernel_rfl) (by kernel_rfl) (by rw[e1];rfl) (Cx 2 (by kernel_rfl)) λd=>?_;refine Ay (d:=d+1) Tryz.underlying208 (by rw[e1];rfl) (by kernel_rfl) λf hf=>?_;simp only[dA,fv,or_false]at hf;rcases hf with rfl|rfl|rfl
 ·rw[e3]
  exact uy Tryz.underlying3 h.1.1 h.1.2
 ·rw[e3]
  exact uy Tryz.underlying3 h.2.1.1 h.2.1.2
 rw[e3];exact uy Tryz.underlying3 h.2.2.1 h.2.2.2
theorem af2:(208:TypeId)<aB.types.size:=of_decide_eq_true (by kernel_rfl)
set_option maxRecDepth 100000 in
def Ju:yN aB 208 bJ.Item where
 kv x:=aQ (iP x).toArray
 ok p:=cU.d_ p.1/\cU.d_ p.2.1/\cU.d_ p.2.2
 law:=deep_law_laid Cw (m:=2) J af2 (by kernel_rfl) (by kernel_rfl)
 key x h:=aew x h
 inj x y h:=by
  simp only[iP,lV,sv,gi,Jk,true_and,and_true]at h;exact qJ h.1 (qJ h.2.1 h.2.2)
theorem Sa{a b:Nat}(ha:a<=9223372036854775807)(hb:b<=9223372036854775807):iT.ok ((a:Int),(b:Int)):=by
 show cU.d_ (a:Int)/\cU.d_ (b:Int)
 exact⟨⟨by omega,by omega⟩,⟨by omega,by omega⟩⟩
theorem Mf(w:World):(zeroValue 75).run aB w= .ok (.int .u64 0) w:=by kernel_rfl
theorem nQ(w:World):(zeroValue 3).run aB w= .ok (av az 0) w:=by kernel_rfl
theorem Eu{x:Nat}(hx:x<18446744073709551616)(h:x.testBit 62=aD):bits .andNot .u64 (x:Int) 4611686018427387904=((x^^^2^62:Nat):Int):=by
 have e0:(4611686018427387904:Int)=((2^62:Nat):Int):=by decide
 rw[e0];show tQ.wrap ((xh 64 (x:Int)&&& ~~~ xh 64 ((2^62:Nat):Int)).toNat:Int)=_
 have hlt:x^^^2^62<2^64:=Jl hx aiT;have e:xh 64 (x:Int)&&& ~~~ xh 64 ((2^62:Nat):Int)=BitVec.ofNat 64 (x^^^2^62):=by
  rw[Yg,Yg]
  ext i hi
  simp only[BitVec.getElem_and,BitVec.getElem_not];rw[<-Pk,<-Pk,<-Pk,Pl,Pl,Pl];simp only[hi,decide_true,Bool.true_and,Nat.testBit_xor,Nat.testBit_two_pow]
  by_cases e:62=i
  subst e;rw[h];decide;rw[decide_eq_false e];simp
 rw[e,BitVec.toNat_ofNat,Nat.mod_eq_of_lt hlt,sc];omega
theorem YL{P:Program}(x j b:Nat)(k k':IntKind)(hb:k.bits=b)(hj:j<=b)(w:World):(iq .shr k (x:Int) k' (j:Int)).run P w= .ok (.int k ((x/2^j:Nat):Int)) w:=by
 have e:min j b=j:=by omega
 have h0:¬((j:Int)<0):=by omega
 have e2:(x:Int).fdiv (2^j)=((x/2^j:Nat):Int):=by
  rw[Int.fdiv_eq_ediv_of_nonneg _ (by have:(0:Int)<2^j:=Int.pow_pos aiT;omega)];simp
 simp only[iq,if_neg h0,hb,dq,e,e2,na]
theorem aex{y:Nat}(hy:y<18446744073709551616):bits .and .u64 (y:Int) 1=((y %2:Nat):Int):=by
 have h:=bits_nat .u64 64 aiT (λn h0 h1=>by rw[sc];omega) y 1 (by simpa using hy) aiT;rw[Nat.and_one_is_mod]at h;exact h.1
theorem zi(x k:Nat):x.testBit k=decide (x/2^k %2=1):=Nat.testBit_eq_decide_div_mod_eq ..
def ke(g:eb)(p d:Int):Nat:=Cb g ((fI g.aF p).drop (d.toNat+1)) 4611686018427387904
theorem Sb{g:eb}{body:List dy}{behind:Nat}(hb:behind<18446744073709551616):Cb g body behind<18446744073709551616:=by
 unfold Cb
 by_cases c:uR g body=0
 ·rw[if_pos c]
  have hg:b_ g=0:=by
   unfold uR at c
   by_cases c2:b_ g=0
   exact c2;rw[if_pos c2]at c;exact c
  have h60:¬60<body.length:=λh=>by
   unfold uR at c;rw[if_neg (by simpa using hg),if_pos h]at c;cases c
  have nK:F4 g.aR g.bC body=0:=by
   unfold uR at c;rw[if_neg (by simpa using hg),if_neg h60]at c;exact c
  have hn:=(cP hg).2.2.1;have ht:=(cP hg).2.1;refine oL (Jq hg (n:=g.bC.toNat) J).2 hb λx hx h1=>?_;rcases uS (Jo nK x hx)with h|h
  omega;omega
 rw[if_neg c];decide
def BA(t n:Int)(vp:Value)(gm:Nat):List Value:=[av az t,av az n,vp,.map (aj gm)]
def jP(lk:Int->Int->Nat)(f:RK->Option Value):Prop:=∀x v,f x=aj v->v=gK (lk x.1 x.2)
theorem PI(a b:Int)(w:World):(dh 272 #[(0,av az a),(1,av az b)]).run aB w= .ok (aQ #[av az a,av az b]) w:=by go_simp
theorem jP.put{lk:Int->Int->Nat}{f:RK->Option Value}(h:jP lk f)(x:RK):jP lk (λy=>if y=x then aj (gK (lk x.1 x.2))else f y):=by
 intro y v hv;dsimp only at hv
 by_cases c:y=x
 ·rw[if_pos c]at hv
  cases hv;rw[c]
 rw[if_neg c]at hv;exact h y v hv
theorem Ew(a:dy):(eA a).length=2:=rfl
theorem Jv{t n:Int}{vp v:Value}{gm j:Nat}(h:[av az t,av az n,vp][j]?=aj v):(BA t n vp gm).toArray[0+j]?=aj v:=by
 rw[cV]
 match j,h with
 |0,h=>exact h
 |1,h=>exact h
 |2,h=>exact h
theorem zj{l:List aT.Prod}{w0:World}{W:bO}{L:List cH}{vb:Nat->Value}{k i:Nat}{x:Option Nat}(ho:pZ w0 W)(hv:Ut (λq=>q<w0.heap.size) w0 vb l)(hk:k<=l.length)(hx:x.isSome=decide (k=l.length))(hi:L[i]?=aj (AW x)):∃b c,abw vb k x=ap b (fI l (k:Int)).length c/\(fI l (k:Int)).length<=c/\SlL W L (abw vb k x) (fI l (k:Int)).length ((fI l (k:Int)).flatMap eA):=by
 cases x with
 |some g=>
  have hk:k=l.length:=by simpa using hx
  subst hk;have e:fI l (l.length:Int)=[(2,0)]:=by unfold fI;rw[if_pos I]
  rw[e];exact⟨_,_,rfl,bx _,k_ hi (λj u h=>by simpa[eA]using h) (bx _) aiT⟩
 | none=>
  have mT:k<l.length:=by
   have:¬k=l.length:=by simpa using hx
   omega
  have e:fI l (k:Int)=(dc l (k:Int)).2:=by unfold fI;rw[if_neg J]
  rw[e];have h:=hv k mT;have hs:=h.flat (f:=eA) aiT;obtain⟨b,c,e2,e3,_⟩:=id h;exact⟨b,c,e2,e3,λw hm=>hs.gr (ho.mem hm)⟩
attribute [local irreducible] Op.shift Go.bits in
theorem Mg(g:eb)(hg:b_ g=0)(bp:Option Addr)(cp:Nat)(vb:Nat->Value)(w0:World)(hG:kj (λq=>q<w0.heap.size) w0 (dJ g.aR g.bC (ap bp g.aF.length cp)) g)(zU:Ut (λq=>q<w0.heap.size) w0 vb g.aF)(oo:0<g.aF.length->∃b off,bp=aj ⟨b,off,ak⟩/\∀i,i<g.aF.length->Rd w0 b (off+i*2) [av az (dc g.aF (i:Int)).1,vb i])
 (go gm c:Nat) (f:RK->Option Value) (it:bJ.Item) (T:Nat) (hT:T<=30) (hr:ey g.aF T it) (hd:it.2.1.toNat<(fI g.aF it.1).length) (hc:jP (ke g) f) (hcc:c<=1000000000000000) (w:World) (B:bO) (ho:pZ w0 B)
 (hm:Mem B [aP go (BA g.aR g.bC (ap bp g.aF.length cp) gm).toArray 245,fe iT gm f c] w):
 Calls aB 112 #[aJ (aj ⟨go,0,ak⟩),aQ (iP it).toArray] w (cY ⟨λ(x:(RK->Option Value)×Nat)=>jP (ke g) x.1/\x.2<=c+1,λ_=>gK (uV (ke g) it),λx=>[aP go (BA g.aR g.bC (ap bp g.aF.length cp) gm).toArray 245,fe iT gm x.1 x.2]⟩ B):=by
 obtain⟨p,d,lo⟩:=it;obtain⟨r1,r2,r3,r4,r5,r6⟩:=hr;dsimp only at r1 r2 r3 r4 r5 r6 hd;obtain⟨k,rfl⟩:=h_ r1;obtain⟨dn,rfl⟩:=h_ r3;obtain⟨ln,rfl⟩:=h_ r5;rw[dq]at hd;have hk:k<=g.aF.length:=by omega
 have Hw:=λw' (rq:Mem B [] w')=>sO g.aR g.bC bp cp g.aF vb w0 w' B k hk ho rq (λi hi=>let ⟨b,c,h,_⟩:=zU i hi;⟨b,_,c,h⟩) oo;have B2:=λvs body w' (rq:Gr w0 w') hs=>rF _ vs g body 4611686018427387904 w' (hG.gr rq) hs aiT;have hbr:=PI (k:Int) (dn:Int);have hlt:ke g (k:Int) (dn:Int)<18446744073709551616:=Sb aiT;have hb8:=mI (l:=g.aF) (p:=(k:Int)) (λq hq=>((cP hg).2.2.2.2.2 q hq).1);refine dm hm (args:=[aJ (aj ⟨go,0,ak⟩),aQ (iP ((k:Int),(dn:Int),(ln:Int))).toArray]) (n:=61) Tryz.func112 I I I ?_;refine cC (bz (bR I I I λg3=>?_));refine zL ?_
 repeat(first|refine GA ?_|refine gV (aC (v:=av az (k:Int)) aK.ty I (aH (i:=2) I I)) ?_|refine gV (aC (v:=av az (dn:Int)) aK.ty I (aH (i:=2) I I)) ?_|refine gV (bB I hbr) ?_)
 refine aY I λg5=>?_;refine zL ?_;refine gC 3 (cs':=#[av az (k:Int),av az (dn:Int)]) ?_;refine zL ?_;have Tz:iT.ok ((k:Int),(dn:Int)):=Sa (by have:=(cP hg).2.2.2.2.1;omega) J;have Tz:iT.ok ((k:Int),(dn:Int)):=Sa (by have:=(cP hg).2.2.2.2.1;omega) J;have Tz:iT.ok ((k:Int),(dn:Int)):=Sa (by have:=(cP hg).2.2.2.2.1;omega) J;have Tz:iT.ok ((k:Int),(dn:Int)):=Sa (by have:=(cP hg).2.2.2.2.1;omega) J;have IZ:=hc.put ((k:Int),(dn:Int));have KQ:ke g (k:Int) (dn:Int)=Cb g ((fI g.aF (k:Int)).drop (dn+1)) 4611686018427387904:=by unfold ke;rw[dq]
 have nU:=hc ((k:Int),(dn:Int));dsimp only at IZ nU;unfold uV;dsimp only;rw[dq];generalize hB0:ke g (k:Int) (dn:Int)=B0 at*
 try refine GA ?_
 cases hf:f ((k:Int),(dn:Int))with
 | some v=>
  have hv:=nU v hf;subst hv;clear Hw B2 IZ nU;refine dN ([aP go (BA g.aR g.bC (ap bp g.aF.length cp) gm).toArray 245,fe iT gm f c,aP g3 (aQ (iP ((k:Int),(dn:Int),(ln:Int))).toArray).cells 208,aP g5 #[av az (k:Int),av az (dn:Int)] 272]) (.calm 0 (.calm 1 (.calm 2 (.calm 3 (.calm 4 (.calm 5 (.calm 6 (.calm 7 (.calm 8 (.calm 9 (.calm 10 (.done)))))))))))) (λ_ h=>h) ?_
  repeat(first|refine GW ?_|(refine GN ?_;first|refine QW (aC (v:= .map (aj gm)) aK.ty I (aH (i:=0) I I)) ?_|refine QW (aO (i:=3) aK.ty I I I) ?_|refine QW (oJ (x:=((k:Int),(dn:Int))) iT bM.eq Mf (i:=1) I I I Tz) ?_))
  rw[hf];dsimp only[Yr,Ps]
  try refine GA ?_
  have hdv:B0/2^62<=B0:=Aw _ _;have ha1:=aex (y:=B0/2^62) J;have Bo:∀w,(iq .shr .u64 (B0:Int) .u64 62).run aB w= .ok (.int .u64 ((B0/2^62:Nat):Int)) w:=λw=>YL B0 62 64 .u64 .u64 I aiT w;have ry:∀w,(iq .shl .u64 1 .i64 (ln:Int)).run aB w= .ok (.int .u64 ((2^ln:Nat):Int)) w:=λw=>abp ln J w
  by_cases cb:B0.testBit 62=aD
  ·rw[if_pos cb]
   have hn:=Eu hlt cb;have fJ:B0^^^2^62<18446744073709551616:=Jl (n:=64) hlt aiT;have KN:=rA fJ (zb (m:=ln) J);have FY:B0/2^62 %2=1:=by rw[zi]at cb;exact of_decide_eq_true cb
   generalize B0/2^62=D1 at*;generalize B0^^^2^62=D2 at*;generalize 2^ln=D3 at*
   repeat(first|refine GC ?_|refine gV (o8 I I Bo) ?_|refine gV (nh I I ha1) ?_|refine gV (dg (b:=aE) I I (decide_eq_false J)) ?_|refine gV (R7 I I hn) ?_|refine gV (aC (v:=av az (ln:Int)) aK.ty I (aH (i:=2) I I)) ?_|refine gV (Dd I I ry) ?_|refine gV (yG I I KN) ?_|refine GB ?_)
   exact cJ I I λw hm=>hm.bV (S:=⟨λ(x:(RK->Option Value)×Nat)=>jP (ke g) x.1/\x.2<=c+1,λ_=>gK (D2|||D3),λx=>[aP go (BA g.aR g.bC (ap bp g.aF.length cp) gm).toArray 245,fe iT gm x.1 x.2]⟩) (f,c) ⟨hc,by omega⟩ [0,1] aiT I
  rw[if_neg cb];have Ct:B0/2^62 %2=0:=by
   rw[zi,decide_eq_true_eq]at cb;omega
  generalize B0/2^62=D1 at*
  repeat(first|refine GC ?_|refine gV (o8 I I Bo) ?_|refine gV (nh I I ha1) ?_|refine gV (dg (b:=aD) I I (decide_eq_true J)) ?_|refine GB ?_)
  exact cJ I I λw hm=>hm.bV (S:=⟨λ(x:(RK->Option Value)×Nat)=>jP (ke g) x.1/\x.2<=c+1,λ_=>gK B0,λx=>[aP go (BA g.aR g.bC (ap bp g.aF.length cp) gm).toArray 245,fe iT gm x.1 x.2]⟩) (f,c) ⟨hc,by omega⟩ [0,1] aiT I
 | none=>
  clear nU;refine dN ([aP go (BA g.aR g.bC (ap bp g.aF.length cp) gm).toArray 245,fe iT gm f c,aP g3 (aQ (iP ((k:Int),(dn:Int),(ln:Int))).toArray).cells 208,aP g5 #[av az (k:Int),av az (dn:Int)] 272]) (.calm 0 (.calm 1 (.calm 2 (.calm 3 (.calm 4 (.calm 5 (.calm 6 (.calm 7 (.calm 8 (.calm 9 (.calm 10 (.done)))))))))))) (λ_ h=>h) ?_
  repeat(first|refine GW ?_|(refine GN ?_;first|refine QW (aC (v:= .map (aj gm)) aK.ty I (aH (i:=0) I I)) ?_|refine QW (aO (i:=3) aK.ty I I I) ?_|refine QW (oJ (x:=((k:Int),(dn:Int))) iT bM.eq Mf (i:=1) I I I Tz) ?_))
  rw[hf];dsimp only[Yr,Ps]
  try refine GA ?_
  refine dN ([aP go (BA g.aR g.bC (ap bp g.aF.length cp) gm).toArray 245,aP g3 (aQ (iP ((k:Int),(dn:Int),(ln:Int))).toArray).cells 208]) (.calm 0 (.calm 1 (.calm 2 (.calm 3 (.calm 4 (.calm 5 (.calm 6 (.calm 7 (.calm 8 (.calm 9 (.calm 11 (.calm 12 (.calm 13 (.one 10 (.calm 14 (.one 15 (.calm 16 (.calm 17 (.calm 18 (.calm 19 (.done))))))))))))))))))))) (bW [0,2]) ?_
  repeat(first|(refine GN ?_;first|refine QW QP ?_|refine QW (a8 aK.ty I (cs:=[av az g.aR,av az g.bC,ap bp g.aF.length cp]) I (λj v h=>aH (i:=0) I (Jv h))) ?_|refine QW (aC (v:=av az (k:Int)) aK.ty I (aH (i:=1) I I)) ?_|refine QW (aC (v:=av az (dn:Int)) aK.ty I (aH (i:=1) I I)) ?_|refine QW (eT (r:=((dn+1:Nat):Int)) I I J J J) ?_|refine GX ?_)|refine GW ?_)
  refine aL I ?_;refine aV (fO aI.en I I I) (λw hm=>Hw _ (hm.pick [] aiT I)) I I I ?_;rintro x hx
  conv=>arg 8;simp only[zJ,cK,ret,id_eq,zh]
  conv=>arg 7;simp only[zh]
  obtain⟨bb,cc,hv,hlc,ry⟩:=zj (W:=B) (i:=4) (L:=[aP go (BA g.aR g.bC (ap bp g.aF.length cp) gm).toArray 245,fe iT gm f c,aP g3 (aQ (iP ((k:Int),(dn:Int),(ln:Int))).toArray).cells 208,aP g5 #[av az (k:Int),av az (dn:Int)] 272,AW x]) ho zU hk hx rfl;rw[hv]at ry⊢;have qf:((fI g.aF (k:Int)).drop (dn+1)).take ((fI g.aF (k:Int)).length-(dn+1))=(fI g.aF (k:Int)).drop (dn+1):=gB (by rw[List.length_drop];exact bx _);have kg:=λw hm=>Dq (i:=dn+1) (j:=(fI g.aF (k:Int)).length) Ew (ry w hm) J (bx _);rw[qf]at kg;generalize ON:(fI g.aF (k:Int)).length=m at*;refine aM (bW [0,2]) ?_
  repeat(first|(refine GN ?_;first|refine QW QP ?_|refine QW (rm (i:=dn+1) bM.eq aK.ty I I J hlc) ?_|refine GX ?_)|refine GW ?_)
  refine aL I ?_;refine aV (rX aI.en I I I I) (λw hm=>B2 _ _ _ (ho.mem hm) (kg w hm)) I I I ?_;intro _ _;refine zL ?_;rw[<-KQ];refine aM (bW [0,2]) ?_
  try refine GW ?_
  try refine GA ?_
  refine dN ([aP go (BA g.aR g.bC (ap bp g.aF.length cp) gm).toArray 245,aP g5 #[av az (k:Int),av az (dn:Int)] 272]) (.calm 0 (.calm 1 (.calm 2 (.calm 3 (.calm 4 (.calm 5 (.one 6 (.done)))))))) (bW [0,3]) ?_
  repeat(first|refine GW ?_|(refine GN ?_;first|refine QW (aC (v:= .map (aj gm)) aK.ty I (aH (i:=0) I I)) ?_|refine QW (aO (i:=1) aK.ty I I I) ?_))
  refine aL I ?_;refine l_ (i:=1) (x:=((k:Int),(dn:Int))) (v:=gK B0) iT bM.eq I I I I Tz J ?_;refine zL ?_;rw[hf];dsimp only[Ps];refine aM (bW [0,3]) ?_
  try refine GW ?_
  try refine GA ?_
  have hdv:B0/2^62<=B0:=Aw _ _;have ha1:=aex (y:=B0/2^62) J;have Bo:∀w,(iq .shr .u64 (B0:Int) .u64 62).run aB w= .ok (.int .u64 ((B0/2^62:Nat):Int)) w:=λw=>YL B0 62 64 .u64 .u64 I aiT w;have ry:∀w,(iq .shl .u64 1 .i64 (ln:Int)).run aB w= .ok (.int .u64 ((2^ln:Nat):Int)) w:=λw=>abp ln J w
  by_cases cb:B0.testBit 62=aD
  ·rw[if_pos cb]
   have hn:=Eu hlt cb;have fJ:B0^^^2^62<18446744073709551616:=Jl (n:=64) hlt aiT;have KN:=rA fJ (zb (m:=ln) J);have FY:B0/2^62 %2=1:=by rw[zi]at cb;exact of_decide_eq_true cb
   generalize B0/2^62=D1 at*;generalize B0^^^2^62=D2 at*;generalize 2^ln=D3 at*
   repeat(first|refine GC ?_|refine gV (o8 I I Bo) ?_|refine gV (nh I I ha1) ?_|refine gV (dg (b:=aE) I I (decide_eq_false J)) ?_|refine gV (R7 I I hn) ?_|refine gV (aC (v:=av az (ln:Int)) aK.ty I (aH (i:=2) I I)) ?_|refine gV (Dd I I ry) ?_|refine gV (yG I I KN) ?_|refine GB ?_)
   exact cJ I I λw hm=>hm.bV (S:=⟨λ(x:(RK->Option Value)×Nat)=>jP (ke g) x.1/\x.2<=c+1,λ_=>gK (D2|||D3),λx=>[aP go (BA g.aR g.bC (ap bp g.aF.length cp) gm).toArray 245,fe iT gm x.1 x.2]⟩) (_,c+1) ⟨IZ,bx _⟩ [0,1] aiT I
  rw[if_neg cb];have Ct:B0/2^62 %2=0:=by
   rw[zi,decide_eq_true_eq]at cb;omega
  generalize B0/2^62=D1 at*
  repeat(first|refine GC ?_|refine gV (o8 I I Bo) ?_|refine gV (nh I I ha1) ?_|refine gV (dg (b:=aD) I I (decide_eq_true J)) ?_|refine GB ?_)
  exact cJ I I λw hm=>hm.bV (S:=⟨λ(x:(RK->Option Value)×Nat)=>jP (ke g) x.1/\x.2<=c+1,λ_=>gK B0,λx=>[aP go (BA g.aR g.bC (ap bp g.aF.length cp) gm).toArray 245,fe iT gm x.1 x.2]⟩) (_,c+1) ⟨IZ,bx _⟩ [0,1] aiT I
end cI
namespace cI
open Go.RowKit cU dS bJ Go.Lib Go.Sort
theorem abx(x:Int)(w:World):Calls aB 160 #[av az x] w λe w'=>e= .returned (.bool aE)/\w'=w:=by
 go_enter Tryz.func160,Tryz.ntmps160
 go_wp2
 go_ret
 exact⟨by simp,rfl⟩
theorem Uu(x y:Int)(w:World):Calls aB 132 #[av az x,av az y] w λe w'=>e= .returned (av az (uT x y))/\w'=w:=by
 go_enter Tryz.func132,Tryz.ntmps132
 go_wp2_with (go_at_call 160;refine(abx _ _).mono ?_;rintro e w' ⟨rfl,hw⟩;rw[hw])
 all_goals (go_ret;refine⟨?_,rfl⟩;unfold uT;(repeat' split)<;>first|rfl|(exfalso;omega))
def orI(a b c:Int):Int:=if a≠0 then a else if b≠0 then b else c
theorem af3{a b c:Int}(h:¬a=0):orI a b c=a:=if_pos h
theorem af4{b c:Int}(h:¬b=0):orI 0 b c=b:=by unfold orI;rw[if_neg (by simp),if_pos h]
theorem adg{c:Int}:orI 0 0 c=c:=by unfold orI;rw[if_neg (by simp),if_neg (by simp)]
theorem ahB(g:Nat)(a b c:Int)(w:World)(h0:w.cell? ⟨g,0,ak⟩=aj (av az a))(h1:w.cell? ⟨g,1,ak⟩=aj (av az b))(h2:w.cell? ⟨g,2,ak⟩=aj (av az c)):
 Calls aB 131 #[ap (aj ⟨g,0,ak⟩) 3 3] w λe w'=>e= .returned (av az (orI a b c))/\w'=w:=by
 go_enter Tryz.func131,Tryz.ntmps131
 go_wp2
 by_cases ha:a=0
 ·subst ha
  refine wp_loop_rounds 4 ?_;rw[rounds_succ]
  go_wp2
  by_cases hb:b=0
  ·subst hb
   rw[rounds_succ]
   go_wp2
   by_cases hc:c=0
   ·subst hc
    rw[rounds_succ]
    go_wp2
    rw[rounds_succ]
    go_wp2
    go_ret
    exact⟨by rw[adg];rfl,rfl⟩
   rw[rounds_succ]
   go_wp2
   go_ret
   exact⟨by rw[adg];rfl,rfl⟩
  rw[rounds_succ]
  go_wp2
  go_ret
  exact⟨by rw[af4 hb];rfl,rfl⟩
 ·refine wp_loop_rounds 1 ?_
  rw[rounds_succ]
  go_wp2
  go_ret
  exact⟨by rw[af3 ha];rfl,rfl⟩
theorem af5(o1 o2:Obj)(a b c:Int)(T:TypeId)(w:World):
 Calls aB 131 #[ap (aj ⟨w.heap.size+1+1,0,ak⟩) 3 3] (((w.alloc o1).alloc o2).alloc (.cells #[av az a,av az b,av az c] T)).drew λe w'=>e= .returned (av az (orI a b c))/\w'=(((w.alloc o1).alloc o2).alloc (.cells #[av az a,av az b,av az c] T)).drew:=by
 have hg:(((w.alloc o1).alloc o2).alloc (.cells #[av az a,av az b,av az c] T)).drew.heap[w.heap.size+1+1]?=aj (.cells #[av az a,av az b,av az c] T (0,0)):=by
  have h:=heap_alloc_new ((w.alloc o1).alloc o2) (.cells #[av az a,av az b,av az c] T);have e:((w.alloc o1).alloc o2).heap.size=w.heap.size+1+1:=by
   show((w.heap.push o1).push o2).size=_
   rw[Pj,Pj]
  rw[e]at h;exact h
 exact ahB _ a b c _ (cell_of_row _ _ 0 _ T (0,0) hg) (cell_of_row _ _ 1 _ T (0,0) hg) (cell_of_row _ _ 2 _ T (0,0) hg)
end cI
namespace cI
open Go.RowKit cU dS bJ Go.Lib Go.Sort
theorem YM(a b:Obj)(w:World):((w.alloc a).alloc b).heap[w.heap.size]?=aj a/\((w.alloc a).alloc b).heap[w.heap.size+1]?=aj b:=by
 have e:(w.alloc a).heap.size=w.heap.size+1:=by
  show(w.heap.push a).size=_
  rw[Pj]
 constructor
 ·rw[heap_alloc_old (w.alloc a) b J]
  exact heap_alloc_new w a
 have h:=heap_alloc_new (w.alloc a) b;rw[e]at h;exact h
theorem PJ(a b c:Obj)(w:World):(((w.alloc a).alloc b).alloc c).drew=grow (w.drewN 1) #[a,b,c]:=by
 rw[alloc_eq_grow,alloc_eq_grow,alloc_eq_grow,grow_grow,grow_grow];rfl
theorem aby(x y:bJ.Item)(w:World):Calls aB 114 #[aQ (iP x).toArray,aQ (iP y).toArray] w λe w'=>e= .returned (av az (L8 x y))/\∃q os',w'=grow (w.drewN q) os':=by
 obtain⟨x1,x2,x3⟩:=x;obtain⟨y1,y2,y3⟩:=y;have ho:L8 (x1,x2,x3) (y1,y2,y3)=orI (uT x1 y1) (uT x2 y2) (uT x3 y3):=rfl;rw[ho];clear ho;unfold iP;dsimp only;obtain⟨t1,t2⟩:=YM (.cells #[av az x1,av az x2,av az x3] 208) (.cells #[av az y1,av az y2,av az y3] 208) w;have k1:=cell_of_row _ _ 0 _ _ (0,0) t1;have k2:=cell_of_row _ _ 1 _ _ (0,0) t1;have k3:=cell_of_row _ _ 2 _ _ (0,0) t1;have k4:=cell_of_row _ _ 0 _ _ (0,0) t2;have k5:=cell_of_row _ _ 1 _ _ (0,0) t2;have k6:=cell_of_row _ _ 2 _ _ (0,0) t2;clear t1 t2
 go_enter Tryz.func114,Tryz.ntmps114
 go_wp2
 go_region_held (λw'=>w'.cell? ⟨w.heap.size,0,ak⟩=aj (av az x1)/\w'.cell? ⟨w.heap.size,1,ak⟩=aj (av az x2)/\w'.cell? ⟨w.heap.size,2,ak⟩=aj (av az x3)/\w'.cell? ⟨w.heap.size+1,0,ak⟩=aj (av az y1)/\w'.cell? ⟨w.heap.size+1,1,ak⟩=aj (av az y2)/\w'.cell? ⟨w.heap.size+1,2,ak⟩=aj (av az y3)) (go_keep) (first|(go_at_call 132;refine(Uu _ _ _).mono ?_;rintro e w' ⟨rfl,rfl⟩)|(go_at_call 131;have hzz:=(af5 (.cells #[av az x1,av az x2,av az x3] 208) (.cells #[av az y1,av az y2,av az y3] 208) (uT x1 y1) (uT x2 y2) (uT x3 y3) 3 w);refine hzz.mono ?_;clear hzz;rintro e w' ⟨rfl,rfl⟩))
 go_wp2
 go_ret
 refine⟨rfl,1,#[.cells #[av az x1,av az x2,av az x3] 208,.cells #[av az y1,av az y2,av az y3] 208,.cells #[av az (uT x1 y1),av az (uT x2 y2),av az (uT x3 y3)] 3],?_⟩;exact PJ _ _ _ w
end cI
namespace cI
open Go.RowKit cU dS aT dP dL bJ
theorem PL(t n:Int)(vp:Value)(gm:Nat)(w:World):(dh 245 #[(0,dJ t n vp),(1,.map (aj gm))]).run aB w= .ok (aQ (BA t n vp gm).toArray) w:=by kernel_rfl
def abz(t n:Int)(vp:Value):Spec (Nat×Nat):=⟨λ_=>True,λx=>aJ (aj ⟨x.1,0,ak⟩),λx=>[fe iT x.2 (λ_=>ak) 0,aP x.1 (BA t n vp x.2).toArray 245]⟩
theorem Jw(t n:Int)(vp:Value)(w:World):Calls aB 81 #[dJ t n vp] w (cB (abz t n vp) w):=by
 have hb:=PL t n vp;refine enter (args:=[dJ t n vp]) (n:=7) Tryz.func81 I I I ?_;refine cC (bz (bR I I I λg1=>?_));refine zL ?_
 repeat(first|refine GA ?_|refine gV (aO (i:=0) aK.ty I I I) ?_)
 refine xI iT I λgm=>?_;refine zL ?_
 repeat(first|refine GA ?_|refine gV (bB I (hb _)) ?_)
 refine bR I I I λgo=>?_;refine zL ?_
 try refine GA ?_
 exact cJ I I λw hm=>hm.meets (S:=abz t n vp) (go,gm) trivial [1,2] aiT I
end cI
namespace cI
open Go.RowKit cU dS aT dP dL bJ
theorem Jx{x:Int}(h0:0<=x)(h1:x<256):Ji.wrap x=(((fE x.toNat).toNat:Nat):Int):=by
 obtain⟨n,rfl⟩:=h_ h0;rw[dq,Jh];simp
theorem Hx(l:List bJ.Item):(ik l).length=3*l.length:=by
 induction l with
 |nil=>rfl
 |cons x r ih=>
  have:ik (x::r)=[fE x.1.toNat,fE x.2.1.toNat,fE x.2.2.toNat]++ik r:=rfl;rw[this,bI,ih,de];show 3+3*r.length=3*(r.length+1)
  omega
theorem PM{l:List bJ.Item}{k:Nat}(h:k<l.length):ik (l.take (k+1))=ik (l.take k)++[fE l[k].1.toNat,fE l[k].2.1.toNat,fE l[k].2.2.toNat]:=by
 unfold ik;rw[iv h,fC];rfl
theorem Ex(vl:Value)(l:List bJ.Item)(w:World)(hl:Sl w vl l.length (l.flatMap iP))(hb:∀it∈l,0<=it.1/\it.1<256/\0<=it.2.1/\it.2.1<256/\0<=it.2.2/\it.2.2<256)(hn:l.length<=20000):
 Calls aB 83 #[vl] w (cB (ret (str (ik l))) w):=by
 obtain⟨bl,cl,rfl,nU,wt,FM⟩:=hl;unfold maxLen at wt;refine enter (args:=[ap bl l.length cl]) (n:=27) Tryz.func83 I I I ?_
 try refine GA ?_
 refine jf 5 1 ?_
 conv=>arg 7;simp only[zA,zB,zC,zD,zE,zF,zG,zH,zI,cK,ret,id_eq]
 refine ea (ι:=Nat×Value) (λ(k,_)=>k<=l.length) (λ(k,v)=>[(3,v),(6,ap bl l.length cl),(7,av az l.length),(8,av az (k:Int))])
  (λ(k,v)=>[a_ 5 1 v (ik (l.take k)).length ((ik (l.take k)).map Wl)]) (λ(k,_)=>l.length-k) (0,ap ak 0 0) (bH _) ?_
 rintro⟨k,v⟩ i1;dsimp only at i1⊢
 by_cases c1:k<l.length
 ·obtain⟨b,off,rfl,eL⟩:=FM J
  have du:=λL=>gO (L:=L) lD eL c1;have Ey:∀(L:List cH) (j:Nat) (u:Value),(iP l[k])[j]?=aj u->At (w:bO) L ⟨b,off+k*3+j,ak⟩ u:=du;clear du FM eL;obtain⟨b1,b2,b3,b4,b5,b6⟩:=hb l[k] (cD c1);have vd:=PM c1;have w4:(ik (l.take k)).length<=60000:=by rw[Hx,iZ];omega
  generalize l[k]=x at*;obtain⟨p,d,lo⟩:=x;dsimp only at b1 b2 b3 b4 b5 b6 vd;have e1:=Jx b1 b2;have e2:=Jx b3 b4;have e3:=Jx b5 b6;generalize fE p.toNat=y1 at*;generalize fE d.toNat=y2 at*;generalize fE lo.toNat=y3 at*;generalize hN:ik (l.take k)=N at*
  repeat(first|refine GA ?_|refine gV (aX bM.eq aK.ty I I c1) ?_|refine gV (a8 (cs:=iP (p,d,lo)) aK.ty I I (Ey _)) ?_)
  refine aY I λg5=>?_;refine zL ?_;refine gC 1 (cs':=(iP (p,d,lo)).toArray) ?_;refine zL ?_
  repeat(first|refine GA ?_|refine gV (aC (v:=av az p) aK.ty I (aH (i:=1) I I)) ?_|refine gV (aC (v:=av az d) aK.ty I (aH (i:=1) I I)) ?_|refine gV (aC (v:=av az lo) aK.ty I (aH (i:=1) I I)) ?_|refine gV (iQ bM.eq bM.eq I e1) ?_|refine gV (iQ bM.eq bM.eq I e2) ?_|refine gV (iQ bM.eq bM.eq I e3) ?_)
  refine Rk [Wl y1,Wl y2,Wl y3] I I I (by intro v hv;simp at hv;rcases hv with rfl|rfl|rfl<;>rfl) I I λg22=>?_;refine zL ?_;refine eK (i:=0) (e:=5) (size:=1) (bytes:=1) (m:=N.length) (xs:=N.map Wl) (k:=3) (ys:=[Wl y1,Wl y2,Wl y3]) I (k_ (i:=2) I (λj u h=>by simpa using h) (bx 3) aiT) I I I (by intro u hu;simp at hu;rcases hu with rfl|rfl|rfl<;>rfl) J J I λv'=>?_;refine zL ?_
  try refine GA ?_
  refine dj [0] ?_;exact bY (k+1,v') (by show k+1<=l.length;omega) (by show l.length-(k+1)<l.length-k;omega) (hl:=by dsimp only;rw[vd,bI,eV];rfl)
 ·obtain rfl:k=l.length:=by omega
  rw[mH]
  repeat(first|refine GA ?_|refine gV (Th bM.eq bM.eq bM.eq I I (lR (i:=0) I)) ?_)
  exact eM
theorem F5(T N:Nat)(hT:T<=1000)(hN:N<=1000)(vp:Value)(w:World):
 Calls aB 85 #[dJ (T:Int) (N:Int) vp] w (cB (cK 156 2 (mK T N).length ((mK T N).flatMap eA) id) w):=by
 have FY:=λ(q:Int)=>Ht 1 q;have NK:=λ(q:Int)=>Ht 2 q;refine enter (args:=[dJ (T:Int) (N:Int) vp]) (n:=29) Tryz.func85 I I I ?_;refine cC (bz (bR I I I λg1=>?_));refine zL ?_
 repeat(first|refine GA ?_|refine gV (aC (v:=av az (T:Int)) aK.ty I (aH (i:=0) I I)) ?_)
 refine jf 156 2 ?_
 conv=>arg 7;simp only[zA,zB,zC,zD,zE,zF,zG,zH,zI,cK,ret,id_eq]
 refine ea (ι:=Nat×Value) (λ(k,_)=>k<=T) (λ(k,v)=>[(1,aJ (aj ⟨g1,0,ak⟩)),(3,v),(7,av az (T:Int)),(8,av az (k:Int))])
  (λ(k,v)=>[aP g1 (dJ (T:Int) (N:Int) vp).cells 34,a_ 156 2 v ((eh k).map (λn:Nat=>((1:Int),(n:Int)))).length (((eh k).map (λn:Nat=>((1:Int),(n:Int)))).flatMap eA)]) (λ(k,_)=>T-k) (0,ap ak 0 0) (bH _) ?_
 rintro⟨k,v⟩ i1;dsimp only at i1⊢
 by_cases c1:k<T
 ·have vd:(eh (k+1)).map (λn:Nat=>((1:Int),(n:Int)))=(eh k).map (λn:Nat=>((1:Int),(n:Int)))++[((1:Int),(k:Int))]:=by rw[ye,eV];rfl
  have w4:((eh k).map (λn:Nat=>((1:Int),(n:Int)))).length=k:=by rw[dF,pH]
  generalize hA:(eh k).map (λn:Nat=>((1:Int),(n:Int)))=A at*
  repeat(first|refine GA ?_|refine gV (bB I (FY _)) ?_)
  refine ju (i:=1) I I I I I I I (λz h=>by cases h;rfl) J J I λz v'=>?_;refine zL ?_
  try refine GA ?_
  exact bY (k+1,v') (by show k+1<=T;omega) (by show T-(k+1)<T-k;omega) (hl:=by dsimp only;rw[vd,bI,fC];rfl)
 obtain rfl:k=T:=by omega
 have w4:((eh k).map (λn:Nat=>((1:Int),(n:Int)))).length=k:=by rw[dF,pH]
 have hS:mK k N=(eh k).map (λn:Nat=>((1:Int),(n:Int)))++(eh N).map (λn:Nat=>((2:Int),(n:Int))):=rfl;generalize mK k N=S at*;generalize hA:(eh k).map (λn:Nat=>((1:Int),(n:Int)))=A at*
 repeat(first|refine GA ?_|refine gV (aC (v:=av az (N:Int)) aK.ty I (aH (i:=0) I I)) ?_)
 refine nZ (ι:=Nat×Value) (λ(j,_)=>j<=N) (λ(j,v)=>[(3,v),(18,av az (N:Int)),(19,av az (j:Int))])
  (λ(j,v)=>[aP g1 (dJ (k:Int) (N:Int) vp).cells 34,a_ 156 2 v (A++(eh j).map (λn:Nat=>((2:Int),(n:Int)))).length ((A++(eh j).map (λn:Nat=>((2:Int),(n:Int)))).flatMap eA)]) (λ(j,_)=>N-j) (0,v) (bH _) (by repeat' (first|exact bZ|refine bX I ?_)) (by simp only[List.range_zero,qI,dW]) ?_
 rintro⟨j,v⟩ j1;dsimp only at j1⊢
 by_cases c2:j<N
 ·have vd:A++(eh (j+1)).map (λn:Nat=>((2:Int),(n:Int)))=(A++(eh j).map (λn:Nat=>((2:Int),(n:Int))))++[((2:Int),(j:Int))]:=by rw[ye,eV,eD];rfl
  have aiw:(A++(eh j).map (λn:Nat=>((2:Int),(n:Int)))).length<=2000:=by rw[bI,dF,pH];omega
  generalize hD:A++(eh j).map (λn:Nat=>((2:Int),(n:Int)))=D at*
  repeat(first|refine GA ?_|refine gV (bB I (NK _)) ?_)
  refine ju (i:=1) I I I I I I I (λz h=>by cases h;rfl) J J I λz v'=>?_;refine zL ?_
  try refine GA ?_
  exact bY (j+1,v') (by show j+1<=N;omega) (by show N-(j+1)<N-j;omega) (hl:=by dsimp only;rw[vd,bI,fC];rfl)
 obtain rfl:j=N:=by omega
 rw[<-hS]
 try refine GA ?_
 exact cJ I I λw hm=>hm.meets (S:=cK 156 2 S.length (S.flatMap eA) id) v trivial [1] aiT I
end cI
namespace cI
open Go.RowKit cU dS aT dP dL bJ cT
def Jy:wL bJ.Item:=yM iP 3 (λ_=>rfl) (λ_=>True)
theorem Jz{κ τ:Type}[DecidableEq κ][DecidableEq τ](f:κ->τ)(x:κ):∀(D:List κ),(∀y∈D,f y=f x->y=x)->idx (D.map f) (f x)=idx D x
 |[],_=>rfl
 | y::D,h=>by
  have ih:=Jz f x D λz hz=>h z (kM _ hz);unfold idx at ih⊢;rw[gh,Yo,Yo,ih]
  by_cases e:y=x
  subst e;simp;have:¬f y=f x:=λe2=>e (h y (gd ..) e2);rw[show(f y==f x)=aE by simpa using this,show(y==x)=aE by simpa using e]
def wB(s:List bJ.Item):Prop:=∀it∈s,0<=it.1/\it.1<256/\0<=it.2.1/\it.2.1<256/\0<=it.2.2/\it.2.2<256
theorem Uv{S:List (List bJ.Item)}{s:List bJ.Item}(hS:∀t∈S,wB t)(hs:wB s):ik s∈S.map ik↔s∈S:=by
 constructor
 ·intro h
  obtain⟨t,ht,e⟩:=eX.1 h;rw[<-Et (hS t ht) hs e];exact ht
 exact List.mem_map_of_mem
def stL(g6 gm g7:Nat)(vS vN:Value)(wC:List Value)(F:Nat->Prop)(S:List (List bJ.Item)):List cH:=
 [aP g6 #[.map (aj gm)] 109,fe ib gm (kw (S.map ik)) S.length,aP g7 #[vS,vN] 140,a_ 203 1 vS S.length wC,ef (bL Jy) F (wC.map λv=>[v]) S]
theorem zk{w:World}{e:TypeId}{size n:Nat}{v:Value}{xs:List Value}(h:(a_ e size v n xs).holds w):∀k,v.ownBlock=aj k->k<w.heap.size:=λk hk=>(a_ e size v n xs).lt w h k (.inl hk)
theorem Uw{w:World}{v:Value}{l:List bJ.Item}(h:(a_ 208 3 v l.length (l.flatMap iP)).holds w):(bL Jy).is (λk=>v.ownBlock=aj k) w [v] l:=
 ⟨v,rfl,jW.of_flat (Sl.dB h) (λ_ _=>trivial) (λ_ h=>h) (λa n cp hv=>by rw[hv];rfl)⟩
theorem BB(g6 gm g7:Nat)(vS vN:Value)(wC:List Value)(F:Nat->Prop)(S:List (List bJ.Item))(vl:Value)(s:List bJ.Item)(hS:∀t∈S,wB t)(hs:wB s)(hSl:S.length<=1000)(ry:s.length<=20000)(w:World)(B:bO)
 (hm:Mem B (stL g6 gm g7 vS vN wC F S++[a_ 208 3 vl s.length (s.flatMap iP)]) w):
 Calls aB 82 #[vl,aJ (aj ⟨g6,0,ak⟩),aJ (aj ⟨g7,0,ak⟩)] w (cY ⟨λ(_:Value×List Value×(Nat->Prop))=>True,λ_=>av az ((jb S s).1:Int),λx=>stL g6 gm g7 x.1 vN x.2.1 x.2.2 (jb S s).2⟩ B):=by
 have BC:=Uv hS hs;have hix:=Jz ik s S λt ht e=>Et (hS t ht) hs e;have lq:ib.ok (ik s):=by
  show(ik s).length<=9223372036854775807
  rw[Hx];omega
 unfold stL at hm;refine dm hm (args:=[vl,aJ (aj ⟨g6,0,ak⟩),aJ (aj ⟨g7,0,ak⟩)]) (n:=30) Tryz.func82 I I I ?_;refine iu (i:=3) I fW λgJ=>?_;obtain⟨aS,cS,rfl,-⟩:=gJ
 try refine GA ?_
 refine dN ([aP g6 #[.map (aj gm)] 109,fe ib gm (kw (S.map ik)) S.length,a_ 208 3 vl s.length (s.flatMap iP)]) (.calm 0 (.calm 1 (.calm 2 (.calm 3 (.calm 4 (.calm 5 (.calm 6 (.calm 7 (.calm 8 (.done)))))))))) (bW [0,1,5]) ?_
 repeat(first|refine GW ?_|(refine GN ?_;first|refine QW (aC (v:= .map (aj gm)) aK.ty I (aH (i:=0) I I)) ?_))
 refine ow I (hZ aI.en I I) (λw hm=>Ex vl s w (Sl.dB (hm.get (i:=2) I)) hs ry) I I I ?_
 by_cases c:s∈S
 ·have hst:jb S s=(idx S s,S):=if_pos c
  rw[hst]
  repeat(first|refine GW ?_|(refine GN ?_;first|refine QW (uC (K:=ib) (x:=ik s) bM.eq nQ (i:=1) I I I lq (BC.2 c)) ?_))
  rw[hix]
  try refine GA ?_
  exact cJ I I λw hm=>hm.bV (S:=⟨λ(_:Value×List Value×(Nat->Prop))=>True,λ_=>av az (idx S s:Int),λx=>stL g6 gm g7 x.1 vN x.2.1 x.2.2 S⟩) (ap aS S.length cS,wC,F) trivial [0,1,2,3,4] aiT I
 ·have hst:jb S s=(S.length,S++[s]):=if_neg c
  rw[hst];have hn:ik s∉S.map ik:=λh=>c (BC.1 h);have F3:=G_ hn;have af6:kw (S.map ik) (ik s)=none:=if_neg hn;rw[dF]at F3;clear hix BC
  repeat(first|refine GW ?_|(refine GN ?_;first|refine QW (uD (K:=ib) (x:=ik s) bM.eq nQ (i:=1) I I I lq hn) ?_))
  repeat(first|refine GA ?_|refine gV (aC (v:=ap aS S.length cS) aK.ty I (aH (i:=2) I I)) ?_)
  refine dN ([aP g6 #[.map (aj gm)] 109,a_ 208 3 vl s.length (s.flatMap iP)]) (.calm 0 (.calm 1 (.calm 2 (.calm 3 (.one 4 (.done)))))) (bW [0,5]) ?_
  repeat(first|refine GW ?_|(refine GN ?_;first|refine QW (aC (v:= .map (aj gm)) aK.ty I (aH (i:=0) I I)) ?_))
  refine ow I (hZ aI.en I I) (λw hm=>Ex vl s w (Sl.dB (hm.get (i:=1) I)) hs ry) I I I ?_
  try refine GW ?_
  refine aL I ?_;refine l_ (i:=1) (x:=ik s) (v:=av az (S.length:Int)) ib bM.eq I I I I lq J ?_;refine zL ?_;rw[F3,af6,if_neg aiT];refine aM (bW [0,5]) ?_
  try refine GW ?_
  repeat(first|refine GA ?_|refine gV (aC (v:=ap aS S.length cS) aK.ty I (aH (i:=2) I I)) ?_)
  refine aU (i:=5) I λNJ II=>?_;refine jT (i:=3) I I NJ II I I (λz h=>by cases h;rfl) J J I λz vS'=>?_;refine zL ?_;refine pa (ef (bL Jy) (λk=>F k\/vl.ownBlock=aj k) ((wC.map λv=>[v])++[[vl]]) (S++[s])) 5 4 [0,1,2,3] aiT I I I (λk hk=>hk.elim (λh=>by cases h) λh=>h.elim (λh=> .inr (.inr h)) λh=> .inl (.inl h)) (λw hr he=>mA he (Uw hr) (zk hr)) ?_;refine zL ?_
  try refine GA ?_
  refine aU (i:=3) I λkT lC=>bU (i:=2) I I I kT lC I ?_;refine zL ?_
  try refine GA ?_
  exact cJ I I λw hm=>hm.bV (S:=⟨λ(_:Value×List Value×(Nat->Prop))=>True,λ_=>av az (S.length:Int),λx=>stL g6 gm g7 x.1 vN x.2.1 x.2.2 (S++[s])⟩) (vS',wC++[vl],λk=>F k\/vl.ownBlock=aj k) trivial [0,1,2,3,4] aiT (by dsimp only[stL];rw[eV,eV,bI];rfl)
end cI
namespace cT
section
variable(A:uA)(bl:Nat->Nat)
def Ez(Q:List Nat)(tq:Int):List Nat:=if bl tq.toNat∈Q.map bl then Q else Q++[tq.toNat]
def pN(Q:List Nat)(tq:Int):List Nat×Int:=if val bl tq=0 then(Q,-1)else(Ez bl Q tq,(idx ((Ez bl Q tq).map bl) (bl tq.toNat):Int))
def kW(q:Nat)(Q:List Nat):Nat->List Nat×List Int
 |0=>(Q,[])
 |k+1=>((pN bl (kW q Q k).1 (A.d q k)).1,(kW q Q k).2++[(pN bl (kW q Q k).1 (A.d q k)).2])
def vec(l:List Int):Row:=yg λb:Fin 256=>l.getD b 0
def w6:Nat->Nat->List Nat->List Row->List Nat×List Row
 |0,_,Q,out=>(Q,out)
 |f+1,n,Q,out=>if n<Q.length then w6 f (n+1) (kW A bl (Q.getD n 0) Q 256).1 (out++[vec (kW A bl (Q.getD n 0) Q 256).2])else(Q,out)
def qh:List Nat×List Row:=w6 A bl (A.n+1) 0 [0] []
end
def PN(A:uA):uA:=⟨(qh A (dO A)).1.length,λk b=>((qh A (dO A)).2.getD k (ee 256 0)).toList.getD b 0,λk=>((qh A (dO A)).1.map A.tag).getD k 0⟩
section
variable{A:uA}{bl:Nat->Nat}
structure Ux(A:uA)(bl:Nat->Nat)(Q:List Nat):Prop where
 head:∃R,Q=0::R/\∀q∈R,bl q≠0
 lt:∀q∈Q,q<A.n
 nodup:(Q.map bl).Nodup
theorem Ux.len{Q:List Nat}(h:Ux A bl Q):Q.length<=A.n/\0<Q.length:=by
 have h1:Q.Nodup:=aep bl (λa b hne e=>hne (by rw[e])) h.nodup;refine⟨nI h1 h.lt,?_⟩;obtain⟨R,rfl,_⟩:=h.head;simp
theorem af7(hA:A.Ok):Ux A bl [0]:=⟨⟨[],rfl,by simp⟩,λq hq=>by simp at hq;subst hq;exact hA.pos,by simp⟩
theorem abA{Q:List Nat}(h:Ux A bl Q){tq:Int}(h1:St A tq)(h0:val bl tq≠0):Ux A bl (Ez bl Q tq):=by
 unfold Ez;unfold val at h0;split at h0;exact absurd I h0;split;exact h
 rename_i aix hn
 unfold St at h1;obtain⟨R,rfl,hR⟩:=h.head;refine⟨⟨R++[tq.toNat],rfl,λq hq=>?_⟩,λq hq=>?_,?_⟩
 ·rcases fu.1 hq with hq|hq
  exact hR q hq;simp at hq;subst hq;exact h0
 ·rcases fu.1 hq with hq|hq
  exact h.lt q hq;simp at hq;subst hq;omega
 rw[eV];refine Dz.2 ⟨h.nodup,by simp,λa ha b hb e=>?_⟩;simp at hb;subst hb e;exact hn ha
theorem abB(Q:List Nat)(tq:Int):∃E,Ez bl Q tq=Q++E:=by
 unfold Ez;split;exact⟨[],by simp⟩;exact⟨_,rfl⟩
theorem abC(Q:List Nat)(tq:Int):bl tq.toNat∈(Ez bl Q tq).map bl:=by
 unfold Ez;split
 assumption
 simp
theorem Mh{Q:List Nat}(h:Ux A bl Q){tq:Int}(h1:St A tq):Ux A bl (pN bl Q tq).1:=by
 unfold pN;split;exact h
 rename_i h0;exact abA h h1 h0
theorem Mi(Q:List Nat)(tq:Int):∃E,(pN bl Q tq).1=Q++E:=by
 unfold pN;split;exact⟨[],by simp⟩;exact abB Q tq
theorem JA(q:Nat)(Q:List Nat):∀k,(kW A bl q Q k).2.length=k
 |0=>rfl
 |k+1=>by simp[kW,JA q Q k]
theorem ahC(hA:A.Ok){q:Nat}(hq:q<A.n){b:Nat}(hb:b<256):St A (A.d q b):=hA.step q hq b hb
theorem CI(hA:A.Ok){Q:List Nat}(h:Ux A bl Q){q:Nat}(hq:q<A.n):∀k,k<=256->Ux A bl (kW A bl q Q k).1
 |0,_=>h
 |k+1,hk=>Mh (CI hA h hq k J) (ahC hA hq J)
theorem JB(q:Nat)(Q:List Nat):∀k,∃E,(kW A bl q Q k).1=Q++E
 |0=>⟨[],by simp[kW]⟩
 |k+1=>by
  obtain⟨E,h⟩:=JB q Q k;obtain⟨E',h'⟩:=Mi (bl:=bl) (kW A bl q Q k).1 (A.d q k);exact⟨E++E',by simp only[kW];rw[h',h,eD]⟩
def BD(A:uA)(bl:Nat->Nat)(Q:List Nat)(q b:Nat)(x:Int):Prop:=(val bl (A.d q b)=0->x= -1)/\(val bl (A.d q b)≠0->val bl (A.d q b)∈Q.map bl/\x=(idx (Q.map bl) (val bl (A.d q b)):Int))
theorem BD.more{Q:List Nat}{q b:Nat}{x:Int}(h:BD A bl Q q b x)(E:List Nat):BD A bl (Q++E) q b x:=by
 refine⟨h.1,λh0=>?_⟩;obtain⟨h1,h2⟩:=h.2 h0;rw[eV,qq h1];exact⟨xM _ h1,h2⟩
theorem abD(Q:List Nat)(q b:Nat):BD A bl (pN bl Q (A.d q b)).1 q b (pN bl Q (A.d q b)).2:=by
 unfold pN;split
 ·rename_i h;exact⟨λ_=>rfl,λh'=>absurd h h'⟩
 rename_i h
 refine⟨λh'=>absurd h' h,λ_=>?_⟩;have e:val bl (A.d q b)=bl (A.d q b).toNat:=by
  unfold val at h⊢;split at h;exact absurd I h
  rename_i hn;rw[if_neg hn]
 rw[e];exact⟨abC Q _,rfl⟩
theorem YN(q:Nat)(Q:List Nat):∀k b,b<k->BD A bl (kW A bl q Q k).1 q b ((kW A bl q Q k).2.getD b 0)
 |0,_,h=>by omega
 | k +1,b,h=>by
  have hl:=JA (A:=A) (bl:=bl) q Q k;simp only[kW]
  by_cases c:b<k
  ·have ih:=YN q Q k b c
   obtain⟨E,e⟩:=Mi (bl:=bl) (kW A bl q Q k).1 (A.d q k);rw[e,jv J];exact ih.more E
  obtain rfl:b=k:=by omega
  rw[lX J,hl,oa];exact abD _ q b
theorem abE(l:List Int)(b:Nat)(hb:b<256):(vec l).toList.getD b 0=l.getD b 0:=by
 have h:b<(vec l).toList.length:=by simp;exact hb
 rw[b9,bD h,kp,oc];unfold vec;rw[kq]
structure Uy(A:uA)(bl:Nat->Nat)(n:Nat)(Q:List Nat)(out:List Row):Prop where
 len:out.length=n
 le:n<=Q.length
 rows:∀k,k<n->∀b,b<256->BD A bl Q (Q.getD k 0) b ((out.getD k (ee 256 0)).toList.getD b 0)
theorem Hy(_:A.Ok){n:Nat}{Q:List Nat}{out:List Row}(h:Uy A bl n Q out)(hn:n<Q.length):Uy A bl (n+1) (kW A bl (Q.getD n 0) Q 256).1 (out++[vec (kW A bl (Q.getD n 0) Q 256).2]):=by
 obtain⟨E,e⟩:=JB (A:=A) (bl:=bl) (Q.getD n 0) Q 256;have hr:=YN (A:=A) (bl:=bl) (Q.getD n 0) Q 256;have hlen:=h.len;refine⟨by simp[hlen],by rw[e];simp;omega,λk hk b hb=>?_⟩;have mT:k<Q.length:=by omega
 rw[e]at hr⊢;rw[jv mT]
 by_cases c:k<n
 ·rw[jv J]
  exact(h.rows k c b hb).more E
 obtain rfl:k=n:=by omega
 rw[lX J,hlen,oa];show BD A bl (Q++E) (Q.getD k 0) b ((vec _).toList.getD b 0)
 rw[abE _ b hb];exact hr b hb
theorem zl{Q:List Nat}{n:Nat}(h:n<Q.length):Q.getD n 0∈Q:=by
 rw[b9,bD h];exact cD h
theorem YO(hA:A.Ok):∀(f n:Nat) (Q:List Nat) (out:List Row),Ux A bl Q->Uy A bl n Q out->A.n+1<=f+n->Ux A bl (w6 A bl f n Q out).1/\Uy A bl (w6 A bl f n Q out).1.length (w6 A bl f n Q out).1 (w6 A bl f n Q out).2
 |0,n,Q,out,hQ,hO,hf=>by have:=hQ.len;have:=hO.le;omega
 | f +1,n,Q,out,hQ,hO,hf=>by
  unfold w6;split
  ·rename_i hn
   exact YO hA f _ _ _ (CI hA hQ (hQ.lt _ (zl hn)) 256 (bx _)) (Hy hA hO hn) J
  rename_i hn
  have:=hO.le;obtain rfl:n=Q.length:=by omega
  exact⟨hQ,hO⟩
theorem PO(hA:A.Ok):Ux A bl (qh A bl).1/\Uy A bl (qh A bl).1.length (qh A bl).1 (qh A bl).2:=
 YO hA _ _ _ _ (af7 hA) ⟨rfl,bH _,λk hk=>by omega⟩ J
theorem YP(hA:A.Ok){k:Nat}(hk:k<(PN A).n){b:Nat}(hb:b<256):BD A (dO A) (qh A (dO A)).1 ((qh A (dO A)).1.getD k 0) b ((PN A).d k b):=
 (PO (bl:=dO A) hA).2.rows k hk b hb
theorem Jz{Q:List Nat}(hn:(Q.map bl).Nodup){k:Nat}(hk:k<Q.length):idx (Q.map bl) (bl (Q.getD k 0))=k:=by
 have h:k<(Q.map bl).length:=by simpa using hk
 have:=DE hn h;rw[pg]at this;rw[b9,bD hk];exact this
theorem abF{k:Nat}(hk:k<(PN A).n):(PN A).tag k=A.tag ((qh A (dO A)).1.getD k 0):=by
 have mT:k<(qh A (dO A)).1.length:=hk;show((qh A (dO A)).1.map A.tag).getD k 0=_
 rw[b9,eS,b9,bD mT];rfl
theorem abG(hA:A.Ok):(PN A).Ok:=by
 obtain⟨hQ,hO⟩:=PO (bl:=dO A) hA;obtain⟨h1,h2⟩:=hQ.len;have hle:=hA.le;refine⟨h2,fw h1 hle,λk hk b hb=>?_,λk hk=>by rw[abF hk];exact hA.tags _ (hQ.lt _ (zl hk))⟩;have hr:=YP hA hk hb
 by_cases c:val (dO A) (A.d ((qh A (dO A)).1.getD k 0) b)=0
 rw[hr.1 c];exact⟨by omega,by omega⟩;obtain⟨r1,r2⟩:=hr.2 c;have:=ni r1;rw[dF]at this;rw[r2];exact⟨by omega,by show _<((qh A (dO A)).1.length:Int);omega⟩
end
end cT
namespace cT
section
variable{A B:uA}
def PP(A B:uA)(q r:Int):Prop:=∀s,tg A (go A q s)=tg B (go B r s)
theorem PP.step{q r:Int}(h:PP A B q r)(b:Nat)(hb:b<256):PP A B (dt A q b) (dt B r b):=λs=>by
 have:=h (fE b::s);have e:(fE b).toNat=b:=by simp;omega
 simp only[go,e]at this;exact this
theorem zm(f:Nat->Nat)(q:Nat):val f (q:Int)=f q:=by unfold val;rw[if_neg J,dq]
end
end cT
namespace cT
abbrev Pr:=Int×Int
abbrev Step:=Pr×Int×Nat
def PQ:Step:=((0,0),-1,0)
section
end
def back(todo:List Step):Nat->Nat->List UInt8
 |0,_=>[]
 |f+1,i=>if(todo.getD i PQ).2.1<0 then []else fE (todo.getD i PQ).2.2::back todo f (todo.getD i PQ).2.1.toNat
section
end
end cT
namespace cI
open Go.RowKit cU dS yS cT
def eO(r:Row):List Value:=r.toList.map (.int .i16)
theorem dz(r:Row):(eO r).length=256:=by simp[eO]
theorem pO(r:Row){b:Nat}(hb:b<256):(eO r)[b]?=aj (.int .i16 r[b]):=by
 unfold eO;rw[eS,bD (by simpa using hb),oc];rfl
theorem row_one(l:List Row):∀u∈l.flatMap eO,u.oneCell'=true:=by
 intro u hu;obtain⟨x,_,h⟩:=List.mem_flatMap.1 hu;obtain⟨n,_,rfl⟩:=eX.1 h;rfl
theorem rG(r:Row):(eO r).all eZ=true:=nc.2 λu hu=>row_one [r] u (by simpa using hu)
def iF(vr vt:Value):Value:=aQ #[vr,vt]
def wR:Row:=ee 256 0
structure F6(w:World)(vr vt:Value)(R:List Row)(tags:List Int):Prop where
 hR:Sl w vr R.length (R.flatMap eO)
 hT:Sl w vt tags.length (tags.flatMap cU.ez)
 rng:∀r∈R,∀x∈r.toList,-32768<=x/\x<=32767
 okT:∀x∈tags,cU.d_ x
theorem F6.gr{w w':World}{vr vt:Value}{R:List Row}{tags:List Int}(h:F6 w vr vt R tags)(hg:Gr w w'):F6 w' vr vt R tags:=⟨h.hR.gr hg,h.hT.gr hg,h.rng,h.okT⟩
theorem F6.af8{w:World}{vr vt:Value}{R:List Row}{tags:List Int}(h:F6 w vr vt R tags):Lk w (iF vr vt) (R.map Pu) tags:=by
 refine⟨vr,vt,rfl,?_,?_,λr hr=>by obtain⟨x,_,rfl⟩:=eX.1 hr;simp⟩
 ·obtain⟨base,cap,h1,h2,h3,h4⟩:=h.hR
  refine⟨base,cap,by rw[dF];exact h1,by rw[dF];exact h2,h3,λh0=>?_⟩;rw[dF]at h0;obtain⟨b,off,h5,h6⟩:=h4 h0;refine⟨b,off,h5,λi hi=>?_⟩;have oV:i<R.length:=by simpa using hi
  refine⟨eO R[i],⟨by simp,by simp[eO],λx hx=>h.rng R[i] (cD oV) x (by simpa using hx)⟩,λj u hj=>?_⟩;have Ra:j<256:=by have:=(cX.1 hj).1;rwa [dz]at this
  have:=h6 (i*256+j) u (by rw[ue dz R i j oV Ra];exact hj);rw[Nat.add_assoc];exact this
 obtain⟨base,cap,h1,h2,h3,h4⟩:=h.hT;refine⟨base,cap,h1,h2,h3,λh0=>?_⟩;obtain⟨b,off,h5,h6⟩:=h4 h0;refine⟨b,off,h5,λi hi=>⟨[av az tags[i]],⟨rfl,h.okT _ (cD hi)⟩,λj u hj=>?_⟩⟩;have hj0:j=0:=by have:=(cX.1 hj).1;simpa using this
 subst hj0;rw[kH,Nat.add_zero];refine h6 i u ?_;rw[show tags.flatMap cU.ez=tags.map (.int .i64)from cU.ac0 tags,eS,bD hi];exact hj
def fl(R:List Row)(tags:List Int):uA:=⟨R.length,λi b=>(R.getD i wR).toList.getD b 0,λi=>tags.getD i 0⟩
def mh(R:List Row)(tags:List Int):Int:=Az (R.map Pu) tags
theorem Hz(R:List Row){i:Nat}(hi:i<R.length):(R.map Pu).getD i []=(R.getD i wR).toList:=by
 rw[b9,eS,b9,bD hi];rfl
theorem vh{R:List Row}{tags:List Int}(h:mh R tags=0):(fl R tags).Ok/\tags.length=R.length:=by
 obtain⟨h1,h2,h3,h4⟩:=XH h;rw[dF]at h1 h2 h3 h4;refine⟨⟨h2,h1,λi hi b hb=>?_,λi hi=>?_⟩,h3⟩
 ·have:=(h4 i hi).2.2
  rw[Hz R hi]at this;refine this _ ?_;show(R.getD i wR).toList.getD b 0∈_
  rw[b9 (l:=(R.getD i wR).toList),bD (by simpa using hb)];exact cD _
 have:=h4 i hi;exact⟨this.1,this.2.1⟩
theorem JC{R:List Row}{tags:List Int}(h:(fl R tags).Ok)(hl:tags.length=R.length):mh R tags=0:=by
 have h1:R.length<=200:=h.le;have h2:0<R.length:=h.pos;unfold mh Az;rw[dF,if_neg J,if_neg J,if_neg];simp only[qN,List.mem_range,not_exists,not_and];intro i hi;have ht:=h.tags i hi;have hs:=h.step i hi;rw[Hz R hi];simp only[nj,lU,decide_eq_true_eq,qN,not_or,not_exists,not_and];refine⟨⟨?_,?_⟩,λt ht'=>?_⟩
 ·show ¬tags.getD i 0< -1
  have: -1<=tags.getD i 0:=ht.1;omega
 ·have:tags.getD i 0<20:=ht.2
  omega
 obtain⟨b,hb,rfl⟩:=hY.1 ht';have NH:b<256:=by simpa using hb
 have:=hs b NH;have e:(fl R tags).d i b=(R.getD i wR).toList[b]:=by
  show(R.getD i wR).toList.getD b 0=_
  rw[b9 (l:=(R.getD i wR).toList),bD hb];rfl
 rw[e]at this;have e2:(fl R tags).n=R.length:=rfl;omega
def wO(R:List Row)(tags:List Int)(s:List UInt8):Int×Int:=if mh R tags=0 then(tg (fl R tags) (go (fl R tags) 0 s),0)else(0,mh R tags)
end cI
namespace cI
open Go.RowKit cU dS yS cT
theorem zn{R:List Row}{tags:List Int}{i:Nat}(h:i<tags.length):(fl R tags).tag i=tags[i]:=by
 show tags.getD i 0=_
 rw[b9,bD h];rfl
theorem Mj{R:List Row}{tags:List Int}{i b:Nat}(h:i<R.length)(hb:b<256):(fl R tags).d i b=(R[i])[b]:=by
 show(R.getD i wR).toList.getD b 0=_
 rw[b9 (l:=R),bD h,kp,b9,bD (by simpa using hb),kp,oc]
theorem Sc(r:Row){b:Nat}(hb:b<256)(x:Int):(eO r).toArray.setIfInBounds b (.int .i16 x)=(eO (r.set b x)).toArray:=by
 unfold eO;rw[Vector.toList_set,ph];simp
theorem rH{P:Program}{n:Nat}{W:bO}{fr:Fr}{L:List cH}{Q:Exit->Act->World->Prop}{ops:Array Oper}{rest:List Oper}{ty:TypeId}{pos:String}{after:Array Edge}{t:TypeId}{p x:Operand}{i g b:Nat}{r:Row}{T:TypeId}{agg:Bool}{z:Int}[hT:aK P t agg 1](hi:L[i]?=aj (aP g (eO r).toArray T))(hp:ev fr p=aj (aJ (aj ⟨g,0+b,ak⟩)))(hx:ev fr x=aj (.int .i16 z))(hb:b<256)
 (h:TL P n W ops Q rest fr (L.set i (aP g (eO (r.set b z)).toArray T))):TL P n W ops Q (⟨ak,.store t p x,ty,pos,after,ak⟩::rest) fr L:=by
 rw[cV]at hp;refine bU hi hp hx I I ?_ ?_
 ·rw[dZ,dz];exact Ee▸hb
 ·rw[Sc r hb];exact h
def zo(x y:Int)(b:Nat):Row:=yg λi:Fin 256=>if i<b then x else y
theorem Uz(x y:Int)(b:Nat)(hb:b<256):(zo x y b).set b x=zo x y (b+1):=by
 refine kr λi hi=>?_;unfold zo;rw[uO,kq,kq];split
 ·rename_i e;subst e;simp
 have:i<b↔i<b+1:=by omega
 simp only[this]
theorem abH(x y:Int):zo x y 0=ee 256 y:=by
 refine kr λi hi=>?_;unfold zo;simp
theorem UA(x y:Int):zo x y 256=ee 256 x:=by
 refine kr λi hi=>?_;unfold zo;simp[hi]
theorem EA:(da 256 (av .i16 0)).toArray=(eO (ee 256 0)).toArray:=by
 unfold eO;rw[Vector.toList_replicate,List.map_replicate]
def Cc(r:Row):Value:=aQ (eO r).toArray
theorem BE(x:Int)(w:World):Calls aB 73 #[.int .i16 x] w (cB (ret (Cc (ee 256 x))) w):=by
 refine enter (args:=[.int .i16 x]) (n:=13) Tryz.func73 I I I ?_;refine cC (bz (aY I λg=>?_))
 try refine GA ?_
 refine aY I λg3=>?_;refine zL ?_;rw[EA]
 try refine GA ?_
 rw[<-abH x 0];refine ea (ι:=Nat) (λb=>b<=256) (λb=>[(0,.int .i16 x),(2,aJ (aj ⟨g,0,ak⟩)),(3,aJ (aj ⟨g3,0,ak⟩)),(5,av az (b:Int))]) (λb=>[aP g (eO (zo x 0 0)).toArray 187,aP g3 (eO (zo x 0 b)).toArray 187]) (λb=>256-b) 0 (bH _) ?_;intro b hb
 by_cases c:b<256
 ·repeat(first|refine GA ?_|refine gV (hJ bM.eq aK.ty I I c) ?_)
  refine rH (i:=1) I I I c ?_;rw[Uz x 0 b c];refine zL ?_
  try refine GA ?_
  exact bY (b+1) J (by show 256-(b+1)<256-b;omega)
 obtain rfl:b=256:=by omega
 rw[UA]
 repeat(first|refine GA ?_|refine gV (aO (i:=1) aK.ty I I (by rw[dZ,dz])) ?_)
 refine aW (i:=0) I I I (by rw[dZ,dz]) (by have:=rG (ee 256 x);simpa using this) (by rw[dZ,dz]) ?_;refine zL ?_
 try refine GA ?_
 exact fL (i:=0) I I I (by rw[dZ,dz]) λw hm=>hm.ret
end cI
namespace cI
open Go.RowKit cU dS cT
def qy(k:Kind):List Value:=av az k.1::eO k.2
def Ml(k:Kind):Value:=aQ (qy k).toArray
theorem ma(k:Kind):(qy k).length=257:=by simp[qy,dz]
def Sd(r:Row):Prop:=∀(b:Nat) (h:b<256),(-32768:Int)<=r[b]/\r[b]<=32767
theorem YQ{r r':Row}(h:eO r=eO r'):r=r':=by
 refine kr λb hb=>?_;have h1:=pO r hb;rw[h,pO r' hb]at h1;simp at h1;exact h1.symm
theorem aey{r:Row}(h:Sd r)(d:Nat):KL aB (d+2) 187 (eO r):=by
 have e2:aB.cellsOf 187=256:=by kernel_rfl
 have e3:aB.cellsOf 185=1:=by kernel_rfl
 refine Xu (d:=d+1) Tryz.underlying187 (by rw[dz,e2]) λi hi=>?_;have hc:((eO r).drop (i*aB.cellsOf 185)).take (aB.cellsOf 185)=[.int .i16 r[i]]:=by
  rw[e3,kH];have hl:i<(eO r).length:=by rw[dz];exact hi
  rw[eN hl];have:=pO r hi;rw[bD hl]at this;rw[oQ this];rfl
 rw[hc];exact uy Tryz.underlying185 (h i hi).1 (h i hi).2
set_option maxRecDepth 100000 in
theorem YR(k:Kind)(h:cU.d_ k.1/\Sd k.2):∃l,keyOf aB 241 (Ml k)=aj l:=by
 have e1:aB.cellsOf 241=257:=by kernel_rfl
 have e2:aB.cellsOf 187=256:=by kernel_rfl
 have e3:aB.cellsOf 3=1:=by kernel_rfl
 refine IR (m:=3) (by kernel_rfl) (by kernel_rfl) (by rw[ma,e1]) (Cx 3 (by kernel_rfl)) λd=>?_;refine Ay (d:=d+2) Tryz.underlying241 (by rw[ma,e1]) (by kernel_rfl) λf hf=>?_;simp only[dA,fv,or_false]at hf;rcases hf with rfl|rfl
 ·rw[e3]
  exact uy (d:=d+1) Tryz.underlying3 h.1.1 h.1.2
 show KL aB (d+2) 187 (((qy k).drop 1).take (aB.cellsOf 187))
 rw[e2];have:((qy k).drop 1).take 256=eO k.2:=by
  show(eO k.2).take 256=_
  rw[gB (by rw[dz];omega)]
 rw[this];exact aey h.2 d
theorem abI:(241:TypeId)<aB.types.size:=of_decide_eq_true (by kernel_rfl)
set_option maxRecDepth 100000 in
def vj:yN aB 241 Kind where
 kv:=Ml
 ok k:=cU.d_ k.1/\Sd k.2
 law:=deep_law_laid Cw (m:=3) J abI (by kernel_rfl) (by kernel_rfl)
 key x h:=YR x h
 inj x y h:=by
  simp only[Ml,lV,sv,qy,gi,Jk,true_and]at h;exact qJ h.1 (YQ h.2)
abbrev EB:=Vector Int 200
def yj(c:EB):List Value:=c.toList.map (.int .i16)
def aez(c:EB):Value:=aQ (yj c).toArray
theorem rI(c:EB):(yj c).length=200:=by simp[yj]
theorem EC(c:EB){b:Nat}(hb:b<200):(yj c)[b]?=aj (.int .i16 c[b]):=by
 unfold yj;rw[eS,bD (by simpa using hb),oc];rfl
def YS(c:EB):Prop:=∀(b:Nat) (h:b<200),(-32768:Int)<=c[b]/\c[b]<=32767
set_option maxRecDepth 100000 in
theorem abJ(c:EB)(h:YS c):∃l,keyOf aB 193 (aez c)=aj l:=by
 have e2:aB.cellsOf 193=200:=by kernel_rfl
 have e3:aB.cellsOf 185=1:=by kernel_rfl
 refine IR (m:=2) (by kernel_rfl) (by kernel_rfl) (by rw[rI,e2]) (Cx 2 (by kernel_rfl)) λd=>?_;refine Xu (d:=d+1) Tryz.underlying193 (by rw[rI,e2]) λi hi=>?_;have hc:((yj c).drop (i*aB.cellsOf 185)).take (aB.cellsOf 185)=[.int .i16 c[i]]:=by
  rw[e3,kH];have hl:i<(yj c).length:=by rw[rI];exact hi
  rw[eN hl];have:=EC c hi;rw[bD hl]at this;rw[oQ this];rfl
 rw[hc];exact uy Tryz.underlying185 (h i hi).1 (h i hi).2
theorem aeA:(193:TypeId)<aB.types.size:=of_decide_eq_true (by kernel_rfl)
set_option maxRecDepth 100000 in
def Mm:yN aB 193 EB where
 kv:=aez
 ok:=YS
 law:=deep_law_laid Cw (m:=2) J aeA (by kernel_rfl) (by kernel_rfl)
 key x h:=abJ x h
 inj x y h:=by
  simp only[aez,lV,sv]at h;refine kr λb hb=>?_;have h1:=EC x hb;rw[h,EC y hb]at h1;simp at h1;exact h1.symm
theorem YT(w:World):(zeroValue 3).run aB w= .ok (av az 0) w:=by kernel_rfl
end cI
namespace cI
open Go.RowKit cU dS yS cT
set_option maxRecDepth 100000 in
theorem PR(w:World):(dh 241 #[(1,Cc (ee 256 0))]).run aB w= .ok (Ml dead) w:=by kernel_rfl
set_option maxRecDepth 100000 in
theorem PT(x:Int)(w:World):(dh 241 #[(0,av az x)]).run aB w= .ok (Ml (x,ee 256 0)) w:=by kernel_rfl
theorem PU{x:Int}(h0: -32768<=x)(h1:x<=32767):Yi.wrap x=x:=by
 simp only[Yh,lI,tP];simp;omega
abbrev lh(x:Int):Value:=av az x
theorem YU(x:Int)(r:Row){b:Nat}(hb:b<256)(y:Int):(qy (x,r)).toArray.setIfInBounds (1+b) (.int .i16 y)=(qy (x,r.set b y)).toArray:=by
 have e:1+b=b+1:=by omega
 unfold qy;rw[e,ux,As];have:=Sc r hb y;rw[ux]at this;have h2:(eO r).set b (.int .i16 y)=eO (r.set b y):=by simpa using this
 rw[h2]
section
variable{P:Program}{n:Nat}{W:bO}{fr:Fr}{L:List cH}{Q:Exit->Act->World->Prop}{ops:Array Oper}{rest:List Oper}{ty:TypeId}{pos:String}{after:Array Edge}
theorem UB{t:TypeId}{p x:Operand}{i g b:Nat}{y:Int}{r:Row}{T:TypeId}{agg:Bool}{z:Int}[hT:aK P t agg 1](hi:L[i]?=aj (aP g (qy (y,r)).toArray T))(hp:ev fr p=aj (aJ (aj ⟨g,1+b,ak⟩)))(hx:ev fr x=aj (.int .i16 z))(hb:b<256)
 (h:TL P n W ops Q rest fr (L.set i (aP g (qy (y,r.set b z)).toArray T))):TL P n W ops Q (⟨ak,.store t p x,ty,pos,after,ak⟩::rest) fr L:=by
 refine bU hi hp hx I I ?_ ?_
 ·rw[dZ,ma];exact Ee▸(by omega:1+b<257)
 ·rw[YU y r hb];exact h
end
def ED(A:uA)(now:Nat->Nat)(i b:Nat):Row:=yg λj:Fin 256=>if j<b then(val now (A.d i j):Int)else 0
theorem aeB(A:uA)(now:Nat->Nat)(i:Nat):ED A now i 0=ee 256 0:=by
 refine kr λj hj=>?_;unfold ED;simp
theorem YV(A:uA)(now:Nat->Nat)(i:Nat):((now i:Int),ED A now i 256)=kind A now i:=by
 refine qJ I (kr λj hj=>?_);unfold ED kind;simp[hj]
theorem Mn(A:uA)(now:Nat->Nat)(i b:Nat)(hb:b<256):(ED A now i b).set b (val now (A.d i b):Int)=ED A now i (b+1):=by
 refine kr λj hj=>?_;unfold ED;rw[uO,kq,kq];split
 ·rename_i e;subst e;simp
 have:j<b↔j<b+1:=by omega
 simp only[this]
theorem UC(A:uA)(now:Nat->Nat)(i b:Nat)(hb:b<256)(h0:val now (A.d i b)=0):ED A now i b=ED A now i (b+1):=by
 rw[<-Mn A now i b hb,h0];refine kr λj hj=>?_;rw[uO];split
 ·rename_i e;subst e;unfold ED;simp
 rfl
structure JD(A:uA)(f n:Nat)(now:Nat->Nat):Prop where
 eq:dO A=G8 A f n now
 rd:n=0\/RA A n now
 le:n<=A.n+1
 fuel:A.n+2<=f+n
 lim:∀i,i<A.n->now i<=200
theorem abK{A:uA}(hA:A.Ok):JD A (A.n+2) 0 (yU A):=⟨rfl,.inl I,bH _,by omega,λi hi=>by unfold yU;have:=hA.tags i hi;omega⟩
theorem Mo{A:uA}(hA:A.Ok){f n:Nat}{now:Nat->Nat}(h:JD A f n now):∃f',f=f'+1/\((pt A now).length=n->dO A=next A now)/\((pt A now).length≠n->JD A f' (pt A now).length (next A now)):=by
 have h1:=h.le;have h2:=h.fuel;obtain⟨f',rfl⟩:∃f',f=f'+1:=⟨f-1,by omega⟩;have e:=h.eq;unfold G8 at e;refine⟨f',rfl,λhc=>by rw[e,if_pos hc],λhc=>⟨by rw[e,if_neg hc],.inr ⟨now,rfl,rfl⟩,AB now,?_,λi hi=>?_⟩⟩
 ·have hp:=Rz (A:=A) now
  rcases h.rd with rfl|hr
  omega;have:=(xS hr).1;omega
 have:=qt (A:=A) (now:=now) (q:=(i:Int)) J;rw[zm]at this;have h3:=AB (A:=A) now;have h4:=hA.le;omega
theorem abL{A:uA}{now:Nat->Nat}(h:∀i,i<A.n->now i<=200){q:Int}(hq:St A q):val now q<=200:=by
 unfold val;split;omega;exact h _ (by unfold St at hq;omega)
theorem abM{A:uA}(hA:A.Ok){now:Nat->Nat}(h:∀i,i<A.n->now i<=200){i:Nat}(hi:i<A.n):cU.d_ (kind A now i).1/\Sd (kind A now i).2:=by
 refine⟨?_,λb hb=>?_⟩
 ·have:=h i hi
  show cU.d_ (now i:Int)
  exact⟨by omega,by omega⟩
 have:=abL h (hA.step i hi b hb);unfold kind;rw[kq];show-32768<=(val now (A.d i b):Int)/\(val now (A.d i b):Int)<=32767
 omega
def j_(A:uA)(now:Nat->Nat)(i:Nat):List Kind:=dM [dead] ((kinds A now).take i)
theorem UD(A:uA)(now:Nat->Nat):j_ A now A.n=pt A now:=by unfold j_ pt;rw[gB (by simp[kinds])]
theorem HA(A:uA)(now:Nat->Nat){i:Nat}(hi:i<A.n):∃h:i<(kinds A now).length,(kinds A now)[i]=kind A now i:=⟨by simpa[kinds]using hi,by simp[kinds]⟩
theorem abN(A:uA)(now:Nat->Nat){i:Nat}(hi:i<A.n)(h:kind A now i∈j_ A now i):j_ A now (i+1)=j_ A now i/\next A now i=idx (j_ A now i) (kind A now i):=by
 obtain⟨hl,e⟩:=HA A now hi;have h2:=Xw (D:=[dead]) hl;unfold j_ at h;rw[e,if_pos h]at h2;refine⟨?_,h2⟩;unfold j_;rw[iv hl,kN,e,more,if_pos];exact h
theorem abO(A:uA)(now:Nat->Nat){i:Nat}(hi:i<A.n)(h:kind A now i∉j_ A now i):j_ A now (i+1)=j_ A now i++[kind A now i]/\next A now i=(j_ A now i).length:=by
 obtain⟨hl,e⟩:=HA A now hi;have h2:=Xw (D:=[dead]) hl;unfold j_ at h;rw[e,if_neg h]at h2;refine⟨?_,h2⟩;unfold j_;rw[iv hl,kN,e,more,if_neg];exact h
theorem YW(A:uA)(now:Nat->Nat)(i:Nat):(j_ A now i).length<=A.n+1:=by
 have h:=AB (A:=A) now;have e:kinds A now=(kinds A now).take i++(kinds A now).drop i:=(List.take_append_drop _ _).symm;have hap:∀(a b D:List Kind),dM D (a++b)=dM (dM D a) b:=by
  intro a
  induction a with
  |nil=>intro b D;rfl
  |cons x a ih=>intro b D;exact ih b _
 obtain⟨E,h2⟩:=sw ((kinds A now).drop i) (j_ A now i);have h3:pt A now=j_ A now i++E:=by
  unfold pt;rw[e,hap];exact h2
 rw[h3,bI]at h;omega
set_option maxRecDepth 100000 in
theorem JE(vr vt:Value)(R:List Row)(tags:List Int)(w:World)(h:F6 w vr vt R tags)(hc:mh R tags=0):
 Calls aB 72 #[iF vr vt] w (cB ⟨λ_=>True,λ(g:Nat)=>ap (aj ⟨g,0,ak⟩) R.length R.length,λg=>[fq 3 lh g R.length λi=>(dO (fl R tags) i:Int)]⟩ w):=by
 obtain⟨hA,hlt⟩:=vh hc;obtain⟨bt,ct,rfl,ht1,Vr,KI⟩:=h.hT;obtain⟨br,cr,rfl,hr1,wk,DK⟩:=h.hR;have en:(fl R tags).n=R.length:=rfl;have AX:0<R.length:=hA.pos;have hle:R.length<=200:=hA.le;obtain⟨b,off,rfl,hr⟩:=DK AX;obtain⟨bb,tB,rfl,hrt⟩:=KI J;unfold maxLen at wk Vr;have aiy:∀i,i<R.length->(fl R tags).tag i=tags.getD i 0:=λi _=>rfl;clear DK KI h;refine enter (args:=[iF (ap (aj ⟨b,off,ak⟩) R.length cr) (ap (aj ⟨bb,tB,ak⟩) tags.length ct)]) (n:=98) Tryz.func72 I I I ?_;refine cC (bz (bR I I I λg1=>?_))
 repeat(first|refine GA ?_|refine gV (aC aK.ty I (aH (i:=0) I I)) ?_)
 refine pv lh 0 I I J J I λg3=>?_;refine zL ?_
 repeat(first|refine GA ?_|refine gV (aC aK.ty I (aH (i:=0) I I)) ?_)
 refine nZ (ι:=Nat) (λi=>i<=tags.length) (λi=>[(1,aJ (aj ⟨g1,0,ak⟩)),(3,ap (aj ⟨g3,0,ak⟩) R.length R.length),(22,ap (aj ⟨bb,tB,ak⟩) tags.length ct),(23,av az (tags.length:Int)),(24,av az (i:Int))])
  (λi=>[aP g1 (iF (ap (aj ⟨b,off,ak⟩) R.length cr) (ap (aj ⟨bb,tB,ak⟩) tags.length ct)).cells 120,fq 3 lh g3 R.length λj=>if j<i then(yU (fl R tags) j:Int)else 0]) (λi=>tags.length-i) 0 (bH _) (by repeat' (first|exact bZ|refine bX I ?_)) (by rw[pu (f':=λj=>if j<0 then(yU (fl R tags) j:Int)else 0) λi _=>by simp]) ?_
 intro i hi
 by_cases c1:i<tags.length
 ·have du:=gO (W:=w) (L:=[aP g1 (iF (ap (aj ⟨b,off,ak⟩) R.length cr) (ap (aj ⟨bb,tB,ak⟩) tags.length ct)).cells 120,fq 3 lh g3 R.length λj=>if j<i then(yU (fl R tags) j:Int)else 0]) (c:=1) (f:=cU.ez) (λ_=>rfl) hrt c1 0 _ I
  have htg:=hA.tags i J;have h0:(yU (fl R tags) i:Int)=tags[i]+1:=by
   unfold yU;rw[zn c1]at htg⊢;omega
  rw[zn c1]at htg;generalize tags[i]=x at*
  repeat(first|refine GA ?_|refine gV (aX bM.eq aK.ty I I c1) ?_|refine gV (aC aK.ty I du) ?_|refine gV (cz bM.eq aK.ty I I (show i<R.length by omega)) ?_)
  refine iO (i:=1) (off:=i) (v:=x+1) (λj=>if j<i+1 then(yU (fl R tags) j:Int)else 0) aK.ty I I I I I J (λj hj=>?_) ?_
  ·by_cases e:j=i
   subst e;rw[if_pos J,if_pos I,h0];rw[if_neg e];have:j<i+1↔j<i:=by omega
   simp only[this]
  refine zL ?_
  try refine GA ?_
  exact bY (i+1) J (by show tags.length-(i+1)<tags.length-i;omega)
 ·obtain rfl:i=tags.length:=by omega
  rw[pu (f':=λj=>(yU (fl R tags) j:Int)) λj hj=>if_pos (show j<tags.length by omega)];clear c1 hi
  try refine GA ?_
  refine ea (ι:=Nat×Nat×(Nat->Nat)×Nat) (λ(f,c,now,_)=>JD (fl R tags) f c now) (λ(_,c,_,g3)=>[(1,aJ (aj ⟨g1,0,ak⟩)),(3,ap (aj ⟨g3,0,ak⟩) R.length R.length),(6,av az (c:Int))])
   (λ(_,_,now,g3)=>[aP g1 (iF (ap (aj ⟨b,off,ak⟩) R.length cr) (ap (aj ⟨bb,tB,ak⟩) tags.length ct)).cells 120,fq 3 lh g3 R.length λj=>(now j:Int)]) (λ(f,_,_,_)=>f) (R.length+2,0,yU (fl R tags),g3) (abK hA) ?_
  clear g3;rintro⟨f,c,now,g3⟩ eL;dsimp only at eL⊢;obtain⟨f',rfl,ahD,hgo⟩:=Mo hA eL;have Ds:=eL.lim;have oT:=BE 0;clear eL;have af9:=AB (A:=fl R tags) now;rw[en]at af9
  try refine GA ?_
  refine AC (K:=vj) I λgm=>?_;refine zL ?_
  try refine GA ?_
  refine aV (hZ aI.en I I) (λw hm=>oT _) I I I ?_;intro _ _
  repeat(first|refine GA ?_|refine gV (bB I PR) ?_)
  refine aY I λg8=>?_;refine zL ?_;refine aW (i:=3) (cs':=(qy dead).toArray) I I I (by rw[dZ,ma]) (by kernel_rfl) (by kernel_rfl) ?_;refine zL ?_
  repeat(first|refine GA ?_|refine gV (aO (i:=3) aK.ty I I (by rw[dZ,ma])) ?_)
  refine AD (K:=vj) (i:=2) (D:=[]) (x:=dead) bM.eq I I I I ⟨⟨by decide,by decide⟩,λb hb=>by show-32768<=(ee 256 (0:Int))[b]/\(ee 256 (0:Int))[b]<=32767;rw[Vector.getElem_replicate];decide⟩ (by simp) aiT ?_;refine zL ?_;refine Dl [0,1,2] ?_
  try refine GA ?_
  refine pv lh 0 I I J J I λg9=>?_;refine zL ?_
  repeat(first|refine GA ?_|refine gV (aC aK.ty I (aH (i:=0) I I)) ?_)
  refine nZ (ι:=Nat) (λi=>i<=R.length) (λi=>[(1,aJ (aj ⟨g1,0,ak⟩)),(3,ap (aj ⟨g3,0,ak⟩) R.length R.length),(6,av az (c:Int)),(7,.map (aj gm)),(9,ap (aj ⟨g9,0,ak⟩) R.length R.length),(44,ap (aj ⟨b,off,ak⟩) R.length cr),(45,av az (R.length:Int)),(46,av az (i:Int))])
   (λi=>[aP g1 (iF (ap (aj ⟨b,off,ak⟩) R.length cr) (ap (aj ⟨bb,tB,ak⟩) tags.length ct)).cells 120,fq 3 lh g3 R.length λj=>(now j:Int),fe vj gm (kw (j_ (fl R tags) now i)) (j_ (fl R tags) now i).length,fq 3 lh g9 R.length λj=>if j<i then(next (fl R tags) now j:Int)else 0]) (λi=>R.length-i) 0 (bH _) (by repeat' (first|exact bZ|refine bX I ?_)) (by rw[pu (g:=g9) (f:=λ_=>(0:Int)) (f':=λj=>if j<0 then(next (fl R tags) now j:Int)else 0) λi _=>by simp];rfl) ?_
  intro i hi
  by_cases c2:i<R.length
  ·have du:=gO (W:=w) (L:=[aP g1 (iF (ap (aj ⟨b,off,ak⟩) R.length cr) (ap (aj ⟨bb,tB,ak⟩) tags.length ct)).cells 120,fq 3 lh g3 R.length λj=>(now j:Int),fe vj gm (kw (j_ (fl R tags) now i)) (j_ (fl R tags) now i).length,fq 3 lh g9 R.length λj=>if j<i then(next (fl R tags) now j:Int)else 0]) dz hr c2
   have gJ:∀(q:Nat) (hq:q<256),(fl R tags).d i q=(R[i])[q]:=λq hq=>Mj c2 hq;have hst:∀b,b<256->St (fl R tags) ((fl R tags).d i b):=λb hb=>hA.step i c2 b hb;generalize R[i]=r at*
   repeat(first|refine GA ?_|refine gV (aX bM.eq aK.ty I I c2) ?_|refine gV (a8 aK.ty I (dz r) du) ?_)
   refine aY I λg11=>?_;refine zL ?_
   try refine GA ?_
   refine aW (i:=4) (cs':=(eO r).toArray) I I I (by rw[dZ,dz]) (by simpa using rG r) (by kernel_rfl) ?_;refine zL ?_;have w4:=Ds i c2
   repeat(first|refine GA ?_|refine gV (cz bM.eq aK.ty I I c2) ?_|refine gV (aC aK.ty I (fV (i:=1) I c2)) ?_|refine gV (bB I (PT _)) ?_)
   refine aY I λg12=>?_;refine zL ?_;refine aW (i:=5) (cs':=(qy ((now i:Int),ee 256 0)).toArray) I I I (by rw[dZ,ma]) (by rw[<-List.all_toArray];kernel_rfl) (by kernel_rfl) ?_;refine zL ?_
   repeat(first|refine GA ?_|refine gV (aO (i:=4) aK.ty I I (by rw[dZ,dz])) ?_)
   rw[<-aeB (fl R tags) now i];refine uc [0,1,2,3,5] ?_;refine ea (ι:=Nat) (λq=>q<=256) (λq=>[(1,aJ (aj ⟨g1,0,ak⟩)),(3,ap (aj ⟨g3,0,ak⟩) R.length R.length),(6,av az (c:Int)),(7,.map (aj gm)),(9,ap (aj ⟨g9,0,ak⟩) R.length R.length),(44,ap (aj ⟨b,off,ak⟩) R.length cr),(45,av az (R.length:Int)),(46,av az (i:Int)),(10,av az (i:Int)),(12,aJ (aj ⟨g12,0,ak⟩)),(56,Cc r),(57,av az (q:Int))])
    (λq=>[aP g1 (iF (ap (aj ⟨b,off,ak⟩) R.length cr) (ap (aj ⟨bb,tB,ak⟩) tags.length ct)).cells 120,fq 3 lh g3 R.length λj=>(now j:Int),fe vj gm (kw (j_ (fl R tags) now i)) (j_ (fl R tags) now i).length,fq 3 lh g9 R.length λj=>if j<i then(next (fl R tags) now j:Int)else 0,aP g12 (qy ((now i:Int),ED (fl R tags) now i q)).toArray 241]) (λq=>256-q) 0 (bH _) ?_
   intro q hq
   by_cases c3:q<256
   ·have hcell:(eO r).toArray[q]?=aj (.int .i16 r[q]):=by rw[List.getElem?_toArray];exact pO r c3
    have hdq:=gJ q c3;have hsq:=hst q c3;have tu:=Mn (fl R tags) now i q c3;have adh:=UC (fl R tags) now i q c3;rw[hdq]at hsq tu adh;clear hdq gJ hst;generalize r[q]=x at*;unfold St at hsq
    by_cases c4:x<0
    ·have hv:val now x=0:=by unfold val;rw[if_pos c4]
     rw[adh hv]
     repeat(first|refine GA ?_|refine gV (jt bM.eq aK.ty I I c3 hcell) ?_)
     exact bY (q+1) J (by show 256-(q+1)<256-q;omega)
    obtain⟨m,rfl⟩:∃m:Nat,x=m:=⟨x.toNat,by omega⟩;have hm:m<R.length:=by omega
    have hlm:=Ds m hm;rw[zm]at tu
    repeat(first|refine GA ?_|refine gV (jt bM.eq aK.ty I I c3 hcell) ?_|refine gV (cz bM.eq aK.ty I I hm) ?_|refine gV (aC aK.ty I (fV (i:=1) I hm)) ?_|refine gV (iQ bM.eq bM.eq I (PU J J)) ?_|refine gV (hJ bM.eq aK.ty I I c3) ?_)
    refine UB (i:=4) I I I c3 ?_;rw[tu];refine zL ?_
    try refine GA ?_
    exact bY (q+1) J (by show 256-(q+1)<256-q;omega)
   obtain rfl:q=256:=by omega
   rw[YV];have lq:=abM hA Ds (i:=i) c2
   by_cases c5:kind (fl R tags) now i∈j_ (fl R tags) now i
   ·obtain⟨e1,e2⟩:=abN (fl R tags) now (i:=i) c2 c5
    generalize kind (fl R tags) now i=k at*
    repeat(first|refine GA ?_|refine gV (aO (i:=4) aK.ty I I (by rw[dZ,ma])) ?_|refine gV (uC (K:=vj) (i:=2) (x:=k) bM.eq YT I I I lq c5) ?_|refine gV (cz bM.eq aK.ty I I c2) ?_)
    refine iO (i:=3) (off:=i) (v:=(next (fl R tags) now i:Int)) (λj=>if j<i+1 then(next (fl R tags) now j:Int)else 0) aK.ty I I (by rw[e2];rfl) I I c2 (λj hj=>?_) ?_
    ·by_cases e:j=i
     subst e;rw[if_pos J,if_pos I];rw[if_neg e];have:j<i+1↔j<i:=by omega
     simp only[this]
    refine zL ?_
    try refine GA ?_
    refine dj [0,1,2,3] ?_;exact bY (i+1) J (by show R.length-(i+1)<R.length-i;omega) (hl:=by rw[e1];rfl)
   obtain⟨e1,e2⟩:=abO (fl R tags) now (i:=i) c2 c5;have adK:=YW (fl R tags) now i;rw[en]at adK;generalize kind (fl R tags) now i=k at*
   repeat(first|refine GC ?_|refine gV (aO (i:=4) aK.ty I I (by rw[dZ,ma])) ?_|refine gV (uD (K:=vj) (i:=2) (x:=k) bM.eq YT I I I lq c5) ?_|refine gV (wx vj bM.eq (i:=2) I I) ?_|refine GB ?_)
   refine AD (K:=vj) (i:=2) (x:=k) bM.eq I I I I lq c5 J ?_;refine zL ?_
   repeat(first|refine GA ?_|refine gV (cz bM.eq aK.ty I I c2) ?_)
   refine iO (i:=3) (off:=i) (v:=(next (fl R tags) now i:Int)) (λj=>if j<i+1 then(next (fl R tags) now j:Int)else 0) aK.ty I I (by rw[e2];rfl) I I c2 (λj hj=>?_) ?_
   ·by_cases e:j=i
    subst e;rw[if_pos J,if_pos I];rw[if_neg e];have:j<i+1↔j<i:=by omega
    simp only[this]
   refine zL ?_
   try refine GA ?_
   refine dj [0,1,2,3] ?_;exact bY (i+1) J (by show R.length-(i+1)<R.length-i;omega) (hl:=by rw[e1];rfl)
  obtain rfl:i=R.length:=by omega
  rw[show j_ (fl R tags) now R.length=pt (fl R tags) now from UD (fl R tags) now];rw[pu (f':=λj=>(next (fl R tags) now j:Int)) λj hj=>if_pos hj]
  by_cases c6:(pt (fl R tags) now).length=c
  ·rw[ahD c6]
   repeat(first|refine GC ?_|refine gV (wx vj bM.eq (i:=2) I I) ?_|refine gV (dg (b:=aD) I I (decide_eq_true J)) ?_|refine GB ?_)
   exact cJ I I λw hm=>hm.meets (S:=⟨λ_=>True,λ(g:Nat)=>ap (aj ⟨g,0,ak⟩) R.length R.length,λg=>[fq 3 lh g R.length λi=>(next (fl R tags) now i:Int)]⟩) g9 trivial [3] aiT I
  repeat(first|refine GC ?_|refine gV (wx vj bM.eq (i:=2) I I) ?_|refine gV (dg (b:=aE) I I (decide_eq_false J)) ?_|refine GB ?_)
  refine dj [0,3] ?_;exact bY (f',(pt (fl R tags) now).length,next (fl R tags) now,g9) (hgo c6) (nv f')
end cI
namespace cI
open Go.RowKit cU dS yS cT
theorem EE(vr vt:Value)(R:List Row)(tags:List Int)(w:World)(h:F6 w vr vt R tags):Calls aB 71 #[iF vr vt] w (cB (ret (av az (mh R tags))) w):=DJ _ _ _ w h.af8
end cI
namespace cI
open Go.RowKit cU dS dl gj eo ns cT
set_option maxRecDepth 100000 in
theorem aeC(x y:C4)(w:World):(lJ 10000 233 (aQ (dV x).toArray) (aQ (dV y).toArray)).run aB w= .ok (decide (x=y)) w:=by
 show(lJ 10000 233 (aQ #[v64 x.a,v64 x.b,v64 x.c,v64 x.d]) (aQ #[v64 y.a,v64 y.b,v64 y.c,v64 y.d])).run aB w=_
 have e:(lJ 10000 233 (aQ #[v64 x.a,v64 x.b,v64 x.c,v64 x.d]) (aQ #[v64 y.a,v64 y.b,v64 y.c,v64 y.d])).run aB w= .ok ((fT x.a==fT y.a)&&((fT x.b==fT y.b)&&((fT x.c==fT y.c)&&(fT x.d==fT y.d)))) w:=by
  unfold v64;rw[run_equalIn_array (P:=aB) w 9999 (n:=4) (e:=75) _ _ I I];have h1:aB.cellsOf 75=1:=rfl;simp[Op.eqItems,go_sem,Yj,h1]
  by_cases e1:fT x.a=fT y.a<;>by_cases e2:fT x.b=fT y.b<;>by_cases e3:fT x.c=fT y.c<;>by_cases e4:fT x.d=fT y.d<;>simp[e1,e2,e3,e4]
 rw[e]
 congr 1
 by_cases h:x=y
 subst h;simp;rw[decide_eq_false h]
 by_cases e1:fT x.a=fT y.a<;>by_cases e2:fT x.b=fT y.b<;>by_cases e3:fT x.c=fT y.c<;>by_cases e4:fT x.d=fT y.d<;>simp[e1,e2,e3,e4]
 exact h (C4.ext' (ox e1) (ox e2) (ox e3) (ox e4))
theorem PV(w:World):(dh 233 (#[]:Array (Nat×Value))).run aB w= .ok (aQ (dV C4.zero).toArray) w:=by kernel_rfl
theorem abP{x:Int}(h0: -32768<=x)(h1:x<=32767):Yi.wrap x=x:=by
 simp only[Yh,lI,tP];simp;omega
theorem Mp(r:Row):(eO r).toArray.toList.all eZ=true:=nc.2 λu hu=>row_one [r] u (by simpa using hu)
def HB(m:MS)(vc vr vf vfol vl ve rows:Value)(g gm n:Nat)(d:DM):Spec (Value×Value):=
 ⟨λ_=>True,λ_=>Cc (p_ m n d).1,λx=>KP vc vr vf vfol vl ve rows g gm x.1 x.2 (p_ m n d).2⟩
theorem abQ(p:PS)(all:C4)(b i:Nat):I' p all b (i+1)=if all.mem i=aD/\(p.aZ.getD i C4.zero).mem b=aD then(I' p all b i).bit i else I' p all b i:=rfl
theorem PW(p:PS)(all:C4)(f b:Nat)(r:Row)(d:DM):mF p all (f+1) b r d=if 200<(fQ p all b r d).2.S.length+1 then fQ p all b r d else mF p all f (b+1) (fQ p all b r d).1 (fQ p all b r d).2:=rfl
theorem abR{p:PS}{all:C4}{b:Nat}{r:Row}{d:DM}(hb:b<256)(h:Ja p all b=C4.zero):fQ p all b r d=(r.set b (-1),d):=by unfold fQ;rw[if_pos h,dif_pos hb]
theorem abS{p:PS}{all:C4}{b:Nat}{r:Row}{d:DM}(hb:b<256)(h:Ja p all b≠C4.zero):fQ p all b r d=((r.set b (-1)).set b ((iL p d (Ja p all b)).1:Int),(iL p d (Ja p all b)).2):=by unfold fQ;rw[if_neg h,dif_pos hb]
set_option maxRecDepth 100000 in
theorem JF(m:MS)(vc vr vf vfol vl ve rows:Value)(d:DM)(g gm n:Nat)(vs vt:Value)(w0:World)(hp:FZ w0 (aQ #[vc,vr,vf,vfol,vl,ve]) m)(h:I9 m)(hd:DOk m.ps d)(hd2:d.S.length+1<=200)(hn:n<=d.S.length)(w:World)(B:bO)(ho:pZ w0 B)
 (hm:Mem B (KP vc vr vf vfol vl ve rows g gm vs vt d) w):
 Calls aB 70 #[aJ (aj ⟨g,0,ak⟩),av az (n:Int)] w (cY (HB m vc vr vf vfol vl ve rows g gm n d) B):=by
 have vd:=λw' (hg:Gr w0 w') h1 h2=>F0 m vc vr vf vfol vl ve vs (.map (aj gm)) rows vt d.S g n w' (hp.gr hg) h h1 h2 hn;have hst:=λd' s pC oD h1 h2 w' B' K3 rq=>Eg m vc vr vf vfol vl ve rows d' s g gm pC oD w0 hp h h1 h2 w' B' K3 rq;obtain⟨_,_,_,_,_,_,he,h1,-⟩:=hp;simp only[lV,sv,gi,and_true]at he;obtain⟨rfl,rfl,rfl,rfl,rfl,rfl⟩:=he;have hmf:=h.B7;clear h;obtain⟨ac,cc,rfl,-,-,hrc⟩:=h1;unfold HB p_;generalize mV m d.S n=all at*;obtain⟨p,fi,em⟩:=m;dsimp only at*;unfold KP at hm;have hB0:=PV;refine dm hm (args:=[aJ (aj ⟨g,0,ak⟩),av az (n:Int)]) (n:=60) Tryz.func70 I I I ?_;clear hm;refine cC (bz (aY I λg4=>?_));refine zL ?_;rw[EA]
 try refine GA ?_
 refine aV (fO aI.en I I I) (λw hm=>vd w (ho.mem hm) (hm.get (i:=0) I) (Sl.dB (hm.get (i:=1) I))) I I I ?_;intro _ _;refine zL ?_;clear vd
 try refine GA ?_
 refine aY I λg5=>?_;refine zL ?_;refine gC 5 (cs':=(dV all).toArray) ?_;refine zL ?_
 try refine GA ?_
 refine aY I λg6=>?_;refine zL ?_;rw[EA]
 try refine GA ?_
 clear hn;generalize ja:mF p all 256 0 (ee 256 0) d=fin;refine ea (ι:=Nat×Row×DM×Value×Value) (λ(b,r,d,_,_)=>b<=256/\DOk p d/\d.S.length+1<=200/\mF p all (256-b) b r d=fin) (λ(b,_,_,_,_)=>[(0,aJ (aj ⟨g,0,ak⟩)),(4,aJ (aj ⟨g4,0,ak⟩)),(5,aJ (aj ⟨g5,0,ak⟩)),(6,aJ (aj ⟨g6,0,ak⟩)),(14,av az (b:Int))])
  (λ(_,r,d,vs,vt)=>[aP g (KO (ap ac p.aZ.length cc) vr vf vfol vl ve vs (.map (aj gm)) rows vt) 184,oq vs d.S,sM gm d.S,fY vt d.tags,aP g4 (eO (ee 256 0)).toArray 187,aP g5 (dV all).toArray 233,aP g6 (eO r).toArray 187]) (λ(b,_,_,_,_)=>256-b) (0,ee 256 0,d,vs,vt) ⟨bH _,hd,hd2,ja⟩ ?_
 clear hd hd2 ja d vs vt;rintro⟨b,r,d,vs,vt⟩ ⟨i1,i2,i3,i4⟩;dsimp only at i1 i2 i3 i4⊢
 by_cases c1:b<256
 ·rw[show 256-b=(256-(b+1))+1 by omega,PW]at i4
  try refine GA ?_
  refine aY I λg8=>?_;refine zL ?_
  repeat(first|refine GA ?_|refine gV (aC (v:=ap ac p.aZ.length cc) aK.ty I (aH (i:=0) I I)) ?_)
  refine ea (ι:=Nat) (λk=>k<=p.aZ.length) (λk=>[(0,aJ (aj ⟨g,0,ak⟩)),(4,aJ (aj ⟨g4,0,ak⟩)),(5,aJ (aj ⟨g5,0,ak⟩)),(6,aJ (aj ⟨g6,0,ak⟩)),(7,av az (b:Int)),(8,aJ (aj ⟨g8,0,ak⟩)),(14,av az (b:Int)),(21,ap ac p.aZ.length cc),(22,av az p.aZ.length),(23,av az (k:Int))])
   (λk=>[aP g (KO (ap ac p.aZ.length cc) vr vf vfol vl ve vs (.map (aj gm)) rows vt) 184,oq vs d.S,sM gm d.S,fY vt d.tags,aP g4 (eO (ee 256 0)).toArray 187,aP g5 (dV all).toArray 233,aP g6 (eO r).toArray 187,aP g8 (dV (I' p all b k)).toArray 233]) (λk=>p.aZ.length-k) 0 (bH _) ?_
  intro k hk
  by_cases c2:k<p.aZ.length
  ·have hts:=abQ p all b k
   have hgd:p.aZ.getD k C4.zero=p.aZ[k]:=by rw[b9,bD c2];rfl
   rw[hgd]at hts;obtain⟨bc,ahE,rfl,af_⟩:=hrc J;have af':=λ(L:List cH)=>Pf (L:=L) (f:=dV) (c:=4) (λ_=>rfl) ho af_ c2;clear af_ hrc hgd;generalize p.aZ[k]=c at*;have aga:∀(L:List cH) (j:Nat) (u:Value),(dV c)[j]?=aj u->At B L ⟨bc,ahE+k*4+j,ak⟩ u:=af';clear af';have Yf:=λw=>sD all k J w;have ahF:=λw=>TE c b c1 w;generalize I' p all b k=tz at*;generalize all.mem k=b1 at*;generalize c.mem b=b2 at*;have hu8:Ji.wrap (b:Int)=(b:Int):=by rw[Jh];omega
   repeat(first|refine GA ?_|refine gV (aX bM.eq aK.ty I I c2) ?_|refine gV (a8 (cs:=dV c) aK.ty I I (aga _)) ?_)
   refine aY I λg10=>?_;refine zL ?_
   try refine GA ?_
   refine gC 8 (cs':=(dV c).toArray) ?_;refine zL ?_
   repeat(first|refine GA ?_|refine gV (aO (i:=5) aK.ty I I I) ?_)
   refine aV (fO aI.en I I I) (λw hm=>Yf w) I I I ?_;intro _ _;refine zL ?_
   by_cases q1:b1=aD
   ·subst q1
    repeat(first|refine GA ?_|refine gV (aO (i:=8) aK.ty I I I) ?_|refine gV (iQ bM.eq bM.eq I hu8) ?_)
    refine mv (fO aI.en I I I) (λw hm=>ahF w) I I I I I ?_;intro _ _;refine zL ?_
    by_cases q2:b2=aD
    ·subst q2
     rw[if_pos ⟨rfl,rfl⟩]at hts
     try refine GA ?_
     refine bm [7] [0,1,2,3,4,5,6] aiT I I (fO aI.en I I I) (λw hm hb=>sE tz k J g8 w _ hb) I I I ?_;intro _ _;refine zL ?_
     try refine GA ?_
     exact bY (k+1) J (by show p.aZ.length-(k+1)<p.aZ.length-k;omega) (hl:=by rw[hts])
    rw[if_neg (λh=>q2 h.2)]at hts;obtain rfl:=AS.2 q2
    try refine GA ?_
    refine dj [0,1,2,3,4,5,6,7] ?_;exact bY (k+1) J (by show p.aZ.length-(k+1)<p.aZ.length-k;omega) (hl:=by rw[hts];rfl)
   rw[if_neg (λh=>q1 h.1)]at hts;obtain rfl:=AS.2 q1
   try refine GA ?_
   refine dj [0,1,2,3,4,5,6,7] ?_;exact bY (k+1) J (by show p.aZ.length-(k+1)<p.aZ.length-k;omega) (hl:=by rw[hts];rfl)
  obtain rfl:k=p.aZ.length:=by omega
  have hF:I' p all b p.aZ.length=Ja p all b:=rfl;rw[hF];have C9:=abR (p:=p) (all:=all) (r:=r) (d:=d) c1;have nU:=abS (p:=p) (all:=all) (r:=r) (d:=d) c1;have NG:=aeC (Ja p all b) C4.zero;clear hF hrc;generalize Ja p all b=tz at*
  repeat(first|refine GA ?_|refine gV (hJ bM.eq aK.ty I I c1) ?_)
  refine rH (i:=6) I I I c1 ?_;refine zL ?_
  by_cases q1:tz=C4.zero
  ·rw[decide_eq_true q1]at NG
   rw[C9 q1,if_neg (by show ¬200<d.S.length+1;omega)]at i4;refine qn (i:=1) I fW λgJ=>?_;obtain⟨ab,cs,rfl,hmS,-⟩:=gJ
   repeat(first|refine GC ?_|refine gV (aO (i:=7) aK.ty I I I) ?_|refine gV (bB I hB0) ?_|refine gV (Dj I I (by kernel_rfl) NG I) ?_|refine gV (aC (v:=ap ab (d.S.length+1) cs) aK.ty I (aH (i:=0) I I)) ?_|refine gV (dT (b:=aE) I I (decide_eq_false J)) ?_|refine GB ?_)
   refine dj [0,1,2,3,4,5,6] ?_;exact bY (b+1,r.set b (-1),d,ap ab (d.S.length+1) cs,vt) ⟨by omega,i2,i3,i4⟩ (by show 256-(b+1)<256-b;omega)
  rw[decide_eq_false q1]at NG;rw[nU q1]at i4;obtain⟨s1,s2,s3,s4,s5⟩:=LL i2 tz
  repeat(first|refine GC ?_|refine gV (aO (i:=7) aK.ty I I I) ?_|refine gV (bB I hB0) ?_|refine gV (Dj I I (by kernel_rfl) NG I) ?_|refine GB ?_)
  refine bm [0,1,2,3] [4,5,6,7] aiT I I (fO aI.en I I I) (λw hm hb=>hst d tz vs vt J (by have:=i2.tags;omega) w _ (ho.on hm (by simp[KP])) hb) I I I ?_;rintro⟨pC,oD⟩ _
  conv=>arg 8;simp only[zJ,cK,ret,id_eq,abn,KP]
  conv=>arg 7;simp only[abn]
  generalize iL p d tz=R at*;obtain⟨q,d'⟩:=R;dsimp only at i4 s1 s2 s3 s4 s5⊢;have hq:q<=200:=by omega
  refine qn (i:=5) I fW λgJ=>?_;obtain⟨ab,cs,rfl,hmS,-⟩:=gJ
  repeat(first|refine GA ?_|refine gV (iQ bM.eq bM.eq I (abP J J)) ?_|refine gV (hJ bM.eq aK.ty I I c1) ?_)
  refine rH (i:=2) I I I c1 ?_;refine zL ?_;generalize (r.set b (-1)).set b (q:Int)=r' at*
  by_cases q2:200<d'.S.length+1
  ·rw[if_pos q2]at i4
   subst i4
   repeat(first|refine GC ?_|refine gV (aC (v:=ap ab (d'.S.length+1) cs) aK.ty I (aH (i:=4) I I)) ?_|refine gV (dT (b:=aD) I I (decide_eq_true J)) ?_|refine gV (aO (i:=2) aK.ty I I (by rw[dZ,dz])) ?_|refine GB ?_)
   refine aW (i:=0) (cs':=(eO r').toArray) I I I (by rw[dZ,dz]) (Mp r') (by rw[dZ,dz]) ?_;refine zL ?_
   try refine GA ?_
   exact fL (i:=0) I I I (by rw[dZ,dz]) λw hm=>hm.bV (S:=⟨λ(_:Value×Value)=>True,λ_=>Cc r',λx=>KP (ap ac p.aZ.length cc) vr vf vfol vl ve rows g gm x.1 x.2 d'⟩) (ap ab (d'.S.length+1) cs,oD) trivial [4,5,6,7] aiT I
  rw[if_neg q2]at i4
  repeat(first|refine GC ?_|refine gV (aC (v:=ap ab (d'.S.length+1) cs) aK.ty I (aH (i:=4) I I)) ?_|refine gV (dT (b:=aE) I I (decide_eq_false J)) ?_|refine GB ?_)
  refine dj [4,5,6,7,0,1,2] ?_;exact bY (b+1,r',d',ap ab (d'.S.length+1) cs,oD) ⟨by omega,s1,by show d'.S.length+1<=200;omega,i4⟩ (by show 256-(b+1)<256-b;omega)
 ·obtain rfl:b=256:=by omega
  have i4:(r,d)=fin:=i4;subst i4
  repeat(first|refine GA ?_|refine gV (aO (i:=6) aK.ty I I (by rw[dZ,dz])) ?_)
  refine aW (i:=4) (cs':=(eO r).toArray) I I I (by rw[dZ,dz]) (Mp r) (by rw[dZ,dz]) ?_;refine zL ?_
  try refine GA ?_
  exact fL (i:=4) I I I (by rw[dZ,dz]) λw hm=>hm.bV (S:=⟨λ(_:Value×Value)=>True,λ_=>Cc r,λx=>KP (ap ac p.aZ.length cc) vr vf vfol vl ve rows g gm x.1 x.2 d⟩) (vs,vt) trivial [0,1,2,3] aiT I
end cI
namespace cI
open Go.RowKit cU dS dl gj eo ns cT
def sP(m:MS):List Row×List Int×Int:=match uL m with
 |some (R,d)=>(R,d.tags,0)
 |none=>([],[],8)
def Se(m:MS):Spec (Value×Value):=⟨λ_=>True,λx=> .tuple #[iF x.1 x.2,av az (sP m).2.2],λx=>[a_ 187 256 x.1 (sP m).1.length ((sP m).1.flatMap eO),fY x.2 (sP m).2.1]⟩
theorem EF{m:MS}{R:List Row}{d:DM}(h:uL m=aj (R,d)):sP m=(R,d.tags,0):=by unfold sP;rw[h]
theorem PX{m:MS}(h:uL m=ak):sP m=([],[],8):=by unfold sP;rw[h]
theorem HC(m:MS)(f n:Nat)(R:List Row)(d:DM):sH m (f+1) n R d=if n<d.S.length+1 then(if 200<(p_ m n d).2.S.length+1 then ak else sH m f (n+1) (R++[(p_ m n d).1]) (p_ m n d).2)else aj (R,d):=rfl
theorem PY(w:World):(dh 120 (#[]:Array (Nat×Value))).run aB w= .ok (aQ #[ap ak 0 0,ap ak 0 0]) w:=by kernel_rfl
theorem Mq(vc vr vf vfol vl ve:Value)(g gm:Nat)(w:World):(dh 184 #[(0,aQ #[vc,vr,vf,vfol,vl,ve]),(1,ap (aj ⟨g,0,ak⟩) 1 1),(2,.map (aj gm))]).run aB w= .ok (.agg (KO vc vr vf vfol vl ve (ap (aj ⟨g,0,ak⟩) 1 1) (.map (aj gm)) (ap ak 0 0) (ap ak 0 0))) w:=by
 unfold KO;go_simp
theorem Mr{g:Nat}{w:World}(h:(aP g (madeCells #[av .u64 0,av .u64 0,av .u64 0,av .u64 0] (1*4)) 233).holds w):(oq (ap (aj ⟨g,0,ak⟩) 1 1) []).holds w:=by
 rw[ac7 (k:=4) I aiT]at h;exact⟨rfl,.inr ⟨g,1,_,rfl,bH _,h,bx _,by decide,rfl,rfl⟩⟩
theorem AY(v:Value)(R:List Row)(r:Row):a_ 187 256 v (R++[r]).length ((R++[r]).flatMap eO)=a_ 187 256 v (R.length+1) (R.flatMap eO++eO r):=by
 rw[bI,fC];simp
theorem aeD{vc vr vf vfol vl ve vs num rows tags v:Value}{j:Nat}(h:[rows,tags][j]?=aj v):(KO vc vr vf vfol vl ve vs num rows tags)[8+j]?=aj v:=by
 match j,h with
 |0,h=>exact h
 |1,h=>exact h
theorem JG(r:Row):(eO r).toArray=([Cc r].flatMap λv=>v.cells.toList).toArray:=by
 show _=((eO r).toArray.toList++[]).toArray
 simp
theorem EG(r:Row):∀v∈[Cc r],v.cells.size=256:=by
 intro v hv;rw[dR.1 hv];show(eO r).toArray.size=256
 rw[dZ,dz]
set_option maxRecDepth 100000 in
theorem F7(v:Value)(m:MS)(w:World)(hp:FZ w v m)(h:I9 m):
 Calls aB 38 #[v] w (cB (Se m) w):=by
 have iW:=λw' (hg:Gr w w')=>Ed v m w' (hp.gr hg) h;obtain⟨vc,vr,vf,vfol,vl,ve,rfl,h1,h2,h3,h4,h5,h6⟩:=id hp;have hrw:=λrows d g gm n vs vt hd hd2 hn w' B ho hm=>JF m vc vr vf vfol vl ve rows d g gm n vs vt w hp h hd hd2 hn w' B ho hm;clear h1 h2 h3 h4 h5 hp;have hms:=h.some;have tv:=h.qS;clear h;obtain⟨ae,ce,rfl,-,hme,hre⟩:=h6;unfold maxLen at hme;have hbz:=PY;refine enter (args:=[aQ #[vc,vr,vf,vfol,vl,ap ae m.empty.length ce]]) (n:=78) Tryz.func38 I I I ?_;refine cC (bz (bR I I I λg1=>aY I λg2=>?_));refine zL ?_
 repeat(first|refine GA ?_|refine gV (aO (i:=0) aK.ty I I I) ?_)
 refine aV (hZ aI.en I I) (λw hm=>iW _ hm.below) I I I ?_;intro _ _;refine zL ?_;clear iW
 repeat(first|refine GC ?_|refine gV (dr (b:=aE) I I (decide_eq_false (by simp))) ?_|refine GB ?_)
 (repeat refine cC ?_)
 refine k8 (ι:=Nat×Nat×Nat) (λ_=>True) (λ(_,_,g5)=>[(1,aJ (aj ⟨g1,0,ak⟩)),(2,aJ (aj ⟨g2,0,ak⟩)),(5,aJ (aj ⟨g5,0,ak⟩))])
  (λ(gs,gm,g5)=>[aP g1 #[vc,vr,vf,vfol,vl,ap ae m.empty.length ce] 115,aP g2 #[ap ak 0 0,ap ak 0 0] 120,aP g5 (KO vc vr vf vfol vl (ap ae m.empty.length ce) (ap (aj ⟨gs,0,ak⟩) 1 1) (.map (aj gm)) (ap ak 0 0) (ap ak 0 0)) 184,oq (ap (aj ⟨gs,0,ak⟩) 1 1) [],sM gm []]) ?_ ?_
 ·refine dN ([aP g1 #[vc,vr,vf,vfol,vl,ap ae m.empty.length ce] 115]) (.calm 0 (.two 1 (.one 2 (.calm 3 (.one 4 (.calm 5 (.done))))) 2 (.one 1 (.calm 3 (.one 4 (.calm 5 (.done))))))) (bW [0]) ?_
  repeat(first|refine GW ?_|(refine GN ?_;first|refine QW (aO (i:=0) aK.ty I I I) ?_))
  refine eG I I ?_ ?_
  ·refine uj (m:=1) (cap:=1) I I (bx 1) aiT aiT I λgs=>aM (bW [0]) ?_
   refine aL I (xI Pv I λgm=>aM (bW [0]) ?_)
   repeat(first|refine GW ?_|(refine GN ?_;first|refine QW (bB I (Mq _ _ _ _ _ _ _ _)) ?_))
   refine aL I (bR I I I λg5=>aM (bW [0]) ?_)
   try refine GW ?_
   refine oz (i:=2) (oq (ap (aj ⟨gs,0,ak⟩) 1 1) []) I (λw h=>Mr h) (λk h=>h) ?_;refine oz (i:=3) (sM gm []) I (λw h=>by unfold sM;rw[<-Ef];exact h) (λk h=>h) ?_;refine dj [0,1,4,2,3] ?_;exact dE (gs,gm,g5) trivial (by repeat' (first|exact bZ|refine bX I ?_)) I
  refine xI Pv I λgm=>aM (bW [0]) ?_;refine aL I (uj (m:=1) (cap:=1) I I (bx 1) aiT aiT I λgs=>aM (bW [0]) ?_)
  repeat(first|refine GW ?_|(refine GN ?_;first|refine QW (bB I (Mq _ _ _ _ _ _ _ _)) ?_))
  refine aL I (bR I I I λg5=>aM (bW [0]) ?_)
  try refine GW ?_
  refine oz (i:=3) (oq (ap (aj ⟨gs,0,ak⟩) 1 1) []) I (λw h=>Mr h) (λk h=>h) ?_;refine oz (i:=2) (sM gm []) I (λw h=>by unfold sM;rw[<-Ef];exact h) (λk h=>h) ?_;refine dj [0,1,4,3,2] ?_;exact dE (gs,gm,g5) trivial (by repeat' (first|exact bZ|refine bX I ?_)) I
 rintro⟨gs,gm,g5⟩ _;dsimp only
 try refine GA ?_
 refine fy (cs:=#[av az (-1)]) [av az (-1)] I I I (by intro v hv;simp at hv;subst hv;rfl) I I I λg20=>?_;refine zL ?_
 try refine GA ?_
 refine bU (i:=2) I I I I I I ?_;refine zL ?_
 repeat(first|refine GC ?_|refine gV (aC (v:=ap ae m.empty.length ce) aK.ty I (aH (i:=0) I I)) ?_|refine gV (eJ (r:=(m.empty.length:Int)-1) I I J J I) ?_|refine GB ?_)
 refine nZ (ι:=Nat) (λk=>k<=m.empty.length) (λk=>[(1,aJ (aj ⟨g1,0,ak⟩)),(2,aJ (aj ⟨g2,0,ak⟩)),(5,aJ (aj ⟨g5,0,ak⟩)),(6,av az ((k:Int)-1))])
  (λk=>[aP g1 #[vc,vr,vf,vfol,vl,ap ae m.empty.length ce] 115,aP g2 #[ap ak 0 0,ap ak 0 0] 120,aP g5 (KO vc vr vf vfol vl (ap ae m.empty.length ce) (ap (aj ⟨gs,0,ak⟩) 1 1) (.map (aj gm)) (ap ak 0 0) (ap (aj ⟨g20,0,ak⟩) 1 1)) 184,oq (ap (aj ⟨gs,0,ak⟩) 1 1) [],sM gm [],aP g20 #[av az (fj (m.empty.drop k) k)] 3]) (λk=>k) m.empty.length (bx _) (by repeat' (first|exact bZ|refine bX I ?_)) (by rw[List.drop_eq_nil_of_le (bx _)];rfl) ?_
 intro k hk
 by_cases c1:0<k
 ·obtain⟨j,rfl⟩:∃j,k=j+1:=⟨k-1,by omega⟩
  have hj:j<m.empty.length:=by omega
  obtain⟨be,aeE,rfl,ahG⟩:=hre J;have ahH:=λ(L:List cH)=>gO (L:=L) RY ahG hj 0 _ I;have hst:fj (m.empty.drop j) j=if m.empty[j]=aD then(j:Int)else fj (m.empty.drop (j+1)) ((j:Int)+1):=by rw[eN hj,fj]
  rw[show(((j+1:Nat):Int))=(j:Int)+1 by omega]at*;generalize fj (m.empty.drop (j+1)) ((j:Int)+1)=t at*;generalize m.empty[j]=b at*;rw[show(j:Int)+1-1=(j:Int)by omega];have adi:∀(L:List cH),At (w:bO) L ⟨be,aeE+j*1+0,ak⟩ (.bool b):=ahH
  by_cases c2:b=aD
  ·subst c2
   rw[if_pos I]at hst
   repeat(first|refine GC ?_|refine gV (eU (b:=aD) I I (decide_eq_true J)) ?_|refine gV (aC (v:=ap (aj ⟨be,aeE,ak⟩) m.empty.length ce) aK.ty I (aH (i:=0) I I)) ?_|refine gV (aX bM.eq aK.ty I I hj) ?_|refine gV (aC (v:= .bool aD) aK.ty I (adi _)) ?_|refine gV (aC (v:=ap (aj ⟨g20,0,ak⟩) 1 1) aK.ty I (aH (i:=2) I I)) ?_|refine gV (aX (j:=0) bM.eq aK.ty I I aiT) ?_|refine GB ?_)
   refine bU (i:=5) I I I I I I ?_;refine zL ?_
   repeat(first|refine GC ?_|refine gV (eJ (r:=(j:Int)-1) I I J J I) ?_|refine GB ?_)
   exact bY j J (by show j<j+1;omega) (hl:=by rw[hst];rfl)
  rw[if_neg c2]at hst;obtain rfl:=AS.2 c2
  repeat(first|refine GC ?_|refine gV (eU (b:=aD) I I (decide_eq_true J)) ?_|refine gV (aC (v:=ap (aj ⟨be,aeE,ak⟩) m.empty.length ce) aK.ty I (aH (i:=0) I I)) ?_|refine gV (aX bM.eq aK.ty I I hj) ?_|refine gV (aC (v:= .bool aE) aK.ty I (adi _)) ?_|refine gV (eJ (r:=(j:Int)-1) I I J J I) ?_|refine GB ?_)
  exact bY j J (by show j<j+1;omega) (hl:=by rw[hst])
 ·obtain rfl:k=0:=by omega
  rw[show fj (m.empty.drop 0) ((0:Nat):Int)=fj m.empty 0 from I];have ja:sH m (201-0) 0 [] ⟨[],[fj m.empty 0]⟩=uL m:=rfl;generalize fj m.empty 0=t0 at*;refine Ru (i:=5) (fY (ap (aj ⟨g20,0,ak⟩) 1 1) [t0]) I (λw h=>Jd h) (λk h=>h) ?_
  repeat(first|refine GC ?_|refine gV (eU (b:=aE) I I (decide_eq_false J)) ?_|refine GB ?_)
  refine jf 187 256 ?_;refine uc [1,2,3,4,5,6] ?_;clear hre;refine ea (ι:=Nat×List Row×DM×Value×Value×Value) (λ(n,R,d,_,_,_)=>R.length=n/\n<=d.S.length+1/\DOk m.ps d/\d.S.length+1<=200/\sH m (201-n) n R d=uL m) (λ(n,_,_,_,_,_)=>[(2,aJ (aj ⟨g2,0,ak⟩)),(5,aJ (aj ⟨g5,0,ak⟩)),(7,av az (n:Int))])
   (λ(_,R,d,vs,vm,vt)=>[aP g2 #[ap ak 0 0,ap ak 0 0] 120,aP g5 (KO vc vr vf vfol vl (ap ae m.empty.length ce) vs (.map (aj gm)) vm vt) 184,oq vs d.S,sM gm d.S,fY vt d.tags,a_ 187 256 vm R.length (R.flatMap eO)]) (λ(n,_,_,_,_,_)=>201-n) (0,[],⟨[],[t0]⟩,ap (aj ⟨gs,0,ak⟩) 1 1,ap ak 0 0,ap (aj ⟨g20,0,ak⟩) 1 1) ⟨rfl,bH _,⟨Yp,rfl⟩,by show 0+1<=200;omega,ja⟩ ?_
  clear ja hk c1;rintro⟨n,R,d,vs,vm,vt⟩ ⟨i0,i1,i2,i3,i4⟩;dsimp only at i0 i1 i2 i3 i4⊢;refine iu (i:=2) I fW λgJ=>?_;obtain⟨ab,cs,rfl,hmS,-⟩:=gJ
  by_cases c1:n<d.S.length+1
  ·rw[show 201-n=(201-(n+1))+1 by omega,HC,if_pos c1]at i4
   obtain⟨s1,s2,s3⟩:=LM (p:=m.ps) (mV m d.S n) 256 0 (ee 256 0) d i2 i3;have YX:=λw' (rq:Mem (w:bO) [aP g2 #[ap ak 0 0,ap ak 0 0] 120,aP g5 (KO vc vr vf vfol vl (ap ae m.empty.length ce) (ap ab (d.S.length+1) cs) (.map (aj gm)) vm vt) 184,oq (ap ab (d.S.length+1) cs) d.S,sM gm d.S,fY vt d.tags,a_ 187 256 vm R.length (R.flatMap eO)] w') (hb:Mem (bO.on w' (KP vc vr vf vfol vl (ap ae m.empty.length ce) vm g5 gm (ap ab (d.S.length+1) cs) vt d)) (KP vc vr vf vfol vl (ap ae m.empty.length ce) vm g5 gm (ap ab (d.S.length+1) cs) vt d) w')=>hrw vm d g5 gm n (ap ab (d.S.length+1) cs) vt i2 i3 J w' _ ((pZ.self w).on rq (by simp[KP])) hb;rw[show mF m.ps (mV m d.S n) 256 0 (ee 256 0) d=p_ m n d from I]at s1 s2 s3;obtain⟨r',d',oo⟩:∃r' d',p_ m n d=(r',d'):=⟨_,_,rfl⟩;rw[oo]at i4 s1 s2 s3;dsimp only at i4 s1 s2 s3
   repeat(first|refine GC ?_|refine gV (aC (v:=ap ab (d.S.length+1) cs) aK.ty I (aH (i:=1) I I)) ?_|refine gV (dQ (b:=aD) I I (decide_eq_true J)) ?_|refine GB ?_)
   (repeat refine cC ?_)
   refine k8 (ι:=Value×Value×Value) (λ_=>True) (λ_=>[(2,aJ (aj ⟨g2,0,ak⟩)),(5,aJ (aj ⟨g5,0,ak⟩)),(7,av az (n:Int))])
    (λ(pC,qX,oD)=>[aP g2 #[ap ak 0 0,ap ak 0 0] 120,aP g5 (KO vc vr vf vfol vl (ap ae m.empty.length ce) pC (.map (aj gm)) qX oD) 184,oq pC d'.S,sM gm d'.S,fY oD d'.tags,a_ 187 256 qX (R++[r']).length ((R++[r']).flatMap eO)]) ?_ ?_
   ·refine dN ([]) (.calm 0 (.calm 1 (.calm 2 (.calm 3 (.calm 4 (.calm 6 (.calm 7 (.two 5 (.one 8 (.one 9 (.one 10 (.calm 11 (.calm 12 (.calm 13 (.one 14 (.done)))))))) 8 (.two 5 (.one 9 (.one 10 (.calm 11 (.calm 12 (.calm 13 (.one 14 (.done))))))) 9 (.one 5 (.one 10 (.calm 11 (.calm 12 (.calm 13 (.one 14 (.done)))))))))))))))) (bW []) ?_
    try refine GW ?_
    refine eG I I ?_ ?_
    ·refine dx (aC (v:=vm) aK.ty I (aH (i:=1) I I)) I I I (aM (bW []) ?_)
     refine aL I (bm [1,2,3,4] [0,5] aiT I I (fO aI.en I I I) (λw' hm hb=>YX w' hm hb) I I I ?_);rintro⟨pC,oD⟩ _
     conv=>arg 8;simp only[zJ,cK,ret,id_eq,HB,KP]
     conv=>arg 7;simp only[HB]
     rw[oo];dsimp only;refine aM (bW []) ?_;refine aL I (fy (cs:=(eO r').toArray) [Cc r'] I I I (EG r') I (JG r') I λg62=>(aM (bW []) ?_));refine aL I (eK (i:=1) (e:=187) (size:=256) (bytes:=512) (m:=R.length) (xs:=R.flatMap eO) (k:=1) (ys:=eO r') I (k_ (i:=6) I (λj u h=>by simpa using h) (bx 1) aiT) I I (by rw[dz]) (λu hu=>row_one [r'] u (by simpa using hu)) J J I λqX=>(aM (bW []) ?_))
     try refine GW ?_
     refine aL I (aU (i:=1) I λkT lC=>bU (i:=2) I I I kT lC I (aM (bW []) ?_))
     try refine GW ?_
     refine dj [0,2,3,4,5,1] ?_;exact dE (pC,qX,oD) trivial (by repeat' (first|exact bZ|refine bX I ?_)) (by dsimp only;rw[AY];rfl)
    refine bm [1,2,3,4] [0,5] aiT I I (fO aI.en I I I) (λw' hm hb=>YX w' hm hb) I I I ?_;rintro⟨pC,oD⟩ _
    conv=>arg 8;simp only[zJ,cK,ret,id_eq,HB,KP]
    conv=>arg 7;simp only[HB]
    rw[oo];dsimp only;refine aM (bW []) ?_;refine eG I I ?_ ?_
    ·refine dx (aC (v:=vm) aK.ty I (aH (i:=2) I I)) I I I (aM (bW []) ?_)
     refine aL I (fy (cs:=(eO r').toArray) [Cc r'] I I I (EG r') I (JG r') I λg62=>(aM (bW []) ?_));refine aL I (eK (i:=1) (e:=187) (size:=256) (bytes:=512) (m:=R.length) (xs:=R.flatMap eO) (k:=1) (ys:=eO r') I (k_ (i:=6) I (λj u h=>by simpa using h) (bx 1) aiT) I I (by rw[dz]) (λu hu=>row_one [r'] u (by simpa using hu)) J J I λqX=>(aM (bW []) ?_))
     try refine GW ?_
     refine aL I (aU (i:=1) I λkT lC=>bU (i:=2) I I I kT lC I (aM (bW []) ?_))
     try refine GW ?_
     refine dj [0,2,3,4,5,1] ?_;exact dE (pC,qX,oD) trivial (by repeat' (first|exact bZ|refine bX I ?_)) (by dsimp only;rw[AY];rfl)
    refine fy (cs:=(eO r').toArray) [Cc r'] I I I (EG r') I (JG r') I λg62=>(aM (bW []) ?_);refine aL I (dx (aC (v:=vm) aK.ty I (aH (i:=2) I I)) I I I (aM (bW []) ?_));refine aL I (eK (i:=1) (e:=187) (size:=256) (bytes:=512) (m:=R.length) (xs:=R.flatMap eO) (k:=1) (ys:=eO r') I (k_ (i:=6) I (λj u h=>by simpa using h) (bx 1) aiT) I I (by rw[dz]) (λu hu=>row_one [r'] u (by simpa using hu)) J J I λqX=>(aM (bW []) ?_))
    try refine GW ?_
    refine aL I (aU (i:=1) I λkT lC=>bU (i:=2) I I I kT lC I (aM (bW []) ?_))
    try refine GW ?_
    refine dj [0,2,3,4,5,1] ?_;exact dE (pC,qX,oD) trivial (by repeat' (first|exact bZ|refine bX I ?_)) (by dsimp only;rw[AY];rfl)
   clear YX;rintro⟨pC,qX,oD⟩ _;dsimp only;refine iu (i:=2) I fW λgJ=>?_;obtain⟨ab',cs',rfl,aiz,-⟩:=gJ
   by_cases c2:200<d'.S.length+1
   ·rw[if_pos c2]at i4
    have ho:=PX i4.symm;unfold Se;rw[ho]
    repeat(first|refine GC ?_|refine gV (aC (v:=ap ab' (d'.S.length+1) cs') aK.ty I (aH (i:=1) I I)) ?_|refine gV (dT (b:=aD) I I (decide_eq_true J)) ?_|refine gV (bB I hbz) ?_|refine GB ?_)
    refine gC 0 ?_;refine zL ?_
    try refine GA ?_
    refine dK 187 256 (dK 3 1 ?_);exact eE (i:=0) I I I I I λw hm=>hm.meets (S:=⟨λ(_:Value×Value)=>True,λx=> .tuple #[iF x.1 x.2,av az 8],λx=>[a_ 187 256 x.1 0 [],a_ 3 1 x.2 0 []]⟩) (ap ak 0 0,ap ak 0 0) trivial [6,7] aiT I
   rw[if_neg c2]at i4
   repeat(first|refine GC ?_|refine gV (aC (v:=ap ab' (d'.S.length+1) cs') aK.ty I (aH (i:=1) I I)) ?_|refine gV (dT (b:=aE) I I (decide_eq_false J)) ?_|refine GB ?_)
   exact bY (n+1,R++[r'],d',ap ab' (d'.S.length+1) cs',qX,oD) ⟨by rw[bI,i0];rfl,by show n+1<=d'.S.length+1;omega,s1,by show d'.S.length+1<=200;omega,i4⟩ (by show 201-(n+1)<201-n;omega)
  have i5:uL m=aj (R,d):=by
   rw[<-i4,show 201-n=(201-(n+1))+1 by omega,HC,if_neg c1]
  have ho:=EF i5;unfold Se;rw[ho];refine iu (i:=4) I fW λgJ=>?_;obtain⟨at',ct',rfl,-⟩:=gJ;refine iu (i:=5) I fW λgJ=>?_;obtain⟨ar',cr',rfl,-⟩:=gJ
  repeat(first|refine GC ?_|refine gV (aC (v:=ap ab (d.S.length+1) cs) aK.ty I (aH (i:=1) I I)) ?_|refine gV (dQ (b:=aE) I I (decide_eq_false J)) ?_|refine gV (a8 (cs:=[ap ar' R.length cr',ap at' d.tags.length ct']) aK.ty I I (λj v hj=>aH (i:=1) I (aeD hj))) ?_|refine GB ?_)
  refine gC 0 (cs':=#[ap ar' R.length cr',ap at' d.tags.length ct']) ?_;refine zL ?_
  try refine GA ?_
  exact eE (i:=0) I I I I I λw hm=>hm.meets (S:=⟨λ(_:Value×Value)=>True,λx=> .tuple #[iF x.1 x.2,av az 0],λx=>[a_ 187 256 x.1 R.length (R.flatMap eO),fY x.2 d.tags]⟩) (ap ar' R.length cr',ap at' d.tags.length ct') trivial [5,4] aiT I
end cI
namespace ns
open dl gj eo cT
open cI (mh fl wR JC)
def Ms(p:PS)(S:List C4)(all:C4)(b:Nat):Int:=if Ja p all b=C4.zero then-1 else((idx S (Ja p all b)+1:Nat):Int)
def vv(p:PS)(S:List C4)(all:C4)(b:Nat)(x:Int):Prop:=x=Ms p S all b/\(Ja p all b=C4.zero\/Ja p all b∈S)
theorem vv.TU{p:PS}{S:List C4}{all:C4}{b:Nat}{x:Int}(h:vv p S all b x)(E:List C4):vv p (S++E) all b x:=by
 obtain⟨h1,h2⟩:=h;refine⟨?_,h2.imp id λh=>xM _ h⟩;rw[h1];unfold Ms
 by_cases c:Ja p all b=C4.zero
 rw[if_pos c,if_pos c];rw[if_neg c,if_neg c,qq (h2.resolve_left c)]
def qY(p:PS)(t0:Int)(d:DM):Prop:=d.tags=t0::d.S.map (ns.wO p)
theorem UE(p:PS)(t0:Int)(d:DM)(s:C4):(∃E,(iL p d s).2.S=d.S++E)/\s∈(iL p d s).2.S/\(iL p d s).1=idx (iL p d s).2.S s+1/\(qY p t0 d->qY p t0 (iL p d s).2):=by
 unfold iL
 by_cases c:s∈d.S
 ·rw[if_pos c]
  exact⟨⟨[],(dW _).symm⟩,c,rfl,id⟩
 rw[if_neg c];refine⟨⟨[s],rfl⟩,Yl _ (dR.2 I),?_,λh=>?_⟩
 ·show d.S.length+1=idx (d.S++[s]) s+1
  unfold idx;rw[List.idxOf_append,if_neg c];simp
 show d.tags++[ns.wO p s]=t0::(d.S++[s]).map (ns.wO p)
 rw[h,eV];rfl
theorem YY(p:PS)(t0:Int)(all:C4)(b:Nat)(hb:b<256)(r:Row)(d:DM):(∃E,(fQ p all b r d).2.S=d.S++E)/\(∀c (h:c<256),c≠b->(fQ p all b r d).1[c]=r[c])/\vv p (fQ p all b r d).2.S all b ((fQ p all b r d).1[b])/\(qY p t0 d->qY p t0 (fQ p all b r d).2):=by
 unfold fQ
 by_cases c:Ja p all b=C4.zero
 ·rw[if_pos c,dif_pos hb]
  refine⟨⟨[],(dW _).symm⟩,λc' h hc=>?_,⟨?_,.inl c⟩,id⟩;exact Pt hb h (xu hc);rw[Yt hb];unfold Ms;rw[if_pos c]
 rw[if_neg c,dif_pos hb];obtain⟨h1,h2,h3,h4⟩:=UE p t0 d (Ja p all b);refine⟨h1,λc' h hc=>?_,⟨?_,.inr h2⟩,h4⟩
 ·dsimp only
  rw[Pt hb h (xu hc),Pt hb h (xu hc)]
 dsimp only;rw[Yt hb,h3];unfold Ms;rw[if_neg c]
theorem Sf(p:PS)(t0:Int)(all:C4):∀(f b:Nat) (r:Row) (d:DM),b+f=256->(mF p all f b r d).2.S.length+1<=200->
 (∃E,(mF p all f b r d).2.S=d.S++E)/\(∀c (h:c<256),c<b->(mF p all f b r d).1[c]=r[c])/\(∀c (h:c<256),b<=c->vv p (mF p all f b r d).2.S all c ((mF p all f b r d).1[c]))/\(qY p t0 d->qY p t0 (mF p all f b r d).2)
 |0,b,r,d,hbf,_=>⟨⟨[],(dW _).symm⟩,λ_ _ _=>rfl,λc h hc=>by omega,id⟩
 | f +1,b,r,d,hbf,hl=>by
  obtain⟨⟨E1,h1⟩,h2,h3,h4⟩:=YY p t0 all b J r d;have e:mF p all (f+1) b r d=if 200<(fQ p all b r d).2.S.length+1 then fQ p all b r d else mF p all f (b+1) (fQ p all b r d).1 (fQ p all b r d).2:=rfl
  rw[e]at hl⊢
  by_cases c:200<(fQ p all b r d).2.S.length+1
  rw[if_pos c]at hl;omega;rw[if_neg c]at hl⊢;obtain⟨⟨E2,q1⟩,q2,q3,q4⟩:=Sf p t0 all f (b+1) _ _ J hl;refine⟨⟨E1++E2,by rw[q1,h1,eD]⟩,λc' h hc=>?_,λc' h hc=>?_,λh=>q4 (h4 h)⟩;rw[q2 c' h J,h2 c' h J]
  by_cases ec:c'=b
  ·subst ec
   rw[q2 c' h J,q1];exact h3.TU E2
  exact q3 c' h J
theorem HD(m:MS)(S E:List C4){n:Nat}(h:n<=S.length):mV m (S++E) n=mV m S n:=by
 cases n with
 |zero=>rfl
 |succ n=>
  show nt m.ps ((S++E).getD n C4.zero) _=nt m.ps (S.getD n C4.zero) _
  rw[jv J]
structure MkI(m:MS)(t0:Int)(n:Nat)(R:List Row)(d:DM):Prop where
 len:R.length=n
 le:n<=d.S.length+1
 B7:d.S.length+1<=200
 cell:∀q,q<n->∀c (h:c<256),vv m.ps d.S (mV m d.S q) c ((R.getD q wR)[c])
 tags:qY m.ps t0 d
theorem Mt(m:MS)(t0:Int):∀(f n:Nat) (R:List Row) (d:DM) (R':List Row) (d':DM),sH m f n R d=aj (R',d')->MkI m t0 n R d->MkI m t0 (d'.S.length+1) R' d'
 |0,_,_,_,_,_,h,_=>by cases h
 | f + 1,n,R,d,R',d',h,hi=>by
  have e:sH m (f+1) n R d=if n<d.S.length+1 then(if 200<(p_ m n d).2.S.length+1 then ak else sH m f (n+1) (R++[(p_ m n d).1]) (p_ m n d).2)else aj (R,d):=rfl
  rw[e]at h
  by_cases c1:n<d.S.length+1
  ·rw[if_pos c1]at h
   by_cases c2:200<(p_ m n d).2.S.length+1
   rw[if_pos c2]at h;cases h;rw[if_neg c2]at h;refine Mt m t0 f (n+1) _ _ R' d' h ?_;obtain⟨⟨E,q1⟩,_,q3,q4⟩:=Sf m.ps t0 (mV m d.S n) 256 0 (ee 256 0) d rfl (by show(p_ m n d).2.S.length+1<=200;omega);have q1:(p_ m n d).2.S=d.S++E:=q1;have q3:∀c (h:c<256),0<=c->vv m.ps (p_ m n d).2.S (mV m d.S n) c ((p_ m n d).1[c]):=q3;have hlen:=congrArg yf q1;rw[bI]at hlen;refine⟨by rw[bI,hi.len];rfl,by omega,by omega,λq hq c hc=>?_,q4 hi.tags⟩
   by_cases eq:q=n
   ·subst eq
    rw[lX (by rw[hi.len];exact bx _),hi.len,oa];show vv m.ps (p_ m q d).2.S (mV m (p_ m q d).2.S q) c ((p_ m q d).1[c])
    rw[q1,HD m d.S E J,<-q1];exact q3 c hc (bH _)
   rw[jv (by rw[hi.len];omega),q1,HD m d.S E J];exact(hi.cell q J c hc).TU E
  rw[if_neg c1]at h;simp only[df,fD]at h;obtain⟨rfl,rfl⟩:=h;have:n=d.S.length+1:=by have:=hi.le;omega
  rw[<-this];exact hi
theorem AZ{m:MS}{R:List Row}{d:DM}(h:uL m=aj (R,d)):MkI m (fj m.empty 0) (d.S.length+1) R d:=
 Mt m (fj m.empty 0) 201 0 [] ⟨[],[fj m.empty 0]⟩ R d h ⟨rfl,bH _,by show 0+1<=200;decide,λq hq=>absurd hq (l5 q),rfl⟩
theorem YZ(R:List Row)(q c:Nat)(h:c<256):((R.getD q wR).toList.getD c 0)=(R.getD q wR)[c]:=by
 rw[b9,bD (by simpa using h),kp,oc]
theorem JH{p:PS}{n:Nat}(hr:∀r∈p.rules,0<=r/\r<n)(hl:p.rules.length=p.aZ.length)(s:C4):∀k,k<=p.aZ.length->(kx p s k= -1/\∀i,i<k->s.mem i=aD->p.last.getD i aE=aD->False)\/(∃i,i<k/\s.mem i=aD/\p.last.getD i aE=aD/\kx p s k=p.rules.getD i 0/\0<=kx p s k/\kx p s k<n/\∀i,i<k->s.mem i=aD->p.last.getD i aE=aD->kx p s k<=p.rules.getD i 0)
 |0,_=> .inl ⟨rfl,λi hi=>absurd hi (l5 i)⟩
 | k +1,hk=>by
  have Tz:0<=p.rules.getD k 0/\p.rules.getD k 0<n:=by
   rw[b9,bD J,kp];exact hr _ (cD _)
  have e:kx p s (k+1)=if s.mem k=aD/\p.last.getD k aE=aD/\(kx p s k<0\/p.rules.getD k 0<kx p s k)then p.rules.getD k 0 else kx p s k:=rfl
  rw[e];have ih:=JH hr hl s k J
  by_cases c:s.mem k=aD/\p.last.getD k aE=aD/\(kx p s k<0\/p.rules.getD k 0<kx p s k)
  ·rw[if_pos c]
   refine .inr ⟨k,nv k,c.1,c.2.1,rfl,Tz.1,Tz.2,λi hi h1 h2=>?_⟩
   by_cases ei:i=k
   subst ei;exact lg _;rcases ih with⟨_,h⟩|⟨_,_,_,_,_,h0,_,h⟩
   exact(h i J h1 h2).elim;have h7:=h i J h1 h2;have h8:=c.2.2;omega
  rw[if_neg c];rcases ih with⟨h0,h⟩|⟨i,hi,h1,h2,h3,h4,h5,h6⟩
  ·refine .inl ⟨h0,λi hi h1 h2=>?_⟩
   by_cases ei:i=k
   subst ei;exact c ⟨h1,h2,.inl (by rw[h0];decide)⟩;exact h i J h1 h2
  refine .inr ⟨i,by omega,h1,h2,h3,h4,h5,λj hj g1 g2=>?_⟩
  by_cases ej:j=k
  ·subst ej
   have h9:¬(kx p s j<0\/p.rules.getD j 0<kx p s j):=λh=>c ⟨g1,g2,h⟩;omega
  exact h6 j J g1 g2
theorem EH:∀(l:List Bool) (k:Nat),(fj l k= -1/\∀i,i<l.length->l.getD i aE=aE)\/(∃i,i<l.length/\fj l k=((k+i:Nat):Int)/\l.getD i aE=aD/\∀j,j<i->l.getD j aE=aE)
 |[],_=> .inl ⟨rfl,λ_ _=>rfl⟩
 |true::l,k=> .inr ⟨0,Nat.zero_lt_succ _,rfl,rfl,λj hj=>absurd hj (l5 j)⟩
 | false::l,k=>by
  have e:fj (false::l) (k:Int)=fj l ((k+1:Nat):Int):=rfl;rw[e];rcases EH l (k+1)with⟨h1,h2⟩|⟨i,h1,h2,h3,h4⟩
  ·refine .inl ⟨h1,λi hi=>?_⟩
   cases i with
   |zero=>rfl
   |succ i=>exact h2 i (by simpa using hi)
  refine .inr ⟨i+1,by simpa using h1,by rw[h2];congr 1;omega,h3,λj hj=>?_⟩
  cases j with
  |zero=>rfl
  |succ j=>exact h4 j J
theorem HE{l:List Bool}: -1<=fj l 0/\fj l 0<(l.length:Int):=by
 rcases EH l 0 with⟨h1,_⟩|⟨i,h1,h2,_⟩
 ·have h1:fj l 0= -1:=h1
  rw[h1];omega
 have h2:fj l 0=((0+i:Nat):Int):=h2;rw[h2];omega
section
variable{es:List Re}{m:MS}{R:List Row}{d:DM}
theorem abT(hm:I9 m)(hi:MkI m (fj m.empty 0) (d.S.length+1) R d){k:Nat}(hk:k<d.S.length+1):d.tags.getD k 0=(if h:k=0 then fj m.empty 0 else ns.wO m.ps (d.S[k-1]' J))/\ -1<=d.tags.getD k 0/\d.tags.getD k 0<20:=by
 have h:=hi.tags;unfold qY at h;rw[h];have h20:=hm.qS
 cases k with
 |zero=>
  have:=HE (l:=m.empty);refine⟨rfl,this.1,?_⟩;have e:(fj m.empty 0::d.S.map (ns.wO m.ps)).getD 0 0=fj m.empty 0:=rfl;rw[e];omega
 | succ k=>
  have hk:k<d.S.length:=by omega
  have e:(fj m.empty 0::d.S.map (ns.wO m.ps)).getD (k+1) 0=ns.wO m.ps d.S[k]:=by
   rw[List.getD_cons_succ,b9,eS,bD hk];rfl
  rw[e];refine⟨rfl,?_⟩;unfold ns.wO;rcases JH hm.rules hm.ok.ps.rules d.S[k] m.ps.aZ.length (bx _)with⟨h1,_⟩|⟨_,_,_,_,_,h1,h2,_⟩
  rw[h1];omega;omega
theorem Y0(hm:I9 m)(hi:MkI m (fj m.empty 0) (d.S.length+1) R d):mh R d.tags=0:=by
 have hl:=hi.len;have hf:=hi.B7;refine JC ⟨?_,?_,λq hq b hb=>?_,λq hq=>?_⟩ ?_;show 0<R.length;omega
 show R.length<=200;omega
 ·have hq:q<R.length:=hq
  show-1<=(R.getD q wR).toList.getD b 0/\(R.getD q wR).toList.getD b 0<(R.length:Int)
  rw[YZ R q b hb,(hi.cell q J b hb).1];unfold Ms
  by_cases c:Ja m.ps (mV m d.S q) b=C4.zero
  rw[if_pos c];omega;rw[if_neg c];have:=ni ((hi.cell q J b hb).2.resolve_left c);omega
 ·have hq:q<R.length:=hq
  exact(abT hm hi J).2
 have h:=hi.tags;unfold qY at h;rw[h,hl,de,dF]
end
end ns
namespace cI
open Go.RowKit cU dS
section
variable{α:Type}{s:wL α}{F:Nat->Prop}{vs:List Value}{S:List (List α)}{W:bO}{L:List cH}{w:World}
theorem HG(h:(ef (bL s) F (vs.map λv=>[v]) S).holds w):vs.length=S.length:=by have:=h.1.1;rwa [dF]at this
theorem PZ(h:(ef (bL s) F (vs.map λv=>[v]) S).holds w){q:Nat}(hq:q<S.length){v:Value}(hv:vs[q]?=aj v):jW s F w v S[q]:=by
 have hnv:q<vs.length:=(cX.1 hv).1;obtain⟨v',e,hs⟩:=h.1.2 q hq (by rw[dF];exact hnv);rw[pg]at e;have h2:=(cX.1 hv).2;rw[h2]at e;rw[(Pq e).1];exact hs
theorem Y1(h:(ef (bL s) F (vs.map λv=>[v]) S).holds w){q:Nat}(hq:q<S.length){v:Value}(hv:vs[q]?=aj v):∃base cap,v= .slice base S[q].length cap/\S[q].length<=cap/\cap<=9223372036854775807/\(0<S[q].length->∃b off,base=aj ⟨b,off,ak⟩):=by
 obtain⟨base,cap,e,h1,h2,h3⟩:=PZ h hq hv;exact⟨base,cap,e,h1,by unfold maxLen at h2;omega,λhn=>let ⟨b,off,h4,_⟩:=h3 hn;⟨b,off,h4⟩⟩
theorem P0{f:α->List Value}{c:Nat}{hc:∀a,(f a).length=c}{p:α->Prop}(C9:0<c){i:Nat}(hi:L[i]?=aj (ef (bL (yM f c hc p)) F (vs.map λv=>[v]) S)){q:Nat}(hq:q<S.length){v:Value}(hv:vs[q]?=aj v):SlL W L v S[q].length (S[q].flatMap f):=λ_ hm=>
 jW.flat C9 (PZ (hm.get hi) hq hv)
end
end cI
namespace cI
open Go.RowKit cU dS aT dP dL bJ cT
def EI(c:bJ.Item->Nat)(x:bJ.Item):Value:=av az (c x:Int)
def A0(c:bJ.Item->Nat)(it:bJ.Item)(x:bJ.Item):Nat:=if x=it then c x+1 else c x
structure rJ(c:bJ.Item->Nat)(out:List bJ.Item)(b:Nat):Prop where
 zero:∀x,c x=0↔x∉out
 le:∀x,c x<=b
theorem rJ.put{c:bJ.Item->Nat}{out:List bJ.Item}{b:Nat}(h:rJ c out b)(it:bJ.Item):rJ (A0 c it) (more out it) (b+2):=by
 refine⟨λx=>?_,λx=>?_⟩
 ·unfold A0
  by_cases e:x=it
  ·subst e
   rw[if_pos I]
   constructor
   intro h;omega;intro h;exact absurd (uz.2 (.inr I)) h
  rw[if_neg e,h.zero x];rw[uz]
  constructor
  intro h1 h2;exact h2.elim h1 e;intro h1 h2;exact h1 (.inl h2)
 unfold A0;have:=h.le x;split<;>omega
def F8(g5 gm g6 b:Nat)(v:Value)(c:bJ.Item->Nat)(out:List bJ.Item):List cH:=
 [aP g5 #[.map (aj gm)] 247,p8 Ju gm (av az 0) (EI c) b,aP g6 #[v] 203,a_ 208 3 v out.length (out.flatMap iP)]
theorem abU(x:bJ.Item):∀u∈iP x,u.oneCell'=true:=by
 intro u hu;simp only[iP,dA,fv,or_false]at hu;rcases hu with rfl|rfl|rfl<;>rfl
theorem Mu(g5 gm g6 b:Nat)(v:Value)(c:bJ.Item->Nat)(out:List bJ.Item)(it:bJ.Item)(hit:Ju.ok it)(hp:rJ c out b)(hb:b+2<=1152921504606846976)(ho:out.length+1<=1000000)(w:World)(B:bO)(hm:Mem B (F8 g5 gm g6 b v c out) w):
 Calls aB 110 #[aQ (iP it).toArray,aJ (aj ⟨g5,0,ak⟩),aJ (aj ⟨g6,0,ak⟩)] w (cY ⟨λ_=>True,λ_=> .tuple #[],λv'=>F8 g5 gm g6 (b+2) v' (A0 c it) (more out it)⟩ B):=by
 unfold F8 at hm;have hle:=hp.le it;have hz:=hp.zero it;obtain⟨n,hn⟩:∃n,c it=n:=⟨_,rfl⟩;obtain⟨F,hF⟩:∃F,EI c=F:=⟨_,rfl⟩;obtain⟨F',hF'⟩:∃F',EI (A0 c it)=F':=⟨_,rfl⟩;have hcv:F it=av az (n:Int):=by rw[<-hF,<-hn];rfl
 have hF1:F' it=av az ((n+1:Nat):Int):=by rw[<-hF',<-hn];show av .i64 ((A0 c it it:Nat):Int)=_;unfold A0;rw[if_pos I]
 have vd:∀y,Ju.ok y->F' y=if y=it then av az ((n+1:Nat):Int)else F y:=λy _=>by
  rw[<-hF',<-hF,<-hn];show av .i64 ((A0 c it y:Nat):Int)=if y=it then _ else av .i64 ((c y:Nat):Int)
  unfold A0
  by_cases e:y=it
  subst e;rw[if_pos I,if_pos I];rw[if_neg e,if_neg e]
 rw[hF]at hm;rw[hn]at hle hz;clear hp;refine dm hm (args:=[aQ (iP it).toArray,aJ (aj ⟨g5,0,ak⟩),aJ (aj ⟨g6,0,ak⟩)]) (n:=18) Tryz.func110 I I I ?_;refine cC (bz (bR I I I λg3=>?_));refine zL ?_
 try refine GA ?_
 (repeat refine cC ?_)
 refine k8 (ι:=Unit) (λ_=>True) (λ_=>[(1,aJ (aj ⟨g5,0,ak⟩)),(2,aJ (aj ⟨g6,0,ak⟩)),(3,aJ (aj ⟨g3,0,ak⟩))]) (λ_=>[aP g5 #[.map (aj gm)] 247,p8 Ju gm (av az 0) F' (b+1+1),aP g6 #[v] 203,a_ 208 3 v out.length (out.flatMap iP),aP g3 (iP it).toArray 208]) ?_ ?_
 ·refine dN ([aP g5 #[.map (aj gm)] 247,aP g3 (iP it).toArray 208]) (.calm 0 (.calm 1 (.two 2 (.calm 3 (.one 4 (.calm 5 (.one 6 (.done))))) 4 (.calm 5 (.one 2 (.calm 3 (.one 6 (.done)))))))) (bW [0,4]) ?_
  repeat(first|refine GW ?_|(refine GN ?_;first|refine QW (aC (v:= .map (aj gm)) aK.ty I (aH (i:=0) I I)) ?_|refine QW (aO (i:=1) aK.ty I I I) ?_))
  refine eG I I ?_ ?_
  ·refine dx (Du Ju bM.eq nQ (i:=1) I I (x:=it) I hit hcv) I I I (aM (bW [0,4]) ?_)
   repeat(first|(refine GN ?_;first|refine QW QP ?_|refine QW (eT (r:=((n+1:Nat):Int)) I I J J J) ?_|refine GX ?_)|refine GW ?_)
   refine aL I (L1 Ju bM.eq nQ (i:=1) I I (x:=it) I hit J I λst=>aM (bW [0,4]) ?_)
   try refine GW ?_
   refine aL I (Hr Ju F' bM.eq (i:=1) I I I I hit J vd (aM (bW [0,4]) ?_))
   try refine GW ?_
   exact dE () trivial (by repeat' (first|exact bZ|refine bX I ?_)) I
  refine L1 Ju bM.eq nQ (i:=1) I I (x:=it) I hit J I λst=>aM (bW [0,4]) ?_
  try refine GW ?_
  refine aL I (dx (YC Ju bM.eq nQ (i:=1) I I (x:=it) I hit hcv) I I I (aM (bW [0,4]) ?_))
  repeat(first|(refine GN ?_;first|refine QW QP ?_|refine QW (eT (r:=((n+1:Nat):Int)) I I J J J) ?_|refine GX ?_)|refine GW ?_)
  refine aL I (Hr Ju F' bM.eq (i:=1) I I I I hit J vd (aM (bW [0,4]) ?_))
  try refine GW ?_
  exact dE () trivial (by repeat' (first|exact bZ|refine bX I ?_)) I
 rintro⟨⟩ _
 by_cases c1:it∈out
 ·have hm1:more out it=out:=if_pos c1
  rw[hm1];have hn0:n≠0:=λe=>hz.1 e c1;clear vd hcv
  repeat(first|refine GC ?_|refine gV (aC (v:= .map (aj gm)) aK.ty I (aH (i:=0) I I)) ?_|refine gV (aO (i:=4) aK.ty I I I) ?_|refine gV (Du Ju bM.eq nQ (i:=1) I I (x:=it) I hit hF1) ?_|refine gV (dg (b:=aE) I I (decide_eq_false J)) ?_|refine GB ?_)
  exact jG I λw hm=>hm.bV (S:=⟨λ(_:Value)=>True,λ_=> .tuple #[],λv'=>F8 g5 gm g6 (b+2) v' (A0 c it) out⟩) v trivial [0,1,2,3] aiT (by unfold F8;rw[<-hF'];rfl)
 ·have hm1:more out it=out++[it]:=if_neg c1
  rw[hm1];have hn0:n=0:=hz.2 c1;clear vd hcv
  repeat(first|refine GC ?_|refine gV (aC (v:= .map (aj gm)) aK.ty I (aH (i:=0) I I)) ?_|refine gV (aO (i:=4) aK.ty I I I) ?_|refine gV (Du Ju bM.eq nQ (i:=1) I I (x:=it) I hit hF1) ?_|refine gV (dg (b:=aD) I I (decide_eq_true J)) ?_|refine gV (aC (v:=v) aK.ty I (aH (i:=2) I I)) ?_|refine GB ?_)
  refine fy (cs:=(iP it).toArray) [aQ (iP it).toArray] I I I (by intro v hv;simp only[dA,fv,or_false]at hv;subst hv;rfl) I I I λg16=>?_;refine zL ?_;refine eK (i:=3) (e:=208) (size:=3) (bytes:=24) (m:=out.length) (xs:=out.flatMap iP) (k:=1) (ys:=iP it) I (k_ (i:=5) I (λj u h=>by simpa using h) (bx 1) aiT) I I I (abU it) J J I λv'=>?_;refine zL ?_;refine aU (i:=3) I λkT lC=>?_;refine bU (i:=2) I I I kT lC I ?_;refine zL ?_
  try refine GA ?_
  exact jG I λw hm=>hm.bV (S:=⟨λ(_:Value)=>True,λ_=> .tuple #[],λv'=>F8 g5 gm g6 (b+2) v' (A0 c it) (out++[it])⟩) v' trivial [0,1,2,3] aiT (by unfold F8;rw[<-hF',fC,bI];rfl)
end cI
namespace cI
open Go.Shelf
def P1:Go.Shelf.Ren:=⟨λ|6=>113|15=>129|14=>130|28=>150|29=>151|20=>152|21=>153|22=>154|23=>155|24=>156|25=>157|26=>158|27=>159|46=>168|47=>164|48=>165|49=>169|50=>170|57=>172|n=>n,λ|22=>203|24=>208|25=>252|3=>3|39=>211|0=>0|53=>292|55=>75|4=>4|46=>286|45=>285|50=>112|5=>5|9=>9|66=>301|70=>229|76=>308|77=>309|n=>n,λ|n=>n⟩
theorem Y2:Go.Proofs.SlLaysF0.n6 aB P1:={
 mixed:=by kernel_rfl
 f6:=⟨Tryz.f113.name,by decide,Tryz.func113.trans (congrArg aj (by kernel_rfl))⟩
 f14:=⟨Tryz.f130.name,by decide,Tryz.func130.trans (congrArg aj (by kernel_rfl))⟩
 f15:=Tryz.func129.trans (congrArg aj (by kernel_rfl))
 f20:=⟨Tryz.f152.name,by decide,Tryz.func152.trans (congrArg aj (by kernel_rfl))⟩
 f21:=⟨Tryz.f153.name,by decide,Tryz.func153.trans (congrArg aj (by kernel_rfl))⟩
 f22:=⟨Tryz.f154.name,by decide,Tryz.func154.trans (congrArg aj (by kernel_rfl))⟩
 f23:=⟨Tryz.f155.name,by decide,Tryz.func155.trans (congrArg aj (by kernel_rfl))⟩
 f24:=⟨Tryz.f156.name,by decide,Tryz.func156.trans (congrArg aj (by kernel_rfl))⟩
 f25:=⟨Tryz.f157.name,by decide,Tryz.func157.trans (congrArg aj (by kernel_rfl))⟩
 f26:=⟨Tryz.f158.name,by decide,Tryz.func158.trans (congrArg aj (by kernel_rfl))⟩
 f27:=⟨Tryz.f159.name,by decide,Tryz.func159.trans (congrArg aj (by kernel_rfl))⟩
 f28:=Tryz.func150.trans (congrArg aj (by kernel_rfl))
 f29:=Tryz.func151.trans (congrArg aj (by kernel_rfl))
 f46:=⟨Tryz.f168.name,by decide,Tryz.func168.trans (congrArg aj (by kernel_rfl))⟩
 f47:=Tryz.func164.trans (congrArg aj (by kernel_rfl))
 f48:=Tryz.func165.trans (congrArg aj (by kernel_rfl))
 f49:=⟨Tryz.f169.name,by decide,Tryz.func169.trans (congrArg aj (by kernel_rfl))⟩
 f50:=⟨Tryz.f170.name,by decide,Tryz.func170.trans (congrArg aj (by kernel_rfl))⟩
 f57:=⟨Tryz.f172.name,by decide,Tryz.func172.trans (congrArg aj (by kernel_rfl))⟩
 t0:=Tryz.underlying0
 a0:=Tryz.isAgg0
 z0:=Tryz.sizeOf0
 v0:=Tryz.zeroValue0
 t3:=Tryz.underlying3
 a3:=Tryz.isAgg3
 z3:=Tryz.sizeOf3
 v3:=Tryz.zeroValue3
 t4:=Tryz.underlying4
 a4:=Tryz.isAgg4
 z4:=Tryz.sizeOf4
 v4:=Tryz.zeroValue4
 t5:=Tryz.underlying5
 a5:=Tryz.isAgg5
 z5:=Tryz.sizeOf5
 v5:=Tryz.zeroValue5
 t9:=Tryz.underlying9
 a9:=Tryz.isAgg9
 z9:=Tryz.sizeOf9
 v9:=Tryz.zeroValue9
 t22:=Tryz.underlying203
 a22:=Tryz.isAgg203
 z22:=Tryz.sizeOf203
 v22:=Tryz.zeroValue203
 t25:=Tryz.underlying252
 a25:=Tryz.isAgg252
 z25:=Tryz.sizeOf252
 v25:=Tryz.zeroValue252
 t39:=Tryz.underlying211
 a39:=Tryz.isAgg211
 z39:=Tryz.sizeOf211
 v39:=Tryz.zeroValue211
 t45:=Tryz.underlying285
 a45:=Tryz.isAgg285
 z45:=Tryz.sizeOf285
 v45:=Tryz.zeroValue285
 t46:=Tryz.underlying286
 a46:=Tryz.isAgg286
 z46:=Tryz.sizeOf286
 v46:=Tryz.zeroValue286
 t50:=Tryz.underlying112
 a50:=Tryz.isAgg112
 z50:=Tryz.sizeOf112
 v50:=Tryz.zeroValue112
 t53:=Tryz.underlying292
 a53:=Tryz.isAgg292
 z53:=Tryz.sizeOf292
 v53:=Tryz.zeroValue292
 t55:=Tryz.underlying75
 a55:=Tryz.isAgg75
 z55:=Tryz.sizeOf75
 v55:=Tryz.zeroValue75
 t66:=Tryz.underlying301
 a66:=Tryz.isAgg301
 z66:=Tryz.sizeOf301
 v66:=Tryz.zeroValue301
 t70:=Tryz.underlying229
 a70:=Tryz.isAgg229
 z70:=Tryz.sizeOf229
 v70:=Tryz.zeroValue229
 t76:=Tryz.underlying308
 a76:=Tryz.isAgg308
 z76:=Tryz.sizeOf308
 v76:=Tryz.zeroValue308
 t77:=Tryz.underlying309
 a77:=Tryz.isAgg309
 z77:=Tryz.sizeOf309
 v77:=Tryz.zeroValue309}
end cI
namespace cI
open Go.RowKit cU dS bJ Go.Sort
theorem P2(w:World)(n g:Nat)(d:Array Value)(os:Array Obj){k:Nat}(hk:k<w.heap.size)(hg:k≠g):(grow (putRow id (Go.Sort.ahead w n) g 0 d) os).heap[k]?=w.heap[k]?:=by
 rw[heap_grow_old _ _ (by rw[size_putRow];exact hk)];show(w.heap.modify g _)[k]?=w.heap[k]?
 rw[Dw,if_neg (λh=>hg h.symm)]
theorem Y3{B:bO}{w:World}{e:TypeId}{g cap m size:Nat}{xs:List Value}(hm:Mem B [a_ e size (ap (aj ⟨g,0,ak⟩) m cap) m xs] w)(d:Array Value)(hd:d.size=m*size)(n:Nat)(os:Array Obj):
 Mem B [a_ e size (ap (aj ⟨g,0,ak⟩) m cap) m d.toList] (grow (putRow id (Go.Sort.ahead w n) g 0 d) os):=by
 have ho:w.ownsRow 0 e size (ap (aj ⟨g,0,ak⟩) m cap) m xs:=hm.get (i:=0) I;obtain⟨hl,hr⟩:=ho;rcases hr with⟨h,_⟩|⟨g2,O6,jS,hv,_,hg,hc,hx,hs,ht⟩
 ·cases h
 cases hv
 have LP:B.may g:=(hm.owns.all 0 _ I).2 g (.inl I);have hgw:g<w.heap.size:=(jm.1 hg).1;have X9:(grow (putRow id (Go.Sort.ahead w n) g 0 d) os).heap[g]?=aj (.cells (putCells id 0 d jS) e (0,0)):=by
  rw[heap_grow_old _ _ (by rw[size_putRow];exact hgw)];show(w.heap.modify g (onCells (putCells id 0 d)))[g]?=_
  rw[Dw,if_pos I,hg];rfl
 have hle:m*size<=cap*size:=oP _ hc;refine⟨⟨hm.low.os,hm.low.tape,hm.low.output,?_,λk hk hx=>?_⟩,eH.one ⟨?_,.inr ⟨g,cap,_,rfl,bH _,X9,hc,hx,?_,?_⟩⟩ λk hk=>?_⟩
 ·rw[size_grow,size_putRow];exact fw hm.low.size (Nat.le_add_right _ _)
 ·have hkg:k≠g:=λe=>by
   subst e;rcases LP with h|h
   omega;exact hx h
  rw[P2 w n g d os (Nat.lt_of_lt_of_le hk hm.low.size) hkg];exact hm.low.block k hk hx
 ·rw[lG,hd]
 ·unfold putCells;rw[Array.size_mapIdx];exact hs
 ·apply nb
  intro j;rw[qO]
  by_cases hj:j<m*size
  ·have hjc:j<jS.size:=by omega
   rw[if_pos hj,qL,qL];unfold putCells;rw[Array.getElem?_mapIdx,xL hjc,Option.map_some,if_pos ⟨bH _,by omega⟩,Nat.sub_zero,getElem!_pos d j J,xL (by omega:j<d.size)];rfl
  rw[if_neg hj,qL,Array.getElem?_eq_none J]
 ·rcases hk with h|h
  simp only[a_,Value.ownBlock,df]at h;subst h;exact LP;exact h.elim
theorem aeF:SWO (ltOf L8):=⟨R9,λ_ _ _ h1 h2=>aet h1 h2,λx y z h1 h2=>by
 have h1:PC x y=false:=h1;have h2:PC y z=false:=h2;show PC x z=aE
 rw[PD]at*;omega⟩
theorem Sg(l:List bJ.Item):(flatK iP 3 l.toArray).toList=l.flatMap iP:=by
 have hL:(l.flatMap iP).length=l.length*3:=k9 lD l;apply nb;intro t
 by_cases ht:t<l.length*3
 ·have hd:t/3<l.length:=by omega
  have h1:=get_flatK iP 3 l.toArray t (by simpa using ht);rw[getElem!_pos (flatK iP 3 l.toArray) t (by simpa using ht),getElem!_pos l.toArray (t/3) (by simpa using hd)]at h1;have h2:=uk (c:=3) (l.map iP) (λx hx=>by obtain⟨y,_,rfl⟩:=eX.1 hx;exact lD y) (t/3) (t %3) (by simpa using hd) (Af _ aiT);rw[show t/3*3+t %3=t by omega,pg]at h2;rw[qL,xL (by simpa using ht),h1];show _=(l.map iP).flatten[t]?
  rw[h2];have h3:t %3<(iP l[t/3]).length:=by rw[lD];exact Af _ aiT
  rw[bD h3];simp only[List.getElem_toArray];rw[getElem!_pos (iP l[t/3]) (t %3) h3]
 rw[kG (by rw[lG,size_flatK];simp;omega),kG J]
theorem P3{w:World}{e:TypeId}{g cap m size:Nat}{xs:List Value}(ho:w.ownsRow 0 e size (ap (aj ⟨g,0,ak⟩) m cap) m xs)(d:Array Value)(hd:d.toList=xs):Holds id w g 0 d/\g<w.heap.size:=by
 obtain⟨hl,hr⟩:=ho;rcases hr with⟨h,_⟩|⟨g2,O6,jS,hv,_,hg,hc,hx,hs,ht⟩
 cases h
 cases hv
 refine⟨λj hj=>?_,(jm.1 hg).1⟩;have hle:m*size<=cap*size:=oP _ hc;have hj2:j<xs.length:=by rw[<-hd];simpa using hj
 have hcj:jS[j]?=aj d[j]:=by
  have:=congrArg (λl=>l[j]?) ht;rw[qO,if_pos J,qL,<-hd,qL,xL hj]at this;exact this
 refine⟨?_,?_⟩;rw[cell_of_row w g (0+j) _ _ _ hg,cV,hcj,getElem!_pos d j hj];rfl;unfold World.frozen?;rw[hg];simp
def abV:Prop:=∀(x y:bJ.Item) (w:World),Calls aB 114 #[aQ (iP x).toArray,aQ (iP y).toArray] w λe w'=>e= .returned (av az (L8 x y))/\∃q os',w'=grow (w.drewN q) os'
theorem abW(ahI:abV)(v:Value)(l:List bJ.Item)(w:World)(B:bO)(hm:Mem B [a_ 208 3 v l.length (l.flatMap iP)] w)(hl:l.length<4611686018427387904):
 Calls aB 113 #[v,.func (.func 114) #[] #[]] w (cY ⟨λ(_:Unit)=>True,λ_=> .tuple #[],λ_=>[a_ 208 3 v l.length ((uU l).flatMap iP)]⟩ B):=by
 have ho:w.ownsRow 0 208 3 v l.length (l.flatMap iP):=hm.get (i:=0) I;have Cv:=ho;rcases ho.2 with⟨rfl,h0⟩|⟨g,cap,jS,rfl,_,hg,hc,hx,hs,ht⟩
 ·obtain rfl:l=[]:=List.length_eq_zero_iff.1 h0
  refine(AnyF.slices_SortFunc_none Y2 ak 0 _ w).mono λe w' ⟨he,hw⟩=>⟨(),trivial,he,?_⟩;rw[hw];exact(by simpa[uU]using hm)
 ·obtain⟨h1,h2⟩:=P3 Cv (flatK iP 3 l.toArray) (Sg l)
  have ahJ:CmpLays aB 114 #[] iP 3 L8 g 0 l.toArray.size w:=λm os dk _ x y=>by
   have h:=ahI x y (sortWorldK iP 3 w g 0 m dk os)
   simpa using h
  have h:=AnyQ.slices_SortFunc_total Y2 3 Tryz.isAgg208 Tryz.sizeOf208 iP lD (λx v hv=>by simp only[iP,dA,fv,or_false]at hv;rcases hv with rfl|rfl|rfl<;>rfl) L8 aeF 114 #[] g 0 cap l.toArray w aI.en ahJ h1 h2 (by simpa using hl) Um;have hz:l.toArray.size=l.length:=by simp
  rw[hz]at h;refine h.mono λe w' ⟨he,n,os,hw⟩=>⟨(),trivial,he,?_⟩;have hlen:(uU l).length=l.length:=L_ l;have hq:=Y3 hm (flatK iP 3 (uU l).toArray) (by rw[size_flatK];simp[hlen]) n os;rw[Sg]at hq;rw[hw];exact hq
end cI
namespace cI
open Go.RowKit cU dS aT dP dL bJ cT
def Y4(B:bO)(v:Value)(n:Nat)(xs:List Value):Prop:=
 ∃base cap,v=ap base n cap/\n<=cap/\cap<=maxLen/\(0<n->∃b off,base=aj ⟨b,off,ak⟩/\AN B b/\Rd B.w b off xs)
theorem Sh{l:List aT.Prod}{w0:World}{W:bO}{vb:Nat->Value}{k dn:Nat}{x:Option Nat}{bb:Option Addr}{cc m:Nat}(ho:pZ w0 W)(hv:Ut (λq=>q<w0.heap.size) w0 vb l)(hk:k<=l.length)(hx:x.isSome=decide (k=l.length))(hb:abw vb k x=ap bb m cc)(hd:dn<(fI l (k:Int)).length):
 ∃b off,bb=aj ⟨b,off,ak⟩/\∀(L:List cH) (i:Nat),L[i]?=aj (AW x)->∀j u,(eA (fI l (k:Int))[dn])[j]?=aj u->At W L ⟨b,off+dn*2+j,ak⟩ u:=by
 cases x with
 |some g=>
  have hk:k=l.length:=by simpa using hx
  subst hk;have e:fI l (l.length:Int)=[(2,0)]:=by unfold fI;rw[if_pos I]
  have hb:ap (aj ⟨g,0,ak⟩) 1 1=ap bb m cc:=hb
  cases hb
  refine⟨g,0,rfl,λL i hi j u hj=>?_⟩;have hd0:dn=0:=by rw[e]at hd;simpa using hd
  subst hd0;simp only[e,List.getElem_cons_zero]at hj;rw[show 0+0*2+j=j by omega];exact aH hi (by simpa[eA]using hj)
 | none=>
  have mT:k<l.length:=by
   have:¬k=l.length:=by simpa using hx
   omega
  have e:fI l (k:Int)=(dc l (k:Int)).2:=by unfold fI;rw[if_neg J]
  have hs:=(hv k mT).flat (f:=eA) aiT;have hb:vb k=ap bb m cc:=hb;rw[hb]at hs;obtain⟨base,cap,h1,_,_,h3⟩:=hs
  cases h1
  have Wq:dn<(dc l (k:Int)).2.length:=by rw[<-e];exact hd
  obtain⟨b,off,rfl,hr⟩:=h3 J;refine⟨b,off,rfl,λL i _ j u hj=>?_⟩;simp only[e]at hj;exact uf (W:=W) (L:=L) Ew (off:=off) (λq y hq=>iC ho (hr q y hq)) Wq j u hj
theorem UF(g:eb){it:bJ.Item}(h:it.2.2.toNat<64):uV (ke g) it<18446744073709551616:=by
 have h1:ke g it.1 it.2.1<18446744073709551616:=Sb aiT;unfold uV;split;exact Yq (n:=64) (Jl (n:=64) h1 aiT) (DA aiT h);exact h1
theorem yl{i bits:Nat}{out:List bJ.Item}:∀k,(fz i bits out k).length<=out.length+k
 |0=>bx _
 |k+1=>by
  rw[fz];have:=yl (i:=i) (bits:=bits) (out:=out) k;have h2:(more (fz i bits out k) ((i:Int),0,(k:Int))).length<=(fz i bits out k).length+1:=by unfold more;split<;>simp
  split<;>omega
theorem EJ{l:List aT.Prod}{T:Nat}{N:Int}{bits:Nat}{out:List bJ.Item}:∀i,(fA l T N bits out i).length<=out.length+i*(T+1)
 |0=>by rw[Nat.zero_mul];exact bx _
 |i+1=>by
  rw[fA,Nat.succ_mul];have:=EJ (l:=l) (T:=T) (N:=N) (bits:=bits) (out:=out) i;have h2:=yl (i:=i) (bits:=bits) (out:=fA l T N bits out i) (T+1);split<;>omega
theorem CJ{L:List cH}{is:List Nat}{o:cH}(h:o∈is.filterMap λi=>L[i]?):o∈L:=by
 obtain⟨i,_,hi⟩:=Pp.1 h;exact lP hi
def opL(g:eb)(bp:Option Addr)(cp go gm:Nat)(f:RK->Option Value)(c:Nat):List cH:=[aP go (BA g.aR g.bC (ap bp g.aF.length cp) gm).toArray 245,fe iT gm f c]
theorem EK{κ:Type}[DecidableEq κ]:∀(l D:List κ),(dM D l).length<=D.length+l.length
 |[],D=>by simp[dM]
 |k::r,D=>by
  rw[dM];have:=EK r (if k∈D then D else D++[k]);have h2:(if k∈D then D else D++[k]).length<=D.length+1:=by split<;>simp
  rw[de];omega
theorem Y5{l:List aT.Prod}{T:Nat}{x:bJ.Item}(h:ey l T x)(hl:l.length<=40)(hw:∀q∈l,q.2.length<=8)(hT:T<=30):Ju.ok x:=by
 obtain⟨a1,a2,a3,a4,a5,a6⟩:=h;have:=mI (l:=l) (p:=x.1) hw;exact⟨⟨by omega,by omega⟩,⟨by omega,by omega⟩,by omega,by omega⟩
def vz(g:eb)(T:Nat)(l0:List bJ.Item)(bp:Option Addr)(cp go gm c:Nat):Spec ((RK->Option Value)×Nat×Value):=
 ⟨λx=>jP (ke g) x.1/\x.2.1<=c+12000,λx=>x.2.2,λx=>opL g bp cp go gm x.1 x.2.1++[a_ 208 3 x.2.2 (jO g.aF T (ke g) l0).length ((jO g.aF T (ke g) l0).flatMap iP)]⟩
theorem agb{i j:Nat}(hi:i<=1000)(hj:j<=1000):Ju.ok ((i:Int),0,(j:Int)):=by
 show(-9223372036854775808<=(i:Int)/\(i:Int)<=9223372036854775807)/\(-9223372036854775808<=(0:Int)/\(0:Int)<=9223372036854775807)/\(-9223372036854775808<=(j:Int)/\(j:Int)<=9223372036854775807)
 omega
theorem HH(a c:Int)(w:World):(dh 208 #[(0,av az a),(2,av az c)]).run aB w= .ok (aQ #[av az a,av az 0,av az c]) w:=by kernel_rfl
attribute [local irreducible] Op.shift Go.bits in
theorem vB(g:eb)(hg:b_ g=0)(bp:Option Addr)(cp:Nat)(vb:Nat->Value)(w0:World)(hG:kj (λq=>q<w0.heap.size) w0 (dJ g.aR g.bC (ap bp g.aF.length cp)) g)(zU:Ut (λq=>q<w0.heap.size) w0 vb g.aF)(oo:0<g.aF.length->∃b off,bp=aj ⟨b,off,ak⟩/\∀i,i<g.aF.length->Rd w0 b (off+i*2) [av az (dc g.aF (i:Int)).1,vb i])
 (go gm c:Nat) (f:RK->Option Value) (T:Nat) (JI:g.aR=(T:Int)) (hT:T<=30) (l0:List bJ.Item) (vl:Value) (h0:∀x∈l0,ey g.aF T x) (hl0:l0.length<=20000) (hc:jP (ke g) f) (hcc:c<=900000000000000) (w:World) (B:bO) (ho:pZ w0 B) (hvl:Y4 B vl l0.length (l0.flatMap iP))
 (hm:Mem B (opL g bp cp go gm f c) w):
 Calls aB 84 #[aJ (aj ⟨go,0,ak⟩),vl] w (cY (vz g T l0 bp cp go gm c) B):=by
 obtain⟨-,-,-,-,BF,hgb⟩:=cP hg;have KR:∀q∈g.aF,q.2.length<=8:=λq hq=>(hgb q hq).1;have Mv:=λg5 UG g6 b v cn out it hit hp hb hn w' B' rq=>Mu g5 UG g6 b v cn out it hit hp hb hn w' B' rq;unfold opL at hm;obtain⟨bl,cl,rfl,nU,wt,FM⟩:=hvl;unfold maxLen at wt;refine dm hm (args:=[aJ (aj ⟨go,0,ak⟩),ap bl l0.length cl]) (n:=117) Tryz.func84 I I I ?_
 try refine GA ?_
 refine aaT Ju (z:=av az 0) I λUG=>?_;refine zL ?_
 try refine GA ?_
 refine aY I λg5=>?_;refine zL ?_;refine bU (i:=3) I I I I I I ?_;refine zL ?_
 try refine GA ?_
 refine aY I λg6=>?_;refine zL ?_
 repeat(first|refine GA ?_|refine gV (wu I I) ?_)
 conv=>arg 7;simp only[zA,zB,zC,zD,zE,zF,zG,zH,zI,cK,ret,id_eq]
 refine mB (a_ 208 3 (ap ak 0 0) 0 []) (λk hk=>hk.elim (λh=>by cases h) id) (λw=>⟨by decide,.inl ⟨rfl,rfl⟩⟩) ?_;refine uc [0,1,3,2,4,5] ?_
 conv=>arg 7;simp only[zA,zB,zC,zD,zE,zF,zG,zH,zI,cK,ret,id_eq]
 refine ea (ι:=Nat×Value×(bJ.Item->Nat)) (λ(j,_,cn)=>j<=l0.length/\rJ cn (dM [] (l0.take j)) (2*j)) (λ(j,_,_)=>[(0,aJ (aj ⟨go,0,ak⟩)),(6,aJ (aj ⟨g6,0,ak⟩)),(7,.func (.func 110) #[] #[aJ (aj ⟨g5,0,ak⟩),aJ (aj ⟨g6,0,ak⟩)]),(18,ap bl l0.length cl),(19,av az (l0.length:Int)),(20,av az (j:Int))])
  (λ(j,v,cn)=>[aP go (BA g.aR g.bC (ap bp g.aF.length cp) gm).toArray 245,fe iT gm f c]++F8 g5 UG g6 (2*j) v cn (dM [] (l0.take j))) (λ(j,_,_)=>l0.length-j) (0,ap ak 0 0,λ_=>0) ⟨bH _,⟨λx=>by simp[dM],λx=>bH _⟩⟩ ?_
 rintro⟨j,v,cn⟩ ⟨j1,j2⟩;dsimp only at j1 j2⊢
 by_cases c1:j<l0.length
 ·obtain⟨b,off,rfl,FY,NK⟩:=FM J
  have du:=λL=>uf (W:=B) (L:=L) lD (off:=off) (λq u hq=>sJ FY NK q u hq) c1;have hx0:=h0 l0[j] (cD c1);have hxo:=Y5 hx0 BF KR hT;have KV:(dM [] (l0.take j)).length<=j:=fw (EK _ _) (by rw[ia,iZ];omega);have vd:more (dM [] (l0.take j)) l0[j]=dM [] (l0.take (j+1)):=by rw[iv c1,kN]
  have F9:=j2.put l0[j];rw[vd]at F9;have Mv:=λw' B' rq=>Mv g5 UG g6 (2*j) v cn (dM [] (l0.take j)) l0[j] hxo j2 J J w' B' rq;rw[vd]at Mv;generalize dM [] (l0.take j)=out at*;generalize hoq:dM [] (l0.take (j+1))=aiA at*;generalize l0[j]=x at*
  repeat(first|refine GA ?_|refine gV (aX bM.eq aK.ty I I c1) ?_|refine gV (a8 aK.ty I (lD x) (du _)) ?_)
  refine aY I λg9=>?_;refine zL ?_;refine gC 6 (cs':=(iP x).toArray) ?_;refine zL ?_
  repeat(first|refine GA ?_|refine gV (aO (i:=6) aK.ty I I I) ?_)
  refine bm [2,3,4,5] [0,1,6] aiT I I (B3 aI.en I I) (λw hm hb=>Mv w _ hb) I I I ?_;intro v' _;refine zL ?_
  try refine GA ?_
  refine dj [0,1,3,4,5,6] ?_;exact bY (j+1,v',A0 cn x) ⟨by show j+1<=l0.length;omega,by show rJ _ (dM [] (l0.take (j+1))) _;rw[hoq];exact F9⟩ (by show l0.length-(j+1)<l0.length-j;omega) (hl:=by dsimp only;rw[hoq];rfl)
 ·obtain rfl:j=l0.length:=by omega
  rw[mH]at j2;have wP:(dM [] l0).length<=20000:=fw (EK _ _) (by rw[ia];omega);clear FM
  try refine GA ?_
  conv=>arg 7;simp only[zA,zB,zC,zD,zE,zF,zG,zH,zI,cK,ret,id_eq,mH,F8,iY,eu]
  refine ea (ι:=Nat×List bJ.Item×(RK->Option Value)×Nat×Value×(bJ.Item->Nat)×Nat) (λ(n,out,f',c',_,cn',b)=>WkI g.aF T (ke g) l0 n out/\ti g.aF T (ke g) (12000-n) n out=ti g.aF T (ke g) 12000 0 (dM [] l0)/\jP (ke g) f'/\c'<=c+n/\rJ cn' out b/\b<=40000+2480*n)
   (λ(n,_,_,_,_,_,_)=>[(0,aJ (aj ⟨go,0,ak⟩)),(6,aJ (aj ⟨g6,0,ak⟩)),(7,.func (.func 110) #[] #[aJ (aj ⟨g5,0,ak⟩),aJ (aj ⟨g6,0,ak⟩)]),(10,av az (n:Int))])
   (λ(_,out,f',c',v',cn',b)=>[aP go (BA g.aR g.bC (ap bp g.aF.length cp) gm).toArray 245,fe iT gm f' c',aP g5 #[.map (aj UG)] 247,p8 Ju UG (av az 0) (EI cn') b,aP g6 #[v'] 203,a_ 208 3 v' out.length (out.flatMap iP)]) (λ(n,_)=>12000-n) (0,dM [] l0,f,c,v,cn,2*l0.length) ⟨Er l0,rfl,hc,bx _,j2,by omega⟩ ?_
  rintro⟨n,out,f',c',v',cn',b⟩ ⟨i1,i2,i3,i4,i5,i6⟩;dsimp only at i1 i2 i3 i4 i5 i6⊢;have P4:=AV KR BF hT i1.nd λx hx=>zc h0 (i1.cl x hx);refine iu (i:=5) I fW λgJ=>?_;obtain⟨bv,cv,rfl,-,DW⟩:=gJ
  by_cases c2:n<out.length
  ·obtain⟨gz,rfl⟩:=DW J
   have gL:=i1.cl out[n] (cD c2);have hxr:=zc h0 gL;have du:=λ(L:List cH) (i:Nat) (hL:L[i]?=aj (a_ 208 3 (ap (aj ⟨gz,0,ak⟩) out.length cv) out.length (out.flatMap iP)))=>rh (W:=B) lD hL c2;have hwx:ti g.aF T (ke g) (12000-(n+1)) (n+1) (uW g.aF T (ke g) out[n] out)=ti g.aF T (ke g) 12000 0 (dM [] l0):=by
    rw[<-i2,show 12000-n=(12000-(n+1))+1 by omega,ti,if_pos c2,b9,bD c2];rfl
   have hwk:=R_ i1 c2;clear i2 gL;generalize hxx:out[n]=x at*;obtain⟨p,d,lo⟩:=x;have aeG:=hxr;obtain⟨r1,r2,r3,r4,r5,r6⟩:=aeG;dsimp only at r1 r2 r3 r4 r5 r6;obtain⟨k,rfl⟩:=h_ r1;obtain⟨dn,rfl⟩:=h_ r3;obtain⟨ln,rfl⟩:=h_ r5;have hk:k<=g.aF.length:=by omega
   have Hw:=λw' (rq:Mem B [] w')=>sO g.aR g.bC bp cp g.aF vb w0 w' B k hk ho rq (λi hi=>let ⟨b,c,h,_⟩:=zU i hi;⟨b,_,c,h⟩) oo
   repeat(first|refine GC ?_|refine gV (aC (v:=ap (aj ⟨gz,0,ak⟩) out.length cv) aK.ty I (aH (i:=4) I I)) ?_|refine gV (e8 (i:=5) bM.eq I I) ?_|refine GB ?_)
   refine dN ([aP go (BA g.aR g.bC (ap bp g.aF.length cp) gm).toArray 245,aP g6 #[ap (aj ⟨gz,0,ak⟩) out.length cv] 203,a_ 208 3 (ap (aj ⟨gz,0,ak⟩) out.length cv) out.length (out.flatMap iP)]) (.calm 0 (.calm 1 (.calm 2 (.calm 3 (.calm 4 (.calm 5 (.calm 6 (.calm 7 (.calm 8 (.one 9 (.calm 10 (.done)))))))))))) (bW [0,4,5]) ?_
   repeat(first|refine GW ?_|(refine GN ?_;first|refine QW (a8 aK.ty I (cs:=[av az g.aR,av az g.bC,ap bp g.aF.length cp]) I (λj v h=>aH (i:=0) I (Jv h))) ?_|refine QW (aC (v:=ap (aj ⟨gz,0,ak⟩) out.length cv) aK.ty I (aH (i:=1) I I)) ?_|refine QW (aX bM.eq aK.ty I I c2) ?_|refine QW (aC (v:=av az (k:Int)) aK.ty I (du _ 2 I 0 _ I)) ?_))
   refine aL I ?_;refine aV (fO aI.en I I I) (λw hm=>Hw _ (hm.pick [] aiT I)) I I I ?_;rintro xb hxb
   conv=>arg 8;simp only[zJ,cK,ret,id_eq,zh]
   conv=>arg 7;simp only[zh]
   obtain⟨bb,cc,hbv,hlc,-⟩:=zj (W:=B) (i:=6) (L:=[aP go (BA g.aR g.bC (ap bp g.aF.length cp) gm).toArray 245,fe iT gm f' c',aP g5 #[.map (aj UG)] 247,p8 Ju UG (av az 0) (EI cn') b,aP g6 #[ap (aj ⟨gz,0,ak⟩) out.length cv] 203,a_ 208 3 (ap (aj ⟨gz,0,ak⟩) out.length cv) out.length (out.flatMap iP),AW xb]) ho zU hk hxb rfl;have ry:=λ(L:List cH) (i:Nat) (hi:L[i]?=aj (AW xb))=>(zj (W:=B) (L:=L) ho zU hk hxb hi);rw[hbv]at ry⊢;have hb8:=mI (l:=g.aF) (p:=(k:Int)) KR;refine aM (bW [0,4,5]) ?_
   try refine GW ?_
   clear Hw
   by_cases c3:dn=(fI g.aF (k:Int)).length
   ·repeat(first|refine GC ?_|refine gV (aC (v:=ap (aj ⟨gz,0,ak⟩) out.length cv) aK.ty I (aH (i:=4) I I)) ?_|refine gV (aX bM.eq aK.ty I I c2) ?_|refine gV (aC (v:=av az (dn:Int)) aK.ty I (du _ 5 I 1 _ I)) ?_|refine gV (dg (b:=aD) I I (decide_eq_true J)) ?_|refine GB ?_)
    have Mw:uW g.aF T (ke g) ((k:Int),(dn:Int),(ln:Int)) out=out:=by
     unfold uW qw;dsimp only;rw[dq,kG J]
    rw[Mw]at hwk hwx;refine dj [0,1,2,3,4,5] ?_;exact bY (n+1,out,f',c',ap (aj ⟨gz,0,ak⟩) out.length cv,cn',b) ⟨hwk,hwx,i3,by show c'<=c+(n+1);omega,i5,by show b<=40000+2480*(n+1);omega⟩ (by show 12000-(n+1)<12000-n;omega)
   have hlt:dn<(fI g.aF (k:Int)).length:=by omega
   obtain⟨b2,o2,rfl,hba⟩:=Sh ho zU hk hxb hbv hlt;have vd:qw g.aF ((k:Int),(dn:Int),(ln:Int))=aj (fI g.aF (k:Int))[dn]:=by
    unfold qw;dsimp only;rw[dq,bD hlt]
   generalize hyy:(fI g.aF (k:Int))[dn]=y at*;obtain⟨yk,yn⟩:=y
   by_cases c4:yk=2
   ·subst c4
    have Mw:uW g.aF T (ke g) ((k:Int),(dn:Int),(ln:Int)) out=fA g.aF T yn (uV (ke g) ((k:Int),(dn:Int),(ln:Int))) out g.aF.length:=by
     unfold uW;rw[vd];dsimp only;rw[if_pos I]
    rw[Mw]at hwk hwx
    repeat(first|refine GC ?_|refine gV (aC (v:=ap (aj ⟨gz,0,ak⟩) out.length cv) aK.ty I (aH (i:=4) I I)) ?_|refine gV (aX bM.eq aK.ty I I c2) ?_|refine gV (aX bM.eq aK.ty I I hlt) ?_|refine gV (aC (v:=av az (dn:Int)) aK.ty I (du _ 5 I 1 _ I)) ?_|refine gV (dg (b:=aE) I I (decide_eq_false J)) ?_|refine gV (aC (v:=av az 2) aK.ty I (hba _ 6 I 0 _ I)) ?_|refine gV (dr (b:=aE) I I (decide_eq_false (λh=>h I))) ?_|refine gV (a8 (cs:=iP ((k:Int),(dn:Int),(ln:Int))) aK.ty I I (du _ 5 I)) ?_|refine GB ?_)
    refine bm [0,1] [2,3,4,5,6] aiT I I (fO aI.en I I I) (λw hm hb=>Mg g hg bp cp vb w0 hG zU oo go gm c' f' ((k:Int),(dn:Int),(ln:Int)) T hT hxr (by dsimp only;rw[dq];exact hlt) i3 J w _ (ho.on hm λo h=>CJ h) hb) I I I ?_;rintro⟨f2,Vx⟩ ⟨Vy,aeH⟩;dsimp only at Vy aeH;refine zL ?_;have aiB:=UF g (it:=((k:Int),(dn:Int),(ln:Int))) (by show((ln:Int)).toNat<64;omega);generalize uV (ke g) ((k:Int),(dn:Int),(ln:Int))=bits at*
    repeat(first|refine GA ?_|refine gV (aC (v:=ap bp g.aF.length cp) aK.ty I (aH (i:=5) I I)) ?_)
    refine uc [5,6,0,1,2,3,4] ?_
    conv=>arg 7;simp only[zA,zB,zC,zD,zE,zF,zG,zH,zI,cK,ret,id_eq]
    refine ea (ι:=Nat×Value×(bJ.Item->Nat)×Nat) (λ(i,_,cn2,b3)=>i<=g.aF.length/\rJ cn2 (fA g.aF T yn bits out i) b3/\b3<=b+62*i)
     (λ(i,_,_,_)=>[(0,aJ (aj ⟨go,0,ak⟩)),(6,aJ (aj ⟨g6,0,ak⟩)),(7,.func (.func 110) #[] #[aJ (aj ⟨g5,0,ak⟩),aJ (aj ⟨g6,0,ak⟩)]),(10,av az (n:Int)),(11,ap (aj ⟨b2,o2,ak⟩) (fI g.aF (k:Int)).length cc),(12,gK bits),(74,ap bp g.aF.length cp),(75,av az (g.aF.length:Int)),(76,av az (i:Int))])
     (λ(i,v2,cn2,b3)=>[aP go (BA g.aR g.bC (ap bp g.aF.length cp) gm).toArray 245,fe iT gm f2 Vx,aP g5 #[.map (aj UG)] 247,p8 Ju UG (av az 0) (EI cn2) b3,aP g6 #[v2] 203,a_ 208 3 v2 (fA g.aF T yn bits out i).length ((fA g.aF T yn bits out i).flatMap iP),AW xb]) (λ(i,_)=>g.aF.length-i) (0,ap (aj ⟨gz,0,ak⟩) out.length cv,cn',b) ⟨bH _,i5,by omega⟩ ?_
    rintro⟨i,v2,cn2,b3⟩ ⟨p1,p2,p3⟩;dsimp only at p1 p2 p3⊢
    by_cases c5:i<g.aF.length
    ·obtain⟨E,hE⟩:=uZ (l:=g.aF) (T:=T) yn bits out i
     have KV:=EJ (l:=g.aF) (T:=T) (N:=yn) (bits:=bits) (out:=out) i;have F_:fA g.aF T yn bits out (i+1)=if(dc g.aF (i:Int)).1=yn then fz i bits (fA g.aF T yn bits out i) (T+1)else fA g.aF T yn bits out i:=rfl
     have aiC:i*(T+1)<=40*31:=Nat.mul_le_mul J J;generalize hou:fA g.aF T yn bits out i=ou at*;have hno:n<ou.length:=by rw[hE,bI];omega
     have hox:ou[n]=((k:Int),(dn:Int),(ln:Int)):=by
      subst hE;rw[C7 c2];exact hxx
     refine iu (i:=5) I fW λgJ=>?_;obtain⟨bv2,cv2,rfl,-,ahK⟩:=gJ;obtain⟨gz2,rfl⟩:=ahK J;have tA:=λ(L:List cH) (i:Nat) (hL:L[i]?=aj (a_ 208 3 (ap (aj ⟨gz2,0,ak⟩) ou.length cv2) ou.length (ou.flatMap iP)))=>rh (W:=B) lD hL hno;rw[hox]at tA;obtain⟨pb,po,rfl,hpr⟩:=oo J;have hpi:=hpr i c5;have hvo:(vb i).oneCell'=true:=abt (zU i c5);generalize hhd:(dc g.aF (i:Int)).1=hd at*;generalize vb i=vbi at hpi hvo
     repeat(first|refine GA ?_|refine gV (aX bM.eq aK.ty I I c5) ?_|refine gV (a8 aK.ty I (cs:=[av az hd,vbi]) I (λj v h=>iC ho (hpi j v h))) ?_)
     refine aY I λg14=>?_;refine zL ?_
     try refine GA ?_
     refine aW (i:=7) (cs':=#[av az hd,vbi]) I I I I (by simp only[List.all_cons,List.all_nil,hvo];rfl) I ?_;refine zL ?_
     try refine GA ?_
     refine dN ([aP g14 #[av az hd,vbi] 132,aP g6 #[ap (aj ⟨gz2,0,ak⟩) ou.length cv2] 203,a_ 208 3 (ap (aj ⟨gz2,0,ak⟩) ou.length cv2) ou.length (ou.flatMap iP),AW xb]) (.calm 0 (.calm 1 (.calm 2 (.calm 3 (.calm 4 (.calm 5 (.calm 6 (.calm 7 (.calm 8 (.calm 9 (.calm 10 (.calm 11 (.done))))))))))))) (bW [7,4,5,6]) ?_
     by_cases c6:hd=yn
     ·rw[if_pos c6]at F_
      repeat(first|(refine GN ?_;first|refine QW QP ?_|refine QW (aC (v:=av az hd) aK.ty I (aH (i:=0) I I)) ?_|refine QW (aC (v:=ap (aj ⟨gz2,0,ak⟩) ou.length cv2) aK.ty I (aH (i:=1) I I)) ?_|refine QW (aX bM.eq aK.ty I I hno) ?_|refine QW (aC (v:=av az (dn:Int)) aK.ty I (tA _ 2 I 1 _ I)) ?_|refine QW (aX bM.eq aK.ty I I hlt) ?_|refine QW (aC (v:=av az yn) aK.ty I (hba _ 3 I 1 _ I)) ?_|refine QW (dr (b:=aE) I I (decide_eq_false (λh=>h c6))) ?_|refine GX ?_)|refine GW ?_)
      repeat(first|refine GC ?_|refine gV (aC (v:=av az g.aR) aK.ty I (aH (i:=0) I I)) ?_|refine gV (eT (r:=((T+1:Nat):Int)) I I J J J) ?_|refine GB ?_)
      refine uc [0,1,2,3,4,5,6] ?_
      conv=>arg 7;simp only[zA,zB,zC,zD,zE,zF,zG,zH,zI,cK,ret,id_eq]
      refine ea (ι:=Nat×Value×(bJ.Item->Nat)×Nat) (λ(j,_,cn3,b4)=>j<=T+1/\rJ cn3 (fz i bits ou j) b4/\b4<=b3+2*j)
       (λ(j,_,_,_)=>[(0,aJ (aj ⟨go,0,ak⟩)),(6,aJ (aj ⟨g6,0,ak⟩)),(7,.func (.func 110) #[] #[aJ (aj ⟨g5,0,ak⟩),aJ (aj ⟨g6,0,ak⟩)]),(10,av az (n:Int)),(11,ap (aj ⟨b2,o2,ak⟩) (fI g.aF (k:Int)).length cc),(12,gK bits),(13,av az (i:Int)),(74,ap (aj ⟨pb,po,ak⟩) g.aF.length cp),(75,av az (g.aF.length:Int)),(76,av az (i:Int)),(98,av az ((T+1:Nat):Int)),(99,av az (j:Int))])
       (λ(j,v3,cn3,b4)=>[aP go (BA g.aR g.bC (ap (aj ⟨pb,po,ak⟩) g.aF.length cp) gm).toArray 245,fe iT gm f2 Vx,aP g5 #[.map (aj UG)] 247,p8 Ju UG (av az 0) (EI cn3) b4,aP g6 #[v3] 203,a_ 208 3 v3 (fz i bits ou j).length ((fz i bits ou j).flatMap iP),AW xb]) (λ(j,_)=>T+1-j) (0,ap (aj ⟨gz2,0,ak⟩) ou.length cv2,cn2,b3) ⟨bH _,p2,by omega⟩ ?_
      rintro⟨j,v3,cn3,b4⟩ ⟨s1,s2,s3⟩;dsimp only at s1 s2 s3⊢
      by_cases c7:j<T+1
      ·have aiD:=yl (i:=i) (bits:=bits) (out:=ou) j
       have UH:fz i bits ou (j+1)=if bits.testBit j=aD then more (fz i bits ou j) ((i:Int),0,(j:Int))else fz i bits ou j:=rfl
       have F9:=s2.put ((i:Int),0,(j:Int));have hdv:bits/2^j<=bits:=Aw _ _;have ha1:=aex (y:=bits/2^j) J;have Bo:∀w,(iq .shr .u64 (bits:Int) .i64 (j:Int)).run aB w= .ok (.int .u64 ((bits/2^j:Nat):Int)) w:=λw=>YL bits j 64 .u64 .i64 I J w;have Hw:=zi bits j;generalize hol:fz i bits ou j=ol at*;generalize bits/2^j=D1 at*
       by_cases c8:bits.testBit j=aD
       ·rw[if_pos c8]at UH
        have FY:D1 %2=1:=by rw[c8]at Hw;simpa using Hw
        repeat(first|refine GC ?_|refine gV (o8 I I Bo) ?_|refine gV (nh I I ha1) ?_|refine gV (dg (b:=aD) I I (decide_eq_true J)) ?_|refine gV (bB I (HH _ _)) ?_|refine GB ?_)
        refine bm [2,3,4,5] [0,1,6] aiT I I (B3 aI.en I I) (λw hm hb=>Mv g5 UG g6 b4 v3 cn3 ol ((i:Int),0,(j:Int)) (agb J J) s2 J J w _ hb) I I I ?_;intro v4 _
        conv=>arg 8;simp only[zJ,cK,ret,id_eq,F8]
        try refine GA ?_
        refine dj [0,1,3,4,5,6,2] ?_;exact bY (j+1,v4,A0 cn3 ((i:Int),0,(j:Int)),b4+2) ⟨by show j+1<=T+1;omega,by show rJ _ (fz i bits ou (j+1)) _;rw[UH];exact F9,by show b4+2<=b3+2*(j+1);omega⟩ (by show T+1-(j+1)<T+1-j;omega) (hl:=by dsimp only;rw[UH];rfl)
       rw[if_neg c8]at UH;have FY:¬D1 %2=1:=by rw[AS.2 c8]at Hw;simpa using Hw
       repeat(first|refine GC ?_|refine gV (o8 I I Bo) ?_|refine gV (nh I I ha1) ?_|refine gV (dg (b:=aE) I I (decide_eq_false J)) ?_|refine GB ?_)
       exact bY (j+1,v3,cn3,b4) ⟨by show j+1<=T+1;omega,by show rJ _ (fz i bits ou (j+1)) _;rw[UH];exact s2,by show b4<=b3+2*(j+1);omega⟩ (by show T+1-(j+1)<T+1-j;omega) (hl:=by dsimp only;rw[UH])
      obtain rfl:j=T+1:=by omega
      try refine GA ?_
      exact bY (i+1,v3,cn3,b4) ⟨by show i+1<=g.aF.length;omega,by show rJ cn3 (fA g.aF T yn bits out (i+1)) b4;rw[F_];exact s2,by show b4<=b+62*(i+1);omega⟩ (by show g.aF.length-(i+1)<g.aF.length-i;omega) (hl:=by dsimp only;rw[F_])
     rw[if_neg c6]at F_
     repeat(first|(refine GN ?_;first|refine QW QP ?_|refine QW (aC (v:=av az hd) aK.ty I (aH (i:=0) I I)) ?_|refine QW (aC (v:=ap (aj ⟨gz2,0,ak⟩) ou.length cv2) aK.ty I (aH (i:=1) I I)) ?_|refine QW (aX bM.eq aK.ty I I hno) ?_|refine QW (aC (v:=av az (dn:Int)) aK.ty I (tA _ 2 I 1 _ I)) ?_|refine QW (aX bM.eq aK.ty I I hlt) ?_|refine QW (aC (v:=av az yn) aK.ty I (hba _ 3 I 1 _ I)) ?_|refine QW (dr (b:=aD) I I (decide_eq_true c6)) ?_|refine GX ?_)|refine GW ?_)
     try refine GA ?_
     refine dj [0,1,2,3,4,5,6] ?_;exact bY (i+1,ap (aj ⟨gz2,0,ak⟩) ou.length cv2,cn2,b3) ⟨by show i+1<=g.aF.length;omega,by show rJ cn2 (fA g.aF T yn bits out (i+1)) b3;rw[F_];exact p2,by show b3<=b+62*(i+1);omega⟩ (by show g.aF.length-(i+1)<g.aF.length-i;omega) (hl:=by dsimp only;rw[F_];rfl)
    obtain rfl:i=g.aF.length:=by omega
    try refine GA ?_
    refine dj [0,1,2,3,4,5] ?_;exact bY (n+1,fA g.aF T yn bits out g.aF.length,f2,Vx,v2,cn2,b3) ⟨hwk,hwx,Vy,by show Vx<=c+(n+1);omega,p2,by show b3<=40000+2480*(n+1);omega⟩ (by show 12000-(n+1)<12000-n;omega)
   repeat(first|refine GC ?_|refine gV (aC (v:=ap (aj ⟨gz,0,ak⟩) out.length cv) aK.ty I (aH (i:=4) I I)) ?_|refine gV (aX bM.eq aK.ty I I c2) ?_|refine gV (aX bM.eq aK.ty I I hlt) ?_|refine gV (aC (v:=av az (dn:Int)) aK.ty I (du _ 5 I 1 _ I)) ?_|refine gV (dg (b:=aE) I I (decide_eq_false J)) ?_|refine gV (aC (v:=av az yk) aK.ty I (hba _ 6 I 0 _ I)) ?_|refine gV (dr (b:=aD) I I (decide_eq_true c4)) ?_|refine GB ?_)
   have Mw:uW g.aF T (ke g) ((k:Int),(dn:Int),(ln:Int)) out=out:=by
    unfold uW;rw[vd];dsimp only;rw[if_neg c4]
   rw[Mw]at hwk hwx;refine dj [0,1,2,3,4,5] ?_;exact bY (n+1,out,f',c',ap (aj ⟨gz,0,ak⟩) out.length cv,cn',b) ⟨hwk,hwx,i3,by show c'<=c+(n+1);omega,i5,by show b<=40000+2480*(n+1);omega⟩ (by show 12000-(n+1)<12000-n;omega)
  have hn:n=out.length:=by have:=i1.le;omega
  have hR:ti g.aF T (ke g) 12000 0 (dM [] l0)=out:=by
   rw[<-i2,show 12000-n=(11999-n)+1 by omega,ti,if_neg c2]
  have hcI:jO g.aF T (ke g) l0=uU out:=by unfold jO;rw[hR]
  repeat(first|refine GA ?_|refine gV (aC (v:=ap bv out.length cv) aK.ty I (aH (i:=4) I I)) ?_)
  refine bm [5] [0,1,2,3,4] aiT I I (fO aI.en I I I) (λw hm hb=>abW aby (ap bv out.length cv) out w _ hb J) I I I ?_;intro _ _;refine zL ?_
  repeat(first|refine GA ?_|refine gV (aC (v:=ap bv out.length cv) aK.ty I (aH (i:=4) I I)) ?_)
  exact cJ I I λw hm=>hm.bV (S:=vz g T l0 bp cp go gm c) (f',c',ap bv out.length cv) ⟨i3,by show c'<=c+12000;omega⟩ [0,1,5] aiT (by unfold vz opL;dsimp only;rw[hcI,L_];rfl)
end cI
namespace cI
open Go.RowKit cU dS aT dP dL bJ cT
theorem Y4.row{W:bO}{L Lx:List cH}{w:World}(hm:Mem W L w){i n size:Nat}{e:TypeId}{v:Value}{xs:List Value}(hi:L[i]?=aj (a_ e size v n xs))(is:List Nat)(hL:Lx=is.filterMap λi=>L[i]?)(hni:i∉is):Y4 (bO.on w Lx) v n xs:=by
 have hh:(a_ e size v n xs).holds w:=hm.get hi;obtain⟨base,cap,rfl,h1,h2,h3⟩:=Sl.dB hh;refine⟨base,cap,rfl,h1,h2,λhn=>?_⟩;obtain⟨b,off,rfl,hr⟩:=h3 hn;have hf:(a_ e size (ap (aj ⟨b,off,ak⟩) n cap) n xs).ff b:=by
  rcases(show w.ownsRow 0 e size _ n xs from hh).2 with⟨hv,_⟩|⟨g,cp,jS,hv,_⟩
  cases hv
  cases hv;exact .inl I
 refine⟨b,off,rfl,⟨(a_ e size _ n xs).lt w hh b hf,?_⟩,hr⟩;rintro⟨o,ho,hfo⟩;subst hL;obtain⟨j,hj,Rb⟩:=Pp.1 ho;exact hm.owns.apart i j _ _ (λh=>hni (h▸hj)) hi Rb b hf hfo
theorem Y4.at{B:bO}{L:List cH}{α:Type}{f:α->List Value}{c:Nat}(hc:∀a,(f a).length=c){base:Option Addr}{cap n:Nat}{l:List α}(h:Y4 B (ap base n cap) n (l.flatMap f))(hn:0<n):∃b off,base=aj ⟨b,off,ak⟩/\∀(k:Nat) (hk:k<l.length) (j:Nat) (u:Value),(f l[k])[j]?=aj u->At B L ⟨b,off+k*c+j,ak⟩ u:=by
 obtain⟨adj,FQ,h0,h1,h2,h3⟩:=h
 cases h0
 obtain⟨b,off,rfl,ho,hr⟩:=h3 hn;exact⟨b,off,rfl,λk hk j u hj=>uf (W:=B) (L:=L) hc (off:=off) (λq y hq=>sJ ho hr q y hq) hk j u hj⟩
theorem UI{l:List aT.Prod}{s:List bJ.Item}{x:dy}{k:Nat}(h:k<s.length):mJ l (s.take (k+1)) x=if qw l s[k]=aj x then mJ l (s.take k) x++[abv s[k]]else mJ l (s.take k) x:=by
 unfold mJ;rw[iv h,List.filter_append,eV]
 by_cases c:qw l s[k]=aj x
 rw[if_pos c,List.filter_cons_of_pos (by simpa using c)];rfl;rw[if_neg c,List.filter_cons_of_neg (by simpa using c)];simp
theorem Mx{l:List aT.Prod}{s:List bJ.Item}{x:dy}:(mJ l s x).length<=s.length:=by
 unfold mJ;rw[dF];exact List.length_filter_le _ _
theorem JJ(g:eb)(hg:b_ g=0)(bp:Option Addr)(cp:Nat)(vb:Nat->Value)(w0:World)(hG:kj (λq=>q<w0.heap.size) w0 (dJ g.aR g.bC (ap bp g.aF.length cp)) g)(zU:Ut (λq=>q<w0.heap.size) w0 vb g.aF)(oo:0<g.aF.length->∃b off,bp=aj ⟨b,off,ak⟩/\∀i,i<g.aF.length->Rd w0 b (off+i*2) [av az (dc g.aF (i:Int)).1,vb i])
 (go gm c:Nat) (f:RK->Option Value) (T:Nat) (JI:g.aR=(T:Int)) (hT:T<=30) (s:List bJ.Item) (x:dy) (vl:Value) (h0:∀it∈s,ey g.aF T it) (hl0:s.length<=20000) (hc:jP (ke g) f) (hcc:c<=900000000000000) (w:World) (B:bO) (ho:pZ w0 B) (hvl:Y4 B vl s.length (s.flatMap iP))
 (hm:Mem B (opL g bp cp go gm f c) w):
 Calls aB 86 #[aJ (aj ⟨go,0,ak⟩),vl,aQ (eA x).toArray] w (cY (vz g T (mJ g.aF s x) bp cp go gm c) B):=by
 have gL:=λv h2 h3 w' B' K3 xC rq=>vB g hg bp cp vb w0 hG zU oo go gm c f T JI hT (mJ g.aF s x) v h2 h3 hc hcc w' B' K3 xC rq;have hol:=Mx (l:=g.aF) (s:=s) (x:=x);have KN:=kR (l:=g.aF) (T:=T) (x:=x) h0;obtain⟨bl,cl,rfl,nU,wt,FM⟩:=id hvl;clear FM;unfold maxLen at wt;unfold opL at hm;refine dm hm (args:=[aJ (aj ⟨go,0,ak⟩),ap bl s.length cl,aQ (eA x).toArray]) (n:=50) Tryz.func86 I I I ?_;refine cC (bz (bR I I I λg5=>?_));refine zL ?_
 try refine GA ?_
 refine jf 208 3 ?_
 conv=>arg 7;simp only[zA,zB,zC,zD,zE,zF,zG,zH,zI,cK,ret,id_eq]
 refine ea (ι:=Nat×Value) (λ(k,_)=>k<=s.length) (λ(k,v)=>[(0,aJ (aj ⟨go,0,ak⟩)),(5,aJ (aj ⟨g5,0,ak⟩)),(7,v),(11,ap bl s.length cl),(12,av az s.length),(13,av az (k:Int))])
  (λ(k,v)=>[aP go (BA g.aR g.bC (ap bp g.aF.length cp) gm).toArray 245,fe iT gm f c,aP g5 (eA x).toArray 156,a_ 208 3 v (mJ g.aF (s.take k) x).length ((mJ g.aF (s.take k) x).flatMap iP)]) (λ(k,_)=>s.length-k) (0,ap ak 0 0) (bH _) ?_
 rintro⟨k,v⟩ i1;dsimp only at i1⊢
 by_cases c1:k<s.length
 ·obtain⟨b,off,rfl,du⟩:=hvl.at (L:=[]) lD J
  have Ey:∀(L:List cH) (j:Nat) (u:Value),(iP s[k])[j]?=aj u->At B L ⟨b,off+k*3+j,ak⟩ u:=λL=>by
   obtain⟨b',AA,he,h⟩:=hvl.at (L:=L) lD J
   cases he
   exact h k c1
  clear du;have hxr:=h0 s[k] (cD c1);have vd:=UI (l:=g.aF) (x:=x) c1;have w4:(mJ g.aF (s.take k) x).length<=20000:=fw Mx (by rw[iZ];omega);generalize mJ g.aF (s.take k) x=ov at*;generalize F_:mJ g.aF (s.take (k+1)) x=ov' at*;clear gL KN hol;generalize s[k]=it at*;obtain⟨p,d,lo⟩:=it;have aeG:=hxr;obtain⟨r1,r2,r3,r4,r5,r6⟩:=aeG;dsimp only at r1 r2 r3 r4 r5 r6;obtain⟨kn,rfl⟩:=h_ r1;obtain⟨dn,rfl⟩:=h_ r3;obtain⟨ln,rfl⟩:=h_ r5;have hk:kn<=g.aF.length:=by omega
  have Hw:=λw' (rq:Mem B [] w')=>sO g.aR g.bC bp cp g.aF vb w0 w' B kn hk ho rq (λi hi=>let ⟨b,c,h,_⟩:=zU i hi;⟨b,_,c,h⟩) oo;have KR:∀q∈g.aF,q.2.length<=8:=λq hq=>((cP hg).2.2.2.2.2 q hq).1;have hb8:=mI (l:=g.aF) (p:=(kn:Int)) KR
  repeat(first|refine GA ?_|refine gV (aX bM.eq aK.ty I I c1) ?_|refine gV (a8 (cs:=iP ((kn:Int),(dn:Int),(ln:Int))) aK.ty I I (Ey _)) ?_)
  refine aY I λg9=>?_;refine zL ?_;refine gC 4 (cs':=(iP ((kn:Int),(dn:Int),(ln:Int))).toArray) ?_;refine zL ?_
  try refine GA ?_
  refine dN ([aP go (BA g.aR g.bC (ap bp g.aF.length cp) gm).toArray 245,aP g9 (iP ((kn:Int),(dn:Int),(ln:Int))).toArray 208]) (.calm 0 (.calm 1 (.calm 2 (.calm 3 (.calm 4 (.calm 5 (.one 6 (.calm 7 (.done))))))))) (bW [0,4]) ?_
  repeat(first|refine GW ?_|(refine GN ?_;first|refine QW (a8 aK.ty I (cs:=[av az g.aR,av az g.bC,ap bp g.aF.length cp]) I (λj v h=>aH (i:=0) I (Jv h))) ?_|refine QW (aC (v:=av az (kn:Int)) aK.ty I (aH (i:=1) I I)) ?_))
  refine aL I ?_;refine aV (fO aI.en I I I) (λw hm=>Hw _ (hm.pick [] aiT I)) I I I ?_;rintro xb hxb
  conv=>arg 8;simp only[zJ,cK,ret,id_eq,zh]
  conv=>arg 7;simp only[zh]
  obtain⟨bb,cc,hbv,hlc,-⟩:=zj (W:=B) (i:=5) (L:=[aP go (BA g.aR g.bC (ap bp g.aF.length cp) gm).toArray 245,fe iT gm f c,aP g5 (eA x).toArray 156,a_ 208 3 v ov.length (ov.flatMap iP),aP g9 (iP ((kn:Int),(dn:Int),(ln:Int))).toArray 208,AW xb]) ho zU hk hxb rfl;rw[hbv];refine aM (bW [0,4]) ?_
  try refine GW ?_
  clear Hw
  by_cases c2:dn<(fI g.aF (kn:Int)).length
  ·obtain⟨b2,o2,rfl,hba⟩:=Sh ho zU hk hxb hbv c2
   have hns:qw g.aF ((kn:Int),(dn:Int),(ln:Int))=aj (fI g.aF (kn:Int))[dn]:=by
    unfold qw;dsimp only;rw[dq,bD c2]
   have NG:=λw=>XT (fI g.aF (kn:Int))[dn] x w;generalize (fI g.aF (kn:Int))[dn]=y at*;rw[hns]at vd
   try refine GA ?_
   refine dN ([aP g5 (eA x).toArray 156,aP g9 (iP ((kn:Int),(dn:Int),(ln:Int))).toArray 208,AW xb]) (.calm 0 (.calm 1 (.calm 2 (.calm 3 (.calm 4 (.calm 5 (.calm 6 (.calm 7 (.calm 8 (.calm 9 (.calm 10 (.calm 11 (.calm 12 (.calm 13 (.done))))))))))))))) (bW [2,4,5]) ?_
   by_cases c3:y=x
   ·subst c3
    rw[if_pos I]at vd;rw[decide_eq_true I]at NG
    repeat(first|(refine GN ?_;first|refine QW QP ?_|refine QW (aC (v:=av az (dn:Int)) aK.ty I (aH (i:=1) I I)) ?_|refine QW (aX bM.eq aK.ty I I c2) ?_|refine QW (a8 (cs:=eA y) aK.ty I I (hba _ 2 I)) ?_|refine QW (aO (i:=0) aK.ty I I I) ?_|refine QW (Di I I (by kernel_rfl) NG) ?_|refine GX ?_)|refine GW ?_)
    repeat(first|refine GA ?_|refine gV (aC (v:=av az (dn:Int)) aK.ty I (aH (i:=4) I I)) ?_)
    refine bU (i:=4) I I I I I I ?_;refine zL ?_
    repeat(first|refine GA ?_|refine gV (aO (i:=4) aK.ty I I I) ?_)
    refine ju (i:=3) I I I I I I I (λz h=>by cases h;rfl) J J I λz v'=>?_;refine zL ?_
    try refine GA ?_
    refine dj [0,1,2,3] ?_;exact bY (k+1,v') (by show k+1<=s.length;omega) (by show s.length-(k+1)<s.length-k;omega) (hl:=by dsimp only;rw[F_,vd,bI,fC];rfl)
   rw[if_neg (λh=>c3 (oQ h))]at vd;rw[decide_eq_false c3]at NG
   repeat(first|(refine GN ?_;first|refine QW QP ?_|refine QW (aC (v:=av az (dn:Int)) aK.ty I (aH (i:=1) I I)) ?_|refine QW (aX bM.eq aK.ty I I c2) ?_|refine QW (a8 (cs:=eA y) aK.ty I I (hba _ 2 I)) ?_|refine QW (aO (i:=0) aK.ty I I I) ?_|refine QW (Di I I (by kernel_rfl) NG) ?_|refine GX ?_)|refine GW ?_)
   try refine GA ?_
   refine dj [0,1,2,3] ?_;exact bY (k+1,v) (by show k+1<=s.length;omega) (by show s.length-(k+1)<s.length-k;omega) (hl:=by dsimp only;rw[F_,vd];rfl)
  have hns:qw g.aF ((kn:Int),(dn:Int),(ln:Int))=none:=by
   unfold qw;dsimp only;rw[dq,kG J]
  rw[hns,if_neg (λh=>by cases h)]at vd
  try refine GA ?_
  refine dN ([aP g5 (eA x).toArray 156,aP g9 (iP ((kn:Int),(dn:Int),(ln:Int))).toArray 208,AW xb]) (.calm 0 (.calm 1 (.calm 2 (.calm 3 (.calm 4 (.calm 5 (.calm 6 (.calm 7 (.calm 8 (.calm 9 (.calm 10 (.calm 11 (.calm 12 (.calm 13 (.done))))))))))))))) (bW [2,4,5]) ?_
  repeat(first|refine GW ?_|(refine GN ?_;first|refine QW (aC (v:=av az (dn:Int)) aK.ty I (aH (i:=1) I I)) ?_))
  try refine GA ?_
  refine dj [0,1,2,3] ?_;exact bY (k+1,v) (by show k+1<=s.length;omega) (by show s.length-(k+1)<s.length-k;omega) (hl:=by dsimp only;rw[F_,vd];rfl)
 ·obtain rfl:k=s.length:=by omega
  rw[mH]
  try refine GA ?_
  refine bm [0,1] [2,3] aiT I I (fO aI.en I I I) (λw hm hb=>gL v KN J w _ (ho.on hm λo h=>CJ h) (Y4.row hm (i:=3) I [0,1] I aiT) hb) I I I ?_;rintro⟨f2,c2,v2⟩ ⟨Vy,aeH⟩
  conv=>arg 8;simp only[zJ,cK,ret,id_eq,vz,opL]
  conv=>arg 7;simp only[vz]
  try refine GA ?_
  exact cJ I I λw hm=>hm.bV (S:=vz g T (mJ g.aF s x) bp cp go gm c) (f2,c2,v2) ⟨Vy,aeH⟩ [2,3,4] aiT I
end cI
end Go.Proofs.YtaobbfedlnddcaaGreat

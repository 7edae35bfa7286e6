/- Part 3 of what SessionCreditUpto needs: ClassP, SmIn, MapE, BoolC, TreeS, FactsA, FactsB, FactsC, FactsD, FactsO, Look, Brk, SymS2, FactsE, FactsF, CountA, ItL, ItM, LrL, ItB, ItC, OrdK, OrdJ, ItH, ItN, ItO, SmM, SmU, SmP, SmO, SmT, SmK, SmW, SmD, DfX, DfM, DfQ, Els, ItD, SortJ, ItE, ItF, ItG, ItA, ItP, OutA. -/
import Derived.Test.YtaobbfedlnddcaaGreatMgB
import Derived.Sort.Grow
import Derived.Deep.RegionWith
import Derived.Deep.RegionHeld
import Derived.Shelf.SlGeneric
import Derived.Shelf.SlSortCmp.NoneTotal
import Derived.Ground.SlsfProg
namespace Go.Proofs.YtaobbfedlnddcaaGreat
set_option linter.unusedVariables false
set_option linter.unusedSimpArgs false
open _root_.And renaming intro->cC
open _root_.Array renaming getElem?_eq_some_iff->jt,length_toList->lC,getElem?_toList->qn,getElem?_eq_getElem->xt,getElem?_modify->Dc,toList_modify->OS,size_push->OT,ext'->rF
open _root_.Array.mk renaming injEq->r8
open _root_.BitVec renaming getLsbD_eq_getElem->OU,ofInt->wR,getLsbD_ofNat->OV,ofInt_natCast->XR
open _root_.Bool renaming false->aE,true->aD,or_eq_true->lK,eq_false_iff->tU
open _root_.Classical renaming choose_spec->CI,choose->HR
open _root_.Go.Instr renaming build->df,mapUpdate->zN,lookup->IR,entryStore->OW,mapEntry->OX
open _root_.Go.IntKind renaming i64->az,bits->lF,wrap_u64->rK,signed->rL,u64->tp,wrap_u8->IS,wrap->XS,i16->XT,u8->IT
open _root_.Go.MapKept renaming run_getObj_map->AA,run_setObj_map->IU
open _root_.Go.Op renaming shift->il,equalIn->ox
open _root_.Go.Oper renaming wp->fM
open _root_.Go.Proofs.Tryz renaming prog->aB
open _root_.Go.Result renaming andThen->mN
open _root_.Go.Sem renaming run_pure->oy
open _root_.Go.Value renaming slice->ap,int->av,pointer->aJ,agg->aQ,oneCell'->eQ,bool->fN
open _root_.Go.Value.agg renaming injEq->lL
open _root_.Go.Value.int renaming injEq->De
open _root_.Go.Value.slice renaming injEq->iT
open _root_.Int renaming toNat_natCast->dB,eq_ofNat_of_zero_le->hY,le_refl->k8
open _root_.List renaming getElem?_eq_getElem->bD,getD_eq_getElem?_getD->cH,length_append->bK,getElem?_eq_some_iff->dl,getElem_mem->cD,length_cons->c_,replicate->cZ,drop_eq_getElem_cons->eI,mem_singleton->dQ,size_toArray->dU,length_map->dI,take_succ_eq_append_getElem->iq,mem_cons->dx,getElem?_append_left->gJ,map_append->eO,append_nil->eG,getElem?_map->eX,take_of_length_le->gK,append_assoc->eY,nil_append->eJ,flatMap_append->gO,mem_append->fj,mem_cons_self->gZ,not_mem_nil->fl,range->dV,drop_of_length_le->jg,length_nil->gU,mem_map->fa,mem_iff_getElem->g_,mem_cons_of_mem->kC,map_cons->gd,getElem?_eq_none->ku,mem_of_getElem?->kR,length_take->iU,flatMap_cons->mc,take_length->my,drop_eq_nil_of_le->oL,cons_append->kS,any_eq_true->qt,getElem_map->r9,ext_getElem?->mR,getElem?_take->qu,length_range->um,mem_append_left->xu,setIfInBounds_toArray->tw,all_eq_true->qj,set_cons_zero->wY,mem_of_mem_drop->AB,map_set->oM,mem_filterMap->IV,range_succ->xO,eq_of_mem_replicate->OY,set_cons_succ->zU,map_nil->qk,length->xP,nodup_append->Df,modify_succ_cons->XU,mem_append_right->XV,mergeSort_perm->XW,mem_filter->XX,idxOf_cons->XY,nodup_nil->XZ
open _root_.List.Pairwise renaming and_mem->ad1,of_map->ad2
open _root_.List.cons renaming injEq->fO,inj->X0
open _root_.Nat renaming le_refl->bm,zero_le->bH,zero_add->cV,le_trans->fv,not_lt_zero->lT,lt_succ_self->mz,mul_le_mul_right->rO,add_assoc->lG,mul_one->kw,sub_self->nT,xor_lt_two_pow->IW,div_le_self->Af,pow_lt_pow_right->Dg,mod_lt->w6,or_lt_two_pow->X1,blt_eq->DT
open _root_.Ne renaming symm->w7
open _root_.Option renaming some->aj,none->ak,getD_some->kD,isSome->OZ,getD->X2
open _root_.Option.some renaming injEq->dr,inj->rP
open _root_.Prod renaming ext->ql
open _root_.Prod.mk renaming injEq->hJ
open _root_.True renaming intro->cI
open _root_.UInt8 renaming ofNat->fx,toNat_ofNat'->X3
open _root_.Vector renaming replicate->eb,getElem_ofFn->ke,getElem_toList->nU,ext->kf,getElem_set->uo,getElem_set_ne->O0,ofFn->xQ,toList->O1,getElem_set_self->X4
set_option maxHeartbeats 16000000
namespace dg
def one(x:C4):List C4:=if x=C4.zero then []else [x]
structure Lu(S:List C4)(all:List C4):Prop where
 some:∀x∈all,x≠C4.zero
 apart:all.Pairwise λx y=>x.Wf y=C4.zero
 sum:(all.map Wj).sum=256
 whole:∀n,n<256->∃x∈all,x.mem n=aD
 each:∀c∈S,∀x∈all,x.Wf c=x\/x.Wf c=C4.zero
 told:all.Pairwise λx y=>∃c∈S,decide (x.Wf c=x)≠decide (y.Wf c=y)
theorem X5{x:C4}:x=C4.zero↔∀n,n<256->x.mem n=false:=
 ⟨λh n _=>by rw[h,Ky],λh=>ext_mem λn hn=>by rw[h n hn,Ky]⟩
theorem X6{x:C4}(h:Wj x=0):x=C4.zero:=by
 have:xg x=[]:=List.eq_nil_of_length_eq_zero h;refine X5.2 λn hn=>?_
 cases e:x.mem n with
 |false=>rfl
 |true=>exact absurd (SQ.2 ⟨hn,e⟩) (by rw[this];simp)
theorem Rt:∀all:List C4,(∀x∈all,x≠C4.zero)->all.length<=(all.map Wj).sum
 |[],_=>bm _
 |x::all,h=>by
  have ih:=Rt all λy hy=>h y (by simp[hy]);have:Wj x≠0:=λe=>h x (by simp) (X6 e);simp only[c_,gd,List.sum_cons];omega
theorem Lu.len{S all:List C4}(h:Lu S all):all.length<=256:=by
 have:=Rt all h.some;rw[h.sum]at this;exact this
theorem Lu.more{S S' all:List C4}(h:Lu S all)(h1:∀c,c∈S'->c∈S)(h2:∀c,c∈S->c∈S'):Lu S' all:=
 ⟨h.some,h.apart,h.sum,h.whole,λc hc=>h.each c (h1 c hc),h.told.imp λ⟨c,hc,h⟩=>⟨c,h2 c hc,h⟩⟩
end dg
namespace bZ
open Go.RowKit cU dM
theorem BP(v:Value)(l:List Int)(w:World)(hs:Sl w v l.length (l.flatMap cU.eo))(hl:l.length*8<=140737488355328):
 Calls aB 53 #[v] w (cz (cL 3 1 l.length (l.flatMap cU.eo) id) w):=by
 obtain⟨base,cap,rfl,lm,j0,eL⟩:=hs;unfold maxLen at j0;refine enter (args:=[ap base l.length cap]) (n:=8) Tryz.func53 I I I ?_;have qZ:∀w',Gr w w'->Sl w' (ap base l.length cap) l.length (l.flatMap cU.eo):=λw' hg=>Sl.gr ⟨base,cap,rfl,lm,j0,eL⟩ hg;clear eL
 cases base with
 | none=>
  repeat(first|refine GC ?_|refine gV (jP bL.eq I I I) ?_|refine GB ?_)
  have h0:l=[]:=by
   cases l with
   |nil=>rfl
   |cons x l=>obtain⟨_,_,h,_,_,h2⟩:=qZ w (Gr.refl w);simp only[iT]at h;obtain⟨rfl,_⟩:=h;obtain⟨b,off,h,_⟩:=h2 (by simp);cases h
  subst h0;refine dF 3 1 ?_;exact cJ I I λw hm=>hm.meets (S:=cL 3 1 0 [] id) _ trivial [0] aiz I
 |some p=>
  repeat(first|refine GC ?_|refine gV (jP bL.eq I I I) ?_|refine GB ?_)
  refine vH I λg=>?_
  try refine GA ?_
  refine eD (i:=0) I (λw' hm=>qZ w' hm.below) I I (kW jU l) (Rh l) J J I λv'=>?_;rw[eJ]
  try refine GA ?_
  refine cJ I I λw hm=>?_;exact hm.meets (S:=cL 3 1 l.length (l.flatMap cU.eo) id) v' trivial [0] aiz (by simp[cL])
end bZ
namespace bZ
open Go.RowKit cU dM
open Go.WideElems (Fit findIdx_arr findIdx_born modify_last)
open Go.ChangeMaps Go.MapKept Go.WideShapes
section
variable{P:Program}{k:TypeId}{κ:Type}(K:yx P k κ)
theorem Bd{α:Type}(f:α->α):∀(l:List α) (j:Nat) (a:α),l[j]?=aj a->f a=a->l.modify j f=l
 |[],_,_,h,_=>by simp at h
 |b::r,0,a,h,hf=>by simp at h;subst h;simp[hf]
 |b::r,j+1,a,h,hf=>by simp at h;simp[XU,Bd f r j a h hf]
theorem modify_eq{α:Type}(f f':α->α):∀(l:List α) (j:Nat) (a:α),l[j]?=aj a->f a=f' a->l.modify j f=l.modify j f'
 |[],_,_,h,_=>by simp at h
 |b::r,0,a,h,hf=>by simp at h;subst h;simp[hf]
 |b::r,j+1,a,h,hf=>by simp at h;simp[XU,modify_eq f f' r j a h hf]
def X7(g:Nat)(x:κ)(st:Nat)(z:Value)(f:κ->Value)(b:Nat):b_:=
 ⟨aj g,λ_=>False,λw=>(pG K g z f b).holds w/\∃es clock e0,w.heap[g]?=aj (.map es clock)/\e0∈es.toList/\e0.key=K.kv x/\e0.born=st,
  λw h q hq=>(pG K g z f b).lt w h.1 q hq,
  λw w' ⟨h1,es,clock,e0,h2,h3⟩ hs hk=>⟨(pG K g z f b).stay w w' h1 hs hk,es,clock,e0,(hk g (.inl I)).trans h2,h3⟩⟩
theorem DU{w:World}{g:Nat}{es:Array MapEntry}{c:Nat}(h:w.heap[g]?=aj (.map es c)):setBlock w g (.map es c)=w:=by
 have e:w.heap.setIfInBounds g (.map es c)=w.heap:=by
  apply Array.ext_getElem?;intro i
  by_cases hi:i=g
  subst hi;exact(heap_setBlock_same h _).trans h.symm;exact heap_setBlock_other h _ hi
 unfold setBlock;rw[e]
variable[DecidableEq κ]
theorem TH{w:World}{t e:TypeId}{g b:Nat}{f:κ->Value}{x:κ}{z:Value}(ht:P.underlying t=aj (.map k e))(hz:∀u:World,(zeroValue e).run P u= .ok z u)(h:(pG K g z f b).holds w)(hx:K.ok x)(hc:b<=1152921504606846976):
 ∃st w1,(OX t (.map (aj g)) (K.kv x)).run P w= .ok (.tuple #[f x,goInt (st:Nat)]) w1/\w.grownBy w1 (aj g)/\(X7 K g x st z f (b+1)).holds w1:=by
 have Be:=Gq K (f:=f) ht hz h hx;obtain⟨l,DV⟩:=K.key x hx;obtain⟨m,n,h1,⟨D,⟨es,clock,hb,F,hs,hD⟩,hi⟩,h3⟩:=id h;rcases K.law.find w DV es.toList F.keys with⟨k1,k2⟩|⟨j,e0,k1,k2,k3⟩
 ·have hfx:f x=z:=by
   have:(IR t (.map (aj g)) (K.kv x) aE).run P w= .ok z w:=by
    simp[IR,run_underlying ht,AA hb,K.law.check w _ DV,k1,hz,mN]
   rw[Be]at this
   simpa using this
  obtain⟨w',r1,r2,r3⟩:=KJ K (f':=f) (v:=z) ht h hx hc (λy _=>by by_cases e:y=x<;>simp[e,hfx]);have r1':(zN t (.map (aj g)) (K.kv x) z).run P w= .ok () (setBlock w g (.map (es.push ⟨K.kv x,z,clock⟩) (clock+1))):=by
   simp[zN,run_underlying ht,AA hb,K.law.check w aE DV,k1,IU _ hb,mN,setBlock]
  have ew:w'=setBlock w g (.map (es.push ⟨K.kv x,z,clock⟩) (clock+1)):=by
   rw[r1]at r1';simpa using r1'
  refine⟨clock,w',?_,r3,r2,es.push ⟨K.kv x,z,clock⟩,clock+1,⟨K.kv x,z,clock⟩,?_,by simp,rfl,rfl⟩
  ·rw[ew,hfx]
   simp[OX,run_underlying ht,AA hb,K.law.check w aE DV,k1,hz,IU _ hb,mN,setBlock]
  rw[ew];exact heap_setBlock_same hb _
 ·have hj:es[j]?=aj e0:=by simpa using k2
  have hfx:f x=e0.val:=by
   have:(IR t (.map (aj g)) (K.kv x) aE).run P w= .ok e0.val w:=by
    simp[IR,run_underlying ht,AA hb,K.law.check w _ DV,k1,mN]
   rw[Be]at this
   simpa using this
  have tX:es.modify j (λe=>{e with key:=K.kv x})=es:=by
   apply rF;rw[OS];exact Bd _ _ _ _ k2 (by rw[<-k3])
  refine⟨e0.born,w,?_,⟨rfl,rfl,rfl,bm _,λ_ _ _=>rfl⟩,S6 J (λ_ _=>rfl) w h,es,clock,e0,hb,kR k2,k3,rfl⟩;rw[hfx];have:=DU hb;simp[OX,run_underlying ht,AA hb,K.law.check w aE DV,k1,hj,k3,K.law.stays w DV,tX,IU _ hb,mN];exact this
theorem TI{w:World}{t e:TypeId}{g b st:Nat}{f f':κ->Value}{x:κ}{z v:Value}(ht:P.underlying t=aj (.map k e))(h:(X7 K g x st z f b).holds w)(hx:K.ok x)(hc:b<=1152921504606846976)(hf:∀y,K.ok y->f' y=if y=x then v else f y):
 ∃w',(OW t (.map (aj g)) (goInt (st:Nat)) v).run P w= .ok () w'/\(pG K g z f' (b+1)).holds w'/\w.grownBy w' (aj g):=by
 obtain⟨h,es',ag',e1,Nj,iM,hk1,A7⟩:=h;obtain⟨w',r1,r2,r3⟩:=KJ K (f':=f') (v:=v) ht h hx hc hf;refine⟨w',?_,r2,r3⟩;rw[<-r1];obtain⟨l,DV⟩:=K.key x hx;obtain⟨m,n,h1,⟨D,⟨es,clock,hb,F,hs,hD⟩,hi⟩,h3⟩:=h;rw[hb]at Nj;simp only[dr,Obj.map.injEq]at Nj;obtain⟨rfl,rfl⟩:=Nj;obtain⟨s1,s2,s3⟩:=F.stamped;rcases K.law.find w DV es.toList F.keys with⟨k1,k2⟩|⟨j,e0,k1,k2,k3⟩
 ·exact absurd hk1 (k2 e1 iM)
 ·have hj:es[j]?=aj e0:=by simpa using k2
  obtain⟨i,pB⟩:=List.getElem?_of_mem iM;have sM:i=j:=by
   have U0:=(dl.1 pB);have hj2:=(dl.1 k2);obtain⟨li,ei⟩:=U0;obtain⟨lj,ej⟩:=hj2;refine(List.getElem_inj (h₀:=by simpa using li) (h₁:=by simpa using lj) s3).1 ?_;simp only[r9,ei,ej,hk1,k3]
  subst sM;have e01:e1=e0:=by rw[pB]at k2;simpa using k2
  subst e01;subst A7;have ad3:es.findIdx? (λe=>((e.born:Nat):Int)==((e1.born:Nat):Int))=aj i:=by
   rw[findIdx_arr];exact findIdx_born s2 k2
  have SC:es.modify i (λe=>{e with val:=v})=es.modify i (λe'=>{e' with key:=K.kv x,val:=v}):=by
   apply rF;rw[OS,OS];exact modify_eq _ _ _ _ _ k2 (by rw[<-k3])
  simp[OW,zN,run_underlying ht,AA hb,asInt,asIntOf,goInt,ad3,SC,K.law.check w aE DV,k1,hj,k3,K.law.stays w DV,IU _ hb,mN]
section
variable{W:bR}{fr:Fr}{L:List b_}{Q:Exit->Act->World->Prop}{ops:Array Oper}{rest:List Oper}{n d:Nat}{dst:Option Tmp}{ty:TypeId}{pos:String}{after:Array Edge}{guard:Option (Nat×Bool)}{i g b:Nat}{t e:TypeId}{f:κ->Value}{x:κ}{z:Value}{xm xk xv xs:Operand}
theorem Lv(ht:P.underlying t=aj (.map k e))(hz:∀u:World,(zeroValue e).run P u= .ok z u)(hi:L[i]?=aj (pG K g z f b))(hm:ev fr xm=aj (.map (aj g)))(hk:ev fr xk=aj (K.kv x))(hx:K.ok x)(hc:b<=1152921504606846976)(hn:Nat.blt d n=aD)
 (h:∀st:Nat,TL P n W ops Q rest ((d,.tuple #[f x,av az (st:Int)])::fr) (L.set i (X7 K g x st z f (b+1)))):
 TL P n W ops Q (⟨aj d,.mapEntry t xm xk,ty,pos,after,ak⟩::rest) fr L:=kz I λa w hr hw KK hK=>by
 obtain⟨st,w1,h1,h2,h3⟩:=TH K ht hz (hw.get hi) hx hc;have e1:(execOp a.eval ⟨aj d,.mapEntry t xm xk,ty,pos,after,ak⟩).run P w= .ok (.value (.tuple #[f x,av az (st:Int)])) w1:=by
  simp[execOp,hr.ev hm,hr.ev hk,h1,goInt,mN]
 unfold fM;rw[e1];exact hK _ _ ((h st).go _ _ (hr.put hn _) (hw.BI hi h2 h3 λq hq=> .inl hq))
theorem G5{st:Nat}{v:Value}(f':κ->Value)(ht:P.underlying t=aj (.map k e))(hi:L[i]?=aj (X7 K g x st z f b))(hm:ev fr xm=aj (.map (aj g)))(hs:ev fr xs=aj (av az (st:Int)))(hv:ev fr xv=aj v)(hx:K.ok x)(hc:b<=1152921504606846976)(hf:∀y,K.ok y->f' y=if y=x then v else f y)
 (h:TL P n W ops Q rest fr (L.set i (pG K g z f' (b+1)))):
 TL P n W ops Q (⟨ak,.entryStore t xm xs xv,ty,pos,after,ak⟩::rest) fr L:=kz I λa w hr hw KK hK=>by
 obtain⟨w1,h1,h2,h3⟩:=TI K ht (hw.get hi) hx hc hf;have e1:(execOp a.eval ⟨ak,.entryStore t xm xs xv,ty,pos,after,ak⟩).run P w= .ok .skip w1:=by
  have h1':(OW t (.map (aj g)) (av az (st:Int)) v).run P w= .ok () w1:=h1;simp[execOp,hr.ev hm,hr.ev hs,hr.ev hv,h1',mN]
 unfold fM;rw[e1];exact hK _ _ (h.go _ _ (hr.tD undef) (hw.BI hi h3 h2 λq hq=> .inl hq))
omit [DecidableEq κ]in
theorem X8{st:Nat}{v:Value}(ht:P.underlying t=aj (.map k e))(hz:∀w,(zeroValue e).run P w= .ok z w)(hi:L[i]?=aj (X7 K g x st z f b))(hm:ev fr xm=aj (.map (aj g)))(hk:ev fr xk=aj (K.kv x))(hx:K.ok x)(hv:f x=v):RR P n W ⟨dst,.lookup t xm xk aE,ty,pos,after,guard⟩ fr L v:=
 KI K ht hz (λ_ hw=>(hw.get hi).1) hm hk hx hv
end
end
end bZ
namespace bZ
open Go.RowKit cU dM
theorem BQ(v:Value)(l:List Bool)(x:Bool)(w:World)(hs:Sl w v l.length (l.map .bool)):
 Calls aB 44 #[v,.bool x] w (cz (ret (av az (qP (· ==x) l))) w):=by
 obtain⟨base,cap,rfl,lm,j0,eL⟩:=hs;unfold maxLen at j0;refine enter (args:=[ap base l.length cap,.bool x]) (n:=19) Tryz.func44 I I I ?_
 try refine GA ?_
 refine dY (ι:=Nat) (λk=>k<=l.length/\∀j (hj:j<l.length),j<k->(l[j]==x)=aE) (λk=>[(0,ap base l.length cap),(1,.bool x),(7,av az l.length),(8,av az (k:Int))]) (λ_=>[]) (λk=>l.length-k) 0 ⟨by omega,λj hj h=>by omega⟩ ?_;rintro k ⟨h1,h2⟩
 by_cases c2:k<l.length
 ·obtain⟨b,off,rfl,hr⟩:=eL J
  have dz:=V5 (L:=([]:List b_)) hr c2
  by_cases c3:(l[k]==x)=aD
  ·rw[qQ c2 c3 h2]
   have e:x=l[k]:=by simpa using(beq_iff_eq.1 c3).symm
   clear h2 eL;subst e
   repeat(first|refine GC ?_|refine gV (bY bL.eq aK.ty I I c2) ?_|refine gV (aC aK.ty I dz) ?_|refine gV (Gf (c:=aD) bL.eq I I (by simp)) ?_|refine GB ?_)
   exact eE
  have Np:(l[k]==x)=false:=by simpa using c3
  have e:(x==l[k])=false:=by rw[beq_eq_false_iff_ne]at Np⊢;exact λh=>Np h.symm
  clear eL c3
  repeat(first|refine GC ?_|refine gV (bY bL.eq aK.ty I I c2) ?_|refine gV (aC aK.ty I dz) ?_|refine gV (Gf (c:=aE) bL.eq I I e) ?_|refine GB ?_)
  exact bW (k+1) ⟨by omega,λj hj h=>if e:j<k then h2 j hj e else(by obtain rfl:j=k:=J;exact Np)⟩ (by show l.length-(k+1)<l.length-k;omega)
 ·rw[qR λj hj=>h2 j hj J]
  clear h2 eL
  try refine GA ?_
  exact eE
theorem pf(v:Value)(l:List Bool)(x:Bool)(w:World)(hs:Sl w v l.length (l.map .bool)):
 Calls aB 21 #[v,.bool x] w (cz (ret (.bool (l.any (· ==x)))) w):=by
 refine enter (args:=[v,.bool x]) (n:=9) Tryz.func21 I I I ?_;have hh:=λw' (hg:Gr w w')=>BQ v l x w' (hs.gr hg);have hr:=oJ (· ==x) l
 rw[<-tN (· ==x) l]
 generalize qP (· ==x) l=r at*
 try refine GA ?_
 refine aW (fI aI.en I I I) (λw hm=>hh _ hm.below) I I I ?_;intro _ _
 repeat(first|refine GC ?_|refine gV (eN I I I) ?_|refine GB ?_)
 exact eE
end bZ
namespace bZ
open Go.RowKit cU dM aT dL
inductive pg(F:Nat->Prop)(w:World):List Value->Tree->Prop
 |mk {p k:Int} {kids:List Tree} {base:Option Addr} {cap:Nat} (fT:List (List Value)):cU.dX p->cU.dX k->kids.length<=cap->cap<=maxLen->fT.length=kids.length->
  (∀i (h:i<kids.length) (h':i<fT.length),pg F w fT[i] kids[i])->(0<kids.length->∃b off,base=aj ⟨b,off,ak⟩/\F b/\∀i (_:i<kids.length) (h':i<fT.length),Rd w b (off+i*3) fT[i])->
  pg F w [av az p,av az k,ap base kids.length cap] (.mk p k kids)
theorem pg.aha{F:Nat->Prop}{w:World}{cs:List Value}{t:Tree}(h:pg F w cs t):cs.length=3:=by
 cases h;rfl
theorem pg.Ih{F:Nat->Prop}{w w':World}{cs:List Value}{t:Tree}(h:pg F w cs t)(hk:∀k,F k->w'.heap[k]?=w.heap[k]?):pg F w' cs t:=by
 induction h with
 |mk fT h1 h2 h3 h4 h5 h6 h7 ih=>
  refine .mk fT h1 h2 h3 h4 h5 ih λhl=>?_;obtain⟨b,off,e,hF,hr⟩:=h7 hl;exact⟨b,off,e,hF,λi hi pB=>rd_stay (hr i hi pB) (hk b hF)⟩
theorem pg.mono{F F':Nat->Prop}{w:World}{cs:List Value}{t:Tree}(h:pg F w cs t)(hk:∀k,F k->F' k):pg F' w cs t:=by
 induction h with
 |mk fT h1 h2 h3 h4 h5 h6 h7 ih=>
  refine .mk fT h1 h2 h3 h4 h5 ih λhl=>?_;obtain⟨b,off,e,hF,hr⟩:=h7 hl;exact⟨b,off,e,hk b hF,hr⟩
def afs:vO Tree:=⟨3,pg,λh=>h.aha,λh hk=>h.Ih hk,λh hk=>h.mono hk⟩
def aft(p k:Int)(v:Value):Value:=aQ #[av az p,av az k,v]
def X9(F:Nat->Prop)(w:World)(v:Value)(t:Tree):Prop:=∃vk,v=aft t.prod t.tok vk/\cU.dX t.prod/\cU.dX t.tok/\jQ afs F w vk t.kids
theorem X9.gr{w w':World}{v:Value}{t:Tree}(h:X9 (λk=>k<w.heap.size) w v t)(hg:Gr w w'):X9 (λk=>k<w'.heap.size) w' v t:=
 let ⟨vk,h1,h2,h3,h4⟩:=h;⟨vk,h1,h2,h3,h4.gr hg⟩
section
end
end bZ
namespace bZ
open Go.RowKit cU dM aT dG
def gD(n:Nat):Value:= .int .u64 (n:Int)
theorem Cj{l:List Bool}{i:Nat}(hi:i<l.length):(l.map fN)[i]?=aj (.bool (l.getD i aE)):=by
 simp[hi]
theorem IX{l:List Nat}{i:Nat}(hi:i<l.length):(l.map gD)[i]?=aj (gD (l.getD i 0)):=by
 simp[hi]
theorem O2(g cap:Nat)(l:List Bool)(i:Nat)(b:Bool)(w:World)(B:bR)(hi:i<l.length)(hm:Mem B [a_ 4 1 (ap (aj ⟨g,0,ak⟩) l.length cap) l.length (l.map .bool)] w):
 Calls aB 77 #[ap (aj ⟨g,0,ak⟩) l.length cap,av az (i:Int),.bool b] w (dc ⟨λ(_:Unit)=>True,λ_=> .bool (fK l i b).2,λ_=>[a_ 4 1 (ap (aj ⟨g,0,ak⟩) l.length cap) l.length ((fK l i b).1.map .bool)]⟩ B):=by
 have hb:=Cj hi;refine dA hm (args:=[ap (aj ⟨g,0,ak⟩) l.length cap,av az (i:Int),.bool b]) (n:=18) Tryz.func77 I I I ?_;unfold fK
 cases b
 ·rw[if_neg (by simp)]
  try refine GA ?_
  exact cJ I I λw hm=>hm.cB (S:=⟨λ(_:Unit)=>True,λ_=> .bool aE,λ_=>[a_ 4 1 (ap (aj ⟨g,0,ak⟩) l.length cap) l.length (l.map .bool)]⟩) () trivial [0] aiz I
 ·generalize hx:l.getD i aE=x at*
  cases x
  ·rw[if_pos ⟨rfl,rfl⟩]
   repeat(first|refine GA ?_|refine gV (bY bL.eq aK.ty I I hi) ?_|refine gV (aC aK.ty I (jY (i:=0) I (by rw[cV];exact hb))) ?_)
   refine lW (i:=0) aK.ty I I I I I I (by simpa using hi) ?_
   try refine GA ?_
   exact cJ I I λw hm=>hm.cB (S:=⟨λ(_:Unit)=>True,λ_=> .bool aD,λ_=>[a_ 4 1 (ap (aj ⟨g,0,ak⟩) l.length cap) l.length ((l.set i aD).map .bool)]⟩) () trivial [0] aiz (by simp[oM])
  rw[if_neg (by simp)]
  repeat(first|refine GA ?_|refine gV (bY bL.eq aK.ty I I hi) ?_|refine gV (aC aK.ty I (jY (i:=0) I (by rw[cV];exact hb))) ?_)
  exact cJ I I λw hm=>hm.cB (S:=⟨λ(_:Unit)=>True,λ_=> .bool aE,λ_=>[a_ 4 1 (ap (aj ⟨g,0,ak⟩) l.length cap) l.length (l.map .bool)]⟩) () trivial [0] aiz I
theorem xR(v vb:Value)(l:List Bool)(body:List dv)(aR:Bool)(w:World)(hs:Sl w v l.length (l.map .bool))(Ka:Sl w vb body.length (body.flatMap ep))(lf:∀x∈body,x.1=2->0<=x.2/\x.2<l.length):
 Calls aB 78 #[v,vb,.bool aR] w (cz (ret (.bool (oW l body aR))) w):=by
 obtain⟨bv,cv,rfl,h1,h2,h3⟩:=hs;obtain⟨bb,cb,rfl,h4,h5,h6⟩:=Ka;unfold maxLen at h2 h5;refine enter (args:=[ap bv l.length cv,ap bb body.length cb,.bool aR]) (n:=36) Tryz.func78 I I I ?_
 try refine GA ?_
 refine dY (ι:=Nat) (λk=>k<=body.length/\oW l body aR=oW l (body.drop k) aR) (λk=>[(0,ap bv l.length cv),(2,.bool aR),(9,ap bb body.length cb),(10,av az body.length),(11,av az (k:Int))]) (λ_=>[]) (λk=>body.length-k) 0 ⟨bH _,rfl⟩ ?_;rintro k ⟨i1,i2⟩;rw[i2];clear i2
 by_cases c6:k<body.length
 ·obtain⟨b,off,rfl,hr⟩:=h6 J
  have dz:=gG (L:=([]:List b_)) nD hr c6;have aa3:=lf body[k] (cD c6);have hd:oW l (body.drop k) aR=((if body[k].1=1 then aR else if body[k].1=2 then l.getD body[k].2.toNat aE else aD)&&oW l (body.drop (k+1)) aR):=by
   rw[eI c6];rfl
  rw[hd];clear hd h6 lf hr;generalize body[k]=x at*;obtain⟨q,m⟩:=x;dsimp only at*
  by_cases c1:q=1
  ·rw[if_pos c1]
   cases aR
   ·repeat(first|refine GA ?_|refine gV (aX bL.eq aK.ty I I c6) ?_|refine gV (a8 aK.ty I I dz) ?_)
    refine aY I λg8=>?_;refine gh 0 ?_
    repeat(first|refine GA ?_|refine gV (aC aK.ty I (aH (i:=0) I I)) ?_)
    exact eE
   repeat(first|refine GA ?_|refine gV (aX bL.eq aK.ty I I c6) ?_|refine gV (a8 aK.ty I I dz) ?_)
   refine aY I λg8=>?_;refine gh 0 ?_
   repeat(first|refine GA ?_|refine gV (aC aK.ty I (aH (i:=0) I I)) ?_)
   refine dh [] ?_;exact bW (k+1) ⟨by omega,by simp⟩ (by show body.length-(k+1)<body.length-k;omega)
  rw[if_neg c1]
  by_cases c2:q=2
  ·rw[if_pos c2]
   obtain⟨o1,o2⟩:=aa3 c2;obtain⟨mm,rfl⟩:∃mm:Nat,m=mm:=⟨m.toNat,by omega⟩;have sY:mm<l.length:=by omega
   obtain⟨b',Ah,rfl,H4⟩:=h3 J;rw[dB];have hcell:=Cj sY;generalize l.getD mm aE=y at*
   cases y
   ·repeat(first|refine GA ?_|refine gV (aX bL.eq aK.ty I I c6) ?_|refine gV (a8 aK.ty I I dz) ?_)
    refine aY I λg8=>?_;refine gh 0 ?_
    repeat(first|refine GA ?_|refine gV (aC aK.ty I (aH (i:=0) I I)) ?_|refine gV (bY bL.eq aK.ty I I sY) ?_|refine gV (aC aK.ty I (iD H4 hcell)) ?_)
    exact eE
   repeat(first|refine GA ?_|refine gV (aX bL.eq aK.ty I I c6) ?_|refine gV (a8 aK.ty I I dz) ?_)
   refine aY I λg8=>?_;refine gh 0 ?_
   repeat(first|refine GA ?_|refine gV (aC aK.ty I (aH (i:=0) I I)) ?_|refine gV (bY bL.eq aK.ty I I sY) ?_|refine gV (aC aK.ty I (iD H4 hcell)) ?_)
   refine dh [] ?_;exact bW (k+1) ⟨by omega,by simp⟩ (by show body.length-(k+1)<body.length-k;omega)
  rw[if_neg c2]
  repeat(first|refine GA ?_|refine gV (aX bL.eq aK.ty I I c6) ?_|refine gV (a8 aK.ty I I dz) ?_)
  refine aY I λg8=>?_;refine gh 0 ?_
  repeat(first|refine GA ?_|refine gV (aC aK.ty I (aH (i:=0) I I)) ?_)
  refine dh [] ?_;exact bW (k+1) ⟨by omega,by simp⟩ (by show body.length-(k+1)<body.length-k;omega)
 ·rw[jg J]
  try refine GA ?_
  exact eE
end bZ
namespace bZ
open Go.RowKit cU dM aT dG
theorem q7{x y:Nat}(hx:x<18446744073709551616)(hy:y<18446744073709551616):bits .or .u64 (x:Int) (y:Int)=((x|||y:Nat):Int):=by
 have h:=bits_nat .u64 64 aiz (λn h0 h1=>by rw[rK];omega) x y (by simpa using hx) (by simpa using hy);exact h.2
theorem afu{x y:Nat}(hx:x<18446744073709551616)(hy:y<18446744073709551616):x|||y<18446744073709551616:=X1 (n:=64) hx hy
theorem yS{m:Nat}(h:m<64):2^m<18446744073709551616:=by
 have:(2:Nat)^m<2^64:=Dg aiz h
 simpa using this
theorem aa4{P:Program}(m:Nat)(hm:m<64)(w:World):(il .shl .u64 1 .i64 (m:Int)).run P w= .ok (.int .u64 ((2^m:Nat):Int)) w:=by
 have e:min m 64=m:=by omega
 have hp:=yS hm;have e2:(2:Int)^m=((2^m:Nat):Int):=by rw[Int.natCast_pow];rfl
 have e3:tp.wrap ((1:Int)*2^m)=((2^m:Nat):Int):=by
  rw[e2,rK,Int.one_mul];generalize 2^m=q at hp;omega
 have h0:¬((m:Int)<0):=by omega
 simp only[il,if_neg h0,lF,dB,e,e3,oy]
attribute [local irreducible] Op.shift Go.bits in
theorem TJ(g cap:Nat)(l:List Nat)(i b:Nat)(w:World)(B:bR)(hi:i<l.length)(h64:∀x∈l,x<18446744073709551616)(hb:b<18446744073709551616)(hm:Mem B [a_ 75 1 (ap (aj ⟨g,0,ak⟩) l.length cap) l.length (l.map gD)] w):
 Calls aB 79 #[ap (aj ⟨g,0,ak⟩) l.length cap,av az (i:Int),gD b] w (dc ⟨λ(_:Unit)=>True,λ_=> .bool (nS l i b).2,λ_=>[a_ 75 1 (ap (aj ⟨g,0,ak⟩) l.length cap) l.length ((nS l i b).1.map gD)]⟩ B):=by
 have hc:=IX hi;have aa5:l.getD i 0<18446744073709551616:=by
  have e:l.getD i 0=l[i]:=by rw[cH,bD hi];rfl
  rw[e];exact h64 _ (cD hi)
 refine dA hm (args:=[ap (aj ⟨g,0,ak⟩) l.length cap,av az (i:Int),gD b]) (n:=25) Tryz.func79 I I I ?_;unfold nS;generalize l.getD i 0=x at*;have Kf:=q7 aa5 hb;have sX:((l.map gD).set i (.int .u64 ((x|||b:Nat):Int)))[0+i]?=aj (.int .u64 ((x|||b:Nat):Int)):=by
  rw[cV,List.getElem?_set_self (by simpa using hi)]
 generalize x|||b=y at*
 by_cases c:y=x
 ·rw[show(!decide (y=x))=aE by simp[c]]
  repeat(first|refine GA ?_|refine gV (bY bL.eq aK.ty I I hi) ?_|refine gV (aC aK.ty I (jY (i:=0) I (by rw[cV];exact hc))) ?_|refine gV (ym I I Kf) ?_)
  refine lW (i:=0) aK.ty I I I I I I (by simpa using hi) ?_
  conv=>arg 8;simp only[wY,cV]
  repeat(first|refine GA ?_|refine gV (bY bL.eq aK.ty I I hi) ?_|refine gV (aC aK.ty I (jY (i:=0) I sX)) ?_)
  exact cJ I I λw hm=>hm.cB (S:=⟨λ(_:Unit)=>True,λ_=> .bool aE,λ_=>[a_ 75 1 (ap (aj ⟨g,0,ak⟩) l.length cap) l.length ((l.set i y).map gD)]⟩) () trivial [0] aiz (by simp[oM];rfl)
 ·rw[show(!decide (y=x))=aD by simp[c]]
  repeat(first|refine GA ?_|refine gV (bY bL.eq aK.ty I I hi) ?_|refine gV (aC aK.ty I (jY (i:=0) I (by rw[cV];exact hc))) ?_|refine gV (ym I I Kf) ?_)
  refine lW (i:=0) aK.ty I I I I I I (by simpa using hi) ?_
  conv=>arg 8;simp only[wY,cV]
  repeat(first|refine GA ?_|refine gV (bY bL.eq aK.ty I I hi) ?_|refine gV (aC aK.ty I (jY (i:=0) I sX)) ?_)
  exact cJ I I λw hm=>hm.cB (S:=⟨λ(_:Unit)=>True,λ_=> .bool aD,λ_=>[a_ 75 1 (ap (aj ⟨g,0,ak⟩) l.length cap) l.length ((l.set i y).map gD)]⟩) () trivial [0] aiz (by simp[oM];rfl)
theorem IY(E:List Bool)(F:List Nat)(behind:Nat)(x:dv)(r:List dv)(out:Nat):mq E F behind (x::r) out=if x.1=1 then out|||2^x.2.toNat else if E.getD x.2.toNat aE=aD then mq E F behind r (out|||F.getD x.2.toNat 0)else out|||F.getD x.2.toNat 0:=rfl
theorem Lw(E:List Bool)(F:List Nat)(behind out:Nat):mq E F behind [] out=out|||behind:=rfl
def l9(vE vF vL vR vM:Value):Value:=aQ #[vE,vF,vL,vR,vM]
attribute [local irreducible] Op.shift Go.bits in
theorem uu(vE vF vL vR vM vb:Value)(E:List Bool)(F:List Nat)(body:List dv)(behind:Nat)(w:World)(hE:Sl w vE E.length (E.map .bool))(hF:Sl w vF F.length (F.map gD))(hs:Sl w vb body.length (body.flatMap ep))(hEF:E.length=F.length)
 (lf:∀x∈body,(x.1=1->0<=x.2/\x.2<64)/\(x.1≠1->0<=x.2/\x.2<F.length)) (h64:∀x∈F,x<18446744073709551616) (hb:behind<18446744073709551616):
 Calls aB 80 #[l9 vE vF vL vR vM,vb,gD behind] w (cz (ret (gD (fQ E F body behind))) w):=by
 obtain⟨bE,cE,rfl,e1,e2,e3⟩:=hE;obtain⟨bF,cF,rfl,f1,f2,f3⟩:=hF;obtain⟨bb,cb,rfl,h4,h5,h6⟩:=hs;unfold maxLen at e2 f2 h5;refine enter (args:=[l9 (ap bE E.length cE) (ap bF F.length cF) vL vR vM,ap bb body.length cb,gD behind]) (n:=44) Tryz.func80 I I I ?_;refine b9 (bz (bQ I I I λg3=>?_))
 try refine GA ?_
 unfold fQ;refine dY (ι:=Nat×Nat) (λ(k,out)=>k<=body.length/\out<18446744073709551616/\mq E F behind body 0=mq E F behind (body.drop k) out) (λ(k,out)=>[(2,gD behind),(3,aJ (aj ⟨g3,0,ak⟩)),(7,gD out),(10,ap bb body.length cb),(11,av az body.length),(12,av az (k:Int))]) (λ_=>[aP g3 (l9 (ap bE E.length cE) (ap bF F.length cF) vL vR vM).cells 65]) (λ(k,_)=>body.length-k) (0,0) ⟨bH _,by decide,rfl⟩ ?_;rintro⟨k,out⟩ ⟨i1,i3,i2⟩;dsimp only at i1 i3 i2⊢;rw[i2];clear i2
 by_cases c6:k<body.length
 ·obtain⟨b,off,rfl,hr⟩:=h6 J
  have dz:=gG (L:=[aP g3 (l9 (ap bE E.length cE) (ap bF F.length cF) vL vR vM).cells 65]) nD hr c6;have aa3:=lf body[k] (cD c6);have hd:mq E F behind (body.drop k) out=mq E F behind (body[k]::body.drop (k+1)) out:=by
   rw[eI c6]
  rw[hd];clear hd h6 lf hr;generalize body[k]=x at*;obtain⟨q,m⟩:=x;dsimp only at*;rw[IY];dsimp only
  by_cases c1:q=1
  ·rw[if_pos c1]
   obtain⟨o1,o2⟩:=aa3.1 c1;obtain⟨mm,rfl⟩:∃mm:Nat,m=mm:=⟨m.toNat,by omega⟩;rw[dB];have WE:=λw=>aa4 (P:=aB) mm J w;have Kf:=q7 i3 (yS (m:=mm) J)
   repeat(first|refine GA ?_|refine gV (aX bL.eq aK.ty I I c6) ?_|refine gV (a8 aK.ty I I dz) ?_)
   refine aY I λg8=>?_;refine gh 1 ?_
   repeat(first|refine GA ?_|refine gV (aC aK.ty I (aH (i:=1) I I)) ?_|refine gV (CW I I WE) ?_|refine gV (ym I I Kf) ?_)
   exact eE
  rw[if_neg c1];obtain⟨o1,o2⟩:=aa3.2 c1;obtain⟨mm,rfl⟩:∃mm:Nat,m=mm:=⟨m.toNat,by omega⟩;rw[dB];have sY:mm<F.length:=by omega
  have hmE:mm<E.length:=by omega
  obtain⟨b1,ah',rfl,U2⟩:=e3 J;obtain⟨b2,aa6,rfl,vC⟩:=f3 J;have hcE:=Cj hmE;have hcF:=IX sY;have aa5:F.getD mm 0<18446744073709551616:=by
   have e:F.getD mm 0=F[mm]:=by rw[cH,bD sY];rfl
   rw[e];exact h64 _ (cD sY)
  have Kf:=q7 i3 aa5;have hlt:=afu i3 aa5;generalize E.getD mm aE=y at*;generalize F.getD mm 0=z at*;generalize out|||z=o2 at*
  cases y
  ·rw[if_neg aiz]
   repeat(first|refine GA ?_|refine gV (aX bL.eq aK.ty I I c6) ?_|refine gV (a8 aK.ty I I dz) ?_)
   refine aY I λg8=>?_;refine gh 1 ?_
   repeat(first|refine GA ?_|refine gV (aC aK.ty I (aH (i:=1) I I)) ?_|refine gV (aC aK.ty I (aH (i:=0) I I)) ?_|refine gV (bY bL.eq aK.ty I I sY) ?_|refine gV (bY bL.eq aK.ty I I hmE) ?_|refine gV (aC aK.ty I (iD U2 hcE)) ?_|refine gV (aC aK.ty I (iD vC hcF)) ?_|refine gV (ym I I Kf) ?_)
   exact eE
  rw[if_pos I]
  repeat(first|refine GA ?_|refine gV (aX bL.eq aK.ty I I c6) ?_|refine gV (a8 aK.ty I I dz) ?_)
  refine aY I λg8=>?_;refine gh 1 ?_
  repeat(first|refine GA ?_|refine gV (aC aK.ty I (aH (i:=1) I I)) ?_|refine gV (aC aK.ty I (aH (i:=0) I I)) ?_|refine gV (bY bL.eq aK.ty I I sY) ?_|refine gV (bY bL.eq aK.ty I I hmE) ?_|refine gV (aC aK.ty I (iD U2 hcE)) ?_|refine gV (aC aK.ty I (iD vC hcF)) ?_|refine gV (ym I I Kf) ?_)
  refine dh [0] ?_;exact bW (k+1,o2) ⟨by omega,hlt,rfl⟩ (by show body.length-(k+1)<body.length-k;omega)
 ·rw[jg J]
  have Kf:=q7 i3 hb;rw[Lw]
  repeat(first|refine GA ?_|refine gV (ym I I Kf) ?_)
  exact eE
end bZ
namespace bZ
open Go.RowKit cU dM aT dG
def eg(n g c:Nat)(l:List Bool):b_:=a_ 4 1 (ap (aj ⟨g,0,ak⟩) n c) n (l.map .bool)
theorem uv(n g cap:Nat)(l:List Bool)(i:Nat)(b:Bool)(w:World)(B:bR)(hl:l.length=n)(hi:i<n)(hm:Mem B [eg n g cap l] w):
 Calls aB 77 #[ap (aj ⟨g,0,ak⟩) n cap,av az (i:Int),.bool b] w (dc ⟨λ(_:Unit)=>True,λ_=> .bool (fK l i b).2,λ_=>[eg n g cap (fK l i b).1]⟩ B):=by
 subst hl;exact O2 g cap l i b w B hi hm
structure afv where
 gE:Nat
 cE:Nat
 gR:Nat
 cR:Nat
 gM:Nat
 cM:Nat
def dq(n g c:Nat):Value:=ap (aj ⟨g,0,ak⟩) n c
theorem Ly(h:Nat)(x:dv)(r:List dv)(R:List Bool)(more:Bool):mZ h (x::r) R more=mZ h r (A_ h x R more).1 (A_ h x R more).2:=rfl
theorem Lz(p:aT.Prod)(r:List aT.Prod)(s:FS):gi (p::r) s=gi r (oX p s):=rfl
theorem LA(w0:World)(v:Value)(g:d_)(h:jZ (λk=>k<w0.heap.size) w0 v g)(iS:bX g=0)(n:Nat)(hn:g.bC=n)(x:afv)(vF vL:Value)(E R M:List Bool)(hE:E.length=n)(hR:R.length=n)(hM:M.length=n)(w:World)(B:bR)(ho:pC w0 B)(hm:Mem B [eg n x.gE x.cE E,eg n x.gR x.cR R,eg n x.gM x.cM M] w):
 Calls aB 42 #[v,l9 (dq n x.gE x.cE) vF vL (dq n x.gR x.cR) (dq n x.gM x.cM)] w (dc ⟨λ(_:Unit)=>True,λ_=> .bool (gi g.aF ⟨E,R,M,aE⟩).more,λ_=>[eg n x.gE x.cE (gi g.aF ⟨E,R,M,aE⟩).E,eg n x.gR x.cR (gi g.aF ⟨E,R,M,aE⟩).R,eg n x.gM x.cM (gi g.aF ⟨E,R,M,aE⟩).M]⟩ B):=by
 obtain⟨gE,cE,gR,cR,gM,cM⟩:=x;dsimp only at*;obtain⟨_,_,_,_,hlen,hps⟩:=cP iS;obtain⟨vp,rfl,h1,_⟩:=h;obtain⟨bp,cp,rfl,Ix,Fj,nZ⟩:=h1;unfold maxLen at Fj;obtain⟨t,nn,aF⟩:=g;dsimp only at*;subst hn;refine dA hm (args:=[dE t (n:Int) (ap bp aF.length cp),l9 (dq n gE cE) vF vL (dq n gR cR) (dq n gM cM)]) (n:=70) Tryz.func42 I I I<|b9 (bz (bQ I I I λg2=>bQ I I I λg3=>?_));refine zL ?_
 refine GM ?_
 refine tJ [0,1,2,4] ?_;generalize jp:gi aF ⟨E,R,M,aE⟩=fin;refine dY (ι:=Nat×FS) (λ(k,s)=>k<=aF.length/\s.E.length=n/\s.R.length=n/\s.M.length=n/\gi (aF.drop k) s=fin) (λ(k,s)=>[(3,aJ (aj ⟨g3,0,ak⟩)),(5,.bool s.more),(11,ap bp aF.length cp),(12,av az aF.length),(13,av az (k:Int))])
  (λ(_,s)=>[eg n gE cE s.E,eg n gR cR s.R,eg n gM cM s.M,aP g3 (l9 (dq n gE cE) vF vL (dq n gR cR) (dq n gM cM)).cells 65]) (λ(k,_)=>aF.length-k) (0,⟨E,R,M,aE⟩) ⟨bH _,hE,hR,hM,jp⟩ ?_
 clear hm hE hR hM jp;rintro⟨k,E,R,M,more⟩ ⟨i1,i2,i3,i4,i5⟩;dsimp only at i1 i2 i3 i4 i5⊢
 by_cases c6:k<aF.length
 ·obtain⟨b,off,rfl,_,hr⟩:=nZ J
  obtain⟨bb,cb,q1,q2,q3⟩:=lx hr c6;have dS:=hps aF[k] (cD c6);rw[eI c6,Lz]at i5;have dz:∀(L:List b_) (j:Nat) (v:Value),([av az aF[k].1,.slice bb aF[k].2.length cb]:List Value)[j]?=aj v->At B L ⟨b,off+k*2+j,ak⟩ v:=λL j v hj=>iw ho (q1 j v hj);have wo:=q3.flat aiz;clear hr nZ q1 hps q3;generalize aF[k]=p at*;obtain⟨hd,body⟩:=p;obtain⟨p1,p2,p3,p4⟩:=dS;dsimp only at*;obtain⟨hn,rfl⟩:∃hn:Nat,hd=hn:=⟨hd.toNat,by omega⟩;have hhn:hn<n:=by omega
  have Ru:∀x∈body,x.1=2->0<=x.2/\x.2<(n:Int):=λx hx fE=>by
   have:=p4 x hx;unfold right at this;rw[if_neg J,if_pos fE]at this
   simpa using this
  have hsb:∀w' L,Mem B L w'->Sl w' (ap bb body.length cb) body.length (body.flatMap ep):=λw' L hm=>wo.gr (ho.mem hm);unfold oX at i5;dsimp only at i5;rw[dB]at i5;have X_:=λw' L (hm:Mem B L w') (hx:Sl w' (dq n gE cE) E.length (E.map .bool))=>xR (dq n gE cE) (ap bb body.length cb) E body aE w' hx (hsb w' L hm) (λx hx fE=>by rw[i2];exact Ru x hx fE);have ph:=λw' L (hm:Mem B L w') (hx:Sl w' (dq n gM cM) M.length (M.map .bool))=>xR (dq n gM cM) (ap bb body.length cb) M body aD w' hx (hsb w' L hm) (λx hx fE=>by rw[i4];exact Ru x hx fE);generalize oW E body aE=a1 at*;generalize oW M body aD=a2 at*;have afw:=λw' B' hm=>uv n gE cE E hn a1 w' B' i2 hhn hm;have afx:=λw' B' hm=>uv n gM cM M hn a2 w' B' i4 hhn hm;have QR:=mY E hn a1;have J':=mY M hn a2;rw[i2]at QR X_;rw[i4]at J' ph;generalize fK E hn a1=m1 at*;generalize fK M hn a2=m2 at*;obtain⟨E1,b1⟩:=m1;obtain⟨M1,b2⟩:=m2;dsimp only at*
  repeat(first|refine GA ?_|refine gV (aX bL.eq aK.ty I I c6) ?_|refine gV (a8 aK.ty I I (dz _)) ?_)
  clear dz;refine aY I λg7=>?_;refine gh 4 ?_;refine zL ?_
  repeat(first|refine QV QP ?_|refine ky ?_|refine lH ?_|refine qs I I I I I I ?_|((try refine qg I I I ?_);first|refine QV QP ?_|refine QV QL ?_|refine QV QA ?_|refine QV QlT ?_|refine QV QlF ?_|refine QV QeT ?_|refine QV QeF ?_|refine QV QaA ?_))
  (repeat refine b9 ?_)
  refine kV (ι:=Unit) (λ_=>True) (λ_=>[(3,aJ (aj ⟨g3,0,ak⟩)),(5,.bool (b1||more)),(7,aJ (aj ⟨g7,0,ak⟩)),(11,ap (aj ⟨b,off,ak⟩) aF.length cp),(12,av az aF.length),(13,av az (k:Int))])
   (λ_=>[eg n gE cE E1,eg n gR cR R,eg n gM cM M,aP g3 (l9 (dq n gE cE) vF vL (dq n gR cR) (dq n gM cM)).cells 65,aP g7 #[av az (hn:Int),ap bb body.length cb] 132]) ?_ ?_
  ·refine dK ([aP g3 (l9 (dq n gE cE) vF vL (dq n gR cR) (dq n gM cM)).cells 65,aP g7 #[av az (hn:Int),ap bb body.length cb] 132]) (.calm 0 (.calm 1 (.calm 2 (.calm 3 (.calm 4 (.calm 5 (.calm 6 (.calm 7 (.one 8 (.one 9 (.calm 10 (.calm 11 (.calm 12 (.calm 13 (.done))))))))))))))) (bV [3,4]) ?_
   repeat(first|refine GW ?_|(refine GN ?_;first|refine QW (aC aK.ty I (aH (i:=0) I I)) ?_|refine QW (aC aK.ty I (aH (i:=1) I I)) ?_))
   refine aL I<|aW (sZ aI.en I I I I) (λw hm=>X_ _ _ hm (lI (i:=0) I w hm)) I I I ?_;intro _ _;refine zL ?_;refine aM (bV [3,4])<|aL I<|bx [0] [1,2,3,4] aiz I I (sZ aI.en I I I I) (λw hm hb=>afw w _ hb) I I I ?_;intro _ _;refine zL ?_;refine aM (bV [2,3]) ?_
   cases b1
   ·refine GW ?_
    refine dh [4,0,1,2,3] ?_;exact dJ () trivial (by repeat' (first|exact cI|refine cC I ?_)) I
   refine GW ?_
   refine dh [4,0,1,2,3] ?_;exact dJ () trivial (by repeat' (first|exact cI|refine cC I ?_)) I
  intro _ _
  (repeat refine b9 ?_)
  refine kV (ι:=Unit) (λ_=>True) (λ_=>[(3,aJ (aj ⟨g3,0,ak⟩)),(5,.bool (b2||(b1||more))),(7,aJ (aj ⟨g7,0,ak⟩)),(11,(ap (aj ⟨b,off,ak⟩) aF.length cp)),(12,av az aF.length),(13,av az (k:Int))])
   (λ_=>[eg n gE cE E1,eg n gR cR R,eg n gM cM M1,aP g3 (l9 (dq n gE cE) vF vL (dq n gR cR) (dq n gM cM)).cells 65,aP g7 #[av az (hn:Int),ap bb body.length cb] 132]) ?_ ?_
  ·refine dK ([aP g3 (l9 (dq n gE cE) vF vL (dq n gR cR) (dq n gM cM)).cells 65,aP g7 #[av az (hn:Int),ap bb body.length cb] 132]) (.calm 0 (.calm 1 (.calm 2 (.calm 3 (.calm 4 (.calm 5 (.calm 6 (.calm 7 (.one 8 (.one 9 (.calm 10 (.calm 11 (.calm 12 (.calm 13 (.done))))))))))))))) (bV [3,4]) ?_
   repeat(first|refine GW ?_|(refine GN ?_;first|refine QW (aC aK.ty I (aH (i:=0) I I)) ?_|refine QW (aC aK.ty I (aH (i:=1) I I)) ?_))
   refine aL I<|aW (sZ aI.en I I I I) (λw hm=>ph _ _ hm (lI (i:=2) I w hm)) I I I ?_;intro _ _;refine zL ?_;refine aM (bV [3,4])<|aL I<|bx [2] [0,1,3,4] aiz I I (sZ aI.en I I I I) (λw hm hb=>afx w _ hb) I I I ?_;intro _ _;refine zL ?_;refine aM (bV [2,3]) ?_;generalize (b1||more)=mo
   cases b2
   ·refine GW ?_
    refine dh [0,1,4,2,3] ?_;exact dJ () trivial (by repeat' (first|exact cI|refine cC I ?_)) I
   refine GW ?_
   refine dh [0,1,4,2,3] ?_;exact dJ () trivial (by repeat' (first|exact cI|refine cC I ?_)) I
  intro _ _;generalize (b2||(b1||more))=mo at*;clear afw afx X_ ph
  refine GM ?_
  generalize hfr:mZ hn body R mo=fr at*;obtain⟨R2,mo2⟩:=fr;dsimp only at i5;refine dY (ι:=Nat×List Bool×Bool) (λ(j,R',m')=>j<=body.length/\R'.length=n/\mZ hn (body.drop j) R' m'=(R2,mo2)) (λ(j,_,m')=>[(3,aJ (aj ⟨g3,0,ak⟩)),(5,.bool m'),(7,aJ (aj ⟨g7,0,ak⟩)),(11,(ap (aj ⟨b,off,ak⟩) aF.length cp)),(12,av az aF.length),(13,av az (k:Int)),(44,ap bb body.length cb),(45,av az body.length),(46,av az (j:Int))])
   (λ(_,R',_)=>[eg n gE cE E1,eg n gR cR R',eg n gM cM M1,aP g3 (l9 (dq n gE cE) vF vL (dq n gR cR) (dq n gM cM)).cells 65,aP g7 #[av az (hn:Int),ap bb body.length cb] 132]) (λ(j,_,_)=>body.length-j) (0,R,mo) ⟨bH _,i3,hfr⟩ ?_
  clear hfr;rintro⟨j,R',m'⟩ ⟨j1,j2,j3⟩;dsimp only at j1 j2 j3⊢
  by_cases c7:j<body.length
  ·obtain⟨b',Ah,rfl,hrb⟩:=(by
    obtain⟨bs,cs,hv,_,_,eL⟩:=wo;simp only[iT,true_and]at hv;obtain⟨rfl,rfl⟩:=hv;exact eL J:∃b' Ah,bb=aj ⟨b',Ah,ak⟩/\Rd w0 b' Ah (body.flatMap ep))
   have TK:∀(L:List b_) (q:Nat) (u:Value),(ep body[j])[q]?=aj u->At B L ⟨b',Ah+j*2+q,ak⟩ u:=λL=>tM nD (λq u hq=>iw ho (hrb q u hq)) c7;have fE:=Ru body[j] (cD c7);rw[eI c7,Ly]at j3;clear Ru hrb wo hsb p4;generalize body[j]=x at*;obtain⟨q,m⟩:=x;dsimp only at fE;unfold A_ at j3;dsimp only at j3
   by_cases c8:q=2
   ·subst c8
    rw[if_pos I]at j3;obtain⟨y1,y2⟩:=fE rfl;obtain⟨mm,rfl⟩:∃mm:Nat,m=mm:=⟨m.toNat,by omega⟩;rw[dB]at j3;have hcell:=Cj (l:=R') (i:=hn) J;generalize R'.getD hn aE=bh at*;have No:=λw' B' hm=>uv n gR cR R' mm bh w' B' j2 J hm;have XG:=mY R' mm bh;rw[j2]at XG;generalize fK R' mm bh=m3 at*;obtain⟨R3,b3⟩:=m3;dsimp only at*
    repeat(first|refine GA ?_|refine gV (aX bL.eq aK.ty I I c7) ?_|refine gV (a8 aK.ty I I (TK _)) ?_)
    clear TK;refine aY I λg9=>?_;refine gh 5 ?_;refine zL ?_
    refine GM ?_
    refine dK ([aP g3 (l9 (dq n gE cE) vF vL (dq n gR cR) (dq n gM cM)).cells 65,aP g7 #[av az (hn:Int),ap (aj ⟨b',Ah,ak⟩) body.length cb] 132,aP g9 #[av az 2,av az (mm:Int)] 156]) (.calm 0 (.calm 1 (.calm 2 (.calm 3 (.calm 4 (.calm 5 (.calm 6 (.calm 7 (.calm 8 (.one 9 (.one 10 (.calm 11 (.calm 12 (.calm 13 (.calm 14 (.done)))))))))))))))) (bV [3,4,5]) ?_
    repeat(first|refine GW ?_|(refine GN ?_;first|refine QW (aC aK.ty I (aH (i:=0) I I)) ?_|refine QW (aC aK.ty I (aH (i:=1) I I)) ?_|refine QW (aC aK.ty I (aH (i:=2) I I)) ?_|refine QW (bY bL.eq aK.ty I I (show hn<n by omega)) ?_))
    refine aL I (du (aC aK.ty I (jY (i:=1) I (by rw[cV];exact hcell))) I I I (aM (bV [3,4,5]) ?_));refine aL I<|bx [1] [0,2,3,4,5] aiz I I (sZ aI.en I I I I) (λw hm hb=>No w _ hb) I I I ?_;intro _ _;refine zL ?_;refine aM (bV [2,3,4]) ?_
    cases b3
    ·refine GW ?_
     refine GA ?_
     refine dh [0,5,1,2,3] ?_;exact bW (j+1,R3,aE||m') ⟨by omega,XG,j3⟩ J
    refine GW ?_
    refine GA ?_
    refine dh [0,5,1,2,3] ?_;exact bW (j+1,R3,aD||m') ⟨by omega,XG,j3⟩ J
   rw[if_neg c8]at j3;dsimp only at j3
   repeat(first|refine GA ?_|refine gV (aX bL.eq aK.ty I I c7) ?_|refine gV (a8 aK.ty I I (TK _)) ?_)
   clear TK;refine aY I λg9=>?_;refine gh 5 ?_;refine zL ?_
   refine GM ?_
   refine dh [0,1,2,3,4] ?_;exact bW (j+1,R',m') ⟨by omega,j2,j3⟩ J
  rw[jg J]at j3;have j3:(R',m')=(R2,mo2):=j3;simp only[hJ]at j3;obtain⟨rfl,rfl⟩:=j3
  refine GA ?_
  refine dh [0,1,2,3] ?_;exact bW (k+1,⟨E1,R',M1,m'⟩) ⟨by omega,QR,j2,J',i5⟩ J
 ·rw[jg J]at i5
  have i5:(⟨E,R,M,more⟩:FS)=fin:=i5;subst i5
  refine GA ?_
  exact cJ I I λw hm=>hm.cB (S:=⟨λ(_:Unit)=>True,λ_=> .bool more,λ_=>[eg n gE cE E,eg n gR cR R,eg n gM cM M]⟩) () trivial [0,1,2] aiz I
end bZ
namespace bZ
open Go.RowKit cU dM aT dG
def iu(n g c:Nat)(l:List Nat):b_:=a_ 75 1 (ap (aj ⟨g,0,ak⟩) n c) n (l.map gD)
theorem DW(n g cap:Nat)(l:List Nat)(i b:Nat)(w:World)(B:bR)(hl:zy n l)(hi:i<n)(hb:b<18446744073709551616)(hm:Mem B [iu n g cap l] w):
 Calls aB 79 #[ap (aj ⟨g,0,ak⟩) n cap,av az (i:Int),gD b] w (dc ⟨λ(_:Unit)=>True,λ_=> .bool (nS l i b).2,λ_=>[iu n g cap (nS l i b).1]⟩ B):=by
 obtain⟨rfl,h64⟩:=hl;exact TJ g cap l i b w B hi h64 hb hm
structure Rows4 where
 gE:Nat
 cE:Nat
 gF:Nat
 cF:Nat
 gW:Nat
 cW:Nat
 gM:Nat
 cM:Nat
theorem O3(E M:List Bool)(p:aT.Prod)(r:List aT.Prod)(F:List Nat)(more:Bool):qW E M (p::r) F more=qW E M r (GP E M p F more).1 (GP E M p F more).2:=rfl
theorem O4(E:List Bool)(F:List Nat)(p:aT.Prod)(r:List aT.Prod)(W:List Nat)(more:Bool):nE E F (p::r) W more=nE E F r (jE E F p.1.toNat p.2 W more).1 (jE E F p.1.toNat p.2 W more).2:=rfl
theorem LB(E:List Bool)(F:List Nat)(h:Nat)(x:dv)(r:List dv)(W:List Nat)(more:Bool):jE E F h (x::r) W more=jE E F h r (jb E F h x r W more).1 (jb E F h x r W more).2:=rfl
def q8(E M:List Bool)(l:List aT.Prod)(F:List Nat):List Nat:=dG.fix (λF=>qW E M l F aE) m_ F
def wC(E:List Bool)(F:List Nat)(l:List aT.Prod)(W:List Nat):List Nat:=dG.fix (λW=>nE E F l W aE) m_ W
theorem O5(w0:World)(v:Value)(g:d_)(h:jZ (λk=>k<w0.heap.size) w0 v g)(iS:bX g=0)(n:Nat)(hn:g.bC=n)(x:Rows4)(vR:Value)(E:List Bool)(F W:List Nat)(M:List Bool)(hE:E.length=n)(hF:zy n F)(hW:zy n W)(hM:M.length=n)(w:World)(B:bR)(ho:pC w0 B)(hm:Mem B [eg n x.gE x.cE E,iu n x.gF x.cF F,iu n x.gW x.cW W,eg n x.gM x.cM M] w):
 Calls aB 43 #[v,l9 (dq n x.gE x.cE) (dq n x.gF x.cF) (dq n x.gW x.cW) vR (dq n x.gM x.cM)] w (dc ⟨λ(_:Unit)=>True,λ_=> .tuple #[],λ_=>[eg n x.gE x.cE E,iu n x.gF x.cF (q8 E M g.aF F),iu n x.gW x.cW (wC E (q8 E M g.aF F) g.aF W),eg n x.gM x.cM M]⟩ B):=by
 obtain⟨gE,cE,gF,cF,gW,cW,gM,cM⟩:=x;dsimp only at*;have q9:=yL iS hn;obtain⟨_,_,_,_,hlen,_⟩:=cP iS;obtain⟨vp,rfl,h1,_⟩:=h;obtain⟨bp,cp,rfl,Ix,Fj,nZ⟩:=h1;unfold maxLen at Fj;obtain⟨t,nn,aF⟩:=g;dsimp only at*;subst hn;have xS:=Oz (E:=E) (M:=M) q9;refine dA hm (args:=[dE t (n:Int) (ap bp aF.length cp),l9 (dq n gE cE) (dq n gF cF) (dq n gW cW) vR (dq n gM cM)]) (n:=80) Tryz.func43 I I I<|b9 (bz (bQ I I I λg2=>bQ I I I λg3=>?_));refine zL ?_
 refine GA ?_
 generalize jp:q8 E M aF F=fin;refine dY (ι:=List Nat×Bool) (λ(F,more)=>zy n F/\(more=aD->q8 E M aF F=fin)/\(more=aE->F=fin)) (λ(_,more)=>[(2,aJ (aj ⟨g2,0,ak⟩)),(3,aJ (aj ⟨g3,0,ak⟩)),(4,.bool more)])
  (λ(F,_)=>[eg n gE cE E,iu n gF cF F,iu n gW cW W,eg n gM cM M,aP g2 (dE t (n:Int) (ap bp aF.length cp)).cells 34,aP g3 (l9 (dq n gE cE) (dq n gF cF) (dq n gW cW) vR (dq n gM cM)).cells 65]) (λ(F,more)=>2*m_ F+(if more=aD then 1 else 0)) (F,aD) ⟨hF,λ_=>jp,λh=>by cases h⟩ ?_
 clear hm hF jp;rintro⟨F,more⟩ ⟨i1,i2,i3⟩;dsimp only at i1 i2 i3⊢
 cases more
 ·have i3 :=i3 I
  subst i3;clear i2 xS;have xS:=Xv (E:=E) i1 q9
  refine GA ?_
  generalize jp:wC E F aF W=fin;refine dY (ι:=List Nat×Bool) (λ(W,more)=>zy n W/\(more=aD->wC E F aF W=fin)/\(more=aE->W=fin)) (λ(_,more)=>[(2,aJ (aj ⟨g2,0,ak⟩)),(3,aJ (aj ⟨g3,0,ak⟩)),(7,.bool more)])
   (λ(W,_)=>[eg n gE cE E,iu n gF cF F,iu n gW cW W,eg n gM cM M,aP g2 (dE t (n:Int) (ap bp aF.length cp)).cells 34,aP g3 (l9 (dq n gE cE) (dq n gF cF) (dq n gW cW) vR (dq n gM cM)).cells 65]) (λ(W,more)=>2*m_ W+(if more=aD then 1 else 0)) (W,aD) ⟨hW,λ_=>jp,λh=>by cases h⟩ ?_
  clear jp hW;clear W;rintro⟨W,more⟩ ⟨j1,j2,j3⟩;dsimp only at j1 j2 j3⊢
  cases more
  ·have j3:=j3 I
   subst j3
   refine GA ?_
   exact kY I λw hm=>hm.cB (S:=⟨λ(_:Unit)=>True,λ_=> .tuple #[],λ_=>[eg n gE cE E,iu n gF cF F,iu n gW cW W,eg n gM cM M]⟩) () trivial [0,1,2,3] aiz I
  have j2:=j2 I;clear j3;have hdone:∀W' m',nE E F aF W aE=(W',m')->zy n W'/\(m'=aD->wC E F aF W'=fin)/\(m'=aE->W'=fin)/\2*m_ W'+(if m'=aD then 1 else 0)<2*m_ W+1:=λW' m' hp=>by
   have hk:=yM (E:=E) i1 aF W aE q9 j1;rw[hp]at hk;dsimp only at hk;refine⟨hk.1,λc=>?_,λc=>?_,?_⟩
   ·rw[<-j2]
    unfold wC;rw[Iy xS j1 (by grind),hp]
   ·rw[<-j2]
    unfold wC;rw[yJ (by grind),hp]
   grind
  refine GM ?_
  generalize hfp:nE E F aF W aE=fp at*;obtain⟨Wx,mx⟩:=fp;have hdone:=hdone Wx mx I;refine dY (ι:=Nat×List Nat×Bool) (λ(k,W,m)=>k<=aF.length/\zy n W/\nE E F (aF.drop k) W m=(Wx,mx)) (λ(k,_,m)=>[(2,aJ (aj ⟨g2,0,ak⟩)),(3,aJ (aj ⟨g3,0,ak⟩)),(7,.bool m),(40,ap bp aF.length cp),(41,av az aF.length),(42,av az (k:Int))])
   (λ(_,W,_)=>[eg n gE cE E,iu n gF cF F,iu n gW cW W,eg n gM cM M,aP g2 (dE t (n:Int) (ap bp aF.length cp)).cells 34,aP g3 (l9 (dq n gE cE) (dq n gF cF) (dq n gW cW) vR (dq n gM cM)).cells 65]) (λ(k,_,_)=>aF.length-k) (0,W,aE) ⟨bH _,j1,hfp⟩ ?_
  clear hfp j2;rintro⟨k,W',m⟩ ⟨k1,k2,k3⟩;dsimp only at k1 k2 k3⊢
  by_cases c6:k<aF.length
  ·obtain⟨b,off,rfl,_,hr⟩:=nZ J
   obtain⟨bb,cb,q1,q2,q3⟩:=lx hr c6;have Fl:=q9.head aF[k] (cD c6);have U5:=q9.Dx aF[k] (cD c6);have hp3:=q9.non aF[k] (cD c6);rw[eI c6,O4]at k3;have dz:∀(L:List b_) (j:Nat) (v:Value),([av az aF[k].1,.slice bb aF[k].2.length cb]:List Value)[j]?=aj v->At B L ⟨b,off+k*2+j,ak⟩ v:=λL j v hj=>iw ho (q1 j v hj);have wo:=q3.flat aiz;clear hr nZ q1 q3;generalize aF[k]=p at*;obtain⟨hd,body⟩:=p;dsimp only at*;obtain⟨hn,rfl⟩:∃hn:Nat,hd=hn:=⟨hd.toNat,by omega⟩;rw[dB]at Fl k3;have hsb:∀w' L,Mem B L w'->Sl w' (ap bb body.length cb) body.length (body.flatMap ep):=λw' L hm=>wo.gr (ho.mem hm);obtain⟨bb2,cb2,he,h4,h5,h6⟩:=wo;simp only[iT,true_and]at he;obtain⟨rfl,rfl⟩:=he;unfold maxLen at h5
   repeat(first|refine GA ?_|refine gV (aX bL.eq aK.ty I I c6) ?_|refine gV (a8 aK.ty I I (dz _)) ?_)
   clear dz;refine aY I λg9=>?_;refine gh 6 ?_;refine zL ?_
   refine GM ?_
   refine dY (ι:=Nat×List Nat×Bool) (λ(j,W,m)=>j<=body.length/\zy n W/\nE E F (aF.drop (k+1)) (jE E F hn (body.drop j) W m).1 (jE E F hn (body.drop j) W m).2=(Wx,mx)) (λ(j,_,m)=>[(2,aJ (aj ⟨g2,0,ak⟩)),(3,aJ (aj ⟨g3,0,ak⟩)),(7,.bool m),(9,aJ (aj ⟨g9,0,ak⟩)),(40,ap (aj ⟨b,off,ak⟩) aF.length cp),(41,av az aF.length),(42,av az (k:Int)),(47,ap bb body.length cb),(48,av az body.length),(49,av az (j:Int))])
    (λ(_,W,_)=>[eg n gE cE E,iu n gF cF F,iu n gW cW W,eg n gM cM M,aP g2 (dE t (n:Int) (ap (aj ⟨b,off,ak⟩) aF.length cp)).cells 34,aP g3 (l9 (dq n gE cE) (dq n gF cF) (dq n gW cW) vR (dq n gM cM)).cells 65,aP g9 #[av az (hn:Int),ap bb body.length cb] 132]) (λ(j,_,_)=>body.length-j) (0,W',m) ⟨bH _,k2,k3⟩ ?_
   clear k2 k3;rintro⟨j,W2,m2⟩ ⟨k2,k3,k4⟩;dsimp only at k2 k3 k4⊢
   by_cases c7:j<body.length
   ·obtain⟨b2,aa6,rfl,vC⟩:=h6 J
    have s8:=tM (W:=B) (L:=[eg n gE cE E,iu n gF cF F,iu n gW cW W2,eg n gM cM M,aP g2 (dE t (n:Int) (ap (aj ⟨b,off,ak⟩) aF.length cp)).cells 34,aP g3 (l9 (dq n gE cE) (dq n gF cF) (dq n gW cW) vR (dq n gM cM)).cells 65,aP g9 #[av az (hn:Int),ap (aj ⟨b2,aa6,ak⟩) body.length cb] 132]) nD (λq x hq=>iw ho (vC q x hq)) c7;have hx3:=hp3 body[j] (cD c7);have kx:∀w' L,Mem B L w'->Sl w' (s7 (aj ⟨b2,aa6,ak⟩) cb 2 (j+1) body.length) (body.drop (j+1)).length ((body.drop (j+1)).flatMap ep):=λw' L hm=>by
     have:=C8 nD (hsb w' L hm) (i:=j+1) (j:=body.length) J (bm _)
     grind
    have Oh:fQ E F (body.drop (j+1)) (W2.getD hn 0)<18446744073709551616:=ow i1 (oe k3 _) λx hx h=>(U5 x (AB hx) h).2;have BJ:=λw' L (hm:Mem B L w') (hx:Sl w' (dq n gE cE) E.length (E.map .bool)) (hy:Sl w' (dq n gF cF) F.length (F.map gD))=>uu (dq n gE cE) (dq n gF cF) (dq n gW cW) vR (dq n gM cM) _ E F (body.drop (j+1)) (W2.getD hn 0) w' hx hy (kx w' L hm) (by rw[hE,i1.1]) (λx hx=>⟨λh=>by grind,λh=>by have:=hp3 x (AB hx) h;rw[i1.1];omega⟩) i1.2 (oe k3 _);rw[hE,i1.1]at BJ;have hcW:(W2.map gD)[hn]?=aj (gD (W2.getD hn 0)):=IX (by rw[k3.1];exact Fl.2);rw[eI c7,LB]at k4;generalize body[j]=x at*;obtain⟨q,mn⟩:=x;dsimp only at hx3;unfold jb at k4;dsimp only at k4;generalize W2.getD hn 0=bh at*;generalize fQ E F (body.drop (j+1)) bh=bg at*
    repeat(first|refine GA ?_|refine gV (aX bL.eq aK.ty I I c7) ?_|refine gV (a8 aK.ty I I s8) ?_)
    clear s8 vC;refine aY I λg11=>?_;refine zL ?_
    refine GA ?_
    refine gh 7 ?_;refine zL ?_
    by_cases c1:q=2
    ·rw[if_pos c1]at k4
     obtain⟨_,o1,o2⟩:=hx3 J;subst c1;obtain⟨mm,rfl⟩:∃mm:Nat,mn=mm:=⟨mn.toNat,by omega⟩;rw[dB]at k4 o2;have FF:=Ce (i:=mm) k3 Oh;have FH:=λw' B' hm=>DW n gW cW W2 mm bg w' B' k3 o2 Oh hm;generalize nS W2 mm bg=ad at*;obtain⟨W3,ch⟩:=ad;dsimp only at k4 FF FH
     refine GM ?_
     refine dK ([aP g3 (l9 (dq n gE cE) (dq n gF cF) (dq n gW cW) vR (dq n gM cM)).cells 65,aP g9 #[av az (hn:Int),ap (aj ⟨b2,aa6,ak⟩) body.length cb] 132,aP g11 #[av az 2,av az (mm:Int)] 156]) (.calm 0 (.calm 1 (.calm 2 (.calm 3 (.calm 4 (.calm 5 (.calm 6 (.calm 7 (.calm 8 (.calm 9 (.calm 10 (.calm 11 (.calm 12 (.calm 13 (.calm 14 (.one 15 (.one 16 (.one 17 (.calm 18 (.calm 19 (.calm 20 (.calm 21 (.done))))))))))))))))))))))) (bV [5,6,7]) ?_
     repeat(first|(refine GN ?_;first|refine QW QP ?_|refine QW (aC aK.ty I (aH (i:=0) I I)) ?_|refine QW (aC aK.ty I (aH (i:=1) I I)) ?_|refine QW (aC aK.ty I (aH (i:=2) I I)) ?_|refine QW (aO (i:=0) aK.ty I I I) ?_|refine QW (qS (i:=j+1) bL.eq aK.ty I I c7 h4) ?_|refine QW (bY bL.eq aK.ty I I Fl.2) ?_|refine GX ?_)|refine GW ?_)
     refine aL I<|du (aC aK.ty I (jY (i:=2) I (by grind))) I I I<|aM (bV [5,6,7])<|aL I<|aW (sZ aI.en I I I I) (λw hm=>BJ _ _ hm (lI (i:=0) I w hm) (lI (i:=1) I w hm)) I I I ?_;intro _ _;refine zL ?_;refine aM (bV [5,6,7])<|aL I<|bx [2] [0,1,3,4,5,6,7] aiz I I (sZ aI.en I I I I) (λw hm hb=>FH w _ hb) I I I ?_;intro _ _;refine zL ?_;refine aM (bV [4,5,6]) ?_
     cases ch
     ·refine GW ?_
      refine GA ?_
      refine dh [0,1,7,2,3,4,5] ?_;exact bW (j+1,W3,aE||m2) ⟨by omega,FF,k4⟩ J
     refine GW ?_
     refine GA ?_
     refine dh [0,1,7,2,3,4,5] ?_;exact bW (j+1,W3,aD||m2) ⟨by omega,FF,k4⟩ J
    rw[if_neg c1]at k4
    refine GM ?_
    refine dh [0,1,2,3,4,5,6] ?_;exact bW (j+1,W2,m2) ⟨c7,k3,k4⟩ J
   rw[show body.drop j=[]from jg J]at k4
   refine GA ?_
   refine dh [0,1,2,3,4,5] ?_;exact bW (k+1,W2,m2) ⟨by omega,k3,k4⟩ J
  rw[jg J]at k3;have k3:(W',m)=(Wx,mx):=k3;simp only[hJ]at k3;obtain⟨rfl,rfl⟩:=k3;obtain⟨d1,d2,d3,d4⟩:=hdone
  refine GA ?_
  exact bW (W',m) ⟨d1,d2,d3⟩ d4
 ·have i2:=i2 I
  clear i3;have hdone:∀F' m',qW E M aF F aE=(F',m')->zy n F'/\(m'=aD->q8 E M aF F'=fin)/\(m'=aE->F'=fin)/\2*m_ F'+(if m'=aD then 1 else 0)<2*m_ F+1:=λF' m' hp=>by
   have hk:=ud (E:=E) (M:=M) aF F aE q9 i1;rw[hp]at hk;dsimp only at hk;refine⟨hk.1,λc=>?_,λc=>?_,?_⟩
   ·rw[<-i2]
    unfold q8;rw[Iy xS i1 (by grind),hp]
   ·rw[<-i2]
    unfold q8;rw[yJ (by grind),hp]
   grind
  refine GM ?_
  generalize hfp:qW E M aF F aE=fp at*;obtain⟨Fx,mx⟩:=fp;have hdone:=hdone Fx mx I;refine dY (ι:=Nat×List Nat×Bool) (λ(k,F,m)=>k<=aF.length/\zy n F/\qW E M (aF.drop k) F m=(Fx,mx)) (λ(k,_,m)=>[(2,aJ (aj ⟨g2,0,ak⟩)),(3,aJ (aj ⟨g3,0,ak⟩)),(4,.bool m),(14,ap bp aF.length cp),(15,av az aF.length),(16,av az (k:Int))])
   (λ(_,F,_)=>[eg n gE cE E,iu n gF cF F,iu n gW cW W,eg n gM cM M,aP g2 (dE t (n:Int) (ap bp aF.length cp)).cells 34,aP g3 (l9 (dq n gE cE) (dq n gF cF) (dq n gW cW) vR (dq n gM cM)).cells 65]) (λ(k,_,_)=>aF.length-k) (0,F,aE) ⟨bH _,i1,hfp⟩ ?_
  clear hfp i2;rintro⟨k,F',m⟩ ⟨j1,j2,j3⟩;dsimp only at j1 j2 j3⊢
  by_cases c6:k<aF.length
  ·obtain⟨b,off,rfl,_,hr⟩:=nZ J
   obtain⟨bb,cb,q1,q2,q3⟩:=lx hr c6;have Fl:=q9.head aF[k] (cD c6);have U5:=q9.Dx aF[k] (cD c6);have hp3:=q9.non aF[k] (cD c6);rw[eI c6,O3]at j3;have dz:∀(L:List b_) (j:Nat) (v:Value),([av az aF[k].1,.slice bb aF[k].2.length cb]:List Value)[j]?=aj v->At B L ⟨b,off+k*2+j,ak⟩ v:=λL j v hj=>iw ho (q1 j v hj);have wo:=q3.flat aiz;clear hr nZ q1 q3;generalize aF[k]=p at*;obtain⟨hd,body⟩:=p;dsimp only at*;obtain⟨hn,rfl⟩:∃hn:Nat,hd=hn:=⟨hd.toNat,by omega⟩;rw[dB]at Fl;have hsb:∀w' L,Mem B L w'->Sl w' (ap bb body.length cb) body.length (body.flatMap ep):=λw' L hm=>wo.gr (ho.mem hm);have pF:=λw' L (hm:Mem B L w') (hx:Sl w' (dq n gM cM) M.length (M.map .bool))=>xR (dq n gM cM) (ap bb body.length cb) M body aD w' hx (hsb w' L hm) (λx hx fE=>by grind);rw[hM]at pF;have BJ:=λw' L (hm:Mem B L w') (hx:Sl w' (dq n gE cE) E.length (E.map .bool)) (hy:Sl w' (dq n gF cF) F'.length (F'.map gD))=>uu (dq n gE cE) (dq n gF cF) (dq n gW cW) vR (dq n gM cM) (ap bb body.length cb) E F' body 0 w' hx hy (hsb w' L hm) (by rw[hE,j2.1]) (λx hx=>⟨λh=>by grind,λh=>by have:=hp3 x hx h;rw[j2.1];omega⟩) j2.2 aiz;rw[hE,j2.1]at BJ;unfold GP at j3;dsimp only at j3;rw[dB]at j3;generalize oW M body aD=a1 at*;have Oh:fQ E F' body 0<18446744073709551616:=ow j2 aiz λx hx h=>(U5 x hx h).2;generalize fQ E F' body 0=bg at*
   repeat(first|refine GA ?_|refine gV (aX bL.eq aK.ty I I c6) ?_|refine gV (a8 aK.ty I I (dz _)) ?_)
   clear dz;refine aY I λg6=>?_;refine gh 6 ?_;refine zL ?_
   refine GM ?_
   refine aW (sZ aI.en I I I I) (λw hm=>pF _ _ hm (lI (i:=3) I w hm)) I I I ?_;intro _ _;refine zL ?_
   cases a1
   ·rw[if_neg aiz]at j3
    refine GA ?_
    refine dh [0,1,2,3,4,5] ?_;exact bW (k+1,F',m) ⟨by omega,j2,j3⟩ J
   rw[if_pos I]at j3;have FF:=Ce (i:=hn) j2 Oh;have FH:=λw' B' hm=>DW n gF cF F' hn bg w' B' j2 Fl.2 Oh hm;generalize nS F' hn bg=ad at*;obtain⟨F2,ch⟩:=ad;dsimp only at*
   refine GA ?_
   refine dK ([aP g3 (l9 (dq n gE cE) (dq n gF cF) (dq n gW cW) vR (dq n gM cM)).cells 65,aP g6 #[av az (hn:Int),ap bb body.length cb] 132]) (.calm 0 (.calm 1 (.calm 2 (.calm 3 (.calm 4 (.calm 5 (.calm 6 (.one 7 (.one 8 (.calm 9 (.calm 10 (.calm 11 (.calm 12 (.done)))))))))))))) (bV [5,6]) ?_
   repeat(first|refine GW ?_|(refine GN ?_;first|refine QW (aC aK.ty I (aH (i:=0) I I)) ?_|refine QW (aC aK.ty I (aH (i:=1) I I)) ?_|refine QW (aO (i:=0) aK.ty I I I) ?_))
   refine aL I<|aW (sZ aI.en I I I I) (λw hm=>BJ _ _ hm (lI (i:=0) I w hm) (lI (i:=1) I w hm)) I I I ?_;intro _ _;refine zL ?_;refine aM (bV [5,6])<|aL I<|bx [1] [0,2,3,4,5,6] aiz I I (sZ aI.en I I I I) (λw hm hb=>FH w _ hb) I I I ?_;intro _ _;refine zL ?_;refine aM (bV [4,5]) ?_
   cases ch
   ·refine GW ?_
    refine GA ?_
    refine dh [0,6,1,2,3,4] ?_;exact bW (k+1,F2,aE||m) ⟨by omega,FF,j3⟩ J
   refine GW ?_
   refine GA ?_
   refine dh [0,6,1,2,3,4] ?_;exact bW (k+1,F2,aD||m) ⟨by omega,FF,j3⟩ J
  rw[jg J]at j3;have j3:(F',m)=(Fx,mx):=j3;simp only[hJ]at j3;obtain⟨rfl,rfl⟩:=j3;obtain⟨d1,d2,d3,d4⟩:=hdone
  refine GA ?_
  exact bW (F',m) ⟨d1,d2,d3⟩ d4
end bZ
namespace bZ
open Go.RowKit cU dM aT dG
def wq(n:Nat)(l:List aT.Prod):FS:=dG.fix (K8 l) (Ba n) ⟨cZ n aE,(cZ n aE).set 0 aD,cZ n aE,aE⟩
def Nr(n:Nat)(l:List aT.Prod):List Nat:=q8 (wq n l).E (wq n l).M l (cZ n 0)
def Ns(n:Nat)(l:List aT.Prod):List Nat:=wC (wq n l).E (Nr n l) l ((cZ n 0).set 0 9223372036854775808)
structure DX extends Rows4 where
 gR:Nat
 cR:Nat
def DX.val(n:Nat)(x:DX):Value:=l9 (dq n x.gE x.cE) (dq n x.gF x.cF) (dq n x.gW x.cW) (dq n x.gR x.cR) (dq n x.gM x.cM)
theorem G6(a b c d e:Option Addr)(n1 n2 n3 n4 n5 c1 c2 c3 c4 c5:Nat)(w:World):(df 65 #[(0,ap a n1 c1),(1,ap b n2 c2),(2,ap c n3 c3),(3,ap d n4 c4),(4,ap e n5 c5)]).run aB w= .ok (aQ #[ap a n1 c1,ap b n2 c2,ap c n3 c3,ap d n4 c4,ap e n5 c5]) w:=by
 go_simp
def X'(i d n:Nat):Mk:=⟨i,d,λg=>ap (aj ⟨g,0,ak⟩) n n,λg=>aP g (madeCells #[.bool aE] (n*1)) 4⟩
def mkN(i d n:Nat):Mk:=⟨i,d,λg=>ap (aj ⟨g,0,ak⟩) n n,λg=>aP g (madeCells #[.int .u64 0] (n*1)) 75⟩
def mkF(i d:Nat):Mk:=⟨i,d,λg=>aJ (aj ⟨g,0,ak⟩),λg=>aP g #[ap ak 0 0,ap ak 0 0,ap ak 0 0,ap ak 0 0,ap ak 0 0] 65⟩
theorem q_{P:Program}{k:Nat}{W:bR}{Q:Exit->Act->World->Prop}{fr:Fr}{L:List b_}{c:Code}{i g m:Nat}{e:TypeId}{z:Value}(hi:L[i]?=aj (aP g (madeCells #[z] (m*1)) e))(hm:m<=9223372036854775807)(h:T P k W c Q fr (L.set i (a_ e 1 (ap (aj ⟨g,0,ak⟩) m m) m (cZ m z)))):T P k W c Q fr L:=
 Wu 1 hi (by rw[size_madeCells]) (bm _) hm (by
  have:(madeCells #[z] (m*1)).toList.take (m*1)=cZ m z:=by
   rw[acA,Nat.mul_one,List.take_of_length_le (by simp)]
  rw[this];exact h)
theorem DY(v:Value)(g:d_)(w:World)(h:jZ (λk=>k<w.heap.size) w v g)(iS:bX g=0)(n:Nat)(hn:g.bC=n):
 Calls aB 20 #[v] w (dc ⟨λ(_:DX)=>True,λx=> .tuple #[x.val n,av az 0],λx=>[eg n x.gE x.cE (wq n g.aF).E,iu n x.gF x.cF (Nr n g.aF),iu n x.gW x.cW (Ns n g.aF),eg n x.gR x.cR (wq n g.aF).R,eg n x.gM x.cM (wq n g.aF).M]⟩ w):=by
 obtain⟨n1,n2,_,_,hlen,_⟩:=cP iS;have hcc:=λw' L (hm:Mem w L w')=>jD v g w' (h.gr ((pC.self w).mem hm));rw[iS]at hcc;have h0:=h;obtain⟨vp,rfl,h1,_⟩:=h;obtain⟨bp,cp,rfl,Ix,Fj,nZ⟩:=h1;unfold maxLen at Fj;obtain⟨t,nn,aF⟩:=g;dsimp only at*;subst hn;refine enter (args:=[dE t (n:Int) (ap bp aF.length cp)]) (n:=39) Tryz.func20 I I I ?_;refine b9 (bz (bQ I I I λg1=>aY I λg2=>?_));refine zL ?_
 repeat(first|refine GA ?_|refine gV (aO (i:=0) aK.ty I I I) ?_)
 refine aW (iM aI.en I I) (λw hm=>hcc _ _ hm) I I I ?_;intro _ _;refine zL ?_
 repeat(first|refine GA ?_|refine gV (aC aK.ty I (aH (i:=0) I I)) ?_)
 refine kV (ι:=Nat×Nat×Nat×Nat×Nat×Nat) (λ_=>True) (λ(_,_,_,_,_,g6)=>[(1,aJ (aj ⟨g1,0,ak⟩)),(2,aJ (aj ⟨g2,0,ak⟩)),(6,aJ (aj ⟨g6,0,ak⟩))])
  (λ(gE,gF,gW,gR,gM,g6)=>[aP g1 (dE t (n:Int) (ap bp aF.length cp)).cells 34,aP g2 #[ap ak 0 0,ap ak 0 0,ap ak 0 0,ap ak 0 0,ap ak 0 0] 65,aP gE (madeCells #[.bool aE] (n*1)) 4,aP gF (madeCells #[.int .u64 0] (n*1)) 75,aP gW (madeCells #[.int .u64 0] (n*1)) 75,aP gR (madeCells #[.bool aE] (n*1)) 4,aP gM (madeCells #[.bool aE] (n*1)) 4,aP g6 (l9 (dq n gE n) (dq n gF n) (dq n gW n) (dq n gR n) (dq n gM n)).cells 65]) ?_ ?_
 rotate_left
 ·rintro⟨gE,gF,gW,gR,gM,g6⟩ _
  dsimp only;refine q_ (i:=2) I J ?_;refine q_ (i:=3) I J ?_;refine q_ (i:=4) I J ?_;refine q_ (i:=5) I J ?_;refine q_ (i:=6) I J ?_
  conv=>arg 7;simp only[zU,wY]
  rw[show cZ n (fN aE)=(cZ n aE).map .bool by simp,show cZ n (av .u64 0)=(cZ n 0).map gD by simp[gD]];have hn0:0<n:=by omega
  repeat(first|refine GA ?_|refine gV (aC aK.ty I (aH (i:=7) I I)) ?_|refine gV (bY (j:=0) bL.eq aK.ty I I hn0) ?_)
  refine lW (i:=5) aK.ty I I I I I I (by simpa using hn0) ?_
  repeat(first|refine GA ?_|refine gV (aC aK.ty I (aH (i:=7) I I)) ?_|refine gV (bY (j:=0) bL.eq aK.ty I I hn0) ?_)
  refine lW (i:=4) aK.ty I I I I I I (by simpa using hn0) ?_
  conv=>arg 8;simp only[zU,wY,cV]
  try refine GA ?_
  generalize jp:wq n aF=fin;have q9:=yL (g:=⟨t,n,aF⟩) iS I;have xS:=DG q9;refine nO (ι:=FS) (λs=>Xw n s/\dG.fix (K8 aF) (Ba n) s=fin) (λ_=>[(1,aJ (aj ⟨g1,0,ak⟩)),(2,aJ (aj ⟨g2,0,ak⟩)),(6,aJ (aj ⟨g6,0,ak⟩))])
   (λs=>[aP g1 (dE t (n:Int) (ap bp aF.length cp)).cells 34,aP g2 #[ap ak 0 0,ap ak 0 0,ap ak 0 0,ap ak 0 0,ap ak 0 0] 65,eg n gE n s.E,iu n gF n (cZ n 0),iu n gW n ((cZ n 0).set 0 9223372036854775808),eg n gR n s.R,eg n gM n s.M,aP g6 (l9 (dq n gE n) (dq n gF n) (dq n gW n) (dq n gR n) (dq n gM n)).cells 65])
   (λs=>Ba n s) ⟨cZ n aE,(cZ n aE).set 0 aD,cZ n aE,aE⟩ ⟨⟨by simp,by simp,by simp⟩,jp⟩ (by repeat' (first|exact cI|refine cC I ?_)) (by simp[eg,iu,gD,oM]) ?_
  rintro⟨E,R,M,mo⟩ ⟨i1,i2⟩;dsimp only at i2⊢;have eL:=λw' B' (ho:pC w B') hm=>LA w _ ⟨t,n,aF⟩ h0 iS n I ⟨gE,n,gR,n,gM,n⟩ (dq n gF n) (dq n gW n) E R M i1.1 i1.2.1 i1.2.2 w' B' ho hm;dsimp only at eL
  repeat(first|refine GA ?_|refine gV (aO (i:=0) aK.ty I I I) ?_|refine gV (aO (i:=7) aK.ty I I I) ?_)
  refine bx [2,5,6] [0,1,3,4,7] aiz I I (fI aI.en I I I) (λw' hm hb=>eL w' _ ((pC.self w).on hm (by intro o ho;simp at ho⊢;rcases ho with h|h|h<;>simp[h])) hb) I I I ?_;intro _ _;refine zL ?_;clear eL;have hk:=pX aF ⟨E,R,M,aE⟩ q9 i1;have hgo:(gi aF ⟨E,R,M,aE⟩).more=aD->dG.fix (K8 aF) (Ba n) (gi aF ⟨E,R,M,aE⟩)=fin/\Ba n (gi aF ⟨E,R,M,aE⟩)<Ba n ⟨E,R,M,mo⟩:=λc=>⟨by rw[<-i2,Iy xS i1 c];rfl,xS.dec _ i1 c⟩;have hst:(gi aF ⟨E,R,M,aE⟩).more=aE->gi aF ⟨E,R,M,aE⟩=fin:=λc=>by rw[<-i2,yJ (s:=(⟨E,R,M,mo⟩:FS)) c];rfl
  generalize gi aF ⟨E,R,M,aE⟩=r at*;obtain⟨E',R',M',m'⟩:=r;dsimp only at hgo hst⊢
  cases m'
  ·have hst:=hst I
   have acS:=λw' B' (ho:pC w B') hm=>O5 w _ ⟨t,n,aF⟩ h0 iS n I ⟨gE,n,gF,n,gW,n,gM,n⟩ (dq n gR n) E' (cZ n 0) ((cZ n 0).set 0 9223372036854775808) M' hk.1.1 ⟨by simp,λx hx=>by rw[OY hx];decide⟩ ⟨by simp,λx hx=>by
    rcases List.mem_or_eq_of_mem_set hx with h|h
    rw[OY h];decide;rw[h];decide⟩ hk.1.2.2 w' B' ho hm
   dsimp only at acS
   repeat(first|refine GA ?_|refine gV (aO (i:=0) aK.ty I I I) ?_|refine gV (aO (i:=4) aK.ty I I I) ?_)
   refine bx [5,2,3,7] [0,1,6,4] aiz I I (fI aI.en I I I) (λw' hm hb=>acS w' _ ((pC.self w).on hm (by intro o ho;simp at ho⊢;rcases ho with h|h|h|h<;>simp[h])) hb) I I I ?_;intro _ _;refine zL ?_
   repeat(first|refine GA ?_|refine gV (aO (i:=3) aK.ty I I I) ?_)
   refine gh 1 ?_;refine zL ?_
   try refine GA ?_
   subst hst;have eF:Nr n aF=q8 E' M' aF (cZ n 0):=by unfold Nr;rw[jp]
   have eW:Ns n aF=wC E' (q8 E' M' aF (cZ n 0)) aF ((cZ n 0).set 0 9223372036854775808):=by unfold Ns;rw[eF,jp]
   rw[eF,eW];refine ey (i:=1) I I I I (z:=av az 0) ?_ λw' hm=>?_;rfl;exact hm.cB (S:=⟨λ(_:DX)=>True,λx=> .tuple #[x.val n,av az 0],λx=>[eg n x.gE x.cE E',iu n x.gF x.cF (q8 E' M' aF (cZ n 0)),iu n x.gW x.cW (wC E' (q8 E' M' aF (cZ n 0)) aF ((cZ n 0).set 0 9223372036854775808)),eg n x.gR x.cR R',eg n x.gM x.cM M']⟩) ⟨⟨gE,n,gF,n,gW,n,gM,n⟩,gR,n⟩ trivial [4,5,6,2,7] aiz I
  try refine GA ?_
  refine dh [0,1,5,2,3,6,7,4] ?_;exact bW ⟨E',R',M',aD⟩ ⟨hk.1,(hgo I).1⟩ (hgo I).2
 refine W6 [] yt (by kernel_rfl) (by kernel_rfl) (by intro c a d v w h;cases d<;>exact h) ?_;refine qw 0 (by kernel_rfl) I (vz I) I I I ?_;refine qw 2 (by kernel_rfl) I (vz I) I I I ?_;refine qw 4 (by kernel_rfl) I (vz I) I I I ?_;refine qw 6 (by kernel_rfl) I (vz I) I I I ?_;refine qw 8 (by kernel_rfl) I (vz I) I I I ?_;refine KS [X' 1 16 n,mkN 3 18 n,mkN 5 20 n,X' 7 22 n,X' 9 24 n,mkF 11 6] (λm=>!Nat.beq m.i 11) 2 (by kernel_rfl) (by kernel_rfl) ?_ (λq=>?_) λq=>?_
 ·intro m hm
  simp only[dx,fl,or_false]at hm;rcases hm with rfl|rfl|rfl|rfl|rfl|rfl
  exact nB I I I (bm _) J J I;exact nB I I I (bm _) J J I;exact nB I I I (bm _) J J I;exact nB I I I (bm _) J J I;exact nB I I I (bm _) J J I;exact Gv I I
 ·simp only[X',mkN,mkF,gd,qk]
  generalize q 1=gE;generalize q 3=gF;generalize q 5=gW;generalize q 7=gR;generalize q 9=gM;generalize q 11=g6;clear q;refine Cb (.calm 10 (.one 12 .done)) (by kernel_rfl) I ?_
  repeat(first|refine GW ?_|(refine GN ?_;first|refine QW (bB I (G6 _ _ _ _ _ _ _ _ _ _ _ _ _ _ _)) ?_))
  refine aL I ?_;refine gh 7 ?_;refine aM yt ?_
  try refine GW ?_
  exact dJ (gE,gF,gW,gR,gM,g6) trivial (by repeat' (first|exact cI|refine cC I ?_)) I
 ·rw[show List.filter (λm:Mk=>!Nat.beq m.i 11) [X' 1 16 n,mkN 3 18 n,mkN 5 20 n,X' 7 22 n,X' 9 24 n,mkF 11 6]=[X' 1 16 n,mkN 3 18 n,mkN 5 20 n,X' 7 22 n,X' 9 24 n]from I]
  simp only[X',mkN,mkF,gd,qk];generalize q 1=gE;generalize q 3=gF;generalize q 5=gW;generalize q 7=gR;generalize q 9=gM;clear q;refine Cb (.calm 10 (.one 11 (.one 12 .done))) (by kernel_rfl) (by kernel_rfl) ?_
  repeat(first|refine GW ?_|(refine GN ?_;first|refine QW (bB I (G6 _ _ _ _ _ _ _ _ _ _ _ _ _ _ _)) ?_))
  refine aL I ?_;refine aY I λg6=>?_;refine aM yt ?_;refine aL I ?_;refine gh 7 ?_;refine aM yt ?_
  try refine GW ?_
  exact dJ (gE,gF,gW,gR,gM,g6) trivial (by repeat' (first|exact cI|refine cC I ?_)) I
end bZ
namespace bZ
open Go.RowKit cU dM aT dL dG fG
theorem TM{x y:Nat}(hx:x<18446744073709551616)(hy:y<18446744073709551616):bits .and .u64 (x:Int) (y:Int)=((x&&&y:Nat):Int):=bits_and_u64_nat x y hx hy
theorem DZ{L:List b_}{R:List Nat}{o:b_}(h:o∈R.filterMap λi=>L[i]?):o∈L:=by
 obtain⟨i,_,hi⟩:=IV.1 h;exact kR hi
end bZ
namespace bZ
open Go.RowKit cU dM aT
theorem aa7{α:Type}{s:vO α}{F:Nat->Prop}{w:World}{v:Value}{l:List α}(h:jQ s F w v l):v.oneCell'=true:=by
 obtain⟨b,c,rfl,_⟩:=h;rfl
theorem G7(k q:Int)(w:World):(df 156 #[(0,av az k),(1,av az q)]).run aB w= .ok (aQ #[av az k,av az q]) w:=by
 go_simp
theorem U7:cU.dX 2:=⟨by decide,by decide⟩
end bZ
namespace bZ
open Go.RowKit cU dM aT
theorem BR(v:Value)(l:List dv)(w:World)(hs:Sl w v l.length (l.flatMap ep))(hl:l.length*16<=140737488355328):
 Calls aB 55 #[v] w (cz (cL 156 2 l.length (l.flatMap ep) id) w):=by
 obtain⟨base,cap,rfl,lm,j0,eL⟩:=hs;unfold maxLen at j0;refine enter (args:=[ap base l.length cap]) (n:=8) Tryz.func55 I I I ?_;have qZ:∀w',Gr w w'->Sl w' (ap base l.length cap) l.length (l.flatMap ep):=λw' hg=>Sl.gr ⟨base,cap,rfl,lm,j0,eL⟩ hg;clear eL
 cases base with
 | none=>
  repeat(first|refine GC ?_|refine gV (jP bL.eq I I I) ?_|refine GB ?_)
  have h0:l=[]:=by
   cases l with
   |nil=>rfl
   |cons x l=>obtain⟨_,_,h,_,_,h2⟩:=qZ w (Gr.refl w);simp only[iT]at h;obtain⟨rfl,_⟩:=h;obtain⟨b,off,h,_⟩:=h2 (by simp);cases h
  subst h0;refine dF 156 2 ?_;exact cJ I I λw hm=>hm.meets (S:=cL 156 2 0 [] id) _ trivial [0] aiz I
 |some p=>
  repeat(first|refine GC ?_|refine gV (jP bL.eq I I I) ?_|refine GB ?_)
  refine vH I λg=>?_
  try refine GA ?_
  refine eD (i:=0) I (λw' hm=>qZ w' hm.below) I I (kW nD l) (aaG l) J J I λv'=>?_;rw[eJ]
  try refine GA ?_
  refine cJ I I λw hm=>?_;exact hm.meets (S:=cL 156 2 l.length (l.flatMap ep) id) v' trivial [0] aiz (by simp[cL])
end bZ
namespace bZ
open Go.RowKit cU dM aT dG
section
variable{P:Program}{n:Nat}{W:bR}{fr:Fr}{L:List b_}{dst:Option Tmp}{ty:TypeId}{pos:String}{after:Array Edge}{guard:Option (Nat×Bool)}{t u:TypeId}{x y:Operand}{k:IntKind}{m m' r:Int}
theorem Rv(hx:ev fr x=aj (.int k m))(hy:ev fr y=aj (.int k m'))(h:bits .andNot k m m'=r):RR P n W ⟨dst,.binOp .andNot t x y u,ty,pos,after,guard⟩ fr L (.int k r):=H8 (.inr (.inr (.inr I))) hx hy h
end
theorem D0{ι:Type}{S:Spec ι}{w w':World}{e:Ending}(h:dc S w e w'):cz S w e w':=let ⟨x,h1,h2,h3⟩:=h;⟨x,h1,h2,h3.below,h3.acF⟩
theorem O6(w:World):(df 65 (#[]:Array (Nat×Value))).run aB w= .ok (aQ #[ap ak 0 0,ap ak 0 0,ap ak 0 0,ap ak 0 0,ap ak 0 0]) w:=by
 go_simp
theorem TO(v:Value)(g:d_)(w:World)(h:jZ (λk=>k<w.heap.size) w v g)(h0:bX g≠0):
 Calls aB 20 #[v] w (cz (ret (.tuple #[l9 (ap ak 0 0) (ap ak 0 0) (ap ak 0 0) (ap ak 0 0) (ap ak 0 0),av az (bX g)])) w):=by
 have iS:=λw' (hg:Gr w w')=>jD v g w' (h.gr hg);obtain⟨vp,rfl,h1,_⟩:=h;obtain⟨bp,cp,rfl,Ix,Fj,nZ⟩:=h1;generalize bX g=e at*;obtain⟨t,n,aF⟩:=g;dsimp only at*;refine enter (args:=[dE t n (ap bp aF.length cp)]) (n:=39) Tryz.func20 I I I ?_;refine b9 (bz (bQ I I I λg1=>aY I λg2=>?_))
 repeat(first|refine GA ?_|refine gV (aO (i:=0) aK.ty I I I) ?_)
 refine aW (iM aI.en I I) (λw hm=>iS _ hm.below) I I I ?_;intro _ _;refine zL ?_
 repeat(first|refine GA ?_|refine gV (bB I O6) ?_)
 refine gh 1 ?_
 try refine GA ?_
 exact ey (i:=1) I I I I I λw hm=>hm.ret
end bZ
namespace bZ
open Go.RowKit cU dM aT dG
def FI(t n:Int):List dv->Int
 |[]=>0
 |x::r=>if right t n x=aD then FI t n r else 1
theorem IZ{t n:Int}:∀{l:List dv},FI t n l=0->∀x∈l,right t n x=aD
 |[],_,_,h=>by cases h
 | y ::r,h,x,hx=>by
  unfold FI at h;split at h
  ·rename_i c
   rcases dx.1 hx with rfl|hx
   exact c;exact IZ h x hx
  cases h
theorem I0{t n:Int}:∀{l:List dv},(∀x∈l,right t n x=aD)->FI t n l=0
 |[],_=>rfl
 |y::r,h=>by unfold FI;rw[if_pos (h y (by simp))];exact I0 λx hx=>h x (by simp[hx])
def ux(g:d_)(body:List dv):Int:=if bX g≠0 then bX g else if 60<body.length then 1 else FI g.aR g.bC body
def BS(g:d_)(body:List dv)(behind:Nat):Nat:=if ux g body=0 then fQ (wq g.bC.toNat g.aF).E (Nr g.bC.toNat g.aF) body behind else 0
theorem LC{t n:Int}{x:dv}(h:right t n x=aE):(x.1≠1/\x.1≠2)\/(x.1=1/\x.2<0)\/(x.1=1/\0<=x.2/\t<=x.2)\/(x.1=2/\x.2<0)\/(x.1=2/\0<=x.2/\n<=x.2):=by
 unfold right at h;split at h;simp at h;omega;split at h;simp at h;omega;omega
theorem uy{t n:Int}{x:dv}(h:right t n x=aD):(x.1=1/\0<=x.2/\x.2<t)\/(x.1=2/\0<=x.2/\x.2<n):=by
 unfold right at h;split at h;simp at h;omega;split at h;simp at h;omega;simp at h
theorem I1{g:d_}{n:Nat}(iS:bX g=0)(hn:g.bC=n):Xw n (wq n g.aF)/\zy n (Nr n g.aF):=by
 have hf:=yL iS hn
 constructor
 ·obtain⟨s',h1,h2,h3⟩:=yK (DG hf) _ ⟨cZ n aE,(cZ n aE).set 0 aD,cZ n aE,aE⟩ ⟨by simp,by simp,by simp⟩ (bm _)
  unfold wq;rw[h3];exact(DG hf).keep _ h1
 obtain⟨s',h1,h2,h3⟩:=yK (Oz (E:=(wq n g.aF).E) (M:=(wq n g.aF).M) hf) _ (cZ n 0) ⟨by simp,λx hx=>by rw[OY hx];decide⟩ (bm _);unfold Nr q8;rw[h3];exact(Oz hf).keep _ h1
theorem ra(v vb:Value)(g:d_)(body:List dv)(behind:Nat)(w:World)(h:jZ (λk=>k<w.heap.size) w v g)(hs:Sl w vb body.length (body.flatMap ep))(hb:behind<18446744073709551616):
 Calls aB 45 #[v,vb,gD behind] w (cz (ret (.tuple #[gD (BS g body behind),av az (ux g body)])) w):=by
 by_cases c0:bX g=0
 ·obtain⟨_,_,k1,k2,k3,k4⟩:=cP c0
  obtain⟨n,hn⟩:∃n:Nat,g.bC=n:=⟨g.bC.toNat,by omega⟩;have TP:=λw' (hg:Gr w w')=>DY v g w' (h.gr hg) c0 n hn;obtain⟨hS,hF⟩:=I1 c0 hn;obtain⟨vp,rfl,h1,_⟩:=h;obtain⟨bp,cp,rfl,Ix,Fj,nZ⟩:=h1;clear nZ;have UZ:=hs;obtain⟨bb,cb,rfl,h4,h5,h6⟩:=hs;unfold maxLen at h5;obtain⟨t,nn,aF⟩:=g;dsimp only at*;subst hn;have BJ:=λ(vE vF vL vR vM:Value) w' (hg:Gr w w') (hE:Sl w' vE n ((wq n aF).E.map .bool)) (hF2:Sl w' vF n ((Nr n aF).map gD)) lf=>uu vE vF vL vR vM _ (wq n aF).E (Nr n aF) body behind w' (by rw[hS.1];exact hE) (by rw[hF.1];exact hF2) (UZ.gr hg) (by rw[hS.1,hF.1]) lf hF.2 hb;rw[hF.1]at BJ;have hV:BS ⟨t,n,aF⟩ body behind=if ux ⟨t,n,aF⟩ body=0 then fQ (wq n aF).E (Nr n aF) body behind else 0:=rfl
  have hE:ux ⟨t,n,aF⟩ body=if 60<body.length then 1 else FI t n body:=by
   unfold ux;rw[if_neg (by rw[c0];simp)]
  generalize BS ⟨t,n,aF⟩ body behind=rV at*;generalize ux ⟨t,n,aF⟩ body=rE at*;refine enter (args:=[dE t (n:Int) (ap bp aF.length cp),ap bb body.length cb,gD behind]) (n:=71) Tryz.func45 I I I ?_;refine b9 (bz (bQ I I I λg3=>?_))
  repeat(first|refine GA ?_|refine gV (aO (i:=0) aK.ty I I I) ?_)
  refine aW (iM aI.en I I) (λw' hm=>(TP w' hm.below).mono λe w2 h=>D0 h) I I I ?_;intro x _
  conv=>arg 8;simp only[zJ,cL,ret,id_eq,DX.val]
  try refine GA ?_
  refine aY I λg8=>?_;refine gh 6 ?_;refine zL ?_
  by_cases c1:60<body.length
  ·rw[if_pos c1]at hE
   subst hE;rw[if_neg aiz]at hV;subst hV
   try refine GA ?_
   exact rS I I I λw hm=>hm.ret
  rw[if_neg c1]at hE
  try refine GA ?_
  refine dY (ι:=Nat) (λk=>k<=body.length/\rE=FI t n (body.drop k)) (λk=>[(1,ap bb body.length cb),(2,gD behind),(3,aJ (aj ⟨g3,0,ak⟩)),(8,aJ (aj ⟨g8,0,ak⟩)),(23,ap bb body.length cb),(24,av az body.length),(25,av az (k:Int))])
   (λ_=>[aP g3 (dE t (n:Int) (ap bp aF.length cp)).cells 34,eg n x.gE x.cE (wq n aF).E,iu n x.gF x.cF (Nr n aF),iu n x.gW x.cW (Ns n aF),eg n x.gR x.cR (wq n aF).R,eg n x.gM x.cM (wq n aF).M,aP g8 (l9 (dq n x.gE x.cE) (dq n x.gF x.cF) (dq n x.gW x.cW) (dq n x.gR x.cR) (dq n x.gM x.cM)).cells 65]) (λk=>body.length-k) 0 ⟨bH _,hE⟩ ?_
  rintro k ⟨i1,i2⟩
  by_cases c6:k<body.length
  ·obtain⟨b,off,rfl,hr⟩:=h6 J
   have dz:=λL=>gG (L:=L) nD hr c6;rw[eI c6,FI]at i2;clear h6 hr UZ BJ;generalize body[k]=y at*
   cases r:right t n y
   ·rw[if_neg (by rw[r];decide)]at i2
    clear hE;subst i2;rw[if_neg aiz]at hV;subst hV;have r':=LC r;obtain⟨q,m⟩:=y;dsimp only at r';rcases r' with r'|r'|r'|r'|r'
    all_goals
     repeat(first|refine GA ?_|refine gV (aX bL.eq aK.ty I I c6) ?_|refine gV (a8 aK.ty I I (dz _)) ?_)
     refine aY I λg11=>?_;refine gh 7 ?_;refine zL ?_
     repeat(first|refine GA ?_|refine gV (aC aK.ty I (aH (i:=7) I I)) ?_|refine gV (aC aK.ty I (aH (i:=0) I I)) ?_)
     exact rS I I I λw hm=>hm.ret
   rw[if_pos r]at i2;have r':=uy r;obtain⟨q,m⟩:=y;dsimp only at r';rcases r' with r'|r'
   all_goals
    repeat(first|refine GA ?_|refine gV (aX bL.eq aK.ty I I c6) ?_|refine gV (a8 aK.ty I I (dz _)) ?_)
    refine aY I λg11=>?_;refine gh 7 ?_;refine zL ?_
    repeat(first|refine GA ?_|refine gV (aC aK.ty I (aH (i:=7) I I)) ?_|refine gV (aC aK.ty I (aH (i:=0) I I)) ?_)
    refine dh [0,1,2,3,4,5,6] ?_;exact bW (k+1) ⟨by omega,i2⟩ (by show body.length-(k+1)<body.length-k;omega)
  rw[jg J]at i2;have i2:rE=0:=by rw[i2];rfl
  have pF:∀x∈body,right t n x=true:=IZ (hE.symm.trans i2);clear hE;rw[if_pos i2]at hV;subst i2 hV
  repeat(first|refine GA ?_|refine gV (aO (i:=6) aK.ty I I I) ?_)
  refine aW (sZ aI.en I I I I) (λw hm=>BJ _ _ _ _ _ w hm.below (lI (i:=1) I w hm) (lI (i:=2) I w hm) (λx hx=>by have:=uy (pF x hx);omega)) I I I ?_;intro _ _
  try refine GA ?_
  exact rS I I I λw hm=>hm.ret
 ·have TP:=λw' (hg:Gr w w')=>TO v g w' (h.gr hg) c0
  have hE:ux g body=bX g:=by unfold ux;rw[if_pos c0]
  have hV:BS g body behind=0:=by unfold BS;rw[hE,if_neg c0]
  rw[hE,hV];obtain⟨vp,rfl,h1,_⟩:=h;obtain⟨bb,cb,rfl,_⟩:=hs;generalize bX g=e at*;obtain⟨t,n,aF⟩:=g;dsimp only at*;refine enter (args:=[dE t n vp,ap bb body.length cb,gD behind]) (n:=71) Tryz.func45 I I I ?_;refine b9 (bz (bQ I I I λg3=>?_))
  repeat(first|refine GA ?_|refine gV (aO (i:=0) aK.ty I I I) ?_)
  refine aW (iM aI.en I I) (λw hm=>TP _ hm.below) I I I ?_;intro _ _
  try refine GA ?_
  refine aY I λg8=>?_;refine gh 1 ?_
  try refine GA ?_
  exact rS I I I λw hm=>hm.ret
end bZ
namespace bZ
open Go.RowKit cU dM aT fG
theorem ad4{W:World}{L:List b_}{b off:Nat}{l:List Int}(h:Rd W b off (l.map (.int .i64))){k:Nat}(hk:k<l.length):At W L ⟨b,off+k,ak⟩ (av az l[k]):=iD h (by simp[hk])
end bZ
namespace bI
open aT dL cT
abbrev Item:=Int×Int×Int
def uz(a b:Int):Int:=if a<b then-1 else if b<a then 1 else 0
def LD(a b:Item):Int:=if uz a.1 b.1≠0 then uz a.1 b.1 else if uz a.2.1 b.2.1≠0 then uz a.2.1 b.2.1 else uz a.2.2 b.2.2
def O7(a b:Item):Bool:=decide (LD a b<0)
theorem Rw(a b:Item):O7 a b=aD↔a.1<b.1\/(a.1=b.1/\(a.2.1<b.2.1\/(a.2.1=b.2.1/\a.2.2<b.2.2))):=by
 unfold O7 LD uz;rw[decide_eq_true_eq]
 repeat' split
 all_goals omega
theorem O8(a b:Item):O7 a b=aE↔¬(a.1<b.1\/(a.1=b.1/\(a.2.1<b.2.1\/(a.2.1=b.2.1/\a.2.2<b.2.2)))):=by
 rw[<-Rw,Bool.not_eq_true]
def Nt(a b:Item):Bool:=!O7 b a
theorem Ck(a b:Item):Nt a b=aD↔¬(b.1<a.1\/(b.1=a.1/\(b.2.1<a.2.1\/(b.2.1=a.2.1/\b.2.2<a.2.2)))):=by
 simp[Nt,O8]
theorem TQ(a b c:Item)(h1:Nt a b=aD)(h2:Nt b c=aD):Nt a c=true:=by
 grind[Ck]
theorem TR(a b:Item):(Nt a b||Nt b a)=true:=by
 rw[lK,Ck,Ck];omega
theorem LF{a b:Item}(h1:Nt a b=aD)(h2:Nt b a=aD):a=b:=by
 grind[Ck]
theorem TS(x y:Item)(h1:O7 x y=aE)(h2:O7 y x=aE):x=y:=LF (by simp_all[Nt]) (by simp_all[Nt])
def ad5(l:List Item):Prop:=l.Pairwise λa b=>O7 a b=aD
theorem Ry(a:Item):O7 a a=false:=by simp[O8]
theorem ad6{a b c:Item}(h1:O7 a b=aD)(h2:O7 b c=aD):O7 a c=true:=by
 grind[Rw]
theorem TT{l:List Item}(h:ad5 l):l.Nodup:=h.imp λ{a b} Fw e=>by simp_all[Ry]
def uA(l:List Item):List Item:=l.mergeSort Nt
theorem Ya{l:List Item}{x:Item}:x∈uA l↔x∈l:=(XW l Nt).mem_iff
theorem LG(l:List Item):(uA l).length=l.length:=List.length_mergeSort _
theorem Yb{l:List Item}(h:l.Nodup):ad5 (uA l):=by
 have h1:(uA l).Pairwise λa b=>Nt a b=true:=List.pairwise_mergeSort TQ TR l;have h2:(uA l).Nodup:=(XW l Nt).nodup_iff.2 h;refine(h1.and h2).imp λ{a b} Fw=>?_
 cases e:O7 a b with
 |true=>rfl
 |false=>exact absurd (LF Fw.1 (by simp_all[Nt])) Fw.2
section
variable(l:List aT.Prod)(T:Nat)(lk:Int->Int->Nat)
def fB(p:Int):List dv:=if p=(l.length:Int)then [(2,0)]else(db l p).2
def pY(it:Item):Option dv:=(fB l it.1)[it.2.1.toNat]?
def uB(it:Item):Nat:=if(lk it.1 it.2.1).testBit 62=aD then(lk it.1 it.2.1^^^2^62)|||2^it.2.2.toNat else lk it.1 it.2.1
def fq(i:Nat)(bits:Nat)(out:List Item):Nat->List Item
 |0=>out
 |k+1=>if bits.testBit k=aD then more (fq i bits out k) ((i:Int),0,(k:Int))else fq i bits out k
def ft(N:Int)(bits:Nat)(out:List Item):Nat->List Item
 |0=>out
 |i+1=>if(db l (i:Int)).1=N then fq i bits (ft N bits out i) (T+1)else ft N bits out i
def uC(it:Item)(out:List Item):List Item:=match pY l it with
 |some x=>if x.1=2 then ft l T x.2 (uB lk it) out l.length else out
 |none=>out
def sR:Nat->Nat->List Item->List Item
 |0,_,out=>out
 |f+1,n,out=>if n<out.length then sR f (n+1) (uC l T lk (out.getD n (0,0,0)) out)else out
def jI(l0:List Item):List Item:=uA (sR l T lk 12000 0 (dH [] l0))
def I2(it x:Item):Prop:=∃N:Int,∃i k:Nat,pY l it=aj (2,N)/\i<l.length/\(db l (i:Int)).1=N/\k<=T/\(uB lk it).testBit k=aD/\x=((i:Int),0,(k:Int))
inductive Cl(l0:List Item):Item->Prop
 |base {x:Item} (h:x∈l0):Cl l0 x
 |step {it x:Item} (h:Cl l0 it) (hx:I2 l T lk it x):Cl l0 x
def eh(it:Item):Prop:=0<=it.1/\it.1<=(l.length:Int)/\0<=it.2.1/\it.2.1<=((fB l it.1).length:Int)/\0<=it.2.2/\it.2.2<=(T:Int)
end
section
variable{l:List aT.Prod}{T:Nat}{lk:Int->Int->Nat}
theorem uD{i bits:Nat}{out:List Item}{x:Item}:∀k,x∈fq i bits out k↔x∈out\/∃j,j<k/\bits.testBit j=aD/\x=((i:Int),0,(j:Int))
 |0=>⟨.inl,λh=>h.elim id λ⟨j,hj,_⟩=>absurd hj (lT j)⟩
 | k +1=>by
  rw[fq]
  by_cases c:bits.testBit k=aD
  ·rw[if_pos c,tW,uD k]
   constructor
   grind
   grind
  rw[if_neg c,uD k]
  grind
theorem Bf(i bits:Nat)(out:List Item):∀k,∃E,fq i bits out k=out++E
 |0=>⟨[],(eG _).symm⟩
 | k +1=>by
  rw[fq];obtain⟨E,h⟩:=Bf i bits out k;split
  ·obtain⟨E2,h2⟩:=Di (fq i bits out k) (((i:Int),0,(k:Int)):Item)
   simp_all
  simp_all
theorem qB{i bits:Nat}{out:List Item}(h:out.Nodup):∀k,(fq i bits out k).Nodup
 |0=>h
 |k+1=>by
  rw[fq];split;exact Dj (qB h k);exact qB h k
theorem uE{N:Int}{bits:Nat}{out:List Item}{x:Item}:∀n,x∈ft l T N bits out n↔x∈out\/∃i k:Nat,i<n/\(db l (i:Int)).1=N/\k<=T/\bits.testBit k=aD/\x=((i:Int),0,(k:Int))
 |0=>⟨.inl,λh=>h.elim id λ⟨j,_,hj,_⟩=>absurd hj (lT j)⟩
 | n +1=>by
  rw[ft]
  by_cases c:(db l (n:Int)).1=N
  ·rw[if_pos c,uD,uE n]
   grind
  rw[if_neg c,uE n]
  grind
theorem uF(N:Int)(bits:Nat)(out:List Item):∀n,∃E,ft l T N bits out n=out++E
 |0=>⟨[],(eG _).symm⟩
 | n +1=>by
  rw[ft];obtain⟨E,h⟩:=uF N bits out n;split
  ·obtain⟨E2,h2⟩:=Bf n bits (ft l T N bits out n) (T+1)
   simp_all
  simp_all
theorem qC{N:Int}{bits:Nat}{out:List Item}(h:out.Nodup):∀n,(ft l T N bits out n).Nodup
 |0=>h
 |n+1=>by
  rw[ft];split;exact qB (qC h n) _;exact qC h n
theorem Cm{it:Item}{out:List Item}{x:Item}:x∈uC l T lk it out↔x∈out\/I2 l T lk it x:=by
 unfold uC I2
 cases e:pY l it with
 |none=>simp
 | some s=>
  obtain⟨k,N⟩:=s;dsimp only
  by_cases c:k=2
  simp_all[uE]
  simp_all
theorem aa8(it:Item)(out:List Item):∃E,uC l T lk it out=out++E:=by
 unfold uC;split
 ·split
  simp[uF];exact⟨[],(eG _).symm⟩
 simp
theorem TU{it:Item}{out:List Item}(h:out.Nodup):(uC l T lk it out).Nodup:=by
 grind[uC,qC]
theorem mA{p:Int}(hw:∀q∈l,q.2.length<=8):(fB l p).length<=8:=by
 unfold fB;split
 decide
 unfold db;rw[cH]
 cases e:l[p.toNat]? with
 |none=>exact bH _
 |some q=>exact hw q (kR e)
theorem TV{it x:Item}(h:I2 l T lk it x):eh l T x:=by
 obtain⟨N,i,k,_,h2,_,h4,_,rfl⟩:=h;exact⟨by omega,by omega,k8 _,by simp,by simp,by simp_all⟩
theorem yT{l0:List Item}(h0:∀x∈l0,eh l T x){x:Item}(h:Cl l T lk l0 x):eh l T x:=by
 cases h with
 |base h=>simp_all
 |step _ hx=>exact TV hx
theorem AC{out:List Item}(hw:∀q∈l,q.2.length<=8)(hl:l.length<=40)(hT:T<=30)(hn:out.Nodup)(hr:∀x∈out,eh l T x):out.length<=11439:=by
 have:=ny (l:=out.map λx:Item=>x.1.toNat*279+x.2.1.toNat*31+x.2.2.toNat) (m:=11439) ?_ ?_
 simp_all
 ·rw[List.nodup_iff_pairwise_ne,List.pairwise_map]
  refine(ad1.1 hn).imp λ{a b} Fw e=>Fw.2.2 ?_;have ha:=hr a Fw.1;have hb:=hr b Fw.2.1;have ha8:=mA (p:=a.1) hw;have hb8:=mA (p:=b.1) hw;unfold eh at ha hb;obtain⟨a1,a2,a3⟩:=a;obtain⟨b1,b2,b3⟩:=b;dsimp only at*;rw[hJ,hJ];omega
 intro x hx;obtain⟨a,ha,rfl⟩:=fa.1 hx;have h1:=hr a ha;have h8:=mA (p:=a.1) hw;unfold eh at h1;omega
structure WkI(l:List aT.Prod)(T:Nat)(lk:Int->Int->Nat)(l0:List Item)(n:Nat)(out:List Item):Prop where
 nd:out.Nodup
 le:n<=out.length
 has:∀x∈l0,x∈out
 cl:∀x∈out,Cl l T lk l0 x
 shut:∀j (h:j<out.length),j<n->∀x,I2 l T lk out[j] x->x∈out
theorem Rz{l0:List Item}{n:Nat}{out:List Item}(h:WkI l T lk l0 n out)(hn:n<out.length):WkI l T lk l0 (n+1) (uC l T lk out[n] out):=by
 obtain⟨E,hE⟩:=aa8 (l:=l) (T:=T) (lk:=lk) out[n] out;have hlen:out.length<=(uC l T lk out[n] out).length:=by simp_all
 have xN:∀j (h:j<out.length),(uC l T lk out[n] out)[j]' J=out[j]:=λj hj=>by
  simp_all
 refine⟨TU h.nd,by omega,λx hx=>Cm.2 (.inl (h.has x hx)),λx hx=>?_,λj hj hjn x hx=>?_⟩
 ·rcases Cm.1 hx with h1|h1
  exact h.cl x h1;exact .step (h.cl _ (cD hn)) h1
 have rB:j<out.length:=by omega
 rw[xN j rB]at hx
 by_cases e:j=n
 subst e;exact Cm.2 (.inr hx);exact Cm.2 (.inl (h.shut j rB J x hx))
theorem D5{l0:List Item}(hw:∀q∈l,q.2.length<=8)(hl:l.length<=40)(hT:T<=30)(h0:∀x∈l0,eh l T x):∀(f n:Nat) (out:List Item),11440<=f+n->WkI l T lk l0 n out->WkI l T lk l0 (sR l T lk f n out).length (sR l T lk f n out)
 | 0,n,out,hf,h=>by
  have:=AC hw hl hT h.nd λx hx=>yT h0 (h.cl x hx);have:=h.le;omega
 | f +1,n,out,hf,h=>by
  rw[sR]
  by_cases c:n<out.length
  ·rw[if_pos c,cH,bD c,kD]
   exact D5 hw hl hT h0 f (n+1) _ J (Rz h c)
  rw[if_neg c];have:=h.le;rw[show out.length=n by omega];exact h
theorem D6(l0:List Item):WkI l T lk l0 0 (dH [] l0):=
 ⟨sa l0 [] XZ,bH _,λx hx=>kF.2 (.inr hx),λx hx=> .base ((kF.1 hx).resolve_left (by simp)),λj _ h=>absurd h (lT j)⟩
section
variable(hw:∀q∈l,q.2.length<=8)(hl:l.length<=40)(hT:T<=30)
include hw hl hT
theorem im{l0:List Item}(h0:∀x∈l0,eh l T x){x:Item}:x∈jI l T lk l0↔Cl l T lk l0 x:=by
 unfold jI;rw[Ya];have h:=D5 (lk:=lk) hw hl hT h0 12000 0 _ J (D6 l0);refine⟨h.cl x,λhx=>?_⟩
 induction hx with
 |base hb=>exact h.has _ hb
 |step _ hx ih=>
  obtain⟨j,hj,rfl⟩:=g_.1 ih;exact h.shut j hj hj _ hx
theorem O9{l0:List Item}(h0:∀x∈l0,eh l T x):ad5 (jI l T lk l0):=
 Yb (D5 (lk:=lk) hw hl hT h0 12000 0 _ J (D6 l0)).nd
theorem iN{l0:List Item}(h0:∀x∈l0,eh l T x):∀x∈jI l T lk l0,eh l T x:=λ_ hx=>yT h0 ((im hw hl hT h0).1 hx)
theorem so{l0:List Item}(h0:∀x∈l0,eh l T x):(jI l T lk l0).length<=11439:=
 AC hw hl hT (TT (O9 hw hl hT h0)) (iN hw hl hT h0)
end
end
end bI
namespace bI
open aT dL cT
def aa9(it:Item):Item:=(it.1,it.2.1+1,it.2.2)
section
variable(l:List aT.Prod)(T N:Nat)(lk:Int->Int->Nat)
def mB(s:List Item)(x:dv):List Item:=(s.filter λit=>decide (pY l it=aj x)).map aa9
def iO(s:List Item)(x:dv):List Item:=jI l T lk (mB l s x)
def mC:List dv:=(dV T).map (λn:Nat=>((1:Int),(n:Int)))++(dV N).map (λn:Nat=>((2:Int),(n:Int)))
def iW(S:List (List Item))(s:List Item):Nat×List (List Item):=if s∈S then(idx S s,S)else(S.length,S++[s])
def pZ(s:List Item)(x:dv)(S:List (List Item)):Int×List (List Item):=if iO l T lk s x=[]then(-1,S)else(((iW S (iO l T lk s x)).1:Int),(iW S (iO l T lk s x)).2)
def yU(s:List Item):List dv->List Int->List (List Item)->Option (List Int×List (List Item))
 |[],nx,S=>aj (nx,S)
 |x::r,nx,S=>if 200<(pZ l T lk s x S).2.length then ak else yU s r (nx++[(pZ l T lk s x S).1]) (pZ l T lk s x S).2
def wD:Nat->Nat->List (List Int)->List (List Item)->Option (List (List Int)×List (List Item))
 |0,_,_,_=>ak
 | f +1,n,Nx,S=>if n<S.length then(match yU l T lk (S.getD n []) (mC T N) [] S with
  |none=>ak
  |some (nx,S')=>wD f (n+1) (Nx++[nx]) S')else aj (Nx,S)
def ng:List Item:=jI l T lk [((l.length:Int),0,(T:Int))]
def allI:Option (List (List Int)×List (List Item)):=wD l T N lk 202 0 [] [ng l T lk]
end
theorem yV(T N:Nat):(mC T N).length=T+N:=by simp[mC]
theorem TY{T N k:Nat}(h:k<T):(mC T N)[k]?=aj (1,(k:Int)):=by
 simp_all[mC,gJ]
theorem Yc{T N k:Nat}(h:k<N):(mC T N)[T+k]?=aj (2,(k:Int)):=by
 simp_all[mC]
section
variable{l:List aT.Prod}{T N:Nat}{lk:Int->Int->Nat}
theorem LH{s:List Item}{x:dv}{y:Item}:y∈mB l s x↔∃it∈s,pY l it=aj x/\y=aa9 it:=by
 unfold mB;rw[fa]
 constructor
 ·rintro⟨it,h,rfl⟩
  rw[XX,decide_eq_true_eq]at h;exact⟨it,h.1,h.2,rfl⟩
 rintro⟨it,h1,h2,rfl⟩;exact⟨it,XX.2 ⟨h1,decide_eq_true h2⟩,rfl⟩
theorem kI{s:List Item}{x:dv}(hs:∀it∈s,eh l T it):∀y∈mB l s x,eh l T y:=by
 intro y hy;obtain⟨it,h1,h2,rfl⟩:=LH.1 hy;have hr:=hs it h1;have hd:=(dl.1 h2).1;unfold eh aa9 at*;dsimp only;omega
structure I3(l:List aT.Prod)(T:Nat)(lk:Int->Int->Nat)(S:List (List Item)):Prop where
 nd:S.Nodup
 right:∀s∈S,∀it∈s,eh l T it
 shut:∀s∈S,∀it∈s,∀x,I2 l T lk it x->x∈s
def D7(l:List aT.Prod)(T:Nat)(lk:Int->Int->Nat)(S:List (List Item))(s:List Item)(x:dv)(c:Int):Prop:=
 (iO l T lk s x=[]/\c= -1)\/(iO l T lk s x≠[]/\iO l T lk s x∈S/\c=(idx S (iO l T lk s x):Int))
theorem D7.To{S:List (List Item)}{s:List Item}{x:dv}{c:Int}(h:D7 l T lk S s x c)(E:List (List Item)):D7 l T lk (S++E) s x c:=by
 rcases h with h|⟨h1,h2,h3⟩
 exact .inl h;exact .inr ⟨h1,xu _ h2,by grind[pU]⟩
section
variable(hw:∀q∈l,q.2.length<=8)(hl:l.length<=40)(hT:T<=30)
include hw hl hT
omit hw hl hT in
theorem O_{S:List (List Item)}(hS:I3 l T lk S){s:List Item}(hs:∀it∈s,eh l T it)(WE:∀it∈s,∀x,I2 l T lk it x->x∈s):(∃E,(iW S s).2=S++E)/\s∈(iW S s).2/\(iW S s).1=idx (iW S s).2 s/\I3 l T lk (iW S s).2:=by
 unfold iW
 by_cases c:s∈S
 simp_all
 rw[if_neg c];refine⟨⟨[s],rfl⟩,XV _ (dQ.2 I),?_,?_,?_,?_⟩
 ·show S.length=idx (S++[s]) s
  have:=qU (D:=S) (k:=s);unfold more at this;rw[if_neg c,if_neg c]at this;exact this.symm
 ·rw[Df]
  exact⟨hS.nd,by simp,λa ha b hb e=>by simp_all⟩
 ·intro s' xe it hit
  rcases fj.1 xe with h|h
  exact hS.right s' h it hit;rw[dQ.1 h]at hit;exact hs it hit
 intro s' xe it hit x hx;rcases fj.1 xe with h|h
 exact hS.shut s' h it hit x hx;rw[dQ.1 h]at hit⊢;exact WE it hit x hx
theorem uG{l0:List Item}(h0:∀x∈l0,eh l T x):∀it∈jI l T lk l0,∀x,I2 l T lk it x->x∈jI l T lk l0:=λ_ hit _ hx=>
 (im hw hl hT h0).2 (.step ((im hw hl hT h0).1 hit) hx)
theorem G8{S:List (List Item)}(hS:I3 l T lk S){s:List Item}(hs:∀it∈s,eh l T it)(x:dv):(∃E,(pZ l T lk s x S).2=S++E)/\D7 l T lk (pZ l T lk s x S).2 s x (pZ l T lk s x S).1/\I3 l T lk (pZ l T lk s x S).2:=by
 unfold pZ
 by_cases c:iO l T lk s x=[]
 ·rw[if_pos c]
  exact⟨⟨[],(eG _).symm⟩,.inl ⟨c,rfl⟩,hS⟩
 rw[if_neg c];obtain⟨h1,h2,h3,h4⟩:=O_ hS (iN (lk:=lk) hw hl hT (kI (x:=x) hs)) (uG hw hl hT (kI (x:=x) hs));exact⟨h1,.inr ⟨c,h2,congrArg _ h3⟩,h4⟩
theorem LI{s:List Item}(hs:∀it∈s,eh l T it):∀(xs:List dv) (nx:List Int) (S:List (List Item)) (done:List dv) (Yd:List Int) (S':List (List Item)),I3 l T lk S->yU l T lk s xs nx S=aj (Yd,S')->S.length<=200->nx.length=done.length->(∀k x,done[k]?=aj x->D7 l T lk S s x (nx.getD k 0))->
 (∃E,S'=S++E)/\I3 l T lk S'/\S'.length<=200/\Yd.length=(done++xs).length/\∀k x,(done++xs)[k]?=aj x->D7 l T lk S' s x (Yd.getD k 0)
 | [],nx,S,done,Yd,S',hS,h,ahb,hlen,hd=>by
  simp_all[yU]
 | x ::xs,nx,S,done,Yd,S',hS,h,ahb,hlen,hd=>by
  rw[yU]at h
  by_cases c:200<(pZ l T lk s x S).2.length
  simp_all;rw[if_neg c]at h;obtain⟨⟨E,h1⟩,h2,h3⟩:=G8 (lk:=lk) hw hl hT hS hs x;obtain⟨⟨E2,q1⟩,q2,q3,q4,q5⟩:=LI hs xs (nx++[(pZ l T lk s x S).1]) _ (done++[x]) Yd S' h3 h J (by simp_all) (λk y hk=>by
   by_cases ek:k<done.length
   ·rw[gJ ek]at hk
    rw[jl J,h1];exact(hd k y hk).To E
   grind)
  simp_all
structure TZ(l:List aT.Prod)(T N:Nat)(lk:Int->Int->Nat)(n:Nat)(Nx:List (List Int))(S:List (List Item)):Prop where
 ss:I3 l T lk S
 Cg:S.length<=200
 le:n<=S.length
 len:Nx.length=n
 start:S[0]?=aj (ng l T lk)
 wide:∀q,q<n->(Nx.getD q []).length=T+N
 cell:∀q,q<n->∀k x,(mC T N)[k]?=aj x->D7 l T lk S (S.getD q []) x ((Nx.getD q []).getD k 0)
theorem LJ:∀(f n:Nat) (Nx:List (List Int)) (S:List (List Item)) (Nx':List (List Int)) (S':List (List Item)),wD l T N lk f n Nx S=aj (Nx',S')->TZ l T N lk n Nx S->TZ l T N lk S'.length Nx' S'
  |0,_,_,_,_,_,h,_=>by cases h
  | f + 1,n,Nx,S,Nx',S',h,hi=>by
    rw[wD]at h
    by_cases c:n<S.length
    · rw[if_pos c]at h
      have xN:S.getD n []=S[n]:=by rw[cH,bD c];rfl
      have hs:∀it∈S.getD n [],eh l T it:=by rw[xN];exact hi.ss.right _ (cD c)
      cases e:yU l T lk (S.getD n []) (mC T N) [] S with
      |none=>rw[e]at h;cases h
      | some r=>
        obtain⟨nx,S1⟩:=r;rw[e]at h;dsimp only at h;obtain⟨⟨E,q1⟩,q2,q3,q4,q5⟩:=LI (lk:=lk) hw hl hT hs (mC T N) [] S [] nx S1 hi.ss e hi.Cg rfl (λk x hk=>by simp at hk);rw[eJ]at q4 q5;have hlen:=congrArg xP q1;rw[bK]at hlen;refine LJ f (n+1) _ S1 Nx' S' h ⟨q2,q3,by omega,by rw[bK,hi.len];rfl,?_,λq hq=>?_,λq hq k x hk=>?_⟩;rw[q1,gJ (by have:=(dl.1 hi.start).1;omega)];exact hi.start
        · by_cases eq:q=n
          · subst eq
            rw[mW (by rw[hi.len];exact bm _),hi.len,nT];show nx.length=T+N
            rw[q4,yV]
          rw[jl (by rw[hi.len];omega)];exact hi.wide q J
        by_cases eq:q=n
        · subst eq
          rw[mW (by rw[hi.len];exact bm _),hi.len,nT];have e1:S1.getD q []=S.getD q []:=by rw[q1,jl c]
          rw[e1];exact q5 k x hk
        rw[jl (by rw[hi.len];omega)];have e1:S1.getD q []=S.getD q []:=by rw[q1,jl J]
        rw[e1,q1];exact(hi.cell q J k x hk).To E
    rw[if_neg c]at h;simp only[dr,hJ]at h;obtain⟨rfl,rfl⟩:=h;have:n=S.length:=by have:=hi.le;omega
    rw[<-this];exact hi
omit hw in
theorem ig:∀x∈[(((l.length:Int),0,(T:Int)):Item)],eh l T x:=by
 intro x hx;rw[dQ.1 hx];exact⟨by dsimp only;omega,k8 _,k8 _,by dsimp only;omega,by dsimp only;omega,k8 _⟩
theorem LK{Nx:List (List Int)}{S:List (List Item)}(h:allI l T N lk=aj (Nx,S)):TZ l T N lk S.length Nx S:=
 LJ hw hl hT 202 0 [] [ng l T lk] Nx S h
  ⟨⟨by simp,λs hs it hit=>by rw[dQ.1 hs]at hit;exact iN (lk:=lk) hw hl hT (ig hl hT) it hit,λs hs it hit x hx=>by rw[dQ.1 hs]at hit⊢;exact uG hw hl hT (ig hl hT) it hit x hx⟩,by simp,bH _,rfl,rfl,λq hq=>absurd hq (lT q),λq hq=>absurd hq (lT q)⟩
end
end
def ii(s:List Item):List UInt8:=s.flatMap λit=>[fx it.1.toNat,fx it.2.1.toNat,fx it.2.2.toNat]
theorem Pa{a b:Int}(ha:0<=a/\a<256)(hb:0<=b/\b<256)(h:fx a.toNat=fx b.toNat):a=b:=by
 have:=congrArg UInt8.toNat h;rw[X3,X3]at this;omega
theorem D8:∀{s s':List Item},(∀it∈s,0<=it.1/\it.1<256/\0<=it.2.1/\it.2.1<256/\0<=it.2.2/\it.2.2<256)->(∀it∈s',0<=it.1/\it.1<256/\0<=it.2.1/\it.2.1<256/\0<=it.2.2/\it.2.2<256)->ii s=ii s'->s=s'
 |[],[],_,_,_=>rfl
 |[],b::s',_,_,h=>by simp[ii]at h
 |a::s,[],_,_,h=>by simp[ii]at h
 | a ::s,b::s',h1,h2,h=>by
  have ha:=h1 a (gZ ..);have hb:=h2 b (gZ ..);unfold ii at h;rw[mc,mc]at h;simp only[kS,eJ,fO]at h;obtain⟨e1,e2,e3,e4⟩:=h;have e1:=Pa ⟨ha.1,ha.2.1⟩ ⟨hb.1,hb.2.1⟩ e1;have e2:=Pa ⟨ha.2.2.1,ha.2.2.2.1⟩ ⟨hb.2.2.1,hb.2.2.2.1⟩ e2;have e3:=Pa ⟨ha.2.2.2.2.1,ha.2.2.2.2.2⟩ ⟨hb.2.2.2.2.1,hb.2.2.2.2.2⟩ e3;have e:a=b:=by
   obtain⟨a1,a2,a3⟩:=a;obtain⟨b1,b2,b3⟩:=b;simp only at e1 e2 e3;rw[e1,e2,e3]
  rw[e,D8 (λit hit=>h1 it (kC _ hit)) (λit hit=>h2 it (kC _ hit)) e4]
end bI
namespace bI
open aT dL fG dG cT
open BM (DK)
abbrev Act:=Int×Int
section
variable(l:List aT.Prod)(T:Nat)
def yW(c:Nat)(it:Item):Option Act:=if it.2.2≠(c:Int)then ak else if it.1=(l.length:Int)/\it.2.1=1 then aj (3,0)else if it.1<(l.length:Int)/\it.2.1=((db l it.1).2.length:Int)then aj (2,it.1)else ak
def km(s:List Item)(nx:List Int)(c:Nat):List Act:=(if c<T/\0<=nx.getD c 0 then [(1,nx.getD c 0)]else [])++s.filterMap (yW l c)
end
section
variable(l:List aT.Prod)(T:Nat)(Nx:List (List Int))(S:List (List Item))
def pj(q c:Nat):Act:=(km l T (S.getD q []) (Nx.getD q []) c).headD (0,0)
def afy(q:Nat)(n:Int):Int:=(Nx.getD q []).getD (T+n.toNat) 0
def afz:Prop:=∀q,q<S.length->∀c,c<=T->(km l T (S.getD q []) (Nx.getD q []) c).length<=1
inductive I4(w:List Int):List Nat->Nat->List dv->List Nat->Nat->Prop
 |nil {σ:List Nat} {a:Nat}:I4 w σ a [] σ a
 |shift {q s:Nat} {σ σ':List Nat} {a a':Nat} {E:List dv} (ha:a<w.length) (h:pj l T Nx S q (DK T w a)=(1,(s:Int))) (hr:I4 w (s::q::σ) (a+1) E σ' a'):I4 w (q::σ) a ((2,(a:Int))::E) σ' a'
 |reduce {q r tq:Nat} {p:Int} {σ ρ σ':List Nat} {a a':Nat} {E:List dv} (h:pj l T Nx S q (DK T w a)=(2,p)) (hd:(q::σ).drop (db l p).2.length=r::ρ) (hg:afy T Nx r (db l p).1=(tq:Int)) (hr:I4 w (tq::r::ρ) a E σ' a'):I4 w (q::σ) a ((4,p)::E) σ' a'
end
section
variable{l:List aT.Prod}{T N:Nat}{lk:Int->Int->Nat}{Nx:List (List Int)}{S:List (List Item)}{w:List Int}
theorem I4.To{σ σ1 σ2:List Nat}{a a1 a2:Nat}{E E2:List dv}(h:I4 l T Nx S w σ a E σ1 a1)(h2:I4 l T Nx S w σ1 a1 E2 σ2 a2):I4 l T Nx S w σ a (E++E2) σ2 a2:=by
 induction h with
 |nil=>exact h2
 |shift ha h _ ih=>exact .shift ha h (ih h2)
 |reduce h hd hg _ ih=>exact .reduce h hd hg (ih h2)
section
end
section
end
end
end bI
namespace bZ
open Go.RowKit cU dM aT dL dG bI
def iK(x:bI.Item):List Value:=[av az x.1,av az x.2.1,av az x.2.2]
theorem lA(x:bI.Item):(iK x).length=3:=rfl
def AD(x:Option Nat):b_:=match x with
 |some g=>aP g #[av az 2,av az 0] 156
 |none=>⟨ak,λ_=>False,λ_=>True,λ_ _ k h=>by rcases h with h|h;cases h;exact h.elim,λ_ _ _ _ _=>trivial⟩
def aa_(vb:Nat->Value)(n:Nat)(x:Option Nat):Value:=match x with
 |some g=>ap (aj ⟨g,0,ak⟩) 1 1
 |none=>vb n
def T1(F:Nat->Prop)(w:World)(vb:Nat->Value)(l:List aT.Prod):Prop:=∀i,i<l.length->jQ aaH F w (vb i) (db l (i:Int)).2
def yX(vb:Nat->Value)(n P:Nat):Spec (Option Nat):=⟨λx=>x.isSome=decide (n=P),λx=>aa_ vb n x,λx=>[AD x]⟩
theorem Ye{F:Nat->Prop}{w:World}{vp:Value}{l:List aT.Prod}(h:jQ nY F w vp l):∃(vb:Nat->Value) (bp:Option Addr) (cp:Nat),vp=ap bp l.length cp/\l.length<=cp/\cp<=maxLen/\T1 F w vb l/\(0<l.length->∃b off,bp=aj ⟨b,off,ak⟩/\F b/\∀i,i<l.length->Rd w b (off+i*2) [av az (db l (i:Int)).1,vb i]/\cU.dX (db l (i:Int)).1):=by
 obtain⟨bp,cp,rfl,h1,h2,h3⟩:=h
 by_cases h0:0<l.length
 ·obtain⟨b,off,rfl,hF,hr⟩:=h3 h0
  have key:∀i:Nat,∃v:Value,i<l.length->jQ aaH F w v (db l (i:Int)).2/\Rd w b (off+i*2) [av az (db l (i:Int)).1,v]/\cU.dX (db l (i:Int)).1:=λi=>by
   by_cases hi:i<l.length
   ·obtain⟨base,cap,q1,q2,q3⟩:=lx hr hi
    have e:db l (i:Int)=l[i]:=by unfold db;rw[dB,cH,bD hi];rfl
    exact⟨_,λ_=>by rw[e];exact⟨q3,q1,q2⟩⟩
   exact⟨undef,λh=>absurd h hi⟩
  refine⟨λi=>HR (key i),aj ⟨b,off,ak⟩,cp,rfl,h1,h2,λi hi=>(CI (key i) hi).1,λ_=>⟨b,off,rfl,hF,λi hi=>(CI (key i) hi).2⟩⟩
 exact⟨λ_=>undef,bp,cp,rfl,h1,h2,λi hi=>absurd hi J,λh=>absurd h h0⟩
theorem ad7{n:Nat}{W:bR}{e:Exit}{Q:Exit->Act->World->Prop}{fr:Fr}{L:List b_}(h:E n W e Q fr (L++[AD ak])):E n W e Q fr L:=⟨λa w hr hm=>h.go a w hr ⟨hm.low,eA.both hm.owns (eA.one trivial λk hk=>by rcases hk with hk|hk;cases hk;exact hk.elim) λi j o o' _ hj k _ hk=>by
 match j,hj with
 |0,hj=>
  simp only[List.getElem?_cons_zero,dr]at hj;subst hj;rcases hk with hk|hk
  cases hk
  exact hk.elim
 |j+1,hj=>simp at hj⟩⟩
theorem Pb(w:World):(df 156 #[(0,av az 2),(1,av az 0)]).run aB w= .ok (aQ #[av az 2,av az 0]) w:=by kernel_rfl
theorem sq(t n:Int)(bp:Option Addr)(cp:Nat)(l:List aT.Prod)(vb:Nat->Value)(w0 w:World)(B:bR)(k:Nat)(hk:k<=l.length)(ho:pC w0 B)(hm:Mem B [] w)(zx:∀i,i<l.length->∃bb m cc,vb i=ap bb m cc)
 (hr:0<l.length->∃b off,bp=aj ⟨b,off,ak⟩/\∀i,i<l.length->Rd w0 b (off+i*2) [av az (db l (i:Int)).1,vb i]):
 Calls aB 111 #[dE t n (ap bp l.length cp),av az (k:Int)] w (cz (yX vb k l.length) w):=by
 have hb:=Pb;have hr:∀i,i<l.length->∃b off,bp=aj ⟨b,off,ak⟩/\Rd w b (off+i*2) [av az (db l (i:Int)).1,vb i]:=λi hi=>by
  obtain⟨b,off,q1,q2⟩:=hr J;exact⟨b,off,q1,λj u hj=>ho.cell hm (q2 i hi j u hj)⟩
 clear hm ho;refine enter (args:=[dE t n (ap bp l.length cp),av az (k:Int)]) (n:=18) Tryz.func111 I I I ?_;refine b9 (bz (bQ I I I λg2=>?_));refine zL ?_
 by_cases c:k=l.length
 ·subst c
  repeat(first|refine GC ?_|refine gV (aC (v:=ap bp l.length cp) aK.ty I (aH (i:=0) I I)) ?_|refine gV (de (b:=aD) I I (decide_eq_true I)) ?_|refine gV (bB I hb) ?_|refine GB ?_)
  refine fm (cs:=#[av az 2,av az 0]) [aQ #[av az 2,av az 0]] I I I (by intro v hv;simp at hv;subst hv;rfl) I I I λg11=>?_;refine zL ?_
  try refine GA ?_
  exact cJ I I λw hm=>hm.meets (S:=yX vb l.length l.length) (aj g11) (by show aD=decide (l.length=l.length);rw[decide_eq_true I]) [1] aiz I
 ·obtain⟨b,off,rfl,eL⟩:=hr k J
  obtain⟨bb,m,cc,hv⟩:=zx k J;have dz:∀(L:List b_),At w L ⟨b,off+k*2+1,ak⟩ (vb k):=λL=>iD eL (j:=1) I;have hlt:k<l.length:=by omega
  repeat(first|refine GC ?_|refine gV (aC (v:=ap (aj ⟨b,off,ak⟩) l.length cp) aK.ty I (aH (i:=0) I I)) ?_|refine gV (de (b:=aE) I I (decide_eq_false J)) ?_|refine gV (aX (j:=k) bL.eq aK.ty I I hlt) ?_|refine gV (aC (v:=vb k) aK.ty I (dz _)) ?_|refine GB ?_)
  refine ad7 ?_;exact cJ I I λw hm=>hm.meets (S:=yX vb k l.length) ak (by show aE=decide (k=l.length);rw[decide_eq_false c]) [1] aiz I
end bZ
namespace bZ
open Go.RowKit cU dM aT dL dG bI
abbrev RK:=Int×Int
def rkV(x:RK):Value:=aQ #[av az x.1,av az x.2]
set_option maxRecDepth 100000 in
theorem ad8(p:RK)(h:cU.dX p.1/\cU.dX p.2):∃l,keyOf aB 272 (rkV p)=aj l:=by
 have e1:aB.cellsOf 272=2:=by kernel_rfl
 have e3:aB.cellsOf 3=1:=by kernel_rfl
 refine Ii (cs:=[av az p.1,av az p.2]) (m:=2) (by kernel_rfl) (by kernel_rfl) (by rw[e1];rfl) (B_ 2 (by kernel_rfl)) λd=>?_;refine Ac (d:=d+1) Tryz.underlying272 (by rw[e1];rfl) (by kernel_rfl) λf hf=>?_;simp only[dx,fl,or_false]at hf;rcases hf with rfl|rfl
 ·rw[e3]
  exact tS Tryz.underlying3 h.1.1 h.1.2
 rw[e3];exact tS Tryz.underlying3 h.2.1 h.2.2
theorem afA:(272:TypeId)<aB.types.size:=of_decide_eq_true (by kernel_rfl)
set_option maxRecDepth 100000 in
def iP:yx aB 272 RK where
 kv:=rkV
 ok p:=cU.dX p.1/\cU.dX p.2
 law:=deep_law_laid B9 (m:=2) J afA (by kernel_rfl) (by kernel_rfl)
 key x h:=ad8 x h
 inj x y h:=by
  simp only[rkV,lL,r8,fO,De,true_and,and_true]at h;exact ql h.1 h.2
set_option maxRecDepth 100000 in
theorem ad9(p:bI.Item)(h:cU.dX p.1/\cU.dX p.2.1/\cU.dX p.2.2):∃l,keyOf aB 208 (aQ (iK p).toArray)=aj l:=by
 have e1:aB.cellsOf 208=3:=by kernel_rfl
 have e3:aB.cellsOf 3=1:=by kernel_rfl
 refine Ii (cs:=iK p) (m:=2) (by kernel_rfl) (by kernel_rfl) (by rw[e1];rfl) (B_ 2 (by kernel_rfl)) λd=>?_;refine Ac (d:=d+1) Tryz.underlying208 (by rw[e1];rfl) (by kernel_rfl) λf hf=>?_;simp only[dx,fl,or_false]at hf;rcases hf with rfl|rfl|rfl
 ·rw[e3]
  exact tS Tryz.underlying3 h.1.1 h.1.2
 ·rw[e3]
  exact tS Tryz.underlying3 h.2.1.1 h.2.1.2
 rw[e3];exact tS Tryz.underlying3 h.2.2.1 h.2.2.2
theorem afB:(208:TypeId)<aB.types.size:=of_decide_eq_true (by kernel_rfl)
set_option maxRecDepth 100000 in
def I5:yx aB 208 bI.Item where
 kv x:=aQ (iK x).toArray
 ok p:=cU.dX p.1/\cU.dX p.2.1/\cU.dX p.2.2
 law:=deep_law_laid B9 (m:=2) J afB (by kernel_rfl) (by kernel_rfl)
 key x h:=ad9 x h
 inj x y h:=by
  simp only[iK,lL,r8,fO,De,true_and,and_true]at h;exact ql h.1 (ql h.2.1 h.2.2)
theorem RA{a b:Nat}(ha:a<=9223372036854775807)(hb:b<=9223372036854775807):iP.ok ((a:Int),(b:Int)):=by
 show cU.dX (a:Int)/\cU.dX (b:Int)
 exact⟨⟨by omega,by omega⟩,⟨by omega,by omega⟩⟩
theorem LL(w:World):(zeroValue 75).run aB w= .ok (.int .u64 0) w:=by kernel_rfl
theorem nH(w:World):(zeroValue 3).run aB w= .ok (av az 0) w:=by kernel_rfl
theorem D9{x:Nat}(hx:x<18446744073709551616)(h:x.testBit 62=aD):bits .andNot .u64 (x:Int) 4611686018427387904=((x^^^2^62:Nat):Int):=by
 have e0:(4611686018427387904:Int)=((2^62:Nat):Int):=by decide
 rw[e0];show tp.wrap ((wR 64 (x:Int)&&& ~~~ wR 64 ((2^62:Nat):Int)).toNat:Int)=_
 have hlt:x^^^2^62<2^64:=IW hx aiz;have e:wR 64 (x:Int)&&& ~~~ wR 64 ((2^62:Nat):Int)=BitVec.ofNat 64 (x^^^2^62):=by
  rw[XR,XR]
  ext i hi
  simp only[BitVec.getElem_and,BitVec.getElem_not];rw[<-OU,<-OU,<-OU,OV,OV,OV];simp only[hi,decide_true,Bool.true_and,Nat.testBit_xor,Nat.testBit_two_pow]
  by_cases e:62=i
  subst e;rw[h];decide;rw[decide_eq_false e];simp
 rw[e,BitVec.toNat_ofNat,Nat.mod_eq_of_lt hlt,rK];omega
theorem Yf{P:Program}(x j b:Nat)(k k':IntKind)(hb:k.bits=b)(hj:j<=b)(w:World):(il .shr k (x:Int) k' (j:Int)).run P w= .ok (.int k ((x/2^j:Nat):Int)) w:=by
 have e:min j b=j:=by omega
 have h0:¬((j:Int)<0):=by omega
 have e2:(x:Int).fdiv (2^j)=((x/2^j:Nat):Int):=by
  rw[Int.fdiv_eq_ediv_of_nonneg _ (by have:(0:Int)<2^j:=Int.pow_pos aiz;omega)];simp
 simp only[il,if_neg h0,hb,dB,e,e2,oy]
theorem ad_{y:Nat}(hy:y<18446744073709551616):bits .and .u64 (y:Int) 1=((y %2:Nat):Int):=by
 have h:=bits_nat .u64 64 aiz (λn h0 h1=>by rw[rK];omega) y 1 (by simpa using hy) aiz;rw[Nat.and_one_is_mod]at h;exact h.1
theorem yY(x k:Nat):x.testBit k=decide (x/2^k %2=1):=Nat.testBit_eq_decide_div_mod_eq ..
def jW(g:d_)(p d:Int):Nat:=BS g ((fB g.aF p).drop (d.toNat+1)) 4611686018427387904
theorem RB{g:d_}{body:List dv}{behind:Nat}(hb:behind<18446744073709551616):BS g body behind<18446744073709551616:=by
 unfold BS
 by_cases c:ux g body=0
 ·rw[if_pos c]
  have hg:bX g=0:=by
   unfold ux at c
   by_cases c2:bX g=0
   exact c2;rw[if_pos c2]at c;exact c
  have h60:¬60<body.length:=λh=>by
   unfold ux at c;rw[if_neg (by simpa using hg),if_pos h]at c;cases c
  have nC:FI g.aR g.bC body=0:=by
   unfold ux at c;rw[if_neg (by simpa using hg),if_neg h60]at c;exact c
  have hn:=(cP hg).2.2.1;have ht:=(cP hg).2.1;refine ow (I1 hg (n:=g.bC.toNat) J).2 hb λx hx h1=>?_;rcases uy (IZ nC x hx)with h|h
  omega;omega
 rw[if_neg c];decide
def Bg(t n:Int)(vp:Value)(gm:Nat):List Value:=[av az t,av az n,vp,.map (aj gm)]
def jJ(lk:Int->Int->Nat)(f:RK->Option Value):Prop:=∀x v,f x=aj v->v=gD (lk x.1 x.2)
theorem Pc(a b:Int)(w:World):(df 272 #[(0,av az a),(1,av az b)]).run aB w= .ok (aQ #[av az a,av az b]) w:=by go_simp
theorem jJ.put{lk:Int->Int->Nat}{f:RK->Option Value}(h:jJ lk f)(x:RK):jJ lk (λy=>if y=x then aj (gD (lk x.1 x.2))else f y):=by
 intro y v hv;dsimp only at hv
 by_cases c:y=x
 ·rw[if_pos c]at hv
  cases hv;rw[c]
 rw[if_neg c]at hv;exact h y v hv
theorem D_(a:dv):(ep a).length=2:=rfl
theorem I6{t n:Int}{vp v:Value}{gm j:Nat}(h:[av az t,av az n,vp][j]?=aj v):(Bg t n vp gm).toArray[0+j]?=aj v:=by
 rw[cV]
 match j,h with
 |0,h=>exact h
 |1,h=>exact h
 |2,h=>exact h
theorem yZ{l:List aT.Prod}{w0:World}{W:bR}{L:List b_}{vb:Nat->Value}{k i:Nat}{x:Option Nat}(ho:pC w0 W)(hv:T1 (λq=>q<w0.heap.size) w0 vb l)(hk:k<=l.length)(hx:x.isSome=decide (k=l.length))(hi:L[i]?=aj (AD x)):∃b c,aa_ vb k x=ap b (fB l (k:Int)).length c/\(fB l (k:Int)).length<=c/\SlL W L (aa_ vb k x) (fB l (k:Int)).length ((fB l (k:Int)).flatMap ep):=by
 cases x with
 |some g=>
  have hk:k=l.length:=by simpa using hx
  subst hk;have e:fB l (l.length:Int)=[(2,0)]:=by unfold fB;rw[if_pos I]
  rw[e];exact⟨_,_,rfl,bm _,kX hi (λj u h=>by simpa[ep]using h) (bm _) aiz⟩
 | none=>
  have mT:k<l.length:=by
   have:¬k=l.length:=by simpa using hx
   omega
  have e:fB l (k:Int)=(db l (k:Int)).2:=by unfold fB;rw[if_neg J]
  rw[e];have h:=hv k mT;have hs:=h.flat (f:=ep) aiz;obtain⟨b,c,e2,e3,_⟩:=id h;exact⟨b,c,e2,e3,λw hm=>hs.gr (ho.mem hm)⟩
attribute [local irreducible] Op.shift Go.bits in
theorem LM(g:d_)(hg:bX g=0)(bp:Option Addr)(cp:Nat)(vb:Nat->Value)(w0:World)(hG:jZ (λq=>q<w0.heap.size) w0 (dE g.aR g.bC (ap bp g.aF.length cp)) g)(zx:T1 (λq=>q<w0.heap.size) w0 vb g.aF)(nZ:0<g.aF.length->∃b off,bp=aj ⟨b,off,ak⟩/\∀i,i<g.aF.length->Rd w0 b (off+i*2) [av az (db g.aF (i:Int)).1,vb i])
 (go gm c:Nat) (f:RK->Option Value) (it:bI.Item) (T:Nat) (hT:T<=30) (hr:eh g.aF T it) (hd:it.2.1.toNat<(fB g.aF it.1).length) (hc:jJ (jW g) f) (hcc:c<=1000000000000000) (w:World) (B:bR) (ho:pC w0 B)
 (hm:Mem B [aP go (Bg g.aR g.bC (ap bp g.aF.length cp) gm).toArray 245,eZ iP gm f c] w):
 Calls aB 112 #[aJ (aj ⟨go,0,ak⟩),aQ (iK it).toArray] w (dc ⟨λ(x:(RK->Option Value)×Nat)=>jJ (jW g) x.1/\x.2<=c+1,λ_=>gD (uB (jW g) it),λx=>[aP go (Bg g.aR g.bC (ap bp g.aF.length cp) gm).toArray 245,eZ iP gm x.1 x.2]⟩ B):=by
 obtain⟨p,d,lo⟩:=it;obtain⟨r1,r2,r3,r4,r5,r6⟩:=hr;dsimp only at r1 r2 r3 r4 r5 r6 hd;obtain⟨k,rfl⟩:=hY r1;obtain⟨dn,rfl⟩:=hY r3;obtain⟨ln,rfl⟩:=hY r5;rw[dB]at hd;have hk:k<=g.aF.length:=by omega
 have G9:=λw' (qV:Mem B [] w')=>sq g.aR g.bC bp cp g.aF vb w0 w' B k hk ho qV (λi hi=>let ⟨b,c,h,_⟩:=zx i hi;⟨b,_,c,h⟩) nZ;have BJ:=λvs body w' (qV:Gr w0 w') hs=>ra _ vs g body 4611686018427387904 w' (hG.gr qV) hs aiz;have hbr:=Pc (k:Int) (dn:Int);have hlt:jW g (k:Int) (dn:Int)<18446744073709551616:=RB aiz;have hb8:=mA (l:=g.aF) (p:=(k:Int)) (λq hq=>((cP hg).2.2.2.2.2 q hq).1);refine dA hm (args:=[aJ (aj ⟨go,0,ak⟩),aQ (iK ((k:Int),(dn:Int),(ln:Int))).toArray]) (n:=61) Tryz.func112 I I I ?_;refine b9 (bz (bQ I I I λg3=>?_));refine zL ?_
 repeat(first|refine GA ?_|refine gV (aC (v:=av az (k:Int)) aK.ty I (aH (i:=2) I I)) ?_|refine gV (aC (v:=av az (dn:Int)) aK.ty I (aH (i:=2) I I)) ?_|refine gV (bB I hbr) ?_)
 refine aY I λg5=>?_;refine zL ?_;refine gh 3 (cs':=#[av az (k:Int),av az (dn:Int)]) ?_;refine zL ?_;have S7:iP.ok ((k:Int),(dn:Int)):=RA (by have:=(cP hg).2.2.2.2.1;omega) J;have S7:iP.ok ((k:Int),(dn:Int)):=RA (by have:=(cP hg).2.2.2.2.1;omega) J;have S7:iP.ok ((k:Int),(dn:Int)):=RA (by have:=(cP hg).2.2.2.2.1;omega) J;have S7:iP.ok ((k:Int),(dn:Int)):=RA (by have:=(cP hg).2.2.2.2.1;omega) J;have Ix:=hc.put ((k:Int),(dn:Int));have Ki:jW g (k:Int) (dn:Int)=BS g ((fB g.aF (k:Int)).drop (dn+1)) 4611686018427387904:=by unfold jW;rw[dB]
 have oo:=hc ((k:Int),(dn:Int));dsimp only at Ix oo;unfold uB;dsimp only;rw[dB];generalize hB0:jW g (k:Int) (dn:Int)=B0 at*
 try refine GA ?_
 cases hf:f ((k:Int),(dn:Int))with
 | some v=>
  have hv:=oo v hf;subst hv;clear G9 BJ Ix oo;refine dK ([aP go (Bg g.aR g.bC (ap bp g.aF.length cp) gm).toArray 245,eZ iP gm f c,aP g3 (aQ (iK ((k:Int),(dn:Int),(ln:Int))).toArray).cells 208,aP g5 #[av az (k:Int),av az (dn:Int)] 272]) (.calm 0 (.calm 1 (.calm 2 (.calm 3 (.calm 4 (.calm 5 (.calm 6 (.calm 7 (.calm 8 (.calm 9 (.calm 10 (.done)))))))))))) (λ_ h=>h) ?_
  repeat(first|refine GW ?_|(refine GN ?_;first|refine QW (aC (v:= .map (aj gm)) aK.ty I (aH (i:=0) I I)) ?_|refine QW (aO (i:=3) aK.ty I I I) ?_|refine QW (oq (x:=((k:Int),(dn:Int))) iP bL.eq LL (i:=1) I I I S7) ?_))
  rw[hf];dsimp only[X2,OZ]
  try refine GA ?_
  have hdv:B0/2^62<=B0:=Af _ _;have ha1:=ad_ (y:=B0/2^62) J;have A7:∀w,(il .shr .u64 (B0:Int) .u64 62).run aB w= .ok (.int .u64 ((B0/2^62:Nat):Int)) w:=λw=>Yf B0 62 64 .u64 .u64 I aiz w;have qZ:∀w,(il .shl .u64 1 .i64 (ln:Int)).run aB w= .ok (.int .u64 ((2^ln:Nat):Int)) w:=λw=>aa4 ln J w
  by_cases cb:B0.testBit 62=aD
  ·rw[if_pos cb]
   have hn:=D9 hlt cb;have fE:B0^^^2^62<18446744073709551616:=IW (n:=64) hlt aiz;have Kf:=q7 fE (yS (m:=ln) J);have FC:B0/2^62 %2=1:=by rw[yY]at cb;exact of_decide_eq_true cb
   generalize B0/2^62=D1 at*;generalize B0^^^2^62=D2 at*;generalize 2^ln=D3 at*
   repeat(first|refine GC ?_|refine gV (oH I I A7) ?_|refine gV (mV I I ha1) ?_|refine gV (de (b:=aE) I I (decide_eq_false J)) ?_|refine gV (Rv I I hn) ?_|refine gV (aC (v:=av az (ln:Int)) aK.ty I (aH (i:=2) I I)) ?_|refine gV (CW I I qZ) ?_|refine gV (ym I I Kf) ?_|refine GB ?_)
   exact cJ I I λw hm=>hm.cB (S:=⟨λ(x:(RK->Option Value)×Nat)=>jJ (jW g) x.1/\x.2<=c+1,λ_=>gD (D2|||D3),λx=>[aP go (Bg g.aR g.bC (ap bp g.aF.length cp) gm).toArray 245,eZ iP gm x.1 x.2]⟩) (f,c) ⟨hc,by omega⟩ [0,1] aiz I
  rw[if_neg cb];have B7:B0/2^62 %2=0:=by
   rw[yY,decide_eq_true_eq]at cb;omega
  generalize B0/2^62=D1 at*
  repeat(first|refine GC ?_|refine gV (oH I I A7) ?_|refine gV (mV I I ha1) ?_|refine gV (de (b:=aD) I I (decide_eq_true J)) ?_|refine GB ?_)
  exact cJ I I λw hm=>hm.cB (S:=⟨λ(x:(RK->Option Value)×Nat)=>jJ (jW g) x.1/\x.2<=c+1,λ_=>gD B0,λx=>[aP go (Bg g.aR g.bC (ap bp g.aF.length cp) gm).toArray 245,eZ iP gm x.1 x.2]⟩) (f,c) ⟨hc,by omega⟩ [0,1] aiz I
 | none=>
  clear oo;refine dK ([aP go (Bg g.aR g.bC (ap bp g.aF.length cp) gm).toArray 245,eZ iP gm f c,aP g3 (aQ (iK ((k:Int),(dn:Int),(ln:Int))).toArray).cells 208,aP g5 #[av az (k:Int),av az (dn:Int)] 272]) (.calm 0 (.calm 1 (.calm 2 (.calm 3 (.calm 4 (.calm 5 (.calm 6 (.calm 7 (.calm 8 (.calm 9 (.calm 10 (.done)))))))))))) (λ_ h=>h) ?_
  repeat(first|refine GW ?_|(refine GN ?_;first|refine QW (aC (v:= .map (aj gm)) aK.ty I (aH (i:=0) I I)) ?_|refine QW (aO (i:=3) aK.ty I I I) ?_|refine QW (oq (x:=((k:Int),(dn:Int))) iP bL.eq LL (i:=1) I I I S7) ?_))
  rw[hf];dsimp only[X2,OZ]
  try refine GA ?_
  refine dK ([aP go (Bg g.aR g.bC (ap bp g.aF.length cp) gm).toArray 245,aP g3 (aQ (iK ((k:Int),(dn:Int),(ln:Int))).toArray).cells 208]) (.calm 0 (.calm 1 (.calm 2 (.calm 3 (.calm 4 (.calm 5 (.calm 6 (.calm 7 (.calm 8 (.calm 9 (.calm 11 (.calm 12 (.calm 13 (.one 10 (.calm 14 (.one 15 (.calm 16 (.calm 17 (.calm 18 (.calm 19 (.done))))))))))))))))))))) (bV [0,2]) ?_
  repeat(first|(refine GN ?_;first|refine QW QP ?_|refine QW (a8 aK.ty I (cs:=[av az g.aR,av az g.bC,ap bp g.aF.length cp]) I (λj v h=>aH (i:=0) I (I6 h))) ?_|refine QW (aC (v:=av az (k:Int)) aK.ty I (aH (i:=1) I I)) ?_|refine QW (aC (v:=av az (dn:Int)) aK.ty I (aH (i:=1) I I)) ?_|refine QW (eM (r:=((dn+1:Nat):Int)) I I J J J) ?_|refine GX ?_)|refine GW ?_)
  refine aL I ?_;refine aW (fI aI.en I I I) (λw hm=>G9 _ (hm.pick [] aiz I)) I I I ?_;rintro x hx
  conv=>arg 8;simp only[zJ,cL,ret,id_eq,yX]
  conv=>arg 7;simp only[yX]
  obtain⟨bb,cc,hv,hlc,qZ⟩:=yZ (W:=B) (i:=4) (L:=[aP go (Bg g.aR g.bC (ap bp g.aF.length cp) gm).toArray 245,eZ iP gm f c,aP g3 (aQ (iK ((k:Int),(dn:Int),(ln:Int))).toArray).cells 208,aP g5 #[av az (k:Int),av az (dn:Int)] 272,AD x]) ho zx hk hx rfl;rw[hv]at qZ⊢;have qD:((fB g.aF (k:Int)).drop (dn+1)).take ((fB g.aF (k:Int)).length-(dn+1))=(fB g.aF (k:Int)).drop (dn+1):=gK (by rw[List.length_drop];exact bm _);have kx:=λw hm=>C8 (i:=dn+1) (j:=(fB g.aF (k:Int)).length) D_ (qZ w hm) J (bm _);rw[qD]at kx;generalize Oh:(fB g.aF (k:Int)).length=m at*;refine aM (bV [0,2]) ?_
  repeat(first|(refine GN ?_;first|refine QW QP ?_|refine QW (qS (i:=dn+1) bL.eq aK.ty I I J hlc) ?_|refine GX ?_)|refine GW ?_)
  refine aL I ?_;refine aW (sZ aI.en I I I I) (λw hm=>BJ _ _ _ (ho.mem hm) (kx w hm)) I I I ?_;intro _ _;refine zL ?_;rw[<-Ki];refine aM (bV [0,2]) ?_
  try refine GW ?_
  try refine GA ?_
  refine dK ([aP go (Bg g.aR g.bC (ap bp g.aF.length cp) gm).toArray 245,aP g5 #[av az (k:Int),av az (dn:Int)] 272]) (.calm 0 (.calm 1 (.calm 2 (.calm 3 (.calm 4 (.calm 5 (.one 6 (.done)))))))) (bV [0,3]) ?_
  repeat(first|refine GW ?_|(refine GN ?_;first|refine QW (aC (v:= .map (aj gm)) aK.ty I (aH (i:=0) I I)) ?_|refine QW (aO (i:=1) aK.ty I I I) ?_))
  refine aL I ?_;refine lX (i:=1) (x:=((k:Int),(dn:Int))) (v:=gD B0) iP bL.eq I I I I S7 J ?_;refine zL ?_;rw[hf];dsimp only[OZ];refine aM (bV [0,3]) ?_
  try refine GW ?_
  try refine GA ?_
  have hdv:B0/2^62<=B0:=Af _ _;have ha1:=ad_ (y:=B0/2^62) J;have A7:∀w,(il .shr .u64 (B0:Int) .u64 62).run aB w= .ok (.int .u64 ((B0/2^62:Nat):Int)) w:=λw=>Yf B0 62 64 .u64 .u64 I aiz w;have qZ:∀w,(il .shl .u64 1 .i64 (ln:Int)).run aB w= .ok (.int .u64 ((2^ln:Nat):Int)) w:=λw=>aa4 ln J w
  by_cases cb:B0.testBit 62=aD
  ·rw[if_pos cb]
   have hn:=D9 hlt cb;have fE:B0^^^2^62<18446744073709551616:=IW (n:=64) hlt aiz;have Kf:=q7 fE (yS (m:=ln) J);have FC:B0/2^62 %2=1:=by rw[yY]at cb;exact of_decide_eq_true cb
   generalize B0/2^62=D1 at*;generalize B0^^^2^62=D2 at*;generalize 2^ln=D3 at*
   repeat(first|refine GC ?_|refine gV (oH I I A7) ?_|refine gV (mV I I ha1) ?_|refine gV (de (b:=aE) I I (decide_eq_false J)) ?_|refine gV (Rv I I hn) ?_|refine gV (aC (v:=av az (ln:Int)) aK.ty I (aH (i:=2) I I)) ?_|refine gV (CW I I qZ) ?_|refine gV (ym I I Kf) ?_|refine GB ?_)
   exact cJ I I λw hm=>hm.cB (S:=⟨λ(x:(RK->Option Value)×Nat)=>jJ (jW g) x.1/\x.2<=c+1,λ_=>gD (D2|||D3),λx=>[aP go (Bg g.aR g.bC (ap bp g.aF.length cp) gm).toArray 245,eZ iP gm x.1 x.2]⟩) (_,c+1) ⟨Ix,bm _⟩ [0,1] aiz I
  rw[if_neg cb];have B7:B0/2^62 %2=0:=by
   rw[yY,decide_eq_true_eq]at cb;omega
  generalize B0/2^62=D1 at*
  repeat(first|refine GC ?_|refine gV (oH I I A7) ?_|refine gV (mV I I ha1) ?_|refine gV (de (b:=aD) I I (decide_eq_true J)) ?_|refine GB ?_)
  exact cJ I I λw hm=>hm.cB (S:=⟨λ(x:(RK->Option Value)×Nat)=>jJ (jW g) x.1/\x.2<=c+1,λ_=>gD B0,λx=>[aP go (Bg g.aR g.bC (ap bp g.aF.length cp) gm).toArray 245,eZ iP gm x.1 x.2]⟩) (_,c+1) ⟨Ix,bm _⟩ [0,1] aiz I
end bZ
namespace bZ
open Go.RowKit cU dM bI Go.Lib Go.Sort
theorem aa'(x:Int)(w:World):Calls aB 160 #[av az x] w λe w'=>e= .returned (.bool aE)/\w'=w:=by
 go_enter Tryz.func160,Tryz.ntmps160
 go_wp2
 go_ret
 exact⟨by simp,rfl⟩
theorem T2(x y:Int)(w:World):Calls aB 132 #[av az x,av az y] w λe w'=>e= .returned (av az (uz x y))/\w'=w:=by
 go_enter Tryz.func132,Tryz.ntmps132
 go_wp2_with (go_at_call 160;refine(aa' _ _).mono ?_;rintro e w' ⟨rfl,hw⟩;rw[hw])
 all_goals (go_ret;refine⟨?_,rfl⟩;unfold uz;(repeat' split)<;>first|rfl|(exfalso;omega))
def orI(a b c:Int):Int:=if a≠0 then a else if b≠0 then b else c
theorem afC{a b c:Int}(h:¬a=0):orI a b c=a:=if_pos h
theorem afD{b c:Int}(h:¬b=0):orI 0 b c=b:=by unfold orI;rw[if_neg (by simp),if_pos h]
theorem acT{c:Int}:orI 0 0 c=c:=by unfold orI;rw[if_neg (by simp),if_neg (by simp)]
theorem ahc(g:Nat)(a b c:Int)(w:World)(h0:w.cell? ⟨g,0,ak⟩=aj (av az a))(h1:w.cell? ⟨g,1,ak⟩=aj (av az b))(h2:w.cell? ⟨g,2,ak⟩=aj (av az c)):
 Calls aB 131 #[ap (aj ⟨g,0,ak⟩) 3 3] w λe w'=>e= .returned (av az (orI a b c))/\w'=w:=by
 go_enter Tryz.func131,Tryz.ntmps131
 go_wp2
 by_cases ha:a=0
 ·subst ha
  refine wp_loop_rounds 4 ?_;rw[rounds_succ]
  go_wp2
  by_cases hb:b=0
  ·subst hb
   rw[rounds_succ]
   go_wp2
   by_cases hc:c=0
   ·subst hc
    rw[rounds_succ]
    go_wp2
    rw[rounds_succ]
    go_wp2
    go_ret
    exact⟨by rw[acT];rfl,rfl⟩
   rw[rounds_succ]
   go_wp2
   go_ret
   exact⟨by rw[acT];rfl,rfl⟩
  rw[rounds_succ]
  go_wp2
  go_ret
  exact⟨by rw[afD hb];rfl,rfl⟩
 ·refine wp_loop_rounds 1 ?_
  rw[rounds_succ]
  go_wp2
  go_ret
  exact⟨by rw[afC ha];rfl,rfl⟩
theorem afE(o1 o2:Obj)(a b c:Int)(T:TypeId)(w:World):
 Calls aB 131 #[ap (aj ⟨w.heap.size+1+1,0,ak⟩) 3 3] (((w.alloc o1).alloc o2).alloc (.cells #[av az a,av az b,av az c] T)).drew λe w'=>e= .returned (av az (orI a b c))/\w'=(((w.alloc o1).alloc o2).alloc (.cells #[av az a,av az b,av az c] T)).drew:=by
 have hg:(((w.alloc o1).alloc o2).alloc (.cells #[av az a,av az b,av az c] T)).drew.heap[w.heap.size+1+1]?=aj (.cells #[av az a,av az b,av az c] T (0,0)):=by
  have h:=heap_alloc_new ((w.alloc o1).alloc o2) (.cells #[av az a,av az b,av az c] T);have e:((w.alloc o1).alloc o2).heap.size=w.heap.size+1+1:=by
   show((w.heap.push o1).push o2).size=_
   rw[OT,OT]
  rw[e]at h;exact h
 exact ahc _ a b c _ (cell_of_row _ _ 0 _ T (0,0) hg) (cell_of_row _ _ 1 _ T (0,0) hg) (cell_of_row _ _ 2 _ T (0,0) hg)
end bZ
namespace bZ
open Go.RowKit cU dM bI Go.Lib Go.Sort
theorem Yg(a b:Obj)(w:World):((w.alloc a).alloc b).heap[w.heap.size]?=aj a/\((w.alloc a).alloc b).heap[w.heap.size+1]?=aj b:=by
 have e:(w.alloc a).heap.size=w.heap.size+1:=by
  show(w.heap.push a).size=_
  rw[OT]
 constructor
 ·rw[heap_alloc_old (w.alloc a) b J]
  exact heap_alloc_new w a
 have h:=heap_alloc_new (w.alloc a) b;rw[e]at h;exact h
theorem Pd(a b c:Obj)(w:World):(((w.alloc a).alloc b).alloc c).drew=grow (w.drewN 1) #[a,b,c]:=by
 rw[alloc_eq_grow,alloc_eq_grow,alloc_eq_grow,grow_grow,grow_grow];rfl
theorem aba(x y:bI.Item)(w:World):Calls aB 114 #[aQ (iK x).toArray,aQ (iK y).toArray] w λe w'=>e= .returned (av az (LD x y))/\∃q os',w'=grow (w.drewN q) os':=by
 obtain⟨x1,x2,x3⟩:=x;obtain⟨y1,y2,y3⟩:=y;have ho:LD (x1,x2,x3) (y1,y2,y3)=orI (uz x1 y1) (uz x2 y2) (uz x3 y3):=rfl;rw[ho];clear ho;unfold iK;dsimp only;obtain⟨t1,t2⟩:=Yg (.cells #[av az x1,av az x2,av az x3] 208) (.cells #[av az y1,av az y2,av az y3] 208) w;have k1:=cell_of_row _ _ 0 _ _ (0,0) t1;have k2:=cell_of_row _ _ 1 _ _ (0,0) t1;have k3:=cell_of_row _ _ 2 _ _ (0,0) t1;have k4:=cell_of_row _ _ 0 _ _ (0,0) t2;have k5:=cell_of_row _ _ 1 _ _ (0,0) t2;have k6:=cell_of_row _ _ 2 _ _ (0,0) t2;clear t1 t2
 go_enter Tryz.func114,Tryz.ntmps114
 go_wp2
 go_region_held (λw'=>w'.cell? ⟨w.heap.size,0,ak⟩=aj (av az x1)/\w'.cell? ⟨w.heap.size,1,ak⟩=aj (av az x2)/\w'.cell? ⟨w.heap.size,2,ak⟩=aj (av az x3)/\w'.cell? ⟨w.heap.size+1,0,ak⟩=aj (av az y1)/\w'.cell? ⟨w.heap.size+1,1,ak⟩=aj (av az y2)/\w'.cell? ⟨w.heap.size+1,2,ak⟩=aj (av az y3)) (go_keep) (first|(go_at_call 132;refine(T2 _ _ _).mono ?_;rintro e w' ⟨rfl,rfl⟩)|(go_at_call 131;have hzz:=(afE (.cells #[av az x1,av az x2,av az x3] 208) (.cells #[av az y1,av az y2,av az y3] 208) (uz x1 y1) (uz x2 y2) (uz x3 y3) 3 w);refine hzz.mono ?_;clear hzz;rintro e w' ⟨rfl,rfl⟩))
 go_wp2
 go_ret
 refine⟨rfl,1,#[.cells #[av az x1,av az x2,av az x3] 208,.cells #[av az y1,av az y2,av az y3] 208,.cells #[av az (uz x1 y1),av az (uz x2 y2),av az (uz x3 y3)] 3],?_⟩;exact Pd _ _ _ w
end bZ
namespace bZ
open Go.RowKit cU dM aT dL dG bI
theorem Pe(t n:Int)(vp:Value)(gm:Nat)(w:World):(df 245 #[(0,dE t n vp),(1,.map (aj gm))]).run aB w= .ok (aQ (Bg t n vp gm).toArray) w:=by kernel_rfl
def abb(t n:Int)(vp:Value):Spec (Nat×Nat):=⟨λ_=>True,λx=>aJ (aj ⟨x.1,0,ak⟩),λx=>[eZ iP x.2 (λ_=>ak) 0,aP x.1 (Bg t n vp x.2).toArray 245]⟩
theorem I7(t n:Int)(vp:Value)(w:World):Calls aB 81 #[dE t n vp] w (cz (abb t n vp) w):=by
 have hb:=Pe t n vp;refine enter (args:=[dE t n vp]) (n:=7) Tryz.func81 I I I ?_;refine b9 (bz (bQ I I I λg1=>?_));refine zL ?_
 repeat(first|refine GA ?_|refine gV (aO (i:=0) aK.ty I I I) ?_)
 refine xl iP I λgm=>?_;refine zL ?_
 repeat(first|refine GA ?_|refine gV (bB I (hb _)) ?_)
 refine bQ I I I λgo=>?_;refine zL ?_
 try refine GA ?_
 exact cJ I I λw hm=>hm.meets (S:=abb t n vp) (go,gm) trivial [1,2] aiz I
end bZ
namespace bZ
open Go.RowKit cU dM aT dL dG bI
theorem I8{x:Int}(h0:0<=x)(h1:x<256):IT.wrap x=(((fx x.toNat).toNat:Nat):Int):=by
 obtain⟨n,rfl⟩:=hY h0;rw[dB,IS];simp
theorem G_(l:List bI.Item):(ii l).length=3*l.length:=by
 induction l with
 |nil=>rfl
 |cons x r ih=>
  have:ii (x::r)=[fx x.1.toNat,fx x.2.1.toNat,fx x.2.2.toNat]++ii r:=rfl;rw[this,bK,ih,c_];show 3+3*r.length=3*(r.length+1)
  omega
theorem Pf{l:List bI.Item}{k:Nat}(h:k<l.length):ii (l.take (k+1))=ii (l.take k)++[fx l[k].1.toNat,fx l[k].2.1.toNat,fx l[k].2.2.toNat]:=by
 unfold ii;rw[iq h,gO];rfl
theorem Ea(vl:Value)(l:List bI.Item)(w:World)(hl:Sl w vl l.length (l.flatMap iK))(hb:∀it∈l,0<=it.1/\it.1<256/\0<=it.2.1/\it.2.1<256/\0<=it.2.2/\it.2.2<256)(hn:l.length<=20000):
 Calls aB 83 #[vl] w (cz (ret (str (ii l))) w):=by
 obtain⟨bl,cl,rfl,oo,yv,Fk⟩:=hl;unfold maxLen at yv;refine enter (args:=[ap bl l.length cl]) (n:=27) Tryz.func83 I I I ?_
 try refine GA ?_
 refine ja 5 1 ?_
 conv=>arg 7;simp only[zA,zB,zC,zD,zE,zF,zG,zH,zI,cL,ret,id_eq]
 refine dY (ι:=Nat×Value) (λ(k,_)=>k<=l.length) (λ(k,v)=>[(3,v),(6,ap bl l.length cl),(7,av az l.length),(8,av az (k:Int))])
  (λ(k,v)=>[a_ 5 1 v (ii (l.take k)).length ((ii (l.take k)).map VU)]) (λ(k,_)=>l.length-k) (0,ap ak 0 0) (bH _) ?_
 rintro⟨k,v⟩ i1;dsimp only at i1⊢
 by_cases c1:k<l.length
 ·obtain⟨b,off,rfl,eL⟩:=Fk J
  have dz:=λL=>gG (L:=L) lA eL c1;have Eb:∀(L:List b_) (j:Nat) (u:Value),(iK l[k])[j]?=aj u->At (w:bR) L ⟨b,off+k*3+j,ak⟩ u:=dz;clear dz Fk eL;obtain⟨b1,b2,b3,b4,b5,b6⟩:=hb l[k] (cD c1);have uH:=Pf c1;have wE:(ii (l.take k)).length<=60000:=by rw[G_,iU];omega
  generalize l[k]=x at*;obtain⟨p,d,lo⟩:=x;dsimp only at b1 b2 b3 b4 b5 b6 uH;have e1:=I8 b1 b2;have e2:=I8 b3 b4;have e3:=I8 b5 b6;generalize fx p.toNat=y1 at*;generalize fx d.toNat=y2 at*;generalize fx lo.toNat=y3 at*;generalize hN:ii (l.take k)=N at*
  repeat(first|refine GA ?_|refine gV (aX bL.eq aK.ty I I c1) ?_|refine gV (a8 (cs:=iK (p,d,lo)) aK.ty I I (Eb _)) ?_)
  refine aY I λg5=>?_;refine zL ?_;refine gh 1 (cs':=(iK (p,d,lo)).toArray) ?_;refine zL ?_
  repeat(first|refine GA ?_|refine gV (aC (v:=av az p) aK.ty I (aH (i:=1) I I)) ?_|refine gV (aC (v:=av az d) aK.ty I (aH (i:=1) I I)) ?_|refine gV (aC (v:=av az lo) aK.ty I (aH (i:=1) I I)) ?_|refine gV (iL bL.eq bL.eq I e1) ?_|refine gV (iL bL.eq bL.eq I e2) ?_|refine gV (iL bL.eq bL.eq I e3) ?_)
  refine QJ [VU y1,VU y2,VU y3] I I I (by intro v hv;simp at hv;rcases hv with rfl|rfl|rfl<;>rfl) I I λg22=>?_;refine zL ?_;refine eD (i:=0) (e:=5) (size:=1) (bytes:=1) (m:=N.length) (xs:=N.map VU) (k:=3) (ys:=[VU y1,VU y2,VU y3]) I (kX (i:=2) I (λj u h=>by simpa using h) (bm 3) aiz) I I I (by intro u hu;simp at hu;rcases hu with rfl|rfl|rfl<;>rfl) J J I λv'=>?_;refine zL ?_
  try refine GA ?_
  refine dh [0] ?_;exact bW (k+1,v') (by show k+1<=l.length;omega) (by show l.length-(k+1)<l.length-k;omega) (hl:=by dsimp only;rw[uH,bK,eO];rfl)
 ·obtain rfl:k=l.length:=by omega
  rw[my]
  repeat(first|refine GA ?_|refine gV (SN bL.eq bL.eq bL.eq I I (lI (i:=0) I)) ?_)
  exact eE
theorem FJ(T N:Nat)(hT:T<=1000)(hN:N<=1000)(vp:Value)(w:World):
 Calls aB 85 #[dE (T:Int) (N:Int) vp] w (cz (cL 156 2 (mC T N).length ((mC T N).flatMap ep) id) w):=by
 have FC:=λ(q:Int)=>G7 1 q;have Nn:=λ(q:Int)=>G7 2 q;refine enter (args:=[dE (T:Int) (N:Int) vp]) (n:=29) Tryz.func85 I I I ?_;refine b9 (bz (bQ I I I λg1=>?_));refine zL ?_
 repeat(first|refine GA ?_|refine gV (aC (v:=av az (T:Int)) aK.ty I (aH (i:=0) I I)) ?_)
 refine ja 156 2 ?_
 conv=>arg 7;simp only[zA,zB,zC,zD,zE,zF,zG,zH,zI,cL,ret,id_eq]
 refine dY (ι:=Nat×Value) (λ(k,_)=>k<=T) (λ(k,v)=>[(1,aJ (aj ⟨g1,0,ak⟩)),(3,v),(7,av az (T:Int)),(8,av az (k:Int))])
  (λ(k,v)=>[aP g1 (dE (T:Int) (N:Int) vp).cells 34,a_ 156 2 v ((dV k).map (λn:Nat=>((1:Int),(n:Int)))).length (((dV k).map (λn:Nat=>((1:Int),(n:Int)))).flatMap ep)]) (λ(k,_)=>T-k) (0,ap ak 0 0) (bH _) ?_
 rintro⟨k,v⟩ i1;dsimp only at i1⊢
 by_cases c1:k<T
 ·have uH:(dV (k+1)).map (λn:Nat=>((1:Int),(n:Int)))=(dV k).map (λn:Nat=>((1:Int),(n:Int)))++[((1:Int),(k:Int))]:=by rw[xO,eO];rfl
  have wE:((dV k).map (λn:Nat=>((1:Int),(n:Int)))).length=k:=by rw[dI,um]
  generalize hA:(dV k).map (λn:Nat=>((1:Int),(n:Int)))=A at*
  repeat(first|refine GA ?_|refine gV (bB I (FC _)) ?_)
  refine jk (i:=1) I I I I I I I (λz h=>by cases h;rfl) J J I λz v'=>?_;refine zL ?_
  try refine GA ?_
  exact bW (k+1,v') (by show k+1<=T;omega) (by show T-(k+1)<T-k;omega) (hl:=by dsimp only;rw[uH,bK,gO];rfl)
 obtain rfl:k=T:=by omega
 have wE:((dV k).map (λn:Nat=>((1:Int),(n:Int)))).length=k:=by rw[dI,um]
 have hS:mC k N=(dV k).map (λn:Nat=>((1:Int),(n:Int)))++(dV N).map (λn:Nat=>((2:Int),(n:Int))):=rfl;generalize mC k N=S at*;generalize hA:(dV k).map (λn:Nat=>((1:Int),(n:Int)))=A at*
 repeat(first|refine GA ?_|refine gV (aC (v:=av az (N:Int)) aK.ty I (aH (i:=0) I I)) ?_)
 refine nO (ι:=Nat×Value) (λ(j,_)=>j<=N) (λ(j,v)=>[(3,v),(18,av az (N:Int)),(19,av az (j:Int))])
  (λ(j,v)=>[aP g1 (dE (k:Int) (N:Int) vp).cells 34,a_ 156 2 v (A++(dV j).map (λn:Nat=>((2:Int),(n:Int)))).length ((A++(dV j).map (λn:Nat=>((2:Int),(n:Int)))).flatMap ep)]) (λ(j,_)=>N-j) (0,v) (bH _) (by repeat' (first|exact cI|refine cC I ?_)) (by simp only[List.range_zero,qk,eG]) ?_
 rintro⟨j,v⟩ j1;dsimp only at j1⊢
 by_cases c2:j<N
 ·have uH:A++(dV (j+1)).map (λn:Nat=>((2:Int),(n:Int)))=(A++(dV j).map (λn:Nat=>((2:Int),(n:Int))))++[((2:Int),(j:Int))]:=by rw[xO,eO,eY];rfl
  have aia:(A++(dV j).map (λn:Nat=>((2:Int),(n:Int)))).length<=2000:=by rw[bK,dI,um];omega
  generalize hD:A++(dV j).map (λn:Nat=>((2:Int),(n:Int)))=D at*
  repeat(first|refine GA ?_|refine gV (bB I (Nn _)) ?_)
  refine jk (i:=1) I I I I I I I (λz h=>by cases h;rfl) J J I λz v'=>?_;refine zL ?_
  try refine GA ?_
  exact bW (j+1,v') (by show j+1<=N;omega) (by show N-(j+1)<N-j;omega) (hl:=by dsimp only;rw[uH,bK,gO];rfl)
 obtain rfl:j=N:=by omega
 rw[<-hS]
 try refine GA ?_
 exact cJ I I λw hm=>hm.meets (S:=cL 156 2 S.length (S.flatMap ep) id) v trivial [1] aiz I
end bZ
namespace bZ
open Go.RowKit cU dM aT dL dG bI cT
def I9:vO bI.Item:=yw iK 3 (λ_=>rfl) (λ_=>True)
theorem I_{κ τ:Type}[DecidableEq κ][DecidableEq τ](f:κ->τ)(x:κ):∀(D:List κ),(∀y∈D,f y=f x->y=x)->idx (D.map f) (f x)=idx D x
 |[],_=>rfl
 | y::D,h=>by
  have ih:=I_ f x D λz hz=>h z (kC _ hz);unfold idx at ih⊢;rw[gd,XY,XY,ih]
  by_cases e:y=x
  subst e;simp;have:¬f y=f x:=λe2=>e (h y (gZ ..) e2);rw[show(f y==f x)=aE by simpa using this,show(y==x)=aE by simpa using e]
def vX(s:List bI.Item):Prop:=∀it∈s,0<=it.1/\it.1<256/\0<=it.2.1/\it.2.1<256/\0<=it.2.2/\it.2.2<256
theorem T3{S:List (List bI.Item)}{s:List bI.Item}(hS:∀t∈S,vX t)(hs:vX s):ii s∈S.map ii↔s∈S:=by
 constructor
 ·intro h
  obtain⟨t,ht,e⟩:=fa.1 h;rw[<-D8 (hS t ht) hs e];exact ht
 exact List.mem_map_of_mem
def stL(g6 gm g7:Nat)(vS vN:Value)(vY:List Value)(F:Nat->Prop)(S:List (List bI.Item)):List b_:=
 [aP g6 #[.map (aj gm)] 109,eZ hZ gm (ki (S.map ii)) S.length,aP g7 #[vS,vN] 140,a_ 203 1 vS S.length vY,dZ (bM I9) F (vY.map λv=>[v]) S]
theorem y0{w:World}{e:TypeId}{size n:Nat}{v:Value}{xs:List Value}(h:(a_ e size v n xs).holds w):∀k,v.ownBlock=aj k->k<w.heap.size:=λk hk=>(a_ e size v n xs).lt w h k (.inl hk)
theorem T4{w:World}{v:Value}{l:List bI.Item}(h:(a_ 208 3 v l.length (l.flatMap iK)).holds w):(bM I9).is (λk=>v.ownBlock=aj k) w [v] l:=
 ⟨v,rfl,jQ.of_flat (Sl.dy h) (λ_ _=>trivial) (λ_ h=>h) (λa n cp hv=>by rw[hv];rfl)⟩
theorem Bh(g6 gm g7:Nat)(vS vN:Value)(vY:List Value)(F:Nat->Prop)(S:List (List bI.Item))(vl:Value)(s:List bI.Item)(hS:∀t∈S,vX t)(hs:vX s)(hSl:S.length<=1000)(qZ:s.length<=20000)(w:World)(B:bR)
 (hm:Mem B (stL g6 gm g7 vS vN vY F S++[a_ 208 3 vl s.length (s.flatMap iK)]) w):
 Calls aB 82 #[vl,aJ (aj ⟨g6,0,ak⟩),aJ (aj ⟨g7,0,ak⟩)] w (dc ⟨λ(_:Value×List Value×(Nat->Prop))=>True,λ_=>av az ((iW S s).1:Int),λx=>stL g6 gm g7 x.1 vN x.2.1 x.2.2 (iW S s).2⟩ B):=by
 have Bi:=T3 hS hs;have hix:=I_ ii s S λt ht e=>D8 (hS t ht) hs e;have lf:hZ.ok (ii s):=by
  show(ii s).length<=9223372036854775807
  rw[G_];omega
 unfold stL at hm;refine dA hm (args:=[vl,aJ (aj ⟨g6,0,ak⟩),aJ (aj ⟨g7,0,ak⟩)]) (n:=30) Tryz.func82 I I I ?_;refine io (i:=3) I fV λgC=>?_;obtain⟨aS,cS,rfl,-⟩:=gC
 try refine GA ?_
 refine dK ([aP g6 #[.map (aj gm)] 109,eZ hZ gm (ki (S.map ii)) S.length,a_ 208 3 vl s.length (s.flatMap iK)]) (.calm 0 (.calm 1 (.calm 2 (.calm 3 (.calm 4 (.calm 5 (.calm 6 (.calm 7 (.calm 8 (.done)))))))))) (bV [0,1,5]) ?_
 repeat(first|refine GW ?_|(refine GN ?_;first|refine QW (aC (v:= .map (aj gm)) aK.ty I (aH (i:=0) I I)) ?_))
 refine n_ I (iM aI.en I I) (λw hm=>Ea vl s w (Sl.dy (hm.get (i:=2) I)) hs qZ) I I I ?_
 by_cases c:s∈S
 ·have hst:iW S s=(idx S s,S):=if_pos c
  rw[hst]
  repeat(first|refine GW ?_|(refine GN ?_;first|refine QW (t_ (K:=hZ) (x:=ii s) bL.eq nH (i:=1) I I I lf (Bi.2 c)) ?_))
  rw[hix]
  try refine GA ?_
  exact cJ I I λw hm=>hm.cB (S:=⟨λ(_:Value×List Value×(Nat->Prop))=>True,λ_=>av az (idx S s:Int),λx=>stL g6 gm g7 x.1 vN x.2.1 x.2.2 S⟩) (ap aS S.length cS,vY,F) trivial [0,1,2,3,4] aiz I
 ·have hst:iW S s=(S.length,S++[s]):=if_neg c
  rw[hst];have hn:ii s∉S.map ii:=λh=>c (Bi.1 h);have FH:=GF hn;have afF:ki (S.map ii) (ii s)=none:=if_neg hn;rw[dI]at FH;clear hix Bi
  repeat(first|refine GW ?_|(refine GN ?_;first|refine QW (t' (K:=hZ) (x:=ii s) bL.eq nH (i:=1) I I I lf hn) ?_))
  repeat(first|refine GA ?_|refine gV (aC (v:=ap aS S.length cS) aK.ty I (aH (i:=2) I I)) ?_)
  refine dK ([aP g6 #[.map (aj gm)] 109,a_ 208 3 vl s.length (s.flatMap iK)]) (.calm 0 (.calm 1 (.calm 2 (.calm 3 (.one 4 (.done)))))) (bV [0,5]) ?_
  repeat(first|refine GW ?_|(refine GN ?_;first|refine QW (aC (v:= .map (aj gm)) aK.ty I (aH (i:=0) I I)) ?_))
  refine n_ I (iM aI.en I I) (λw hm=>Ea vl s w (Sl.dy (hm.get (i:=1) I)) hs qZ) I I I ?_
  try refine GW ?_
  refine aL I ?_;refine lX (i:=1) (x:=ii s) (v:=av az (S.length:Int)) hZ bL.eq I I I I lf J ?_;refine zL ?_;rw[FH,afF,if_neg aiz];refine aM (bV [0,5]) ?_
  try refine GW ?_
  repeat(first|refine GA ?_|refine gV (aC (v:=ap aS S.length cS) aK.ty I (aH (i:=2) I I)) ?_)
  refine aU (i:=5) I λQR J'=>?_;refine jN (i:=3) I I QR J' I I (λz h=>by cases h;rfl) J J I λz vS'=>?_;refine zL ?_;refine oK (dZ (bM I9) (λk=>F k\/vl.ownBlock=aj k) ((vY.map λv=>[v])++[[vl]]) (S++[s])) 5 4 [0,1,2,3] aiz I I I (λk hk=>hk.elim (λh=>by cases h) λh=>h.elim (λh=> .inr (.inr h)) λh=> .inl (.inl h)) (λw hr he=>mj he (T4 hr) (y0 hr)) ?_;refine zL ?_
  try refine GA ?_
  refine aU (i:=3) I λkK lz=>bU (i:=2) I I I kK lz I ?_;refine zL ?_
  try refine GA ?_
  exact cJ I I λw hm=>hm.cB (S:=⟨λ(_:Value×List Value×(Nat->Prop))=>True,λ_=>av az (S.length:Int),λx=>stL g6 gm g7 x.1 vN x.2.1 x.2.2 (S++[s])⟩) (vS',vY++[vl],λk=>F k\/vl.ownBlock=aj k) trivial [0,1,2,3,4] aiz (by dsimp only[stL];rw[eO,eO,bK];rfl)
end bZ
namespace cT
section
variable(A:tY)(bl:Nat->Nat)
def Ec(Q:List Nat)(tq:Int):List Nat:=if bl tq.toNat∈Q.map bl then Q else Q++[tq.toNat]
def pq(Q:List Nat)(tq:Int):List Nat×Int:=if val bl tq=0 then(Q,-1)else(Ec bl Q tq,(idx ((Ec bl Q tq).map bl) (bl tq.toNat):Int))
def kN(q:Nat)(Q:List Nat):Nat->List Nat×List Int
 |0=>(Q,[])
 |k+1=>((pq bl (kN q Q k).1 (A.d q k)).1,(kN q Q k).2++[(pq bl (kN q Q k).1 (A.d q k)).2])
def vec(l:List Int):Row:=xQ λb:Fin 256=>l.getD b 0
def wF:Nat->Nat->List Nat->List Row->List Nat×List Row
 |0,_,Q,out=>(Q,out)
 |f+1,n,Q,out=>if n<Q.length then wF f (n+1) (kN A bl (Q.getD n 0) Q 256).1 (out++[vec (kN A bl (Q.getD n 0) Q 256).2])else(Q,out)
def pL:List Nat×List Row:=wF A bl (A.n+1) 0 [0] []
end
def Pg(A:tY):tY:=⟨(pL A (dN A)).1.length,λk b=>((pL A (dN A)).2.getD k (eb 256 0)).toList.getD b 0,λk=>((pL A (dN A)).1.map A.tag).getD k 0⟩
section
variable{A:tY}{bl:Nat->Nat}
structure T5(A:tY)(bl:Nat->Nat)(Q:List Nat):Prop where
 head:∃R,Q=0::R/\∀q∈R,bl q≠0
 lt:∀q∈Q,q<A.n
 nodup:(Q.map bl).Nodup
theorem T5.len{Q:List Nat}(h:T5 A bl Q):Q.length<=A.n/\0<Q.length:=by
 have h1:Q.Nodup:=ad2 bl (λa b hne e=>hne (by rw[e])) h.nodup;refine⟨ny h1 h.lt,?_⟩;obtain⟨R,rfl,_⟩:=h.head;simp
theorem afG(hA:A.Ok):T5 A bl [0]:=⟨⟨[],rfl,by simp⟩,λq hq=>by simp at hq;subst hq;exact hA.pos,by simp⟩
theorem abc{Q:List Nat}(h:T5 A bl Q){tq:Int}(h1:St A tq)(h0:val bl tq≠0):T5 A bl (Ec bl Q tq):=by
 unfold Ec;unfold val at h0;split at h0;exact absurd I h0;split;exact h
 rename_i aib hn
 unfold St at h1;obtain⟨R,rfl,hR⟩:=h.head;refine⟨⟨R++[tq.toNat],rfl,λq hq=>?_⟩,λq hq=>?_,?_⟩
 ·rcases fj.1 hq with hq|hq
  exact hR q hq;simp at hq;subst hq;exact h0
 ·rcases fj.1 hq with hq|hq
  exact h.lt q hq;simp at hq;subst hq;omega
 rw[eO];refine Df.2 ⟨h.nodup,by simp,λa ha b hb e=>?_⟩;simp at hb;subst hb e;exact hn ha
theorem abd(Q:List Nat)(tq:Int):∃E,Ec bl Q tq=Q++E:=by
 unfold Ec;split;exact⟨[],by simp⟩;exact⟨_,rfl⟩
theorem abe(Q:List Nat)(tq:Int):bl tq.toNat∈(Ec bl Q tq).map bl:=by
 unfold Ec;split
 assumption
 simp
theorem LN{Q:List Nat}(h:T5 A bl Q){tq:Int}(h1:St A tq):T5 A bl (pq bl Q tq).1:=by
 unfold pq;split;exact h
 rename_i h0;exact abc h h1 h0
theorem LO(Q:List Nat)(tq:Int):∃E,(pq bl Q tq).1=Q++E:=by
 unfold pq;split;exact⟨[],by simp⟩;exact abd Q tq
theorem I'(q:Nat)(Q:List Nat):∀k,(kN A bl q Q k).2.length=k
 |0=>rfl
 |k+1=>by simp[kN,I' q Q k]
theorem ahd(hA:A.Ok){q:Nat}(hq:q<A.n){b:Nat}(hb:b<256):St A (A.d q b):=hA.step q hq b hb
theorem Cn(hA:A.Ok){Q:List Nat}(h:T5 A bl Q){q:Nat}(hq:q<A.n):∀k,k<=256->T5 A bl (kN A bl q Q k).1
 |0,_=>h
 |k+1,hk=>LN (Cn hA h hq k J) (ahd hA hq J)
theorem Ja(q:Nat)(Q:List Nat):∀k,∃E,(kN A bl q Q k).1=Q++E
 |0=>⟨[],by simp[kN]⟩
 |k+1=>by
  obtain⟨E,h⟩:=Ja q Q k;obtain⟨E',h'⟩:=LO (bl:=bl) (kN A bl q Q k).1 (A.d q k);exact⟨E++E',by simp only[kN];rw[h',h,eY]⟩
def Bj(A:tY)(bl:Nat->Nat)(Q:List Nat)(q b:Nat)(x:Int):Prop:=(val bl (A.d q b)=0->x= -1)/\(val bl (A.d q b)≠0->val bl (A.d q b)∈Q.map bl/\x=(idx (Q.map bl) (val bl (A.d q b)):Int))
theorem Bj.more{Q:List Nat}{q b:Nat}{x:Int}(h:Bj A bl Q q b x)(E:List Nat):Bj A bl (Q++E) q b x:=by
 refine⟨h.1,λh0=>?_⟩;obtain⟨h1,h2⟩:=h.2 h0;rw[eO,pU h1];exact⟨xu _ h1,h2⟩
theorem abf(Q:List Nat)(q b:Nat):Bj A bl (pq bl Q (A.d q b)).1 q b (pq bl Q (A.d q b)).2:=by
 unfold pq;split
 ·rename_i h;exact⟨λ_=>rfl,λh'=>absurd h h'⟩
 rename_i h
 refine⟨λh'=>absurd h' h,λ_=>?_⟩;have e:val bl (A.d q b)=bl (A.d q b).toNat:=by
  unfold val at h⊢;split at h;exact absurd I h
  rename_i hn;rw[if_neg hn]
 rw[e];exact⟨abe Q _,rfl⟩
theorem Yh(q:Nat)(Q:List Nat):∀k b,b<k->Bj A bl (kN A bl q Q k).1 q b ((kN A bl q Q k).2.getD b 0)
 |0,_,h=>by omega
 | k +1,b,h=>by
  have hl:=I' (A:=A) (bl:=bl) q Q k;simp only[kN]
  by_cases c:b<k
  ·have ih:=Yh q Q k b c
   obtain⟨E,e⟩:=LO (bl:=bl) (kN A bl q Q k).1 (A.d q k);rw[e,jl J];exact ih.more E
  obtain rfl:b=k:=by omega
  rw[mW J,hl,nT];exact abf _ q b
theorem abg(l:List Int)(b:Nat)(hb:b<256):(vec l).toList.getD b 0=l.getD b 0:=by
 have h:b<(vec l).toList.length:=by simp;exact hb
 rw[cH,bD h,kD,nU];unfold vec;rw[ke]
structure T6(A:tY)(bl:Nat->Nat)(n:Nat)(Q:List Nat)(out:List Row):Prop where
 len:out.length=n
 le:n<=Q.length
 rows:∀k,k<n->∀b,b<256->Bj A bl Q (Q.getD k 0) b ((out.getD k (eb 256 0)).toList.getD b 0)
theorem G'(_:A.Ok){n:Nat}{Q:List Nat}{out:List Row}(h:T6 A bl n Q out)(hn:n<Q.length):T6 A bl (n+1) (kN A bl (Q.getD n 0) Q 256).1 (out++[vec (kN A bl (Q.getD n 0) Q 256).2]):=by
 obtain⟨E,e⟩:=Ja (A:=A) (bl:=bl) (Q.getD n 0) Q 256;have hr:=Yh (A:=A) (bl:=bl) (Q.getD n 0) Q 256;have hlen:=h.len;refine⟨by simp[hlen],by rw[e];simp;omega,λk hk b hb=>?_⟩;have mT:k<Q.length:=by omega
 rw[e]at hr⊢;rw[jl mT]
 by_cases c:k<n
 ·rw[jl J]
  exact(h.rows k c b hb).more E
 obtain rfl:k=n:=by omega
 rw[mW J,hlen,nT];show Bj A bl (Q++E) (Q.getD k 0) b ((vec _).toList.getD b 0)
 rw[abg _ b hb];exact hr b hb
theorem y6{Q:List Nat}{n:Nat}(h:n<Q.length):Q.getD n 0∈Q:=by
 rw[cH,bD h];exact cD h
theorem Yi(hA:A.Ok):∀(f n:Nat) (Q:List Nat) (out:List Row),T5 A bl Q->T6 A bl n Q out->A.n+1<=f+n->T5 A bl (wF A bl f n Q out).1/\T6 A bl (wF A bl f n Q out).1.length (wF A bl f n Q out).1 (wF A bl f n Q out).2
 |0,n,Q,out,hQ,hO,hf=>by have:=hQ.len;have:=hO.le;omega
 | f +1,n,Q,out,hQ,hO,hf=>by
  unfold wF;split
  ·rename_i hn
   exact Yi hA f _ _ _ (Cn hA hQ (hQ.lt _ (y6 hn)) 256 (bm _)) (G' hA hO hn) J
  rename_i hn
  have:=hO.le;obtain rfl:n=Q.length:=by omega
  exact⟨hQ,hO⟩
theorem Ph(hA:A.Ok):T5 A bl (pL A bl).1/\T6 A bl (pL A bl).1.length (pL A bl).1 (pL A bl).2:=
 Yi hA _ _ _ _ (afG hA) ⟨rfl,bH _,λk hk=>by omega⟩ J
theorem Yj(hA:A.Ok){k:Nat}(hk:k<(Pg A).n){b:Nat}(hb:b<256):Bj A (dN A) (pL A (dN A)).1 ((pL A (dN A)).1.getD k 0) b ((Pg A).d k b):=
 (Ph (bl:=dN A) hA).2.rows k hk b hb
theorem I_{Q:List Nat}(hn:(Q.map bl).Nodup){k:Nat}(hk:k<Q.length):idx (Q.map bl) (bl (Q.getD k 0))=k:=by
 have h:k<(Q.map bl).length:=by simpa using hk
 have:=Dk hn h;rw[r9]at this;rw[cH,bD hk];exact this
theorem abh{k:Nat}(hk:k<(Pg A).n):(Pg A).tag k=A.tag ((pL A (dN A)).1.getD k 0):=by
 have mT:k<(pL A (dN A)).1.length:=hk;show((pL A (dN A)).1.map A.tag).getD k 0=_
 rw[cH,eX,cH,bD mT];rfl
theorem abi(hA:A.Ok):(Pg A).Ok:=by
 obtain⟨hQ,hO⟩:=Ph (bl:=dN A) hA;obtain⟨h1,h2⟩:=hQ.len;have hle:=hA.le;refine⟨h2,fv h1 hle,λk hk b hb=>?_,λk hk=>by rw[abh hk];exact hA.tags _ (hQ.lt _ (y6 hk))⟩;have hr:=Yj hA hk hb
 by_cases c:val (dN A) (A.d ((pL A (dN A)).1.getD k 0) b)=0
 rw[hr.1 c];exact⟨by omega,by omega⟩;obtain⟨r1,r2⟩:=hr.2 c;have:=oO r1;rw[dI]at this;rw[r2];exact⟨by omega,by show _<((pL A (dN A)).1.length:Int);omega⟩
end
end cT
namespace cT
section
variable{A B:tY}
def Pj(A B:tY)(q r:Int):Prop:=∀s,tg A (go A q s)=tg B (go B r s)
theorem Pj.step{q r:Int}(h:Pj A B q r)(b:Nat)(hb:b<256):Pj A B (dt A q b) (dt B r b):=λs=>by
 have:=h (fx b::s);have e:(fx b).toNat=b:=by simp;omega
 simp only[go,e]at this;exact this
theorem y7(f:Nat->Nat)(q:Nat):val f (q:Int)=f q:=by unfold val;rw[if_neg J,dB]
end
end cT
namespace cT
abbrev Pr:=Int×Int
abbrev Step:=Pr×Int×Nat
def Pk:Step:=((0,0),-1,0)
section
end
def back(todo:List Step):Nat->Nat->List UInt8
 |0,_=>[]
 |f+1,i=>if(todo.getD i Pk).2.1<0 then []else fx (todo.getD i Pk).2.2::back todo f (todo.getD i Pk).2.1.toNat
section
end
end cT
namespace bZ
open Go.RowKit cU dM yC cT
def eH(r:Row):List Value:=r.toList.map (.int .i16)
theorem dw(r:Row):(eH r).length=256:=by simp[eH]
theorem pt(r:Row){b:Nat}(hb:b<256):(eH r)[b]?=aj (.int .i16 r[b]):=by
 unfold eH;rw[eX,bD (by simpa using hb),nU];rfl
theorem row_one(l:List Row):∀u∈l.flatMap eH,u.oneCell'=true:=by
 intro u hu;obtain⟨x,_,h⟩:=List.mem_flatMap.1 hu;obtain⟨n,_,rfl⟩:=fa.1 h;rfl
theorem rb(r:Row):(eH r).all eQ=true:=qj.2 λu hu=>row_one [r] u (by simpa using hu)
def iA(vr vt:Value):Value:=aQ #[vr,vt]
def wt:Row:=eb 256 0
structure FK(w:World)(vr vt:Value)(R:List Row)(tags:List Int):Prop where
 hR:Sl w vr R.length (R.flatMap eH)
 hT:Sl w vt tags.length (tags.flatMap cU.eo)
 rng:∀r∈R,∀x∈r.toList,-32768<=x/\x<=32767
 okT:∀x∈tags,cU.dX x
theorem FK.gr{w w':World}{vr vt:Value}{R:List Row}{tags:List Int}(h:FK w vr vt R tags)(hg:Gr w w'):FK w' vr vt R tags:=⟨h.hR.gr hg,h.hT.gr hg,h.rng,h.okT⟩
theorem FK.afH{w:World}{vr vt:Value}{R:List Row}{tags:List Int}(h:FK w vr vt R tags):KT w (iA vr vt) (R.map O1) tags:=by
 refine⟨vr,vt,rfl,?_,?_,λr hr=>by obtain⟨x,_,rfl⟩:=fa.1 hr;simp⟩
 ·obtain⟨base,cap,h1,h2,h3,h4⟩:=h.hR
  refine⟨base,cap,by rw[dI];exact h1,by rw[dI];exact h2,h3,λh0=>?_⟩;rw[dI]at h0;obtain⟨b,off,h5,h6⟩:=h4 h0;refine⟨b,off,h5,λi hi=>?_⟩;have pB:i<R.length:=by simpa using hi
  refine⟨eH R[i],⟨by simp,by simp[eH],λx hx=>h.rng R[i] (cD pB) x (by simpa using hx)⟩,λj u hj=>?_⟩;have SB:j<256:=by have:=(dl.1 hj).1;rwa [dw]at this
  have:=h6 (i*256+j) u (by rw[tL dw R i j pB SB];exact hj);rw[lG];exact this
 obtain⟨base,cap,h1,h2,h3,h4⟩:=h.hT;refine⟨base,cap,h1,h2,h3,λh0=>?_⟩;obtain⟨b,off,h5,h6⟩:=h4 h0;refine⟨b,off,h5,λi hi=>⟨[av az tags[i]],⟨rfl,h.okT _ (cD hi)⟩,λj u hj=>?_⟩⟩;have hj0:j=0:=by have:=(dl.1 hj).1;simpa using this
 subst hj0;rw[kw,Nat.add_zero];refine h6 i u ?_;rw[show tags.flatMap cU.eo=tags.map (.int .i64)from cU.acD tags,eX,bD hi];exact hj
def fe(R:List Row)(tags:List Int):tY:=⟨R.length,λi b=>(R.getD i wt).toList.getD b 0,λi=>tags.getD i 0⟩
def l7(R:List Row)(tags:List Int):Int:=Ag (R.map O1) tags
theorem Ha(R:List Row){i:Nat}(hi:i<R.length):(R.map O1).getD i []=(R.getD i wt).toList:=by
 rw[cH,eX,cH,bD hi];rfl
theorem uI{R:List Row}{tags:List Int}(h:l7 R tags=0):(fe R tags).Ok/\tags.length=R.length:=by
 obtain⟨h1,h2,h3,h4⟩:=W_ h;rw[dI]at h1 h2 h3 h4;refine⟨⟨h2,h1,λi hi b hb=>?_,λi hi=>?_⟩,h3⟩
 ·have:=(h4 i hi).2.2
  rw[Ha R hi]at this;refine this _ ?_;show(R.getD i wt).toList.getD b 0∈_
  rw[cH (l:=(R.getD i wt).toList),bD (by simpa using hb)];exact cD _
 have:=h4 i hi;exact⟨this.1,this.2.1⟩
theorem Jb{R:List Row}{tags:List Int}(h:(fe R tags).Ok)(hl:tags.length=R.length):l7 R tags=0:=by
 have h1:R.length<=200:=h.le;have h2:0<R.length:=h.pos;unfold l7 Ag;rw[dI,if_neg J,if_neg J,if_neg];simp only[qt,List.mem_range,not_exists,not_and];intro i hi;have ht:=h.tags i hi;have hs:=h.step i hi;rw[Ha R hi];simp only[mX,lK,decide_eq_true_eq,qt,not_or,not_exists,not_and];refine⟨⟨?_,?_⟩,λt ht'=>?_⟩
 ·show ¬tags.getD i 0< -1
  have: -1<=tags.getD i 0:=ht.1;omega
 ·have:tags.getD i 0<20:=ht.2
  omega
 obtain⟨b,hb,rfl⟩:=g_.1 ht';have Nj:b<256:=by simpa using hb
 have:=hs b Nj;have e:(fe R tags).d i b=(R.getD i wt).toList[b]:=by
  show(R.getD i wt).toList.getD b 0=_
  rw[cH (l:=(R.getD i wt).toList),bD hb];rfl
 rw[e]at this;have e2:(fe R tags).n=R.length:=rfl;omega
def wm(R:List Row)(tags:List Int)(s:List UInt8):Int×Int:=if l7 R tags=0 then(tg (fe R tags) (go (fe R tags) 0 s),0)else(0,l7 R tags)
end bZ
namespace bZ
open Go.RowKit cU dM yC cT
theorem y8{R:List Row}{tags:List Int}{i:Nat}(h:i<tags.length):(fe R tags).tag i=tags[i]:=by
 show tags.getD i 0=_
 rw[cH,bD h];rfl
theorem LP{R:List Row}{tags:List Int}{i b:Nat}(h:i<R.length)(hb:b<256):(fe R tags).d i b=(R[i])[b]:=by
 show(R.getD i wt).toList.getD b 0=_
 rw[cH (l:=R),bD h,kD,cH,bD (by simpa using hb),kD,nU]
theorem RC(r:Row){b:Nat}(hb:b<256)(x:Int):(eH r).toArray.setIfInBounds b (.int .i16 x)=(eH (r.set b x)).toArray:=by
 unfold eH;rw[Vector.toList_set,oM];simp
theorem re{P:Program}{n:Nat}{W:bR}{fr:Fr}{L:List b_}{Q:Exit->Act->World->Prop}{ops:Array Oper}{rest:List Oper}{ty:TypeId}{pos:String}{after:Array Edge}{t:TypeId}{p x:Operand}{i g b:Nat}{r:Row}{T:TypeId}{agg:Bool}{z:Int}[hT:aK P t agg 1](hi:L[i]?=aj (aP g (eH r).toArray T))(hp:ev fr p=aj (aJ (aj ⟨g,0+b,ak⟩)))(hx:ev fr x=aj (.int .i16 z))(hb:b<256)
 (h:TL P n W ops Q rest fr (L.set i (aP g (eH (r.set b z)).toArray T))):TL P n W ops Q (⟨ak,.store t p x,ty,pos,after,ak⟩::rest) fr L:=by
 rw[cV]at hp;refine bU hi hp hx I I ?_ ?_
 ·rw[dU,dw];exact DT▸hb
 ·rw[RC r hb];exact h
def y9(x y:Int)(b:Nat):Row:=xQ λi:Fin 256=>if i<b then x else y
theorem T7(x y:Int)(b:Nat)(hb:b<256):(y9 x y b).set b x=y9 x y (b+1):=by
 refine kf λi hi=>?_;unfold y9;rw[uo,ke,ke];split
 ·rename_i e;subst e;simp
 have:i<b↔i<b+1:=by omega
 simp only[this]
theorem abj(x y:Int):y9 x y 0=eb 256 y:=by
 refine kf λi hi=>?_;unfold y9;simp
theorem T8(x y:Int):y9 x y 256=eb 256 x:=by
 refine kf λi hi=>?_;unfold y9;simp[hi]
theorem Ed:(cZ 256 (av .i16 0)).toArray=(eH (eb 256 0)).toArray:=by
 unfold eH;rw[Vector.toList_replicate,List.map_replicate]
def BT(r:Row):Value:=aQ (eH r).toArray
theorem Bk(x:Int)(w:World):Calls aB 73 #[.int .i16 x] w (cz (ret (BT (eb 256 x))) w):=by
 refine enter (args:=[.int .i16 x]) (n:=13) Tryz.func73 I I I ?_;refine b9 (bz (aY I λg=>?_))
 try refine GA ?_
 refine aY I λg3=>?_;refine zL ?_;rw[Ed]
 try refine GA ?_
 rw[<-abj x 0];refine dY (ι:=Nat) (λb=>b<=256) (λb=>[(0,.int .i16 x),(2,aJ (aj ⟨g,0,ak⟩)),(3,aJ (aj ⟨g3,0,ak⟩)),(5,av az (b:Int))]) (λb=>[aP g (eH (y9 x 0 0)).toArray 187,aP g3 (eH (y9 x 0 b)).toArray 187]) (λb=>256-b) 0 (bH _) ?_;intro b hb
 by_cases c:b<256
 ·repeat(first|refine GA ?_|refine gV (gY bL.eq aK.ty I I c) ?_)
  refine re (i:=1) I I I c ?_;rw[T7 x 0 b c];refine zL ?_
  try refine GA ?_
  exact bW (b+1) J (by show 256-(b+1)<256-b;omega)
 obtain rfl:b=256:=by omega
 rw[T8]
 repeat(first|refine GA ?_|refine gV (aO (i:=1) aK.ty I I (by rw[dU,dw])) ?_)
 refine aV (i:=0) I I I (by rw[dU,dw]) (by have:=rb (eb 256 x);simpa using this) (by rw[dU,dw]) ?_;refine zL ?_
 try refine GA ?_
 exact fF (i:=0) I I I (by rw[dU,dw]) λw hm=>hm.ret
end bZ
namespace bZ
open Go.RowKit cU dM cT
def p8(k:Kind):List Value:=av az k.1::eH k.2
def LQ(k:Kind):Value:=aQ (p8 k).toArray
theorem lY(k:Kind):(p8 k).length=257:=by simp[p8,dw]
def RD(r:Row):Prop:=∀(b:Nat) (h:b<256),(-32768:Int)<=r[b]/\r[b]<=32767
theorem Yk{r r':Row}(h:eH r=eH r'):r=r':=by
 refine kf λb hb=>?_;have h1:=pt r hb;rw[h,pt r' hb]at h1;simp at h1;exact h1.symm
theorem ad'{r:Row}(h:RD r)(d:Nat):KL aB (d+2) 187 (eH r):=by
 have e2:aB.cellsOf 187=256:=by kernel_rfl
 have e3:aB.cellsOf 185=1:=by kernel_rfl
 refine WG (d:=d+1) Tryz.underlying187 (by rw[dw,e2]) λi hi=>?_;have hc:((eH r).drop (i*aB.cellsOf 185)).take (aB.cellsOf 185)=[.int .i16 r[i]]:=by
  rw[e3,kw];have hl:i<(eH r).length:=by rw[dw];exact hi
  rw[eI hl];have:=pt r hi;rw[bD hl]at this;rw[rP this];rfl
 rw[hc];exact tS Tryz.underlying185 (h i hi).1 (h i hi).2
set_option maxRecDepth 100000 in
theorem Yl(k:Kind)(h:cU.dX k.1/\RD k.2):∃l,keyOf aB 241 (LQ k)=aj l:=by
 have e1:aB.cellsOf 241=257:=by kernel_rfl
 have e2:aB.cellsOf 187=256:=by kernel_rfl
 have e3:aB.cellsOf 3=1:=by kernel_rfl
 refine Ii (m:=3) (by kernel_rfl) (by kernel_rfl) (by rw[lY,e1]) (B_ 3 (by kernel_rfl)) λd=>?_;refine Ac (d:=d+2) Tryz.underlying241 (by rw[lY,e1]) (by kernel_rfl) λf hf=>?_;simp only[dx,fl,or_false]at hf;rcases hf with rfl|rfl
 ·rw[e3]
  exact tS (d:=d+1) Tryz.underlying3 h.1.1 h.1.2
 show KL aB (d+2) 187 (((p8 k).drop 1).take (aB.cellsOf 187))
 rw[e2];have:((p8 k).drop 1).take 256=eH k.2:=by
  show(eH k.2).take 256=_
  rw[gK (by rw[dw];omega)]
 rw[this];exact ad' h.2 d
theorem abk:(241:TypeId)<aB.types.size:=of_decide_eq_true (by kernel_rfl)
set_option maxRecDepth 100000 in
def uJ:yx aB 241 Kind where
 kv:=LQ
 ok k:=cU.dX k.1/\RD k.2
 law:=deep_law_laid B9 (m:=3) J abk (by kernel_rfl) (by kernel_rfl)
 key x h:=Yl x h
 inj x y h:=by
  simp only[LQ,lL,r8,p8,fO,De,true_and]at h;exact ql h.1 (Yk h.2)
abbrev Ee:=Vector Int 200
def xU(c:Ee):List Value:=c.toList.map (.int .i16)
def aea(c:Ee):Value:=aQ (xU c).toArray
theorem rf(c:Ee):(xU c).length=200:=by simp[xU]
theorem Ef(c:Ee){b:Nat}(hb:b<200):(xU c)[b]?=aj (.int .i16 c[b]):=by
 unfold xU;rw[eX,bD (by simpa using hb),nU];rfl
def Ym(c:Ee):Prop:=∀(b:Nat) (h:b<200),(-32768:Int)<=c[b]/\c[b]<=32767
set_option maxRecDepth 100000 in
theorem abl(c:Ee)(h:Ym c):∃l,keyOf aB 193 (aea c)=aj l:=by
 have e2:aB.cellsOf 193=200:=by kernel_rfl
 have e3:aB.cellsOf 185=1:=by kernel_rfl
 refine Ii (m:=2) (by kernel_rfl) (by kernel_rfl) (by rw[rf,e2]) (B_ 2 (by kernel_rfl)) λd=>?_;refine WG (d:=d+1) Tryz.underlying193 (by rw[rf,e2]) λi hi=>?_;have hc:((xU c).drop (i*aB.cellsOf 185)).take (aB.cellsOf 185)=[.int .i16 c[i]]:=by
  rw[e3,kw];have hl:i<(xU c).length:=by rw[rf];exact hi
  rw[eI hl];have:=Ef c hi;rw[bD hl]at this;rw[rP this];rfl
 rw[hc];exact tS Tryz.underlying185 (h i hi).1 (h i hi).2
theorem aeb:(193:TypeId)<aB.types.size:=of_decide_eq_true (by kernel_rfl)
set_option maxRecDepth 100000 in
def LR:yx aB 193 Ee where
 kv:=aea
 ok:=Ym
 law:=deep_law_laid B9 (m:=2) J aeb (by kernel_rfl) (by kernel_rfl)
 key x h:=abl x h
 inj x y h:=by
  simp only[aea,lL,r8]at h;refine kf λb hb=>?_;have h1:=Ef x hb;rw[h,Ef y hb]at h1;simp at h1;exact h1.symm
theorem Yn(w:World):(zeroValue 3).run aB w= .ok (av az 0) w:=by kernel_rfl
end bZ
namespace bZ
open Go.RowKit cU dM yC cT
set_option maxRecDepth 100000 in
theorem Pl(w:World):(df 241 #[(1,BT (eb 256 0))]).run aB w= .ok (LQ dead) w:=by kernel_rfl
set_option maxRecDepth 100000 in
theorem Pm(x:Int)(w:World):(df 241 #[(0,av az x)]).run aB w= .ok (LQ (x,eb 256 0)) w:=by kernel_rfl
theorem Pn{x:Int}(h0: -32768<=x)(h1:x<=32767):XT.wrap x=x:=by
 simp only[XS,lF,rL];simp;omega
abbrev k9(x:Int):Value:=av az x
theorem Yo(x:Int)(r:Row){b:Nat}(hb:b<256)(y:Int):(p8 (x,r)).toArray.setIfInBounds (1+b) (.int .i16 y)=(p8 (x,r.set b y)).toArray:=by
 have e:1+b=b+1:=by omega
 unfold p8;rw[e,tw,zU];have:=RC r hb y;rw[tw]at this;have h2:(eH r).set b (.int .i16 y)=eH (r.set b y):=by simpa using this
 rw[h2]
section
variable{P:Program}{n:Nat}{W:bR}{fr:Fr}{L:List b_}{Q:Exit->Act->World->Prop}{ops:Array Oper}{rest:List Oper}{ty:TypeId}{pos:String}{after:Array Edge}
theorem T9{t:TypeId}{p x:Operand}{i g b:Nat}{y:Int}{r:Row}{T:TypeId}{agg:Bool}{z:Int}[hT:aK P t agg 1](hi:L[i]?=aj (aP g (p8 (y,r)).toArray T))(hp:ev fr p=aj (aJ (aj ⟨g,1+b,ak⟩)))(hx:ev fr x=aj (.int .i16 z))(hb:b<256)
 (h:TL P n W ops Q rest fr (L.set i (aP g (p8 (y,r.set b z)).toArray T))):TL P n W ops Q (⟨ak,.store t p x,ty,pos,after,ak⟩::rest) fr L:=by
 refine bU hi hp hx I I ?_ ?_
 ·rw[dU,lY];exact DT▸(by omega:1+b<257)
 ·rw[Yo y r hb];exact h
end
def Eg(A:tY)(now:Nat->Nat)(i b:Nat):Row:=xQ λj:Fin 256=>if j<b then(val now (A.d i j):Int)else 0
theorem aec(A:tY)(now:Nat->Nat)(i:Nat):Eg A now i 0=eb 256 0:=by
 refine kf λj hj=>?_;unfold Eg;simp
theorem Yp(A:tY)(now:Nat->Nat)(i:Nat):((now i:Int),Eg A now i 256)=kind A now i:=by
 refine ql I (kf λj hj=>?_);unfold Eg kind;simp[hj]
theorem LS(A:tY)(now:Nat->Nat)(i b:Nat)(hb:b<256):(Eg A now i b).set b (val now (A.d i b):Int)=Eg A now i (b+1):=by
 refine kf λj hj=>?_;unfold Eg;rw[uo,ke,ke];split
 ·rename_i e;subst e;simp
 have:j<b↔j<b+1:=by omega
 simp only[this]
theorem T_(A:tY)(now:Nat->Nat)(i b:Nat)(hb:b<256)(h0:val now (A.d i b)=0):Eg A now i b=Eg A now i (b+1):=by
 rw[<-LS A now i b hb,h0];refine kf λj hj=>?_;rw[uo];split
 ·rename_i e;subst e;unfold Eg;simp
 rfl
structure Jc(A:tY)(f n:Nat)(now:Nat->Nat):Prop where
 eq:dN A=Gy A f n now
 rd:n=0\/Q4 A n now
 le:n<=A.n+1
 fuel:A.n+2<=f+n
 lim:∀i,i<A.n->now i<=200
theorem abm{A:tY}(hA:A.Ok):Jc A (A.n+2) 0 (yE A):=⟨rfl,.inl I,bH _,by omega,λi hi=>by unfold yE;have:=hA.tags i hi;omega⟩
theorem LU{A:tY}(hA:A.Ok){f n:Nat}{now:Nat->Nat}(h:Jc A f n now):∃f',f=f'+1/\((oQ A now).length=n->dN A=next A now)/\((oQ A now).length≠n->Jc A f' (oQ A now).length (next A now)):=by
 have h1:=h.le;have h2:=h.fuel;obtain⟨f',rfl⟩:∃f',f=f'+1:=⟨f-1,by omega⟩;have e:=h.eq;unfold Gy at e;refine⟨f',rfl,λhc=>by rw[e,if_pos hc],λhc=>⟨by rw[e,if_neg hc],.inr ⟨now,rfl,rfl⟩,Ai now,?_,λi hi=>?_⟩⟩
 ·have hp:=Q3 (A:=A) now
  rcases h.rd with rfl|hr
  omega;have:=(xy hr).1;omega
 have:=pW (A:=A) (now:=now) (q:=(i:Int)) J;rw[y7]at this;have h3:=Ai (A:=A) now;have h4:=hA.le;omega
theorem abn{A:tY}{now:Nat->Nat}(h:∀i,i<A.n->now i<=200){q:Int}(hq:St A q):val now q<=200:=by
 unfold val;split;omega;exact h _ (by unfold St at hq;omega)
theorem abo{A:tY}(hA:A.Ok){now:Nat->Nat}(h:∀i,i<A.n->now i<=200){i:Nat}(hi:i<A.n):cU.dX (kind A now i).1/\RD (kind A now i).2:=by
 refine⟨?_,λb hb=>?_⟩
 ·have:=h i hi
  show cU.dX (now i:Int)
  exact⟨by omega,by omega⟩
 have:=abn h (hA.step i hi b hb);unfold kind;rw[ke];show-32768<=(val now (A.d i b):Int)/\(val now (A.d i b):Int)<=32767
 omega
def jV(A:tY)(now:Nat->Nat)(i:Nat):List Kind:=dH [dead] ((kinds A now).take i)
theorem Ua(A:tY)(now:Nat->Nat):jV A now A.n=oQ A now:=by unfold jV oQ;rw[gK (by simp[kinds])]
theorem Hb(A:tY)(now:Nat->Nat){i:Nat}(hi:i<A.n):∃h:i<(kinds A now).length,(kinds A now)[i]=kind A now i:=⟨by simpa[kinds]using hi,by simp[kinds]⟩
theorem abp(A:tY)(now:Nat->Nat){i:Nat}(hi:i<A.n)(h:kind A now i∈jV A now i):jV A now (i+1)=jV A now i/\next A now i=idx (jV A now i) (kind A now i):=by
 obtain⟨hl,e⟩:=Hb A now hi;have h2:=WZ (D:=[dead]) hl;unfold jV at h;rw[e,if_pos h]at h2;refine⟨?_,h2⟩;unfold jV;rw[iq hl,kE,e,more,if_pos];exact h
theorem abq(A:tY)(now:Nat->Nat){i:Nat}(hi:i<A.n)(h:kind A now i∉jV A now i):jV A now (i+1)=jV A now i++[kind A now i]/\next A now i=(jV A now i).length:=by
 obtain⟨hl,e⟩:=Hb A now hi;have h2:=WZ (D:=[dead]) hl;unfold jV at h;rw[e,if_neg h]at h2;refine⟨?_,h2⟩;unfold jV;rw[iq hl,kE,e,more,if_neg];exact h
theorem Yq(A:tY)(now:Nat->Nat)(i:Nat):(jV A now i).length<=A.n+1:=by
 have h:=Ai (A:=A) now;have e:kinds A now=(kinds A now).take i++(kinds A now).drop i:=(List.take_append_drop _ _).symm;have hap:∀(a b D:List Kind),dH D (a++b)=dH (dH D a) b:=by
  intro a
  induction a with
  |nil=>intro b D;rfl
  |cons x a ih=>intro b D;exact ih b _
 obtain⟨E,h2⟩:=r_ ((kinds A now).drop i) (jV A now i);have h3:oQ A now=jV A now i++E:=by
  unfold oQ;rw[e,hap];exact h2
 rw[h3,bK]at h;omega
set_option maxRecDepth 100000 in
theorem Jd(vr vt:Value)(R:List Row)(tags:List Int)(w:World)(h:FK w vr vt R tags)(hc:l7 R tags=0):
 Calls aB 72 #[iA vr vt] w (cz ⟨λ_=>True,λ(g:Nat)=>ap (aj ⟨g,0,ak⟩) R.length R.length,λg=>[fg 3 k9 g R.length λi=>(dN (fe R tags) i:Int)]⟩ w):=by
 obtain⟨hA,hlt⟩:=uI hc;obtain⟨bt,ct,rfl,ht1,Xa,Kc⟩:=h.hT;obtain⟨br,cr,rfl,U2,vC,Dr⟩:=h.hR;have en:(fe R tags).n=R.length:=rfl;have AE:0<R.length:=hA.pos;have hle:R.length<=200:=hA.le;obtain⟨b,off,rfl,hr⟩:=Dr AE;obtain⟨bb,s9,rfl,hrt⟩:=Kc J;unfold maxLen at vC Xa;have aic:∀i,i<R.length->(fe R tags).tag i=tags.getD i 0:=λi _=>rfl;clear Dr Kc h;refine enter (args:=[iA (ap (aj ⟨b,off,ak⟩) R.length cr) (ap (aj ⟨bb,s9,ak⟩) tags.length ct)]) (n:=98) Tryz.func72 I I I ?_;refine b9 (bz (bQ I I I λg1=>?_))
 repeat(first|refine GA ?_|refine gV (aC aK.ty I (aH (i:=0) I I)) ?_)
 refine oT k9 0 I I J J I λg3=>?_;refine zL ?_
 repeat(first|refine GA ?_|refine gV (aC aK.ty I (aH (i:=0) I I)) ?_)
 refine nO (ι:=Nat) (λi=>i<=tags.length) (λi=>[(1,aJ (aj ⟨g1,0,ak⟩)),(3,ap (aj ⟨g3,0,ak⟩) R.length R.length),(22,ap (aj ⟨bb,s9,ak⟩) tags.length ct),(23,av az (tags.length:Int)),(24,av az (i:Int))])
  (λi=>[aP g1 (iA (ap (aj ⟨b,off,ak⟩) R.length cr) (ap (aj ⟨bb,s9,ak⟩) tags.length ct)).cells 120,fg 3 k9 g3 R.length λj=>if j<i then(yE (fe R tags) j:Int)else 0]) (λi=>tags.length-i) 0 (bH _) (by repeat' (first|exact cI|refine cC I ?_)) (by rw[oR (f':=λj=>if j<0 then(yE (fe R tags) j:Int)else 0) λi _=>by simp]) ?_
 intro i hi
 by_cases c1:i<tags.length
 ·have dz:=gG (W:=w) (L:=[aP g1 (iA (ap (aj ⟨b,off,ak⟩) R.length cr) (ap (aj ⟨bb,s9,ak⟩) tags.length ct)).cells 120,fg 3 k9 g3 R.length λj=>if j<i then(yE (fe R tags) j:Int)else 0]) (c:=1) (f:=cU.eo) (λ_=>rfl) hrt c1 0 _ I
  have htg:=hA.tags i J;have h0:(yE (fe R tags) i:Int)=tags[i]+1:=by
   unfold yE;rw[y8 c1]at htg⊢;omega
  rw[y8 c1]at htg;generalize tags[i]=x at*
  repeat(first|refine GA ?_|refine gV (aX bL.eq aK.ty I I c1) ?_|refine gV (aC aK.ty I dz) ?_|refine gV (bY bL.eq aK.ty I I (show i<R.length by omega)) ?_)
  refine iJ (i:=1) (off:=i) (v:=x+1) (λj=>if j<i+1 then(yE (fe R tags) j:Int)else 0) aK.ty I I I I I J (λj hj=>?_) ?_
  ·by_cases e:j=i
   subst e;rw[if_pos J,if_pos I,h0];rw[if_neg e];have:j<i+1↔j<i:=by omega
   simp only[this]
  refine zL ?_
  try refine GA ?_
  exact bW (i+1) J (by show tags.length-(i+1)<tags.length-i;omega)
 ·obtain rfl:i=tags.length:=by omega
  rw[oR (f':=λj=>(yE (fe R tags) j:Int)) λj hj=>if_pos (show j<tags.length by omega)];clear c1 hi
  try refine GA ?_
  refine dY (ι:=Nat×Nat×(Nat->Nat)×Nat) (λ(f,c,now,_)=>Jc (fe R tags) f c now) (λ(_,c,_,g3)=>[(1,aJ (aj ⟨g1,0,ak⟩)),(3,ap (aj ⟨g3,0,ak⟩) R.length R.length),(6,av az (c:Int))])
   (λ(_,_,now,g3)=>[aP g1 (iA (ap (aj ⟨b,off,ak⟩) R.length cr) (ap (aj ⟨bb,s9,ak⟩) tags.length ct)).cells 120,fg 3 k9 g3 R.length λj=>(now j:Int)]) (λ(f,_,_,_)=>f) (R.length+2,0,yE (fe R tags),g3) (abm hA) ?_
  clear g3;rintro⟨f,c,now,g3⟩ eL;dsimp only at eL⊢;obtain⟨f',rfl,ahe,hgo⟩:=LU hA eL;have C_:=eL.lim;have pF:=Bk 0;clear eL;have afI:=Ai (A:=fe R tags) now;rw[en]at afI
  try refine GA ?_
  refine Aj (K:=uJ) I λgm=>?_;refine zL ?_
  try refine GA ?_
  refine aW (iM aI.en I I) (λw hm=>pF _) I I I ?_;intro _ _
  repeat(first|refine GA ?_|refine gV (bB I Pl) ?_)
  refine aY I λg8=>?_;refine zL ?_;refine aV (i:=3) (cs':=(p8 dead).toArray) I I I (by rw[dU,lY]) (by kernel_rfl) (by kernel_rfl) ?_;refine zL ?_
  repeat(first|refine GA ?_|refine gV (aO (i:=3) aK.ty I I (by rw[dU,lY])) ?_)
  refine Ak (K:=uJ) (i:=2) (D:=[]) (x:=dead) bL.eq I I I I ⟨⟨by decide,by decide⟩,λb hb=>by show-32768<=(eb 256 (0:Int))[b]/\(eb 256 (0:Int))[b]<=32767;rw[Vector.getElem_replicate];decide⟩ (by simp) aiz ?_;refine zL ?_;refine C3 [0,1,2] ?_
  try refine GA ?_
  refine oT k9 0 I I J J I λg9=>?_;refine zL ?_
  repeat(first|refine GA ?_|refine gV (aC aK.ty I (aH (i:=0) I I)) ?_)
  refine nO (ι:=Nat) (λi=>i<=R.length) (λi=>[(1,aJ (aj ⟨g1,0,ak⟩)),(3,ap (aj ⟨g3,0,ak⟩) R.length R.length),(6,av az (c:Int)),(7,.map (aj gm)),(9,ap (aj ⟨g9,0,ak⟩) R.length R.length),(44,ap (aj ⟨b,off,ak⟩) R.length cr),(45,av az (R.length:Int)),(46,av az (i:Int))])
   (λi=>[aP g1 (iA (ap (aj ⟨b,off,ak⟩) R.length cr) (ap (aj ⟨bb,s9,ak⟩) tags.length ct)).cells 120,fg 3 k9 g3 R.length λj=>(now j:Int),eZ uJ gm (ki (jV (fe R tags) now i)) (jV (fe R tags) now i).length,fg 3 k9 g9 R.length λj=>if j<i then(next (fe R tags) now j:Int)else 0]) (λi=>R.length-i) 0 (bH _) (by repeat' (first|exact cI|refine cC I ?_)) (by rw[oR (g:=g9) (f:=λ_=>(0:Int)) (f':=λj=>if j<0 then(next (fe R tags) now j:Int)else 0) λi _=>by simp];rfl) ?_
  intro i hi
  by_cases c2:i<R.length
  ·have dz:=gG (W:=w) (L:=[aP g1 (iA (ap (aj ⟨b,off,ak⟩) R.length cr) (ap (aj ⟨bb,s9,ak⟩) tags.length ct)).cells 120,fg 3 k9 g3 R.length λj=>(now j:Int),eZ uJ gm (ki (jV (fe R tags) now i)) (jV (fe R tags) now i).length,fg 3 k9 g9 R.length λj=>if j<i then(next (fe R tags) now j:Int)else 0]) dw hr c2
   have gC:∀(q:Nat) (hq:q<256),(fe R tags).d i q=(R[i])[q]:=λq hq=>LP c2 hq;have hst:∀b,b<256->St (fe R tags) ((fe R tags).d i b):=λb hb=>hA.step i c2 b hb;generalize R[i]=r at*
   repeat(first|refine GA ?_|refine gV (aX bL.eq aK.ty I I c2) ?_|refine gV (a8 aK.ty I (dw r) dz) ?_)
   refine aY I λg11=>?_;refine zL ?_
   try refine GA ?_
   refine aV (i:=4) (cs':=(eH r).toArray) I I I (by rw[dU,dw]) (by simpa using rb r) (by kernel_rfl) ?_;refine zL ?_;have wE:=C_ i c2
   repeat(first|refine GA ?_|refine gV (bY bL.eq aK.ty I I c2) ?_|refine gV (aC aK.ty I (fU (i:=1) I c2)) ?_|refine gV (bB I (Pm _)) ?_)
   refine aY I λg12=>?_;refine zL ?_;refine aV (i:=5) (cs':=(p8 ((now i:Int),eb 256 0)).toArray) I I I (by rw[dU,lY]) (by rw[<-List.all_toArray];kernel_rfl) (by kernel_rfl) ?_;refine zL ?_
   repeat(first|refine GA ?_|refine gV (aO (i:=4) aK.ty I I (by rw[dU,dw])) ?_)
   rw[<-aec (fe R tags) now i];refine tJ [0,1,2,3,5] ?_;refine dY (ι:=Nat) (λq=>q<=256) (λq=>[(1,aJ (aj ⟨g1,0,ak⟩)),(3,ap (aj ⟨g3,0,ak⟩) R.length R.length),(6,av az (c:Int)),(7,.map (aj gm)),(9,ap (aj ⟨g9,0,ak⟩) R.length R.length),(44,ap (aj ⟨b,off,ak⟩) R.length cr),(45,av az (R.length:Int)),(46,av az (i:Int)),(10,av az (i:Int)),(12,aJ (aj ⟨g12,0,ak⟩)),(56,BT r),(57,av az (q:Int))])
    (λq=>[aP g1 (iA (ap (aj ⟨b,off,ak⟩) R.length cr) (ap (aj ⟨bb,s9,ak⟩) tags.length ct)).cells 120,fg 3 k9 g3 R.length λj=>(now j:Int),eZ uJ gm (ki (jV (fe R tags) now i)) (jV (fe R tags) now i).length,fg 3 k9 g9 R.length λj=>if j<i then(next (fe R tags) now j:Int)else 0,aP g12 (p8 ((now i:Int),Eg (fe R tags) now i q)).toArray 241]) (λq=>256-q) 0 (bH _) ?_
   intro q hq
   by_cases c3:q<256
   ·have hcell:(eH r).toArray[q]?=aj (.int .i16 r[q]):=by rw[List.getElem?_toArray];exact pt r c3
    have hdq:=gC q c3;have hsq:=hst q c3;have sX:=LS (fe R tags) now i q c3;have acU:=T_ (fe R tags) now i q c3;rw[hdq]at hsq sX acU;clear hdq gC hst;generalize r[q]=x at*;unfold St at hsq
    by_cases c4:x<0
    ·have hv:val now x=0:=by unfold val;rw[if_pos c4]
     rw[acU hv]
     repeat(first|refine GA ?_|refine gV (jj bL.eq aK.ty I I c3 hcell) ?_)
     exact bW (q+1) J (by show 256-(q+1)<256-q;omega)
    obtain⟨m,rfl⟩:∃m:Nat,x=m:=⟨x.toNat,by omega⟩;have hm:m<R.length:=by omega
    have hlm:=C_ m hm;rw[y7]at sX
    repeat(first|refine GA ?_|refine gV (jj bL.eq aK.ty I I c3 hcell) ?_|refine gV (bY bL.eq aK.ty I I hm) ?_|refine gV (aC aK.ty I (fU (i:=1) I hm)) ?_|refine gV (iL bL.eq bL.eq I (Pn J J)) ?_|refine gV (gY bL.eq aK.ty I I c3) ?_)
    refine T9 (i:=4) I I I c3 ?_;rw[sX];refine zL ?_
    try refine GA ?_
    exact bW (q+1) J (by show 256-(q+1)<256-q;omega)
   obtain rfl:q=256:=by omega
   rw[Yp];have lf:=abo hA C_ (i:=i) c2
   by_cases c5:kind (fe R tags) now i∈jV (fe R tags) now i
   ·obtain⟨e1,e2⟩:=abp (fe R tags) now (i:=i) c2 c5
    generalize kind (fe R tags) now i=k at*
    repeat(first|refine GA ?_|refine gV (aO (i:=4) aK.ty I I (by rw[dU,lY])) ?_|refine gV (t_ (K:=uJ) (i:=2) (x:=k) bL.eq Yn I I I lf c5) ?_|refine gV (bY bL.eq aK.ty I I c2) ?_)
    refine iJ (i:=3) (off:=i) (v:=(next (fe R tags) now i:Int)) (λj=>if j<i+1 then(next (fe R tags) now j:Int)else 0) aK.ty I I (by rw[e2];rfl) I I c2 (λj hj=>?_) ?_
    ·by_cases e:j=i
     subst e;rw[if_pos J,if_pos I];rw[if_neg e];have:j<i+1↔j<i:=by omega
     simp only[this]
    refine zL ?_
    try refine GA ?_
    refine dh [0,1,2,3] ?_;exact bW (i+1) J (by show R.length-(i+1)<R.length-i;omega) (hl:=by rw[e1];rfl)
   obtain⟨e1,e2⟩:=abq (fe R tags) now (i:=i) c2 c5;have adm:=Yq (fe R tags) now i;rw[en]at adm;generalize kind (fe R tags) now i=k at*
   repeat(first|refine GC ?_|refine gV (aO (i:=4) aK.ty I I (by rw[dU,lY])) ?_|refine gV (t' (K:=uJ) (i:=2) (x:=k) bL.eq Yn I I I lf c5) ?_|refine gV (vU uJ bL.eq (i:=2) I I) ?_|refine GB ?_)
   refine Ak (K:=uJ) (i:=2) (x:=k) bL.eq I I I I lf c5 J ?_;refine zL ?_
   repeat(first|refine GA ?_|refine gV (bY bL.eq aK.ty I I c2) ?_)
   refine iJ (i:=3) (off:=i) (v:=(next (fe R tags) now i:Int)) (λj=>if j<i+1 then(next (fe R tags) now j:Int)else 0) aK.ty I I (by rw[e2];rfl) I I c2 (λj hj=>?_) ?_
   ·by_cases e:j=i
    subst e;rw[if_pos J,if_pos I];rw[if_neg e];have:j<i+1↔j<i:=by omega
    simp only[this]
   refine zL ?_
   try refine GA ?_
   refine dh [0,1,2,3] ?_;exact bW (i+1) J (by show R.length-(i+1)<R.length-i;omega) (hl:=by rw[e1];rfl)
  obtain rfl:i=R.length:=by omega
  rw[show jV (fe R tags) now R.length=oQ (fe R tags) now from Ua (fe R tags) now];rw[oR (f':=λj=>(next (fe R tags) now j:Int)) λj hj=>if_pos hj]
  by_cases c6:(oQ (fe R tags) now).length=c
  ·rw[ahe c6]
   repeat(first|refine GC ?_|refine gV (vU uJ bL.eq (i:=2) I I) ?_|refine gV (de (b:=aD) I I (decide_eq_true J)) ?_|refine GB ?_)
   exact cJ I I λw hm=>hm.meets (S:=⟨λ_=>True,λ(g:Nat)=>ap (aj ⟨g,0,ak⟩) R.length R.length,λg=>[fg 3 k9 g R.length λi=>(next (fe R tags) now i:Int)]⟩) g9 trivial [3] aiz I
  repeat(first|refine GC ?_|refine gV (vU uJ bL.eq (i:=2) I I) ?_|refine gV (de (b:=aE) I I (decide_eq_false J)) ?_|refine GB ?_)
  refine dh [0,3] ?_;exact bW (f',(oQ (fe R tags) now).length,next (fe R tags) now,g9) (hgo c6) (mz f')
end bZ
namespace bZ
open Go.RowKit cU dM yC cT
theorem Eh(vr vt:Value)(R:List Row)(tags:List Int)(w:World)(h:FK w vr vt R tags):Calls aB 71 #[iA vr vt] w (cz (ret (av az (l7 R tags))) w):=Dq _ _ _ w h.afH
end bZ
namespace bZ
open Go.RowKit cU dM dg fZ ef nb cT
set_option maxRecDepth 100000 in
theorem aed(x y:C4)(w:World):(ox 10000 233 (aQ (dR x).toArray) (aQ (dR y).toArray)).run aB w= .ok (decide (x=y)) w:=by
 show(ox 10000 233 (aQ #[v64 x.a,v64 x.b,v64 x.c,v64 x.d]) (aQ #[v64 y.a,v64 y.b,v64 y.c,v64 y.d])).run aB w=_
 have e:(ox 10000 233 (aQ #[v64 x.a,v64 x.b,v64 x.c,v64 x.d]) (aQ #[v64 y.a,v64 y.b,v64 y.c,v64 y.d])).run aB w= .ok ((fP x.a==fP y.a)&&((fP x.b==fP y.b)&&((fP x.c==fP y.c)&&(fP x.d==fP y.d)))) w:=by
  unfold v64;rw[run_equalIn_array (P:=aB) w 9999 (n:=4) (e:=75) _ _ I I];have h1:aB.cellsOf 75=1:=rfl;simp[Op.eqItems,go_sem,List.range_succ_eq_map,h1]
  by_cases e1:fP x.a=fP y.a<;>by_cases e2:fP x.b=fP y.b<;>by_cases e3:fP x.c=fP y.c<;>by_cases e4:fP x.d=fP y.d<;>simp[e1,e2,e3,e4]
 rw[e]
 congr 1
 by_cases h:x=y
 subst h;simp;rw[decide_eq_false h]
 by_cases e1:fP x.a=fP y.a<;>by_cases e2:fP x.b=fP y.b<;>by_cases e3:fP x.c=fP y.c<;>by_cases e4:fP x.d=fP y.d<;>simp[e1,e2,e3,e4]
 exact h (C4.ext' (n' e1) (n' e2) (n' e3) (n' e4))
theorem Po(w:World):(df 233 (#[]:Array (Nat×Value))).run aB w= .ok (aQ (dR C4.zero).toArray) w:=by kernel_rfl
theorem abr{x:Int}(h0: -32768<=x)(h1:x<=32767):XT.wrap x=x:=by
 simp only[XS,lF,rL];simp;omega
theorem LV(r:Row):(eH r).toArray.toList.all eQ=true:=qj.2 λu hu=>row_one [r] u (by simpa using hu)
def Hc(m:MS)(vc vr vf vfol vl ve rows:Value)(g gm n:Nat)(d:DM):Spec (Value×Value):=
 ⟨λ_=>True,λ_=>BT (pH m n d).1,λx=>Kh vc vr vf vfol vl ve rows g gm x.1 x.2 (pH m n d).2⟩
theorem abt(p:PS)(all:C4)(b i:Nat):IJ p all b (i+1)=if all.mem i=aD/\(p.aZ.getD i C4.zero).mem b=aD then(IJ p all b i).bit i else IJ p all b i:=rfl
theorem Pp(p:PS)(all:C4)(f b:Nat)(r:Row)(d:DM):mv p all (f+1) b r d=if 200<(fL p all b r d).2.S.length+1 then fL p all b r d else mv p all f (b+1) (fL p all b r d).1 (fL p all b r d).2:=rfl
theorem abu{p:PS}{all:C4}{b:Nat}{r:Row}{d:DM}(hb:b<256)(h:IK p all b=C4.zero):fL p all b r d=(r.set b (-1),d):=by unfold fL;rw[if_pos h,dif_pos hb]
theorem abv{p:PS}{all:C4}{b:Nat}{r:Row}{d:DM}(hb:b<256)(h:IK p all b≠C4.zero):fL p all b r d=((r.set b (-1)).set b ((iG p d (IK p all b)).1:Int),(iG p d (IK p all b)).2):=by unfold fL;rw[if_neg h,dif_pos hb]
set_option maxRecDepth 100000 in
theorem Je(m:MS)(vc vr vf vfol vl ve rows:Value)(d:DM)(g gm n:Nat)(vs vt:Value)(w0:World)(hp:FD w0 (aQ #[vc,vr,vf,vfol,vl,ve]) m)(h:IG m)(hd:DOk m.ps d)(hd2:d.S.length+1<=200)(hn:n<=d.S.length)(w:World)(B:bR)(ho:pC w0 B)
 (hm:Mem B (Kh vc vr vf vfol vl ve rows g gm vs vt d) w):
 Calls aB 70 #[aJ (aj ⟨g,0,ak⟩),av az (n:Int)] w (dc (Hc m vc vr vf vfol vl ve rows g gm n d) B):=by
 have uH:=λw' (hg:Gr w0 w') h1 h2=>FE m vc vr vf vfol vl ve vs (.map (aj gm)) rows vt d.S g n w' (hp.gr hg) h h1 h2 hn;have hst:=λd' s o7 og h1 h2 w' B' Kw qV=>DS m vc vr vf vfol vl ve rows d' s g gm o7 og w0 hp h h1 h2 w' B' Kw qV;obtain⟨_,_,_,_,_,_,he,h1,-⟩:=hp;simp only[lL,r8,fO,and_true]at he;obtain⟨rfl,rfl,rfl,rfl,rfl,rfl⟩:=he;have hmf:=h.Cg;clear h;obtain⟨ac,cc,rfl,-,-,hrc⟩:=h1;unfold Hc pH;generalize mI m d.S n=all at*;obtain⟨p,fi,em⟩:=m;dsimp only at*;unfold Kh at hm;have hB0:=Po;refine dA hm (args:=[aJ (aj ⟨g,0,ak⟩),av az (n:Int)]) (n:=60) Tryz.func70 I I I ?_;clear hm;refine b9 (bz (aY I λg4=>?_));refine zL ?_;rw[Ed]
 try refine GA ?_
 refine aW (fI aI.en I I I) (λw hm=>uH w (ho.mem hm) (hm.get (i:=0) I) (Sl.dy (hm.get (i:=1) I))) I I I ?_;intro _ _;refine zL ?_;clear uH
 try refine GA ?_
 refine aY I λg5=>?_;refine zL ?_;refine gh 5 (cs':=(dR all).toArray) ?_;refine zL ?_
 try refine GA ?_
 refine aY I λg6=>?_;refine zL ?_;rw[Ed]
 try refine GA ?_
 clear hn;generalize jp:mv p all 256 0 (eb 256 0) d=fin;refine dY (ι:=Nat×Row×DM×Value×Value) (λ(b,r,d,_,_)=>b<=256/\DOk p d/\d.S.length+1<=200/\mv p all (256-b) b r d=fin) (λ(b,_,_,_,_)=>[(0,aJ (aj ⟨g,0,ak⟩)),(4,aJ (aj ⟨g4,0,ak⟩)),(5,aJ (aj ⟨g5,0,ak⟩)),(6,aJ (aj ⟨g6,0,ak⟩)),(14,av az (b:Int))])
  (λ(_,r,d,vs,vt)=>[aP g (Kg (ap ac p.aZ.length cc) vr vf vfol vl ve vs (.map (aj gm)) rows vt) 184,n0 vs d.S,sn gm d.S,fW vt d.tags,aP g4 (eH (eb 256 0)).toArray 187,aP g5 (dR all).toArray 233,aP g6 (eH r).toArray 187]) (λ(b,_,_,_,_)=>256-b) (0,eb 256 0,d,vs,vt) ⟨bH _,hd,hd2,jp⟩ ?_
 clear hd hd2 jp d vs vt;rintro⟨b,r,d,vs,vt⟩ ⟨i1,i2,i3,i4⟩;dsimp only at i1 i2 i3 i4⊢
 by_cases c1:b<256
 ·rw[show 256-b=(256-(b+1))+1 by omega,Pp]at i4
  try refine GA ?_
  refine aY I λg8=>?_;refine zL ?_
  repeat(first|refine GA ?_|refine gV (aC (v:=ap ac p.aZ.length cc) aK.ty I (aH (i:=0) I I)) ?_)
  refine dY (ι:=Nat) (λk=>k<=p.aZ.length) (λk=>[(0,aJ (aj ⟨g,0,ak⟩)),(4,aJ (aj ⟨g4,0,ak⟩)),(5,aJ (aj ⟨g5,0,ak⟩)),(6,aJ (aj ⟨g6,0,ak⟩)),(7,av az (b:Int)),(8,aJ (aj ⟨g8,0,ak⟩)),(14,av az (b:Int)),(21,ap ac p.aZ.length cc),(22,av az p.aZ.length),(23,av az (k:Int))])
   (λk=>[aP g (Kg (ap ac p.aZ.length cc) vr vf vfol vl ve vs (.map (aj gm)) rows vt) 184,n0 vs d.S,sn gm d.S,fW vt d.tags,aP g4 (eH (eb 256 0)).toArray 187,aP g5 (dR all).toArray 233,aP g6 (eH r).toArray 187,aP g8 (dR (IJ p all b k)).toArray 233]) (λk=>p.aZ.length-k) 0 (bH _) ?_
  intro k hk
  by_cases c2:k<p.aZ.length
  ·have hts:=abt p all b k
   have hgd:p.aZ.getD k C4.zero=p.aZ[k]:=by rw[cH,bD c2];rfl
   rw[hgd]at hts;obtain⟨bc,ahf,rfl,afJ⟩:=hrc J;have afK:=λ(L:List b_)=>OO (L:=L) (f:=dR) (c:=4) (λ_=>rfl) ho afJ c2;clear afJ hrc hgd;generalize p.aZ[k]=c at*;have afL:∀(L:List b_) (j:Nat) (u:Value),(dR c)[j]?=aj u->At B L ⟨bc,ahf+k*4+j,ak⟩ u:=afK;clear afK;have XL:=λw=>se all k J w;have ahg:=λw=>Ta c b c1 w;generalize IJ p all b k=tz at*;generalize all.mem k=b1 at*;generalize c.mem b=b2 at*;have hu8:IT.wrap (b:Int)=(b:Int):=by rw[IS];omega
   repeat(first|refine GA ?_|refine gV (aX bL.eq aK.ty I I c2) ?_|refine gV (a8 (cs:=dR c) aK.ty I I (afL _)) ?_)
   refine aY I λg10=>?_;refine zL ?_
   try refine GA ?_
   refine gh 8 (cs':=(dR c).toArray) ?_;refine zL ?_
   repeat(first|refine GA ?_|refine gV (aO (i:=5) aK.ty I I I) ?_)
   refine aW (fI aI.en I I I) (λw hm=>XL w) I I I ?_;intro _ _;refine zL ?_
   by_cases q1:b1=aD
   ·subst q1
    repeat(first|refine GA ?_|refine gV (aO (i:=8) aK.ty I I I) ?_|refine gV (iL bL.eq bL.eq I hu8) ?_)
    refine mg (fI aI.en I I I) (λw hm=>ahg w) I I I I I ?_;intro _ _;refine zL ?_
    by_cases q2:b2=aD
    ·subst q2
     rw[if_pos ⟨rfl,rfl⟩]at hts
     try refine GA ?_
     refine bx [7] [0,1,2,3,4,5,6] aiz I I (fI aI.en I I I) (λw hm hb=>sf tz k J g8 w _ hb) I I I ?_;intro _ _;refine zL ?_
     try refine GA ?_
     exact bW (k+1) J (by show p.aZ.length-(k+1)<p.aZ.length-k;omega) (hl:=by rw[hts])
    rw[if_neg (λh=>q2 h.2)]at hts;obtain rfl:=tU.2 q2
    try refine GA ?_
    refine dh [0,1,2,3,4,5,6,7] ?_;exact bW (k+1) J (by show p.aZ.length-(k+1)<p.aZ.length-k;omega) (hl:=by rw[hts];rfl)
   rw[if_neg (λh=>q1 h.1)]at hts;obtain rfl:=tU.2 q1
   try refine GA ?_
   refine dh [0,1,2,3,4,5,6,7] ?_;exact bW (k+1) J (by show p.aZ.length-(k+1)<p.aZ.length-k;omega) (hl:=by rw[hts];rfl)
  obtain rfl:k=p.aZ.length:=by omega
  have hF:IJ p all b p.aZ.length=IK p all b:=rfl;rw[hF];have CQ:=abu (p:=p) (all:=all) (r:=r) (d:=d) c1;have oo:=abv (p:=p) (all:=all) (r:=r) (d:=d) c1;have NR:=aed (IK p all b) C4.zero;clear hF hrc;generalize IK p all b=tz at*
  repeat(first|refine GA ?_|refine gV (gY bL.eq aK.ty I I c1) ?_)
  refine re (i:=6) I I I c1 ?_;refine zL ?_
  by_cases q1:tz=C4.zero
  ·rw[decide_eq_true q1]at NR
   rw[CQ q1,if_neg (by show ¬200<d.S.length+1;omega)]at i4;refine pS (i:=1) I fV λgC=>?_;obtain⟨ab,cs,rfl,hmS,-⟩:=gC
   repeat(first|refine GC ?_|refine gV (aO (i:=7) aK.ty I I I) ?_|refine gV (bB I hB0) ?_|refine gV (C1 I I (by kernel_rfl) NR I) ?_|refine gV (aC (v:=ap ab (d.S.length+1) cs) aK.ty I (aH (i:=0) I I)) ?_|refine gV (dP (b:=aE) I I (decide_eq_false J)) ?_|refine GB ?_)
   refine dh [0,1,2,3,4,5,6] ?_;exact bW (b+1,r.set b (-1),d,ap ab (d.S.length+1) cs,vt) ⟨by omega,i2,i3,i4⟩ (by show 256-(b+1)<256-b;omega)
  rw[decide_eq_false q1]at NR;rw[oo q1]at i4;obtain⟨s1,s2,s3,s4,s5⟩:=Lf i2 tz
  repeat(first|refine GC ?_|refine gV (aO (i:=7) aK.ty I I I) ?_|refine gV (bB I hB0) ?_|refine gV (C1 I I (by kernel_rfl) NR I) ?_|refine GB ?_)
  refine bx [0,1,2,3] [4,5,6,7] aiz I I (fI aI.en I I I) (λw hm hb=>hst d tz vs vt J (by have:=i2.tags;omega) w _ (ho.on hm (by simp[Kh])) hb) I I I ?_;rintro⟨o7,og⟩ _
  conv=>arg 8;simp only[zJ,cL,ret,id_eq,aa2,Kh]
  conv=>arg 7;simp only[aa2]
  generalize iG p d tz=R at*;obtain⟨q,d'⟩:=R;dsimp only at i4 s1 s2 s3 s4 s5⊢;have hq:q<=200:=by omega
  refine pS (i:=5) I fV λgC=>?_;obtain⟨ab,cs,rfl,hmS,-⟩:=gC
  repeat(first|refine GA ?_|refine gV (iL bL.eq bL.eq I (abr J J)) ?_|refine gV (gY bL.eq aK.ty I I c1) ?_)
  refine re (i:=2) I I I c1 ?_;refine zL ?_;generalize (r.set b (-1)).set b (q:Int)=r' at*
  by_cases q2:200<d'.S.length+1
  ·rw[if_pos q2]at i4
   subst i4
   repeat(first|refine GC ?_|refine gV (aC (v:=ap ab (d'.S.length+1) cs) aK.ty I (aH (i:=4) I I)) ?_|refine gV (dP (b:=aD) I I (decide_eq_true J)) ?_|refine gV (aO (i:=2) aK.ty I I (by rw[dU,dw])) ?_|refine GB ?_)
   refine aV (i:=0) (cs':=(eH r').toArray) I I I (by rw[dU,dw]) (LV r') (by rw[dU,dw]) ?_;refine zL ?_
   try refine GA ?_
   exact fF (i:=0) I I I (by rw[dU,dw]) λw hm=>hm.cB (S:=⟨λ(_:Value×Value)=>True,λ_=>BT r',λx=>Kh (ap ac p.aZ.length cc) vr vf vfol vl ve rows g gm x.1 x.2 d'⟩) (ap ab (d'.S.length+1) cs,og) trivial [4,5,6,7] aiz I
  rw[if_neg q2]at i4
  repeat(first|refine GC ?_|refine gV (aC (v:=ap ab (d'.S.length+1) cs) aK.ty I (aH (i:=4) I I)) ?_|refine gV (dP (b:=aE) I I (decide_eq_false J)) ?_|refine GB ?_)
  refine dh [4,5,6,7,0,1,2] ?_;exact bW (b+1,r',d',ap ab (d'.S.length+1) cs,og) ⟨by omega,s1,by show d'.S.length+1<=200;omega,i4⟩ (by show 256-(b+1)<256-b;omega)
 ·obtain rfl:b=256:=by omega
  have i4:(r,d)=fin:=i4;subst i4
  repeat(first|refine GA ?_|refine gV (aO (i:=6) aK.ty I I (by rw[dU,dw])) ?_)
  refine aV (i:=4) (cs':=(eH r).toArray) I I I (by rw[dU,dw]) (LV r) (by rw[dU,dw]) ?_;refine zL ?_
  try refine GA ?_
  exact fF (i:=4) I I I (by rw[dU,dw]) λw hm=>hm.cB (S:=⟨λ(_:Value×Value)=>True,λ_=>BT r,λx=>Kh (ap ac p.aZ.length cc) vr vf vfol vl ve rows g gm x.1 x.2 d⟩) (vs,vt) trivial [0,1,2,3] aiz I
end bZ
namespace bZ
open Go.RowKit cU dM dg fZ ef nb cT
def su(m:MS):List Row×List Int×Int:=match uj m with
 |some (R,d)=>(R,d.tags,0)
 |none=>([],[],8)
def RE(m:MS):Spec (Value×Value):=⟨λ_=>True,λx=> .tuple #[iA x.1 x.2,av az (su m).2.2],λx=>[a_ 187 256 x.1 (su m).1.length ((su m).1.flatMap eH),fW x.2 (su m).2.1]⟩
theorem Ei{m:MS}{R:List Row}{d:DM}(h:uj m=aj (R,d)):su m=(R,d.tags,0):=by unfold su;rw[h]
theorem Pq{m:MS}(h:uj m=ak):su m=([],[],8):=by unfold su;rw[h]
theorem Hd(m:MS)(f n:Nat)(R:List Row)(d:DM):si m (f+1) n R d=if n<d.S.length+1 then(if 200<(pH m n d).2.S.length+1 then ak else si m f (n+1) (R++[(pH m n d).1]) (pH m n d).2)else aj (R,d):=rfl
theorem Ps(w:World):(df 120 (#[]:Array (Nat×Value))).run aB w= .ok (aQ #[ap ak 0 0,ap ak 0 0]) w:=by kernel_rfl
theorem LW(vc vr vf vfol vl ve:Value)(g gm:Nat)(w:World):(df 184 #[(0,aQ #[vc,vr,vf,vfol,vl,ve]),(1,ap (aj ⟨g,0,ak⟩) 1 1),(2,.map (aj gm))]).run aB w= .ok (.agg (Kg vc vr vf vfol vl ve (ap (aj ⟨g,0,ak⟩) 1 1) (.map (aj gm)) (ap ak 0 0) (ap ak 0 0))) w:=by
 unfold Kg;go_simp
theorem LX{g:Nat}{w:World}(h:(aP g (madeCells #[av .u64 0,av .u64 0,av .u64 0,av .u64 0] (1*4)) 233).holds w):(n0 (ap (aj ⟨g,0,ak⟩) 1 1) []).holds w:=by
 rw[acK (k:=4) I aiz]at h;exact⟨rfl,.inr ⟨g,1,_,rfl,bH _,h,bm _,by decide,rfl,rfl⟩⟩
theorem AF(v:Value)(R:List Row)(r:Row):a_ 187 256 v (R++[r]).length ((R++[r]).flatMap eH)=a_ 187 256 v (R.length+1) (R.flatMap eH++eH r):=by
 rw[bK,gO];simp
theorem aee{vc vr vf vfol vl ve vs num rows tags v:Value}{j:Nat}(h:[rows,tags][j]?=aj v):(Kg vc vr vf vfol vl ve vs num rows tags)[8+j]?=aj v:=by
 match j,h with
 |0,h=>exact h
 |1,h=>exact h
theorem Jf(r:Row):(eH r).toArray=([BT r].flatMap λv=>v.cells.toList).toArray:=by
 show _=((eH r).toArray.toList++[]).toArray
 simp
theorem Ej(r:Row):∀v∈[BT r],v.cells.size=256:=by
 intro v hv;rw[dQ.1 hv];show(eH r).toArray.size=256
 rw[dU,dw]
set_option maxRecDepth 100000 in
theorem FL(v:Value)(m:MS)(w:World)(hp:FD w v m)(h:IG m):
 Calls aB 38 #[v] w (cz (RE m) w):=by
 have iS:=λw' (hg:Gr w w')=>DQ v m w' (hp.gr hg) h;obtain⟨vc,vr,vf,vfol,vl,ve,rfl,h1,h2,h3,h4,h5,h6⟩:=id hp;have hrw:=λrows d g gm n vs vt hd hd2 hn w' B ho hm=>Je m vc vr vf vfol vl ve rows d g gm n vs vt w hp h hd hd2 hn w' B ho hm;clear h1 h2 h3 h4 h5 hp;have hms:=h.some;have sY:=h.qz;clear h;obtain⟨ae,ce,rfl,-,hme,hre⟩:=h6;unfold maxLen at hme;have hbz:=Ps;refine enter (args:=[aQ #[vc,vr,vf,vfol,vl,ap ae m.empty.length ce]]) (n:=78) Tryz.func38 I I I ?_;refine b9 (bz (bQ I I I λg1=>aY I λg2=>?_));refine zL ?_
 repeat(first|refine GA ?_|refine gV (aO (i:=0) aK.ty I I I) ?_)
 refine aW (iM aI.en I I) (λw hm=>iS _ hm.below) I I I ?_;intro _ _;refine zL ?_;clear iS
 repeat(first|refine GC ?_|refine gV (dm (b:=aE) I I (decide_eq_false (by simp))) ?_|refine GB ?_)
 (repeat refine b9 ?_)
 refine kV (ι:=Nat×Nat×Nat) (λ_=>True) (λ(_,_,g5)=>[(1,aJ (aj ⟨g1,0,ak⟩)),(2,aJ (aj ⟨g2,0,ak⟩)),(5,aJ (aj ⟨g5,0,ak⟩))])
  (λ(gs,gm,g5)=>[aP g1 #[vc,vr,vf,vfol,vl,ap ae m.empty.length ce] 115,aP g2 #[ap ak 0 0,ap ak 0 0] 120,aP g5 (Kg vc vr vf vfol vl (ap ae m.empty.length ce) (ap (aj ⟨gs,0,ak⟩) 1 1) (.map (aj gm)) (ap ak 0 0) (ap ak 0 0)) 184,n0 (ap (aj ⟨gs,0,ak⟩) 1 1) [],sn gm []]) ?_ ?_
 ·refine dK ([aP g1 #[vc,vr,vf,vfol,vl,ap ae m.empty.length ce] 115]) (.calm 0 (.two 1 (.one 2 (.calm 3 (.one 4 (.calm 5 (.done))))) 2 (.one 1 (.calm 3 (.one 4 (.calm 5 (.done))))))) (bV [0]) ?_
  repeat(first|refine GW ?_|(refine GN ?_;first|refine QW (aO (i:=0) aK.ty I I I) ?_))
  refine ez I I ?_ ?_
  ·refine tP (m:=1) (cap:=1) I I (bm 1) aiz aiz I λgs=>aM (bV [0]) ?_
   refine aL I (xl OQ I λgm=>aM (bV [0]) ?_)
   repeat(first|refine GW ?_|(refine GN ?_;first|refine QW (bB I (LW _ _ _ _ _ _ _ _)) ?_))
   refine aL I (bQ I I I λg5=>aM (bV [0]) ?_)
   try refine GW ?_
   refine oc (i:=2) (n0 (ap (aj ⟨gs,0,ak⟩) 1 1) []) I (λw h=>LX h) (λk h=>h) ?_;refine oc (i:=3) (sn gm []) I (λw h=>by unfold sn;rw[<-DR];exact h) (λk h=>h) ?_;refine dh [0,1,4,2,3] ?_;exact dJ (gs,gm,g5) trivial (by repeat' (first|exact cI|refine cC I ?_)) I
  refine xl OQ I λgm=>aM (bV [0]) ?_;refine aL I (tP (m:=1) (cap:=1) I I (bm 1) aiz aiz I λgs=>aM (bV [0]) ?_)
  repeat(first|refine GW ?_|(refine GN ?_;first|refine QW (bB I (LW _ _ _ _ _ _ _ _)) ?_))
  refine aL I (bQ I I I λg5=>aM (bV [0]) ?_)
  try refine GW ?_
  refine oc (i:=3) (n0 (ap (aj ⟨gs,0,ak⟩) 1 1) []) I (λw h=>LX h) (λk h=>h) ?_;refine oc (i:=2) (sn gm []) I (λw h=>by unfold sn;rw[<-DR];exact h) (λk h=>h) ?_;refine dh [0,1,4,3,2] ?_;exact dJ (gs,gm,g5) trivial (by repeat' (first|exact cI|refine cC I ?_)) I
 rintro⟨gs,gm,g5⟩ _;dsimp only
 try refine GA ?_
 refine fm (cs:=#[av az (-1)]) [av az (-1)] I I I (by intro v hv;simp at hv;subst hv;rfl) I I I λg20=>?_;refine zL ?_
 try refine GA ?_
 refine bU (i:=2) I I I I I I ?_;refine zL ?_
 repeat(first|refine GC ?_|refine gV (aC (v:=ap ae m.empty.length ce) aK.ty I (aH (i:=0) I I)) ?_|refine gV (eC (r:=(m.empty.length:Int)-1) I I J J I) ?_|refine GB ?_)
 refine nO (ι:=Nat) (λk=>k<=m.empty.length) (λk=>[(1,aJ (aj ⟨g1,0,ak⟩)),(2,aJ (aj ⟨g2,0,ak⟩)),(5,aJ (aj ⟨g5,0,ak⟩)),(6,av az ((k:Int)-1))])
  (λk=>[aP g1 #[vc,vr,vf,vfol,vl,ap ae m.empty.length ce] 115,aP g2 #[ap ak 0 0,ap ak 0 0] 120,aP g5 (Kg vc vr vf vfol vl (ap ae m.empty.length ce) (ap (aj ⟨gs,0,ak⟩) 1 1) (.map (aj gm)) (ap ak 0 0) (ap (aj ⟨g20,0,ak⟩) 1 1)) 184,n0 (ap (aj ⟨gs,0,ak⟩) 1 1) [],sn gm [],aP g20 #[av az (fc (m.empty.drop k) k)] 3]) (λk=>k) m.empty.length (bm _) (by repeat' (first|exact cI|refine cC I ?_)) (by rw[oL (bm _)];rfl) ?_
 intro k hk
 by_cases c1:0<k
 ·obtain⟨j,rfl⟩:∃j,k=j+1:=⟨k-1,by omega⟩
  have hj:j<m.empty.length:=by omega
  obtain⟨be,aef,rfl,ahh⟩:=hre J;have ahi:=λ(L:List b_)=>gG (L:=L) Rp ahh hj 0 _ I;have hst:fc (m.empty.drop j) j=if m.empty[j]=aD then(j:Int)else fc (m.empty.drop (j+1)) ((j:Int)+1):=by rw[eI hj,fc]
  rw[show(((j+1:Nat):Int))=(j:Int)+1 by omega]at*;generalize fc (m.empty.drop (j+1)) ((j:Int)+1)=t at*;generalize m.empty[j]=b at*;rw[show(j:Int)+1-1=(j:Int)by omega];have acV:∀(L:List b_),At (w:bR) L ⟨be,aef+j*1+0,ak⟩ (.bool b):=ahi
  by_cases c2:b=aD
  ·subst c2
   rw[if_pos I]at hst
   repeat(first|refine GC ?_|refine gV (eN (b:=aD) I I (decide_eq_true J)) ?_|refine gV (aC (v:=ap (aj ⟨be,aef,ak⟩) m.empty.length ce) aK.ty I (aH (i:=0) I I)) ?_|refine gV (aX bL.eq aK.ty I I hj) ?_|refine gV (aC (v:= .bool aD) aK.ty I (acV _)) ?_|refine gV (aC (v:=ap (aj ⟨g20,0,ak⟩) 1 1) aK.ty I (aH (i:=2) I I)) ?_|refine gV (aX (j:=0) bL.eq aK.ty I I aiz) ?_|refine GB ?_)
   refine bU (i:=5) I I I I I I ?_;refine zL ?_
   repeat(first|refine GC ?_|refine gV (eC (r:=(j:Int)-1) I I J J I) ?_|refine GB ?_)
   exact bW j J (by show j<j+1;omega) (hl:=by rw[hst];rfl)
  rw[if_neg c2]at hst;obtain rfl:=tU.2 c2
  repeat(first|refine GC ?_|refine gV (eN (b:=aD) I I (decide_eq_true J)) ?_|refine gV (aC (v:=ap (aj ⟨be,aef,ak⟩) m.empty.length ce) aK.ty I (aH (i:=0) I I)) ?_|refine gV (aX bL.eq aK.ty I I hj) ?_|refine gV (aC (v:= .bool aE) aK.ty I (acV _)) ?_|refine gV (eC (r:=(j:Int)-1) I I J J I) ?_|refine GB ?_)
  exact bW j J (by show j<j+1;omega) (hl:=by rw[hst])
 ·obtain rfl:k=0:=by omega
  rw[show fc (m.empty.drop 0) ((0:Nat):Int)=fc m.empty 0 from I];have jp:si m (201-0) 0 [] ⟨[],[fc m.empty 0]⟩=uj m:=rfl;generalize fc m.empty 0=t0 at*;refine QY (i:=5) (fW (ap (aj ⟨g20,0,ak⟩) 1 1) [t0]) I (λw h=>IN h) (λk h=>h) ?_
  repeat(first|refine GC ?_|refine gV (eN (b:=aE) I I (decide_eq_false J)) ?_|refine GB ?_)
  refine ja 187 256 ?_;refine tJ [1,2,3,4,5,6] ?_;clear hre;refine dY (ι:=Nat×List Row×DM×Value×Value×Value) (λ(n,R,d,_,_,_)=>R.length=n/\n<=d.S.length+1/\DOk m.ps d/\d.S.length+1<=200/\si m (201-n) n R d=uj m) (λ(n,_,_,_,_,_)=>[(2,aJ (aj ⟨g2,0,ak⟩)),(5,aJ (aj ⟨g5,0,ak⟩)),(7,av az (n:Int))])
   (λ(_,R,d,vs,uK,vt)=>[aP g2 #[ap ak 0 0,ap ak 0 0] 120,aP g5 (Kg vc vr vf vfol vl (ap ae m.empty.length ce) vs (.map (aj gm)) uK vt) 184,n0 vs d.S,sn gm d.S,fW vt d.tags,a_ 187 256 uK R.length (R.flatMap eH)]) (λ(n,_,_,_,_,_)=>201-n) (0,[],⟨[],[t0]⟩,ap (aj ⟨gs,0,ak⟩) 1 1,ap ak 0 0,ap (aj ⟨g20,0,ak⟩) 1 1) ⟨rfl,bH _,⟨XZ,rfl⟩,by show 0+1<=200;omega,jp⟩ ?_
  clear jp hk c1;rintro⟨n,R,d,vs,uK,vt⟩ ⟨i0,i1,i2,i3,i4⟩;dsimp only at i0 i1 i2 i3 i4⊢;refine io (i:=2) I fV λgC=>?_;obtain⟨ab,cs,rfl,hmS,-⟩:=gC
  by_cases c1:n<d.S.length+1
  ·rw[show 201-n=(201-(n+1))+1 by omega,Hd,if_pos c1]at i4
   obtain⟨s1,s2,s3⟩:=Lg (p:=m.ps) (mI m d.S n) 256 0 (eb 256 0) d i2 i3;have Yr:=λw' (qV:Mem (w:bR) [aP g2 #[ap ak 0 0,ap ak 0 0] 120,aP g5 (Kg vc vr vf vfol vl (ap ae m.empty.length ce) (ap ab (d.S.length+1) cs) (.map (aj gm)) uK vt) 184,n0 (ap ab (d.S.length+1) cs) d.S,sn gm d.S,fW vt d.tags,a_ 187 256 uK R.length (R.flatMap eH)] w') (hb:Mem (bR.on w' (Kh vc vr vf vfol vl (ap ae m.empty.length ce) uK g5 gm (ap ab (d.S.length+1) cs) vt d)) (Kh vc vr vf vfol vl (ap ae m.empty.length ce) uK g5 gm (ap ab (d.S.length+1) cs) vt d) w')=>hrw uK d g5 gm n (ap ab (d.S.length+1) cs) vt i2 i3 J w' _ ((pC.self w).on qV (by simp[Kh])) hb;rw[show mv m.ps (mI m d.S n) 256 0 (eb 256 0) d=pH m n d from I]at s1 s2 s3;obtain⟨r',d',nZ⟩:∃r' d',pH m n d=(r',d'):=⟨_,_,rfl⟩;rw[nZ]at i4 s1 s2 s3;dsimp only at i4 s1 s2 s3
   repeat(first|refine GC ?_|refine gV (aC (v:=ap ab (d.S.length+1) cs) aK.ty I (aH (i:=1) I I)) ?_|refine gV (dO (b:=aD) I I (decide_eq_true J)) ?_|refine GB ?_)
   (repeat refine b9 ?_)
   refine kV (ι:=Value×Value×Value) (λ_=>True) (λ_=>[(2,aJ (aj ⟨g2,0,ak⟩)),(5,aJ (aj ⟨g5,0,ak⟩)),(7,av az (n:Int))])
    (λ(o7,qE,og)=>[aP g2 #[ap ak 0 0,ap ak 0 0] 120,aP g5 (Kg vc vr vf vfol vl (ap ae m.empty.length ce) o7 (.map (aj gm)) qE og) 184,n0 o7 d'.S,sn gm d'.S,fW og d'.tags,a_ 187 256 qE (R++[r']).length ((R++[r']).flatMap eH)]) ?_ ?_
   ·refine dK ([]) (.calm 0 (.calm 1 (.calm 2 (.calm 3 (.calm 4 (.calm 6 (.calm 7 (.two 5 (.one 8 (.one 9 (.one 10 (.calm 11 (.calm 12 (.calm 13 (.one 14 (.done)))))))) 8 (.two 5 (.one 9 (.one 10 (.calm 11 (.calm 12 (.calm 13 (.one 14 (.done))))))) 9 (.one 5 (.one 10 (.calm 11 (.calm 12 (.calm 13 (.one 14 (.done)))))))))))))))) (bV []) ?_
    try refine GW ?_
    refine ez I I ?_ ?_
    ·refine du (aC (v:=uK) aK.ty I (aH (i:=1) I I)) I I I (aM (bV []) ?_)
     refine aL I (bx [1,2,3,4] [0,5] aiz I I (fI aI.en I I I) (λw' hm hb=>Yr w' hm hb) I I I ?_);rintro⟨o7,og⟩ _
     conv=>arg 8;simp only[zJ,cL,ret,id_eq,Hc,Kh]
     conv=>arg 7;simp only[Hc]
     rw[nZ];dsimp only;refine aM (bV []) ?_;refine aL I (fm (cs:=(eH r').toArray) [BT r'] I I I (Ej r') I (Jf r') I λg62=>(aM (bV []) ?_));refine aL I (eD (i:=1) (e:=187) (size:=256) (bytes:=512) (m:=R.length) (xs:=R.flatMap eH) (k:=1) (ys:=eH r') I (kX (i:=6) I (λj u h=>by simpa using h) (bm 1) aiz) I I (by rw[dw]) (λu hu=>row_one [r'] u (by simpa using hu)) J J I λqE=>(aM (bV []) ?_))
     try refine GW ?_
     refine aL I (aU (i:=1) I λkK lz=>bU (i:=2) I I I kK lz I (aM (bV []) ?_))
     try refine GW ?_
     refine dh [0,2,3,4,5,1] ?_;exact dJ (o7,qE,og) trivial (by repeat' (first|exact cI|refine cC I ?_)) (by dsimp only;rw[AF];rfl)
    refine bx [1,2,3,4] [0,5] aiz I I (fI aI.en I I I) (λw' hm hb=>Yr w' hm hb) I I I ?_;rintro⟨o7,og⟩ _
    conv=>arg 8;simp only[zJ,cL,ret,id_eq,Hc,Kh]
    conv=>arg 7;simp only[Hc]
    rw[nZ];dsimp only;refine aM (bV []) ?_;refine ez I I ?_ ?_
    ·refine du (aC (v:=uK) aK.ty I (aH (i:=2) I I)) I I I (aM (bV []) ?_)
     refine aL I (fm (cs:=(eH r').toArray) [BT r'] I I I (Ej r') I (Jf r') I λg62=>(aM (bV []) ?_));refine aL I (eD (i:=1) (e:=187) (size:=256) (bytes:=512) (m:=R.length) (xs:=R.flatMap eH) (k:=1) (ys:=eH r') I (kX (i:=6) I (λj u h=>by simpa using h) (bm 1) aiz) I I (by rw[dw]) (λu hu=>row_one [r'] u (by simpa using hu)) J J I λqE=>(aM (bV []) ?_))
     try refine GW ?_
     refine aL I (aU (i:=1) I λkK lz=>bU (i:=2) I I I kK lz I (aM (bV []) ?_))
     try refine GW ?_
     refine dh [0,2,3,4,5,1] ?_;exact dJ (o7,qE,og) trivial (by repeat' (first|exact cI|refine cC I ?_)) (by dsimp only;rw[AF];rfl)
    refine fm (cs:=(eH r').toArray) [BT r'] I I I (Ej r') I (Jf r') I λg62=>(aM (bV []) ?_);refine aL I (du (aC (v:=uK) aK.ty I (aH (i:=2) I I)) I I I (aM (bV []) ?_));refine aL I (eD (i:=1) (e:=187) (size:=256) (bytes:=512) (m:=R.length) (xs:=R.flatMap eH) (k:=1) (ys:=eH r') I (kX (i:=6) I (λj u h=>by simpa using h) (bm 1) aiz) I I (by rw[dw]) (λu hu=>row_one [r'] u (by simpa using hu)) J J I λqE=>(aM (bV []) ?_))
    try refine GW ?_
    refine aL I (aU (i:=1) I λkK lz=>bU (i:=2) I I I kK lz I (aM (bV []) ?_))
    try refine GW ?_
    refine dh [0,2,3,4,5,1] ?_;exact dJ (o7,qE,og) trivial (by repeat' (first|exact cI|refine cC I ?_)) (by dsimp only;rw[AF];rfl)
   clear Yr;rintro⟨o7,qE,og⟩ _;dsimp only;refine io (i:=2) I fV λgC=>?_;obtain⟨ab',cs',rfl,aid,-⟩:=gC
   by_cases c2:200<d'.S.length+1
   ·rw[if_pos c2]at i4
    have ho:=Pq i4.symm;unfold RE;rw[ho]
    repeat(first|refine GC ?_|refine gV (aC (v:=ap ab' (d'.S.length+1) cs') aK.ty I (aH (i:=1) I I)) ?_|refine gV (dP (b:=aD) I I (decide_eq_true J)) ?_|refine gV (bB I hbz) ?_|refine GB ?_)
    refine gh 0 ?_;refine zL ?_
    try refine GA ?_
    refine dF 187 256 (dF 3 1 ?_);exact ey (i:=0) I I I I I λw hm=>hm.meets (S:=⟨λ(_:Value×Value)=>True,λx=> .tuple #[iA x.1 x.2,av az 8],λx=>[a_ 187 256 x.1 0 [],a_ 3 1 x.2 0 []]⟩) (ap ak 0 0,ap ak 0 0) trivial [6,7] aiz I
   rw[if_neg c2]at i4
   repeat(first|refine GC ?_|refine gV (aC (v:=ap ab' (d'.S.length+1) cs') aK.ty I (aH (i:=1) I I)) ?_|refine gV (dP (b:=aE) I I (decide_eq_false J)) ?_|refine GB ?_)
   exact bW (n+1,R++[r'],d',ap ab' (d'.S.length+1) cs',qE,og) ⟨by rw[bK,i0];rfl,by show n+1<=d'.S.length+1;omega,s1,by show d'.S.length+1<=200;omega,i4⟩ (by show 201-(n+1)<201-n;omega)
  have i5:uj m=aj (R,d):=by
   rw[<-i4,show 201-n=(201-(n+1))+1 by omega,Hd,if_neg c1]
  have ho:=Ei i5;unfold RE;rw[ho];refine io (i:=4) I fV λgC=>?_;obtain⟨at',ct',rfl,-⟩:=gC;refine io (i:=5) I fV λgC=>?_;obtain⟨ar',cr',rfl,-⟩:=gC
  repeat(first|refine GC ?_|refine gV (aC (v:=ap ab (d.S.length+1) cs) aK.ty I (aH (i:=1) I I)) ?_|refine gV (dO (b:=aE) I I (decide_eq_false J)) ?_|refine gV (a8 (cs:=[ap ar' R.length cr',ap at' d.tags.length ct']) aK.ty I I (λj v hj=>aH (i:=1) I (aee hj))) ?_|refine GB ?_)
  refine gh 0 (cs':=#[ap ar' R.length cr',ap at' d.tags.length ct']) ?_;refine zL ?_
  try refine GA ?_
  exact ey (i:=0) I I I I I λw hm=>hm.meets (S:=⟨λ(_:Value×Value)=>True,λx=> .tuple #[iA x.1 x.2,av az 0],λx=>[a_ 187 256 x.1 R.length (R.flatMap eH),fW x.2 d.tags]⟩) (ap ar' R.length cr',ap at' d.tags.length ct') trivial [5,4] aiz I
end bZ
namespace nb
open dg fZ ef cT
open bZ (l7 fe wt Jb)
def LY(p:PS)(S:List C4)(all:C4)(b:Nat):Int:=if IK p all b=C4.zero then-1 else((idx S (IK p all b)+1:Nat):Int)
def uL(p:PS)(S:List C4)(all:C4)(b:Nat)(x:Int):Prop:=x=LY p S all b/\(IK p all b=C4.zero\/IK p all b∈S)
theorem uL.To{p:PS}{S:List C4}{all:C4}{b:Nat}{x:Int}(h:uL p S all b x)(E:List C4):uL p (S++E) all b x:=by
 obtain⟨h1,h2⟩:=h;refine⟨?_,h2.imp id λh=>xu _ h⟩;rw[h1];unfold LY
 by_cases c:IK p all b=C4.zero
 rw[if_pos c,if_pos c];rw[if_neg c,if_neg c,pU (h2.resolve_left c)]
def qG(p:PS)(t0:Int)(d:DM):Prop:=d.tags=t0::d.S.map (nb.wm p)
theorem Ub(p:PS)(t0:Int)(d:DM)(s:C4):(∃E,(iG p d s).2.S=d.S++E)/\s∈(iG p d s).2.S/\(iG p d s).1=idx (iG p d s).2.S s+1/\(qG p t0 d->qG p t0 (iG p d s).2):=by
 unfold iG
 by_cases c:s∈d.S
 ·rw[if_pos c]
  exact⟨⟨[],(eG _).symm⟩,c,rfl,id⟩
 rw[if_neg c];refine⟨⟨[s],rfl⟩,XV _ (dQ.2 I),?_,λh=>?_⟩
 ·show d.S.length+1=idx (d.S++[s]) s+1
  unfold idx;rw[List.idxOf_append,if_neg c];simp
 show d.tags++[nb.wm p s]=t0::(d.S++[s]).map (nb.wm p)
 rw[h,eO];rfl
theorem Ys(p:PS)(t0:Int)(all:C4)(b:Nat)(hb:b<256)(r:Row)(d:DM):(∃E,(fL p all b r d).2.S=d.S++E)/\(∀c (h:c<256),c≠b->(fL p all b r d).1[c]=r[c])/\uL p (fL p all b r d).2.S all b ((fL p all b r d).1[b])/\(qG p t0 d->qG p t0 (fL p all b r d).2):=by
 unfold fL
 by_cases c:IK p all b=C4.zero
 ·rw[if_pos c,dif_pos hb]
  refine⟨⟨[],(eG _).symm⟩,λc' h hc=>?_,⟨?_,.inl c⟩,id⟩;exact O0 hb h (w7 hc);rw[X4 hb];unfold LY;rw[if_pos c]
 rw[if_neg c,dif_pos hb];obtain⟨h1,h2,h3,h4⟩:=Ub p t0 d (IK p all b);refine⟨h1,λc' h hc=>?_,⟨?_,.inr h2⟩,h4⟩
 ·dsimp only
  rw[O0 hb h (w7 hc),O0 hb h (w7 hc)]
 dsimp only;rw[X4 hb,h3];unfold LY;rw[if_neg c]
theorem RF(p:PS)(t0:Int)(all:C4):∀(f b:Nat) (r:Row) (d:DM),b+f=256->(mv p all f b r d).2.S.length+1<=200->
 (∃E,(mv p all f b r d).2.S=d.S++E)/\(∀c (h:c<256),c<b->(mv p all f b r d).1[c]=r[c])/\(∀c (h:c<256),b<=c->uL p (mv p all f b r d).2.S all c ((mv p all f b r d).1[c]))/\(qG p t0 d->qG p t0 (mv p all f b r d).2)
 |0,b,r,d,hbf,_=>⟨⟨[],(eG _).symm⟩,λ_ _ _=>rfl,λc h hc=>by omega,id⟩
 | f +1,b,r,d,hbf,hl=>by
  obtain⟨⟨E1,h1⟩,h2,h3,h4⟩:=Ys p t0 all b J r d;have e:mv p all (f+1) b r d=if 200<(fL p all b r d).2.S.length+1 then fL p all b r d else mv p all f (b+1) (fL p all b r d).1 (fL p all b r d).2:=rfl
  rw[e]at hl⊢
  by_cases c:200<(fL p all b r d).2.S.length+1
  rw[if_pos c]at hl;omega;rw[if_neg c]at hl⊢;obtain⟨⟨E2,q1⟩,q2,q3,q4⟩:=RF p t0 all f (b+1) _ _ J hl;refine⟨⟨E1++E2,by rw[q1,h1,eY]⟩,λc' h hc=>?_,λc' h hc=>?_,λh=>q4 (h4 h)⟩;rw[q2 c' h J,h2 c' h J]
  by_cases ec:c'=b
  ·subst ec
   rw[q2 c' h J,q1];exact h3.To E2
  exact q3 c' h J
theorem He(m:MS)(S E:List C4){n:Nat}(h:n<=S.length):mI m (S++E) n=mI m S n:=by
 cases n with
 |zero=>rfl
 |succ n=>
  show nc m.ps ((S++E).getD n C4.zero) _=nc m.ps (S.getD n C4.zero) _
  rw[jl J]
structure MkI(m:MS)(t0:Int)(n:Nat)(R:List Row)(d:DM):Prop where
 len:R.length=n
 le:n<=d.S.length+1
 Cg:d.S.length+1<=200
 cell:∀q,q<n->∀c (h:c<256),uL m.ps d.S (mI m d.S q) c ((R.getD q wt)[c])
 tags:qG m.ps t0 d
theorem LZ(m:MS)(t0:Int):∀(f n:Nat) (R:List Row) (d:DM) (R':List Row) (d':DM),si m f n R d=aj (R',d')->MkI m t0 n R d->MkI m t0 (d'.S.length+1) R' d'
 |0,_,_,_,_,_,h,_=>by cases h
 | f + 1,n,R,d,R',d',h,hi=>by
  have e:si m (f+1) n R d=if n<d.S.length+1 then(if 200<(pH m n d).2.S.length+1 then ak else si m f (n+1) (R++[(pH m n d).1]) (pH m n d).2)else aj (R,d):=rfl
  rw[e]at h
  by_cases c1:n<d.S.length+1
  ·rw[if_pos c1]at h
   by_cases c2:200<(pH m n d).2.S.length+1
   rw[if_pos c2]at h;cases h;rw[if_neg c2]at h;refine LZ m t0 f (n+1) _ _ R' d' h ?_;obtain⟨⟨E,q1⟩,_,q3,q4⟩:=RF m.ps t0 (mI m d.S n) 256 0 (eb 256 0) d rfl (by show(pH m n d).2.S.length+1<=200;omega);have q1:(pH m n d).2.S=d.S++E:=q1;have q3:∀c (h:c<256),0<=c->uL m.ps (pH m n d).2.S (mI m d.S n) c ((pH m n d).1[c]):=q3;have hlen:=congrArg xP q1;rw[bK]at hlen;refine⟨by rw[bK,hi.len];rfl,by omega,by omega,λq hq c hc=>?_,q4 hi.tags⟩
   by_cases eq:q=n
   ·subst eq
    rw[mW (by rw[hi.len];exact bm _),hi.len,nT];show uL m.ps (pH m q d).2.S (mI m (pH m q d).2.S q) c ((pH m q d).1[c])
    rw[q1,He m d.S E J,<-q1];exact q3 c hc (bH _)
   rw[jl (by rw[hi.len];omega),q1,He m d.S E J];exact(hi.cell q J c hc).To E
  rw[if_neg c1]at h;simp only[dr,hJ]at h;obtain⟨rfl,rfl⟩:=h;have:n=d.S.length+1:=by have:=hi.le;omega
  rw[<-this];exact hi
theorem AG{m:MS}{R:List Row}{d:DM}(h:uj m=aj (R,d)):MkI m (fc m.empty 0) (d.S.length+1) R d:=
 LZ m (fc m.empty 0) 201 0 [] ⟨[],[fc m.empty 0]⟩ R d h ⟨rfl,bH _,by show 0+1<=200;decide,λq hq=>absurd hq (lT q),rfl⟩
theorem Yt(R:List Row)(q c:Nat)(h:c<256):((R.getD q wt).toList.getD c 0)=(R.getD q wt)[c]:=by
 rw[cH,bD (by simpa using h),kD,nU]
theorem Jg{p:PS}{n:Nat}(hr:∀r∈p.rules,0<=r/\r<n)(hl:p.rules.length=p.aZ.length)(s:C4):∀k,k<=p.aZ.length->(kj p s k= -1/\∀i,i<k->s.mem i=aD->p.last.getD i aE=aD->False)\/(∃i,i<k/\s.mem i=aD/\p.last.getD i aE=aD/\kj p s k=p.rules.getD i 0/\0<=kj p s k/\kj p s k<n/\∀i,i<k->s.mem i=aD->p.last.getD i aE=aD->kj p s k<=p.rules.getD i 0)
 |0,_=> .inl ⟨rfl,λi hi=>absurd hi (lT i)⟩
 | k +1,hk=>by
  have S7:0<=p.rules.getD k 0/\p.rules.getD k 0<n:=by
   rw[cH,bD J,kD];exact hr _ (cD _)
  have e:kj p s (k+1)=if s.mem k=aD/\p.last.getD k aE=aD/\(kj p s k<0\/p.rules.getD k 0<kj p s k)then p.rules.getD k 0 else kj p s k:=rfl
  rw[e];have ih:=Jg hr hl s k J
  by_cases c:s.mem k=aD/\p.last.getD k aE=aD/\(kj p s k<0\/p.rules.getD k 0<kj p s k)
  ·rw[if_pos c]
   refine .inr ⟨k,mz k,c.1,c.2.1,rfl,S7.1,S7.2,λi hi h1 h2=>?_⟩
   by_cases ei:i=k
   subst ei;exact k8 _;rcases ih with⟨_,h⟩|⟨_,_,_,_,_,h0,_,h⟩
   exact(h i J h1 h2).elim;have h7:=h i J h1 h2;have h8:=c.2.2;omega
  rw[if_neg c];rcases ih with⟨h0,h⟩|⟨i,hi,h1,h2,h3,h4,h5,h6⟩
  ·refine .inl ⟨h0,λi hi h1 h2=>?_⟩
   by_cases ei:i=k
   subst ei;exact c ⟨h1,h2,.inl (by rw[h0];decide)⟩;exact h i J h1 h2
  refine .inr ⟨i,by omega,h1,h2,h3,h4,h5,λj hj g1 g2=>?_⟩
  by_cases ej:j=k
  ·subst ej
   have h9:¬(kj p s j<0\/p.rules.getD j 0<kj p s j):=λh=>c ⟨g1,g2,h⟩;omega
  exact h6 j J g1 g2
theorem Ek:∀(l:List Bool) (k:Nat),(fc l k= -1/\∀i,i<l.length->l.getD i aE=aE)\/(∃i,i<l.length/\fc l k=((k+i:Nat):Int)/\l.getD i aE=aD/\∀j,j<i->l.getD j aE=aE)
 |[],_=> .inl ⟨rfl,λ_ _=>rfl⟩
 |true::l,k=> .inr ⟨0,Nat.zero_lt_succ _,rfl,rfl,λj hj=>absurd hj (lT j)⟩
 | false::l,k=>by
  have e:fc (false::l) (k:Int)=fc l ((k+1:Nat):Int):=rfl;rw[e];rcases Ek l (k+1)with⟨h1,h2⟩|⟨i,h1,h2,h3,h4⟩
  ·refine .inl ⟨h1,λi hi=>?_⟩
   cases i with
   |zero=>rfl
   |succ i=>exact h2 i (by simpa using hi)
  refine .inr ⟨i+1,by simpa using h1,by rw[h2];congr 1;omega,h3,λj hj=>?_⟩
  cases j with
  |zero=>rfl
  |succ j=>exact h4 j J
theorem Hf{l:List Bool}: -1<=fc l 0/\fc l 0<(l.length:Int):=by
 rcases Ek l 0 with⟨h1,_⟩|⟨i,h1,h2,_⟩
 ·have h1:fc l 0= -1:=h1
  rw[h1];omega
 have h2:fc l 0=((0+i:Nat):Int):=h2;rw[h2];omega
section
variable{es:List Re}{m:MS}{R:List Row}{d:DM}
theorem abw(hm:IG m)(hi:MkI m (fc m.empty 0) (d.S.length+1) R d){k:Nat}(hk:k<d.S.length+1):d.tags.getD k 0=(if h:k=0 then fc m.empty 0 else nb.wm m.ps (d.S[k-1]' J))/\ -1<=d.tags.getD k 0/\d.tags.getD k 0<20:=by
 have h:=hi.tags;unfold qG at h;rw[h];have h20:=hm.qz
 cases k with
 |zero=>
  have:=Hf (l:=m.empty);refine⟨rfl,this.1,?_⟩;have e:(fc m.empty 0::d.S.map (nb.wm m.ps)).getD 0 0=fc m.empty 0:=rfl;rw[e];omega
 | succ k=>
  have hk:k<d.S.length:=by omega
  have e:(fc m.empty 0::d.S.map (nb.wm m.ps)).getD (k+1) 0=nb.wm m.ps d.S[k]:=by
   rw[List.getD_cons_succ,cH,eX,bD hk];rfl
  rw[e];refine⟨rfl,?_⟩;unfold nb.wm;rcases Jg hm.rules hm.ok.ps.rules d.S[k] m.ps.aZ.length (bm _)with⟨h1,_⟩|⟨_,_,_,_,_,h1,h2,_⟩
  rw[h1];omega;omega
theorem Yu(hm:IG m)(hi:MkI m (fc m.empty 0) (d.S.length+1) R d):l7 R d.tags=0:=by
 have hl:=hi.len;have hf:=hi.Cg;refine Jb ⟨?_,?_,λq hq b hb=>?_,λq hq=>?_⟩ ?_;show 0<R.length;omega
 show R.length<=200;omega
 ·have hq:q<R.length:=hq
  show-1<=(R.getD q wt).toList.getD b 0/\(R.getD q wt).toList.getD b 0<(R.length:Int)
  rw[Yt R q b hb,(hi.cell q J b hb).1];unfold LY
  by_cases c:IK m.ps (mI m d.S q) b=C4.zero
  rw[if_pos c];omega;rw[if_neg c];have:=oO ((hi.cell q J b hb).2.resolve_left c);omega
 ·have hq:q<R.length:=hq
  exact(abw hm hi J).2
 have h:=hi.tags;unfold qG at h;rw[h,hl,c_,dI]
end
end nb
namespace bZ
open Go.RowKit cU dM
section
variable{α:Type}{s:vO α}{F:Nat->Prop}{vs:List Value}{S:List (List α)}{W:bR}{L:List b_}{w:World}
theorem Hg(h:(dZ (bM s) F (vs.map λv=>[v]) S).holds w):vs.length=S.length:=by have:=h.1.1;rwa [dI]at this
theorem Pt(h:(dZ (bM s) F (vs.map λv=>[v]) S).holds w){q:Nat}(hq:q<S.length){v:Value}(hv:vs[q]?=aj v):jQ s F w v S[q]:=by
 have hnv:q<vs.length:=(dl.1 hv).1;obtain⟨v',e,hs⟩:=h.1.2 q hq (by rw[dI];exact hnv);rw[r9]at e;have h2:=(dl.1 hv).2;rw[h2]at e;rw[(X0 e).1];exact hs
theorem Yv(h:(dZ (bM s) F (vs.map λv=>[v]) S).holds w){q:Nat}(hq:q<S.length){v:Value}(hv:vs[q]?=aj v):∃base cap,v= .slice base S[q].length cap/\S[q].length<=cap/\cap<=9223372036854775807/\(0<S[q].length->∃b off,base=aj ⟨b,off,ak⟩):=by
 obtain⟨base,cap,e,h1,h2,h3⟩:=Pt h hq hv;exact⟨base,cap,e,h1,by unfold maxLen at h2;omega,λhn=>let ⟨b,off,h4,_⟩:=h3 hn;⟨b,off,h4⟩⟩
theorem Pu{f:α->List Value}{c:Nat}{hc:∀a,(f a).length=c}{p:α->Prop}(CQ:0<c){i:Nat}(hi:L[i]?=aj (dZ (bM (yw f c hc p)) F (vs.map λv=>[v]) S)){q:Nat}(hq:q<S.length){v:Value}(hv:vs[q]?=aj v):SlL W L v S[q].length (S[q].flatMap f):=λ_ hm=>
 jQ.flat CQ (Pt (hm.get hi) hq hv)
end
end bZ
namespace bZ
open Go.RowKit cU dM aT dL dG bI cT
def Em(c:bI.Item->Nat)(x:bI.Item):Value:=av az (c x:Int)
def AH(c:bI.Item->Nat)(it:bI.Item)(x:bI.Item):Nat:=if x=it then c x+1 else c x
structure rh(c:bI.Item->Nat)(out:List bI.Item)(b:Nat):Prop where
 zero:∀x,c x=0↔x∉out
 le:∀x,c x<=b
theorem rh.put{c:bI.Item->Nat}{out:List bI.Item}{b:Nat}(h:rh c out b)(it:bI.Item):rh (AH c it) (more out it) (b+2):=by
 refine⟨λx=>?_,λx=>?_⟩
 ·unfold AH
  by_cases e:x=it
  ·subst e
   rw[if_pos I]
   constructor
   intro h;omega;intro h;exact absurd (tW.2 (.inr I)) h
  rw[if_neg e,h.zero x];rw[tW]
  constructor
  intro h1 h2;exact h2.elim h1 e;intro h1 h2;exact h1 (.inl h2)
 unfold AH;have:=h.le x;split<;>omega
def FM(g5 gm g6 b:Nat)(v:Value)(c:bI.Item->Nat)(out:List bI.Item):List b_:=
 [aP g5 #[.map (aj gm)] 247,pG I5 gm (av az 0) (Em c) b,aP g6 #[v] 203,a_ 208 3 v out.length (out.flatMap iK)]
theorem abx(x:bI.Item):∀u∈iK x,u.oneCell'=true:=by
 intro u hu;simp only[iK,dx,fl,or_false]at hu;rcases hu with rfl|rfl|rfl<;>rfl
theorem L1(g5 gm g6 b:Nat)(v:Value)(c:bI.Item->Nat)(out:List bI.Item)(it:bI.Item)(hit:I5.ok it)(hp:rh c out b)(hb:b+2<=1152921504606846976)(ho:out.length+1<=1000000)(w:World)(B:bR)(hm:Mem B (FM g5 gm g6 b v c out) w):
 Calls aB 110 #[aQ (iK it).toArray,aJ (aj ⟨g5,0,ak⟩),aJ (aj ⟨g6,0,ak⟩)] w (dc ⟨λ_=>True,λ_=> .tuple #[],λv'=>FM g5 gm g6 (b+2) v' (AH c it) (more out it)⟩ B):=by
 unfold FM at hm;have hle:=hp.le it;have hz:=hp.zero it;obtain⟨n,hn⟩:∃n,c it=n:=⟨_,rfl⟩;obtain⟨F,hF⟩:∃F,Em c=F:=⟨_,rfl⟩;obtain⟨F',hF'⟩:∃F',Em (AH c it)=F':=⟨_,rfl⟩;have hcv:F it=av az (n:Int):=by rw[<-hF,<-hn];rfl
 have hF1:F' it=av az ((n+1:Nat):Int):=by rw[<-hF',<-hn];show av .i64 ((AH c it it:Nat):Int)=_;unfold AH;rw[if_pos I]
 have uH:∀y,I5.ok y->F' y=if y=it then av az ((n+1:Nat):Int)else F y:=λy _=>by
  rw[<-hF',<-hF,<-hn];show av .i64 ((AH c it y:Nat):Int)=if y=it then _ else av .i64 ((c y:Nat):Int)
  unfold AH
  by_cases e:y=it
  subst e;rw[if_pos I,if_pos I];rw[if_neg e,if_neg e]
 rw[hF]at hm;rw[hn]at hle hz;clear hp;refine dA hm (args:=[aQ (iK it).toArray,aJ (aj ⟨g5,0,ak⟩),aJ (aj ⟨g6,0,ak⟩)]) (n:=18) Tryz.func110 I I I ?_;refine b9 (bz (bQ I I I λg3=>?_));refine zL ?_
 try refine GA ?_
 (repeat refine b9 ?_)
 refine kV (ι:=Unit) (λ_=>True) (λ_=>[(1,aJ (aj ⟨g5,0,ak⟩)),(2,aJ (aj ⟨g6,0,ak⟩)),(3,aJ (aj ⟨g3,0,ak⟩))]) (λ_=>[aP g5 #[.map (aj gm)] 247,pG I5 gm (av az 0) F' (b+1+1),aP g6 #[v] 203,a_ 208 3 v out.length (out.flatMap iK),aP g3 (iK it).toArray 208]) ?_ ?_
 ·refine dK ([aP g5 #[.map (aj gm)] 247,aP g3 (iK it).toArray 208]) (.calm 0 (.calm 1 (.two 2 (.calm 3 (.one 4 (.calm 5 (.one 6 (.done))))) 4 (.calm 5 (.one 2 (.calm 3 (.one 6 (.done)))))))) (bV [0,4]) ?_
  repeat(first|refine GW ?_|(refine GN ?_;first|refine QW (aC (v:= .map (aj gm)) aK.ty I (aH (i:=0) I I)) ?_|refine QW (aO (i:=1) aK.ty I I I) ?_))
  refine ez I I ?_ ?_
  ·refine du (Da I5 bL.eq nH (i:=1) I I (x:=it) I hit hcv) I I I (aM (bV [0,4]) ?_)
   repeat(first|(refine GN ?_;first|refine QW QP ?_|refine QW (eM (r:=((n+1:Nat):Int)) I I J J J) ?_|refine GX ?_)|refine GW ?_)
   refine aL I (Lv I5 bL.eq nH (i:=1) I I (x:=it) I hit J I λst=>aM (bV [0,4]) ?_)
   try refine GW ?_
   refine aL I (G5 I5 F' bL.eq (i:=1) I I I I hit J uH (aM (bV [0,4]) ?_))
   try refine GW ?_
   exact dJ () trivial (by repeat' (first|exact cI|refine cC I ?_)) I
  refine Lv I5 bL.eq nH (i:=1) I I (x:=it) I hit J I λst=>aM (bV [0,4]) ?_
  try refine GW ?_
  refine aL I (du (X8 I5 bL.eq nH (i:=1) I I (x:=it) I hit hcv) I I I (aM (bV [0,4]) ?_))
  repeat(first|(refine GN ?_;first|refine QW QP ?_|refine QW (eM (r:=((n+1:Nat):Int)) I I J J J) ?_|refine GX ?_)|refine GW ?_)
  refine aL I (G5 I5 F' bL.eq (i:=1) I I I I hit J uH (aM (bV [0,4]) ?_))
  try refine GW ?_
  exact dJ () trivial (by repeat' (first|exact cI|refine cC I ?_)) I
 rintro⟨⟩ _
 by_cases c1:it∈out
 ·have hm1:more out it=out:=if_pos c1
  rw[hm1];have hn0:n≠0:=λe=>hz.1 e c1;clear uH hcv
  repeat(first|refine GC ?_|refine gV (aC (v:= .map (aj gm)) aK.ty I (aH (i:=0) I I)) ?_|refine gV (aO (i:=4) aK.ty I I I) ?_|refine gV (Da I5 bL.eq nH (i:=1) I I (x:=it) I hit hF1) ?_|refine gV (de (b:=aE) I I (decide_eq_false J)) ?_|refine GB ?_)
  exact kY I λw hm=>hm.cB (S:=⟨λ(_:Value)=>True,λ_=> .tuple #[],λv'=>FM g5 gm g6 (b+2) v' (AH c it) out⟩) v trivial [0,1,2,3] aiz (by unfold FM;rw[<-hF'];rfl)
 ·have hm1:more out it=out++[it]:=if_neg c1
  rw[hm1];have hn0:n=0:=hz.2 c1;clear uH hcv
  repeat(first|refine GC ?_|refine gV (aC (v:= .map (aj gm)) aK.ty I (aH (i:=0) I I)) ?_|refine gV (aO (i:=4) aK.ty I I I) ?_|refine gV (Da I5 bL.eq nH (i:=1) I I (x:=it) I hit hF1) ?_|refine gV (de (b:=aD) I I (decide_eq_true J)) ?_|refine gV (aC (v:=v) aK.ty I (aH (i:=2) I I)) ?_|refine GB ?_)
  refine fm (cs:=(iK it).toArray) [aQ (iK it).toArray] I I I (by intro v hv;simp only[dx,fl,or_false]at hv;subst hv;rfl) I I I λg16=>?_;refine zL ?_;refine eD (i:=3) (e:=208) (size:=3) (bytes:=24) (m:=out.length) (xs:=out.flatMap iK) (k:=1) (ys:=iK it) I (kX (i:=5) I (λj u h=>by simpa using h) (bm 1) aiz) I I I (abx it) J J I λv'=>?_;refine zL ?_;refine aU (i:=3) I λkK lz=>?_;refine bU (i:=2) I I I kK lz I ?_;refine zL ?_
  try refine GA ?_
  exact kY I λw hm=>hm.cB (S:=⟨λ(_:Value)=>True,λ_=> .tuple #[],λv'=>FM g5 gm g6 (b+2) v' (AH c it) (out++[it])⟩) v' trivial [0,1,2,3] aiz (by unfold FM;rw[<-hF',gO,bK];rfl)
end bZ
namespace bZ
open Go.Shelf
def Pv:Go.Shelf.Ren:=⟨λ|6=>113|15=>129|14=>130|28=>150|29=>151|20=>152|21=>153|22=>154|23=>155|24=>156|25=>157|26=>158|27=>159|46=>168|47=>164|48=>165|49=>169|50=>170|57=>172|n=>n,λ|22=>203|24=>208|25=>252|3=>3|39=>211|0=>0|53=>292|55=>75|4=>4|46=>286|45=>285|50=>112|5=>5|9=>9|66=>301|70=>229|76=>308|77=>309|n=>n,λ|n=>n⟩
theorem Yw:Go.Proofs.SlLaysF0.n6 aB Pv:={
 mixed:=by kernel_rfl
 f6:=⟨Tryz.f113.name,by decide,Tryz.func113.trans (congrArg aj (by kernel_rfl))⟩
 f14:=⟨Tryz.f130.name,by decide,Tryz.func130.trans (congrArg aj (by kernel_rfl))⟩
 f15:=Tryz.func129.trans (congrArg aj (by kernel_rfl))
 f20:=⟨Tryz.f152.name,by decide,Tryz.func152.trans (congrArg aj (by kernel_rfl))⟩
 f21:=⟨Tryz.f153.name,by decide,Tryz.func153.trans (congrArg aj (by kernel_rfl))⟩
 f22:=⟨Tryz.f154.name,by decide,Tryz.func154.trans (congrArg aj (by kernel_rfl))⟩
 f23:=⟨Tryz.f155.name,by decide,Tryz.func155.trans (congrArg aj (by kernel_rfl))⟩
 f24:=⟨Tryz.f156.name,by decide,Tryz.func156.trans (congrArg aj (by kernel_rfl))⟩
 f25:=⟨Tryz.f157.name,by decide,Tryz.func157.trans (congrArg aj (by kernel_rfl))⟩
 f26:=⟨Tryz.f158.name,by decide,Tryz.func158.trans (congrArg aj (by kernel_rfl))⟩
 f27:=⟨Tryz.f159.name,by decide,Tryz.func159.trans (congrArg aj (by kernel_rfl))⟩
 f28:=Tryz.func150.trans (congrArg aj (by kernel_rfl))
 f29:=Tryz.func151.trans (congrArg aj (by kernel_rfl))
 f46:=⟨Tryz.f168.name,by decide,Tryz.func168.trans (congrArg aj (by kernel_rfl))⟩
 f47:=Tryz.func164.trans (congrArg aj (by kernel_rfl))
 f48:=Tryz.func165.trans (congrArg aj (by kernel_rfl))
 f49:=⟨Tryz.f169.name,by decide,Tryz.func169.trans (congrArg aj (by kernel_rfl))⟩
 f50:=⟨Tryz.f170.name,by decide,Tryz.func170.trans (congrArg aj (by kernel_rfl))⟩
 f57:=⟨Tryz.f172.name,by decide,Tryz.func172.trans (congrArg aj (by kernel_rfl))⟩
 t0:=Tryz.underlying0
 a0:=Tryz.isAgg0
 z0:=Tryz.sizeOf0
 v0:=Tryz.zeroValue0
 t3:=Tryz.underlying3
 a3:=Tryz.isAgg3
 z3:=Tryz.sizeOf3
 v3:=Tryz.zeroValue3
 t4:=Tryz.underlying4
 a4:=Tryz.isAgg4
 z4:=Tryz.sizeOf4
 v4:=Tryz.zeroValue4
 t5:=Tryz.underlying5
 a5:=Tryz.isAgg5
 z5:=Tryz.sizeOf5
 v5:=Tryz.zeroValue5
 t9:=Tryz.underlying9
 a9:=Tryz.isAgg9
 z9:=Tryz.sizeOf9
 v9:=Tryz.zeroValue9
 t22:=Tryz.underlying203
 a22:=Tryz.isAgg203
 z22:=Tryz.sizeOf203
 v22:=Tryz.zeroValue203
 t25:=Tryz.underlying252
 a25:=Tryz.isAgg252
 z25:=Tryz.sizeOf252
 v25:=Tryz.zeroValue252
 t39:=Tryz.underlying211
 a39:=Tryz.isAgg211
 z39:=Tryz.sizeOf211
 v39:=Tryz.zeroValue211
 t45:=Tryz.underlying285
 a45:=Tryz.isAgg285
 z45:=Tryz.sizeOf285
 v45:=Tryz.zeroValue285
 t46:=Tryz.underlying286
 a46:=Tryz.isAgg286
 z46:=Tryz.sizeOf286
 v46:=Tryz.zeroValue286
 t50:=Tryz.underlying112
 a50:=Tryz.isAgg112
 z50:=Tryz.sizeOf112
 v50:=Tryz.zeroValue112
 t53:=Tryz.underlying292
 a53:=Tryz.isAgg292
 z53:=Tryz.sizeOf292
 v53:=Tryz.zeroValue292
 t55:=Tryz.underlying75
 a55:=Tryz.isAgg75
 z55:=Tryz.sizeOf75
 v55:=Tryz.zeroValue75
 t66:=Tryz.underlying301
 a66:=Tryz.isAgg301
 z66:=Tryz.sizeOf301
 v66:=Tryz.zeroValue301
 t70:=Tryz.underlying229
 a70:=Tryz.isAgg229
 z70:=Tryz.sizeOf229
 v70:=Tryz.zeroValue229
 t76:=Tryz.underlying308
 a76:=Tryz.isAgg308
 z76:=Tryz.sizeOf308
 v76:=Tryz.zeroValue308
 t77:=Tryz.underlying309
 a77:=Tryz.isAgg309
 z77:=Tryz.sizeOf309
 v77:=Tryz.zeroValue309}
end bZ
namespace bZ
open Go.RowKit cU dM bI Go.Sort
theorem Pw(w:World)(n g:Nat)(d:Array Value)(os:Array Obj){k:Nat}(hk:k<w.heap.size)(hg:k≠g):(grow (putRow id (Go.Sort.ahead w n) g 0 d) os).heap[k]?=w.heap[k]?:=by
 rw[heap_grow_old _ _ (by rw[size_putRow];exact hk)];show(w.heap.modify g _)[k]?=w.heap[k]?
 rw[Dc,if_neg (λh=>hg h.symm)]
theorem Yx{B:bR}{w:World}{e:TypeId}{g cap m size:Nat}{xs:List Value}(hm:Mem B [a_ e size (ap (aj ⟨g,0,ak⟩) m cap) m xs] w)(d:Array Value)(hd:d.size=m*size)(n:Nat)(os:Array Obj):
 Mem B [a_ e size (ap (aj ⟨g,0,ak⟩) m cap) m d.toList] (grow (putRow id (Go.Sort.ahead w n) g 0 d) os):=by
 have ho:w.ownsRow 0 e size (ap (aj ⟨g,0,ak⟩) m cap) m xs:=hm.get (i:=0) I;obtain⟨hl,hr⟩:=ho;rcases hr with⟨h,_⟩|⟨g2,OE,jM,hv,_,hg,hc,hx,hs,ht⟩
 ·cases h
 cases hv
 have Lj:B.may g:=(hm.owns.all 0 _ I).2 g (.inl I);have hgw:g<w.heap.size:=(jt.1 hg).1;have XC:(grow (putRow id (Go.Sort.ahead w n) g 0 d) os).heap[g]?=aj (.cells (putCells id 0 d jM) e (0,0)):=by
  rw[heap_grow_old _ _ (by rw[size_putRow];exact hgw)];show(w.heap.modify g (onCells (putCells id 0 d)))[g]?=_
  rw[Dc,if_pos I,hg];rfl
 have hle:m*size<=cap*size:=rO _ hc;refine⟨⟨hm.low.os,hm.low.tape,hm.low.output,?_,λk hk hx=>?_⟩,eA.one ⟨?_,.inr ⟨g,cap,_,rfl,bH _,XC,hc,hx,?_,?_⟩⟩ λk hk=>?_⟩
 ·rw[size_grow,size_putRow];exact fv hm.low.size (Nat.le_add_right _ _)
 ·have hkg:k≠g:=λe=>by
   subst e;rcases Lj with h|h
   omega;exact hx h
  rw[Pw w n g d os (Nat.lt_of_lt_of_le hk hm.low.size) hkg];exact hm.low.block k hk hx
 ·rw[lC,hd]
 ·unfold putCells;rw[Array.size_mapIdx];exact hs
 ·apply mR
  intro j;rw[qu]
  by_cases hj:j<m*size
  ·have hjc:j<jM.size:=by omega
   rw[if_pos hj,qn,qn];unfold putCells;rw[Array.getElem?_mapIdx,xt hjc,Option.map_some,if_pos ⟨bH _,by omega⟩,Nat.sub_zero,getElem!_pos d j J,xt (by omega:j<d.size)];rfl
  rw[if_neg hj,qn,Array.getElem?_eq_none J]
 ·rcases hk with h|h
  simp only[a_,Value.ownBlock,dr]at h;subst h;exact Lj;exact h.elim
theorem aeg:SWO (ltOf LD):=⟨Ry,λ_ _ _ h1 h2=>ad6 h1 h2,λx y z h1 h2=>by
 have h1:O7 x y=false:=h1;have h2:O7 y z=false:=h2;show O7 x z=aE
 rw[O8]at*;omega⟩
theorem RG(l:List bI.Item):(flatK iK 3 l.toArray).toList=l.flatMap iK:=by
 have hL:(l.flatMap iK).length=l.length*3:=kW lA l;apply mR;intro t
 by_cases ht:t<l.length*3
 ·have hd:t/3<l.length:=by omega
  have h1:=get_flatK iK 3 l.toArray t (by simpa using ht);rw[getElem!_pos (flatK iK 3 l.toArray) t (by simpa using ht),getElem!_pos l.toArray (t/3) (by simpa using hd)]at h1;have h2:=tQ (c:=3) (l.map iK) (λx hx=>by obtain⟨y,_,rfl⟩:=fa.1 hx;exact lA y) (t/3) (t %3) (by simpa using hd) (w6 _ aiz);rw[show t/3*3+t %3=t by omega,r9]at h2;rw[qn,xt (by simpa using ht),h1];show _=(l.map iK).flatten[t]?
  rw[h2];have h3:t %3<(iK l[t/3]).length:=by rw[lA];exact w6 _ aiz
  rw[bD h3];simp only[List.getElem_toArray];rw[getElem!_pos (iK l[t/3]) (t %3) h3]
 rw[ku (by rw[lC,size_flatK];simp;omega),ku J]
theorem Px{w:World}{e:TypeId}{g cap m size:Nat}{xs:List Value}(ho:w.ownsRow 0 e size (ap (aj ⟨g,0,ak⟩) m cap) m xs)(d:Array Value)(hd:d.toList=xs):Holds id w g 0 d/\g<w.heap.size:=by
 obtain⟨hl,hr⟩:=ho;rcases hr with⟨h,_⟩|⟨g2,OE,jM,hv,_,hg,hc,hx,hs,ht⟩
 cases h
 cases hv
 refine⟨λj hj=>?_,(jt.1 hg).1⟩;have hle:m*size<=cap*size:=rO _ hc;have hj2:j<xs.length:=by rw[<-hd];simpa using hj
 have hcj:jM[j]?=aj d[j]:=by
  have:=congrArg (λl=>l[j]?) ht;rw[qu,if_pos J,qn,<-hd,qn,xt hj]at this;exact this
 refine⟨?_,?_⟩;rw[cell_of_row w g (0+j) _ _ _ hg,cV,hcj,getElem!_pos d j hj];rfl;unfold World.frozen?;rw[hg];simp
def aby:Prop:=∀(x y:bI.Item) (w:World),Calls aB 114 #[aQ (iK x).toArray,aQ (iK y).toArray] w λe w'=>e= .returned (av az (LD x y))/\∃q os',w'=grow (w.drewN q) os'
theorem abz(ahj:aby)(v:Value)(l:List bI.Item)(w:World)(B:bR)(hm:Mem B [a_ 208 3 v l.length (l.flatMap iK)] w)(hl:l.length<4611686018427387904):
 Calls aB 113 #[v,.func (.func 114) #[] #[]] w (dc ⟨λ(_:Unit)=>True,λ_=> .tuple #[],λ_=>[a_ 208 3 v l.length ((uA l).flatMap iK)]⟩ B):=by
 have ho:w.ownsRow 0 208 3 v l.length (l.flatMap iK):=hm.get (i:=0) I;have zZ:=ho;rcases ho.2 with⟨rfl,h0⟩|⟨g,cap,jM,rfl,_,hg,hc,hx,hs,ht⟩
 ·obtain rfl:l=[]:=List.length_eq_zero_iff.1 h0
  refine(AnyF.slices_SortFunc_none Yw ak 0 _ w).mono λe w' ⟨he,hw⟩=>⟨(),trivial,he,?_⟩;rw[hw];exact(by simpa[uA]using hm)
 ·obtain⟨h1,h2⟩:=Px zZ (flatK iK 3 l.toArray) (RG l)
  have ahk:CmpLays aB 114 #[] iK 3 LD g 0 l.toArray.size w:=λm os dk _ x y=>by
   have h:=ahj x y (sortWorldK iK 3 w g 0 m dk os)
   simpa using h
  have h:=AnyQ.slices_SortFunc_total Yw 3 Tryz.isAgg208 Tryz.sizeOf208 iK lA (λx v hv=>by simp only[iK,dx,fl,or_false]at hv;rcases hv with rfl|rfl|rfl<;>rfl) LD aeg 114 #[] g 0 cap l.toArray w aI.en ahk h1 h2 (by simpa using hl) TS;have hz:l.toArray.size=l.length:=by simp
  rw[hz]at h;refine h.mono λe w' ⟨he,n,os,hw⟩=>⟨(),trivial,he,?_⟩;have hlen:(uA l).length=l.length:=LG l;have hq:=Yx hm (flatK iK 3 (uA l).toArray) (by rw[size_flatK];simp[hlen]) n os;rw[RG]at hq;rw[hw];exact hq
end bZ
namespace bZ
open Go.RowKit cU dM aT dL dG bI cT
def Yy(B:bR)(v:Value)(n:Nat)(xs:List Value):Prop:=
 ∃base cap,v=ap base n cap/\n<=cap/\cap<=maxLen/\(0<n->∃b off,base=aj ⟨b,off,ak⟩/\Av B b/\Rd B.w b off xs)
theorem RH{l:List aT.Prod}{w0:World}{W:bR}{vb:Nat->Value}{k dn:Nat}{x:Option Nat}{bb:Option Addr}{cc m:Nat}(ho:pC w0 W)(hv:T1 (λq=>q<w0.heap.size) w0 vb l)(hk:k<=l.length)(hx:x.isSome=decide (k=l.length))(hb:aa_ vb k x=ap bb m cc)(hd:dn<(fB l (k:Int)).length):
 ∃b off,bb=aj ⟨b,off,ak⟩/\∀(L:List b_) (i:Nat),L[i]?=aj (AD x)->∀j u,(ep (fB l (k:Int))[dn])[j]?=aj u->At W L ⟨b,off+dn*2+j,ak⟩ u:=by
 cases x with
 |some g=>
  have hk:k=l.length:=by simpa using hx
  subst hk;have e:fB l (l.length:Int)=[(2,0)]:=by unfold fB;rw[if_pos I]
  have hb:ap (aj ⟨g,0,ak⟩) 1 1=ap bb m cc:=hb
  cases hb
  refine⟨g,0,rfl,λL i hi j u hj=>?_⟩;have hd0:dn=0:=by rw[e]at hd;simpa using hd
  subst hd0;simp only[e,List.getElem_cons_zero]at hj;rw[show 0+0*2+j=j by omega];exact aH hi (by simpa[ep]using hj)
 | none=>
  have mT:k<l.length:=by
   have:¬k=l.length:=by simpa using hx
   omega
  have e:fB l (k:Int)=(db l (k:Int)).2:=by unfold fB;rw[if_neg J]
  have hs:=(hv k mT).flat (f:=ep) aiz;have hb:vb k=ap bb m cc:=hb;rw[hb]at hs;obtain⟨base,cap,h1,_,_,h3⟩:=hs
  cases h1
  have VW:dn<(db l (k:Int)).2.length:=by rw[<-e];exact hd
  obtain⟨b,off,rfl,hr⟩:=h3 J;refine⟨b,off,rfl,λL i _ j u hj=>?_⟩;simp only[e]at hj;exact tM (W:=W) (L:=L) D_ (off:=off) (λq y hq=>iw ho (hr q y hq)) VW j u hj
theorem Uc(g:d_){it:bI.Item}(h:it.2.2.toNat<64):uB (jW g) it<18446744073709551616:=by
 have h1:jW g it.1 it.2.1<18446744073709551616:=RB aiz;unfold uB;split;exact X1 (n:=64) (IW (n:=64) h1 aiz) (Dg aiz h);exact h1
theorem xV{i bits:Nat}{out:List bI.Item}:∀k,(fq i bits out k).length<=out.length+k
 |0=>bm _
 |k+1=>by
  rw[fq];have:=xV (i:=i) (bits:=bits) (out:=out) k;have h2:(more (fq i bits out k) ((i:Int),0,(k:Int))).length<=(fq i bits out k).length+1:=by unfold more;split<;>simp
  split<;>omega
theorem En{l:List aT.Prod}{T:Nat}{N:Int}{bits:Nat}{out:List bI.Item}:∀i,(ft l T N bits out i).length<=out.length+i*(T+1)
 |0=>by rw[Nat.zero_mul];exact bm _
 |i+1=>by
  rw[ft,Nat.succ_mul];have:=En (l:=l) (T:=T) (N:=N) (bits:=bits) (out:=out) i;have h2:=xV (i:=i) (bits:=bits) (out:=ft l T N bits out i) (T+1);split<;>omega
theorem Co{L:List b_}{is:List Nat}{o:b_}(h:o∈is.filterMap λi=>L[i]?):o∈L:=by
 obtain⟨i,_,hi⟩:=IV.1 h;exact kR hi
def opL(g:d_)(bp:Option Addr)(cp go gm:Nat)(f:RK->Option Value)(c:Nat):List b_:=[aP go (Bg g.aR g.bC (ap bp g.aF.length cp) gm).toArray 245,eZ iP gm f c]
theorem Eo{κ:Type}[DecidableEq κ]:∀(l D:List κ),(dH D l).length<=D.length+l.length
 |[],D=>by simp[dH]
 |k::r,D=>by
  rw[dH];have:=Eo r (if k∈D then D else D++[k]);have h2:(if k∈D then D else D++[k]).length<=D.length+1:=by split<;>simp
  rw[c_];omega
theorem Yz{l:List aT.Prod}{T:Nat}{x:bI.Item}(h:eh l T x)(hl:l.length<=40)(hw:∀q∈l,q.2.length<=8)(hT:T<=30):I5.ok x:=by
 obtain⟨a1,a2,a3,a4,a5,a6⟩:=h;have:=mA (l:=l) (p:=x.1) hw;exact⟨⟨by omega,by omega⟩,⟨by omega,by omega⟩,by omega,by omega⟩
def uM(g:d_)(T:Nat)(l0:List bI.Item)(bp:Option Addr)(cp go gm c:Nat):Spec ((RK->Option Value)×Nat×Value):=
 ⟨λx=>jJ (jW g) x.1/\x.2.1<=c+12000,λx=>x.2.2,λx=>opL g bp cp go gm x.1 x.2.1++[a_ 208 3 x.2.2 (jI g.aF T (jW g) l0).length ((jI g.aF T (jW g) l0).flatMap iK)]⟩
theorem afM{i j:Nat}(hi:i<=1000)(hj:j<=1000):I5.ok ((i:Int),0,(j:Int)):=by
 show(-9223372036854775808<=(i:Int)/\(i:Int)<=9223372036854775807)/\(-9223372036854775808<=(0:Int)/\(0:Int)<=9223372036854775807)/\(-9223372036854775808<=(j:Int)/\(j:Int)<=9223372036854775807)
 omega
theorem Hh(a c:Int)(w:World):(df 208 #[(0,av az a),(2,av az c)]).run aB w= .ok (aQ #[av az a,av az 0,av az c]) w:=by kernel_rfl
attribute [local irreducible] Op.shift Go.bits in
theorem uN(g:d_)(hg:bX g=0)(bp:Option Addr)(cp:Nat)(vb:Nat->Value)(w0:World)(hG:jZ (λq=>q<w0.heap.size) w0 (dE g.aR g.bC (ap bp g.aF.length cp)) g)(zx:T1 (λq=>q<w0.heap.size) w0 vb g.aF)(nZ:0<g.aF.length->∃b off,bp=aj ⟨b,off,ak⟩/\∀i,i<g.aF.length->Rd w0 b (off+i*2) [av az (db g.aF (i:Int)).1,vb i])
 (go gm c:Nat) (f:RK->Option Value) (T:Nat) (Jh:g.aR=(T:Int)) (hT:T<=30) (l0:List bI.Item) (vl:Value) (h0:∀x∈l0,eh g.aF T x) (hl0:l0.length<=20000) (hc:jJ (jW g) f) (hcc:c<=900000000000000) (w:World) (B:bR) (ho:pC w0 B) (hvl:Yy B vl l0.length (l0.flatMap iK))
 (hm:Mem B (opL g bp cp go gm f c) w):
 Calls aB 84 #[aJ (aj ⟨go,0,ak⟩),vl] w (dc (uM g T l0 bp cp go gm c) B):=by
 obtain⟨-,-,-,-,Bl,hgb⟩:=cP hg;have Kj:∀q∈g.aF,q.2.length<=8:=λq hq=>(hgb q hq).1;have L2:=λg5 Ud g6 b v cn out it hit hp hb hn w' B' qV=>L1 g5 Ud g6 b v cn out it hit hp hb hn w' B' qV;unfold opL at hm;obtain⟨bl,cl,rfl,oo,yv,Fk⟩:=hvl;unfold maxLen at yv;refine dA hm (args:=[aJ (aj ⟨go,0,ak⟩),ap bl l0.length cl]) (n:=117) Tryz.func84 I I I ?_
 try refine GA ?_
 refine aaw I5 (z:=av az 0) I λUd=>?_;refine zL ?_
 try refine GA ?_
 refine aY I λg5=>?_;refine zL ?_;refine bU (i:=3) I I I I I I ?_;refine zL ?_
 try refine GA ?_
 refine aY I λg6=>?_;refine zL ?_
 repeat(first|refine GA ?_|refine gV (vJ I I) ?_)
 conv=>arg 7;simp only[zA,zB,zC,zD,zE,zF,zG,zH,zI,cL,ret,id_eq]
 refine ml (a_ 208 3 (ap ak 0 0) 0 []) (λk hk=>hk.elim (λh=>by cases h) id) (λw=>⟨by decide,.inl ⟨rfl,rfl⟩⟩) ?_;refine tJ [0,1,3,2,4,5] ?_
 conv=>arg 7;simp only[zA,zB,zC,zD,zE,zF,zG,zH,zI,cL,ret,id_eq]
 refine dY (ι:=Nat×Value×(bI.Item->Nat)) (λ(j,_,cn)=>j<=l0.length/\rh cn (dH [] (l0.take j)) (2*j)) (λ(j,_,_)=>[(0,aJ (aj ⟨go,0,ak⟩)),(6,aJ (aj ⟨g6,0,ak⟩)),(7,.func (.func 110) #[] #[aJ (aj ⟨g5,0,ak⟩),aJ (aj ⟨g6,0,ak⟩)]),(18,ap bl l0.length cl),(19,av az (l0.length:Int)),(20,av az (j:Int))])
  (λ(j,v,cn)=>[aP go (Bg g.aR g.bC (ap bp g.aF.length cp) gm).toArray 245,eZ iP gm f c]++FM g5 Ud g6 (2*j) v cn (dH [] (l0.take j))) (λ(j,_,_)=>l0.length-j) (0,ap ak 0 0,λ_=>0) ⟨bH _,⟨λx=>by simp[dH],λx=>bH _⟩⟩ ?_
 rintro⟨j,v,cn⟩ ⟨j1,j2⟩;dsimp only at j1 j2⊢
 by_cases c1:j<l0.length
 ·obtain⟨b,off,rfl,FC,Nn⟩:=Fk J
  have dz:=λL=>tM (W:=B) (L:=L) lA (off:=off) (λq u hq=>sj FC Nn q u hq) c1;have hx0:=h0 l0[j] (cD c1);have hxo:=Yz hx0 Bl Kj hT;have Kn:(dH [] (l0.take j)).length<=j:=fv (Eo _ _) (by rw[gU,iU];omega);have uH:more (dH [] (l0.take j)) l0[j]=dH [] (l0.take (j+1)):=by rw[iq c1,kE]
  have FO:=j2.put l0[j];rw[uH]at FO;have L2:=λw' B' qV=>L2 g5 Ud g6 (2*j) v cn (dH [] (l0.take j)) l0[j] hxo j2 J J w' B' qV;rw[uH]at L2;generalize dH [] (l0.take j)=out at*;generalize hoq:dH [] (l0.take (j+1))=aie at*;generalize l0[j]=x at*
  repeat(first|refine GA ?_|refine gV (aX bL.eq aK.ty I I c1) ?_|refine gV (a8 aK.ty I (lA x) (dz _)) ?_)
  refine aY I λg9=>?_;refine zL ?_;refine gh 6 (cs':=(iK x).toArray) ?_;refine zL ?_
  repeat(first|refine GA ?_|refine gV (aO (i:=6) aK.ty I I I) ?_)
  refine bx [2,3,4,5] [0,1,6] aiz I I (BK aI.en I I) (λw hm hb=>L2 w _ hb) I I I ?_;intro v' _;refine zL ?_
  try refine GA ?_
  refine dh [0,1,3,4,5,6] ?_;exact bW (j+1,v',AH cn x) ⟨by show j+1<=l0.length;omega,by show rh _ (dH [] (l0.take (j+1))) _;rw[hoq];exact FO⟩ (by show l0.length-(j+1)<l0.length-j;omega) (hl:=by dsimp only;rw[hoq];rfl)
 ·obtain rfl:j=l0.length:=by omega
  rw[my]at j2;have wo:(dH [] l0).length<=20000:=fv (Eo _ _) (by rw[gU];omega);clear Fk
  try refine GA ?_
  conv=>arg 7;simp only[zA,zB,zC,zD,zE,zF,zG,zH,zI,cL,ret,id_eq,my,FM,kS,eJ]
  refine dY (ι:=Nat×List bI.Item×(RK->Option Value)×Nat×Value×(bI.Item->Nat)×Nat) (λ(n,out,f',c',_,cn',b)=>WkI g.aF T (jW g) l0 n out/\sR g.aF T (jW g) (12000-n) n out=sR g.aF T (jW g) 12000 0 (dH [] l0)/\jJ (jW g) f'/\c'<=c+n/\rh cn' out b/\b<=40000+2480*n)
   (λ(n,_,_,_,_,_,_)=>[(0,aJ (aj ⟨go,0,ak⟩)),(6,aJ (aj ⟨g6,0,ak⟩)),(7,.func (.func 110) #[] #[aJ (aj ⟨g5,0,ak⟩),aJ (aj ⟨g6,0,ak⟩)]),(10,av az (n:Int))])
   (λ(_,out,f',c',v',cn',b)=>[aP go (Bg g.aR g.bC (ap bp g.aF.length cp) gm).toArray 245,eZ iP gm f' c',aP g5 #[.map (aj Ud)] 247,pG I5 Ud (av az 0) (Em cn') b,aP g6 #[v'] 203,a_ 208 3 v' out.length (out.flatMap iK)]) (λ(n,_)=>12000-n) (0,dH [] l0,f,c,v,cn,2*l0.length) ⟨D6 l0,rfl,hc,bm _,j2,by omega⟩ ?_
  rintro⟨n,out,f',c',v',cn',b⟩ ⟨i1,i2,i3,i4,i5,i6⟩;dsimp only at i1 i2 i3 i4 i5 i6⊢;have Py:=AC Kj Bl hT i1.nd λx hx=>yT h0 (i1.cl x hx);refine io (i:=5) I fV λgC=>?_;obtain⟨bv,cv,rfl,-,Fw⟩:=gC
  by_cases c2:n<out.length
  ·obtain⟨gz,rfl⟩:=Fw J
   have iz:=i1.cl out[n] (cD c2);have hxr:=yT h0 iz;have dz:=λ(L:List b_) (i:Nat) (hL:L[i]?=aj (a_ 208 3 (ap (aj ⟨gz,0,ak⟩) out.length cv) out.length (out.flatMap iK)))=>qO (W:=B) lA hL c2;have hwx:sR g.aF T (jW g) (12000-(n+1)) (n+1) (uC g.aF T (jW g) out[n] out)=sR g.aF T (jW g) 12000 0 (dH [] l0):=by
    rw[<-i2,show 12000-n=(12000-(n+1))+1 by omega,sR,if_pos c2,cH,bD c2];rfl
   have hwk:=Rz i1 c2;clear i2 iz;generalize hxx:out[n]=x at*;obtain⟨p,d,lo⟩:=x;have aeh:=hxr;obtain⟨r1,r2,r3,r4,r5,r6⟩:=aeh;dsimp only at r1 r2 r3 r4 r5 r6;obtain⟨k,rfl⟩:=hY r1;obtain⟨dn,rfl⟩:=hY r3;obtain⟨ln,rfl⟩:=hY r5;have hk:k<=g.aF.length:=by omega
   have G9:=λw' (qV:Mem B [] w')=>sq g.aR g.bC bp cp g.aF vb w0 w' B k hk ho qV (λi hi=>let ⟨b,c,h,_⟩:=zx i hi;⟨b,_,c,h⟩) nZ
   repeat(first|refine GC ?_|refine gV (aC (v:=ap (aj ⟨gz,0,ak⟩) out.length cv) aK.ty I (aH (i:=4) I I)) ?_|refine gV (eR (i:=5) bL.eq I I) ?_|refine GB ?_)
   refine dK ([aP go (Bg g.aR g.bC (ap bp g.aF.length cp) gm).toArray 245,aP g6 #[ap (aj ⟨gz,0,ak⟩) out.length cv] 203,a_ 208 3 (ap (aj ⟨gz,0,ak⟩) out.length cv) out.length (out.flatMap iK)]) (.calm 0 (.calm 1 (.calm 2 (.calm 3 (.calm 4 (.calm 5 (.calm 6 (.calm 7 (.calm 8 (.one 9 (.calm 10 (.done)))))))))))) (bV [0,4,5]) ?_
   repeat(first|refine GW ?_|(refine GN ?_;first|refine QW (a8 aK.ty I (cs:=[av az g.aR,av az g.bC,ap bp g.aF.length cp]) I (λj v h=>aH (i:=0) I (I6 h))) ?_|refine QW (aC (v:=ap (aj ⟨gz,0,ak⟩) out.length cv) aK.ty I (aH (i:=1) I I)) ?_|refine QW (aX bL.eq aK.ty I I c2) ?_|refine QW (aC (v:=av az (k:Int)) aK.ty I (dz _ 2 I 0 _ I)) ?_))
   refine aL I ?_;refine aW (fI aI.en I I I) (λw hm=>G9 _ (hm.pick [] aiz I)) I I I ?_;rintro xb hxb
   conv=>arg 8;simp only[zJ,cL,ret,id_eq,yX]
   conv=>arg 7;simp only[yX]
   obtain⟨bb,cc,hbv,hlc,-⟩:=yZ (W:=B) (i:=6) (L:=[aP go (Bg g.aR g.bC (ap bp g.aF.length cp) gm).toArray 245,eZ iP gm f' c',aP g5 #[.map (aj Ud)] 247,pG I5 Ud (av az 0) (Em cn') b,aP g6 #[ap (aj ⟨gz,0,ak⟩) out.length cv] 203,a_ 208 3 (ap (aj ⟨gz,0,ak⟩) out.length cv) out.length (out.flatMap iK),AD xb]) ho zx hk hxb rfl;have qZ:=λ(L:List b_) (i:Nat) (hi:L[i]?=aj (AD xb))=>(yZ (W:=B) (L:=L) ho zx hk hxb hi);rw[hbv]at qZ⊢;have hb8:=mA (l:=g.aF) (p:=(k:Int)) Kj;refine aM (bV [0,4,5]) ?_
   try refine GW ?_
   clear G9
   by_cases c3:dn=(fB g.aF (k:Int)).length
   ·repeat(first|refine GC ?_|refine gV (aC (v:=ap (aj ⟨gz,0,ak⟩) out.length cv) aK.ty I (aH (i:=4) I I)) ?_|refine gV (aX bL.eq aK.ty I I c2) ?_|refine gV (aC (v:=av az (dn:Int)) aK.ty I (dz _ 5 I 1 _ I)) ?_|refine gV (de (b:=aD) I I (decide_eq_true J)) ?_|refine GB ?_)
    have L3:uC g.aF T (jW g) ((k:Int),(dn:Int),(ln:Int)) out=out:=by
     unfold uC pY;dsimp only;rw[dB,ku J]
    rw[L3]at hwk hwx;refine dh [0,1,2,3,4,5] ?_;exact bW (n+1,out,f',c',ap (aj ⟨gz,0,ak⟩) out.length cv,cn',b) ⟨hwk,hwx,i3,by show c'<=c+(n+1);omega,i5,by show b<=40000+2480*(n+1);omega⟩ (by show 12000-(n+1)<12000-n;omega)
   have hlt:dn<(fB g.aF (k:Int)).length:=by omega
   obtain⟨b2,o2,rfl,hba⟩:=RH ho zx hk hxb hbv hlt;have uH:pY g.aF ((k:Int),(dn:Int),(ln:Int))=aj (fB g.aF (k:Int))[dn]:=by
    unfold pY;dsimp only;rw[dB,bD hlt]
   generalize hyy:(fB g.aF (k:Int))[dn]=y at*;obtain⟨yk,yn⟩:=y
   by_cases c4:yk=2
   ·subst c4
    have L3:uC g.aF T (jW g) ((k:Int),(dn:Int),(ln:Int)) out=ft g.aF T yn (uB (jW g) ((k:Int),(dn:Int),(ln:Int))) out g.aF.length:=by
     unfold uC;rw[uH];dsimp only;rw[if_pos I]
    rw[L3]at hwk hwx
    repeat(first|refine GC ?_|refine gV (aC (v:=ap (aj ⟨gz,0,ak⟩) out.length cv) aK.ty I (aH (i:=4) I I)) ?_|refine gV (aX bL.eq aK.ty I I c2) ?_|refine gV (aX bL.eq aK.ty I I hlt) ?_|refine gV (aC (v:=av az (dn:Int)) aK.ty I (dz _ 5 I 1 _ I)) ?_|refine gV (de (b:=aE) I I (decide_eq_false J)) ?_|refine gV (aC (v:=av az 2) aK.ty I (hba _ 6 I 0 _ I)) ?_|refine gV (dm (b:=aE) I I (decide_eq_false (λh=>h I))) ?_|refine gV (a8 (cs:=iK ((k:Int),(dn:Int),(ln:Int))) aK.ty I I (dz _ 5 I)) ?_|refine GB ?_)
    refine bx [0,1] [2,3,4,5,6] aiz I I (fI aI.en I I I) (λw hm hb=>LM g hg bp cp vb w0 hG zx nZ go gm c' f' ((k:Int),(dn:Int),(ln:Int)) T hT hxr (by dsimp only;rw[dB];exact hlt) i3 J w _ (ho.on hm λo h=>Co h) hb) I I I ?_;rintro⟨f2,U8⟩ ⟨U9,aei⟩;dsimp only at U9 aei;refine zL ?_;have aif:=Uc g (it:=((k:Int),(dn:Int),(ln:Int))) (by show((ln:Int)).toNat<64;omega);generalize uB (jW g) ((k:Int),(dn:Int),(ln:Int))=bits at*
    repeat(first|refine GA ?_|refine gV (aC (v:=ap bp g.aF.length cp) aK.ty I (aH (i:=5) I I)) ?_)
    refine tJ [5,6,0,1,2,3,4] ?_
    conv=>arg 7;simp only[zA,zB,zC,zD,zE,zF,zG,zH,zI,cL,ret,id_eq]
    refine dY (ι:=Nat×Value×(bI.Item->Nat)×Nat) (λ(i,_,cn2,b3)=>i<=g.aF.length/\rh cn2 (ft g.aF T yn bits out i) b3/\b3<=b+62*i)
     (λ(i,_,_,_)=>[(0,aJ (aj ⟨go,0,ak⟩)),(6,aJ (aj ⟨g6,0,ak⟩)),(7,.func (.func 110) #[] #[aJ (aj ⟨g5,0,ak⟩),aJ (aj ⟨g6,0,ak⟩)]),(10,av az (n:Int)),(11,ap (aj ⟨b2,o2,ak⟩) (fB g.aF (k:Int)).length cc),(12,gD bits),(74,ap bp g.aF.length cp),(75,av az (g.aF.length:Int)),(76,av az (i:Int))])
     (λ(i,v2,cn2,b3)=>[aP go (Bg g.aR g.bC (ap bp g.aF.length cp) gm).toArray 245,eZ iP gm f2 U8,aP g5 #[.map (aj Ud)] 247,pG I5 Ud (av az 0) (Em cn2) b3,aP g6 #[v2] 203,a_ 208 3 v2 (ft g.aF T yn bits out i).length ((ft g.aF T yn bits out i).flatMap iK),AD xb]) (λ(i,_)=>g.aF.length-i) (0,ap (aj ⟨gz,0,ak⟩) out.length cv,cn',b) ⟨bH _,i5,by omega⟩ ?_
    rintro⟨i,v2,cn2,b3⟩ ⟨p1,p2,p3⟩;dsimp only at p1 p2 p3⊢
    by_cases c5:i<g.aF.length
    ·obtain⟨E,hE⟩:=uF (l:=g.aF) (T:=T) yn bits out i
     have Kn:=En (l:=g.aF) (T:=T) (N:=yn) (bits:=bits) (out:=out) i;have FP:ft g.aF T yn bits out (i+1)=if(db g.aF (i:Int)).1=yn then fq i bits (ft g.aF T yn bits out i) (T+1)else ft g.aF T yn bits out i:=rfl
     have aih:i*(T+1)<=40*31:=Nat.mul_le_mul J J;generalize hou:ft g.aF T yn bits out i=ou at*;have hno:n<ou.length:=by rw[hE,bK];omega
     have hox:ou[n]=((k:Int),(dn:Int),(ln:Int)):=by
      subst hE;rw[List.getElem_append_left c2];exact hxx
     refine io (i:=5) I fV λgC=>?_;obtain⟨bv2,cv2,rfl,-,ahl⟩:=gC;obtain⟨gz2,rfl⟩:=ahl J;have s8:=λ(L:List b_) (i:Nat) (hL:L[i]?=aj (a_ 208 3 (ap (aj ⟨gz2,0,ak⟩) ou.length cv2) ou.length (ou.flatMap iK)))=>qO (W:=B) lA hL hno;rw[hox]at s8;obtain⟨pb,po,rfl,hpr⟩:=nZ J;have hpi:=hpr i c5;have hvo:(vb i).oneCell'=true:=aa7 (zx i c5);generalize hhd:(db g.aF (i:Int)).1=hd at*;generalize vb i=vbi at hpi hvo
     repeat(first|refine GA ?_|refine gV (aX bL.eq aK.ty I I c5) ?_|refine gV (a8 aK.ty I (cs:=[av az hd,vbi]) I (λj v h=>iw ho (hpi j v h))) ?_)
     refine aY I λg14=>?_;refine zL ?_
     try refine GA ?_
     refine aV (i:=7) (cs':=#[av az hd,vbi]) I I I I (by simp only[List.all_cons,List.all_nil,hvo];rfl) I ?_;refine zL ?_
     try refine GA ?_
     refine dK ([aP g14 #[av az hd,vbi] 132,aP g6 #[ap (aj ⟨gz2,0,ak⟩) ou.length cv2] 203,a_ 208 3 (ap (aj ⟨gz2,0,ak⟩) ou.length cv2) ou.length (ou.flatMap iK),AD xb]) (.calm 0 (.calm 1 (.calm 2 (.calm 3 (.calm 4 (.calm 5 (.calm 6 (.calm 7 (.calm 8 (.calm 9 (.calm 10 (.calm 11 (.done))))))))))))) (bV [7,4,5,6]) ?_
     by_cases c6:hd=yn
     ·rw[if_pos c6]at FP
      repeat(first|(refine GN ?_;first|refine QW QP ?_|refine QW (aC (v:=av az hd) aK.ty I (aH (i:=0) I I)) ?_|refine QW (aC (v:=ap (aj ⟨gz2,0,ak⟩) ou.length cv2) aK.ty I (aH (i:=1) I I)) ?_|refine QW (aX bL.eq aK.ty I I hno) ?_|refine QW (aC (v:=av az (dn:Int)) aK.ty I (s8 _ 2 I 1 _ I)) ?_|refine QW (aX bL.eq aK.ty I I hlt) ?_|refine QW (aC (v:=av az yn) aK.ty I (hba _ 3 I 1 _ I)) ?_|refine QW (dm (b:=aE) I I (decide_eq_false (λh=>h c6))) ?_|refine GX ?_)|refine GW ?_)
      repeat(first|refine GC ?_|refine gV (aC (v:=av az g.aR) aK.ty I (aH (i:=0) I I)) ?_|refine gV (eM (r:=((T+1:Nat):Int)) I I J J J) ?_|refine GB ?_)
      refine tJ [0,1,2,3,4,5,6] ?_
      conv=>arg 7;simp only[zA,zB,zC,zD,zE,zF,zG,zH,zI,cL,ret,id_eq]
      refine dY (ι:=Nat×Value×(bI.Item->Nat)×Nat) (λ(j,_,cn3,b4)=>j<=T+1/\rh cn3 (fq i bits ou j) b4/\b4<=b3+2*j)
       (λ(j,_,_,_)=>[(0,aJ (aj ⟨go,0,ak⟩)),(6,aJ (aj ⟨g6,0,ak⟩)),(7,.func (.func 110) #[] #[aJ (aj ⟨g5,0,ak⟩),aJ (aj ⟨g6,0,ak⟩)]),(10,av az (n:Int)),(11,ap (aj ⟨b2,o2,ak⟩) (fB g.aF (k:Int)).length cc),(12,gD bits),(13,av az (i:Int)),(74,ap (aj ⟨pb,po,ak⟩) g.aF.length cp),(75,av az (g.aF.length:Int)),(76,av az (i:Int)),(98,av az ((T+1:Nat):Int)),(99,av az (j:Int))])
       (λ(j,v3,cn3,b4)=>[aP go (Bg g.aR g.bC (ap (aj ⟨pb,po,ak⟩) g.aF.length cp) gm).toArray 245,eZ iP gm f2 U8,aP g5 #[.map (aj Ud)] 247,pG I5 Ud (av az 0) (Em cn3) b4,aP g6 #[v3] 203,a_ 208 3 v3 (fq i bits ou j).length ((fq i bits ou j).flatMap iK),AD xb]) (λ(j,_)=>T+1-j) (0,ap (aj ⟨gz2,0,ak⟩) ou.length cv2,cn2,b3) ⟨bH _,p2,by omega⟩ ?_
      rintro⟨j,v3,cn3,b4⟩ ⟨s1,s2,s3⟩;dsimp only at s1 s2 s3⊢
      by_cases c7:j<T+1
      ·have aii:=xV (i:=i) (bits:=bits) (out:=ou) j
       have Ue:fq i bits ou (j+1)=if bits.testBit j=aD then more (fq i bits ou j) ((i:Int),0,(j:Int))else fq i bits ou j:=rfl
       have FO:=s2.put ((i:Int),0,(j:Int));have hdv:bits/2^j<=bits:=Af _ _;have ha1:=ad_ (y:=bits/2^j) J;have A7:∀w,(il .shr .u64 (bits:Int) .i64 (j:Int)).run aB w= .ok (.int .u64 ((bits/2^j:Nat):Int)) w:=λw=>Yf bits j 64 .u64 .i64 I J w;have G9:=yY bits j;generalize U1:fq i bits ou j=ol at*;generalize bits/2^j=D1 at*
       by_cases c8:bits.testBit j=aD
       ·rw[if_pos c8]at Ue
        have FC:D1 %2=1:=by rw[c8]at G9;simpa using G9
        repeat(first|refine GC ?_|refine gV (oH I I A7) ?_|refine gV (mV I I ha1) ?_|refine gV (de (b:=aD) I I (decide_eq_true J)) ?_|refine gV (bB I (Hh _ _)) ?_|refine GB ?_)
        refine bx [2,3,4,5] [0,1,6] aiz I I (BK aI.en I I) (λw hm hb=>L2 g5 Ud g6 b4 v3 cn3 ol ((i:Int),0,(j:Int)) (afM J J) s2 J J w _ hb) I I I ?_;intro v4 _
        conv=>arg 8;simp only[zJ,cL,ret,id_eq,FM]
        try refine GA ?_
        refine dh [0,1,3,4,5,6,2] ?_;exact bW (j+1,v4,AH cn3 ((i:Int),0,(j:Int)),b4+2) ⟨by show j+1<=T+1;omega,by show rh _ (fq i bits ou (j+1)) _;rw[Ue];exact FO,by show b4+2<=b3+2*(j+1);omega⟩ (by show T+1-(j+1)<T+1-j;omega) (hl:=by dsimp only;rw[Ue];rfl)
       rw[if_neg c8]at Ue;have FC:¬D1 %2=1:=by rw[tU.2 c8]at G9;simpa using G9
       repeat(first|refine GC ?_|refine gV (oH I I A7) ?_|refine gV (mV I I ha1) ?_|refine gV (de (b:=aE) I I (decide_eq_false J)) ?_|refine GB ?_)
       exact bW (j+1,v3,cn3,b4) ⟨by show j+1<=T+1;omega,by show rh _ (fq i bits ou (j+1)) _;rw[Ue];exact s2,by show b4<=b3+2*(j+1);omega⟩ (by show T+1-(j+1)<T+1-j;omega) (hl:=by dsimp only;rw[Ue])
      obtain rfl:j=T+1:=by omega
      try refine GA ?_
      exact bW (i+1,v3,cn3,b4) ⟨by show i+1<=g.aF.length;omega,by show rh cn3 (ft g.aF T yn bits out (i+1)) b4;rw[FP];exact s2,by show b4<=b+62*(i+1);omega⟩ (by show g.aF.length-(i+1)<g.aF.length-i;omega) (hl:=by dsimp only;rw[FP])
     rw[if_neg c6]at FP
     repeat(first|(refine GN ?_;first|refine QW QP ?_|refine QW (aC (v:=av az hd) aK.ty I (aH (i:=0) I I)) ?_|refine QW (aC (v:=ap (aj ⟨gz2,0,ak⟩) ou.length cv2) aK.ty I (aH (i:=1) I I)) ?_|refine QW (aX bL.eq aK.ty I I hno) ?_|refine QW (aC (v:=av az (dn:Int)) aK.ty I (s8 _ 2 I 1 _ I)) ?_|refine QW (aX bL.eq aK.ty I I hlt) ?_|refine QW (aC (v:=av az yn) aK.ty I (hba _ 3 I 1 _ I)) ?_|refine QW (dm (b:=aD) I I (decide_eq_true c6)) ?_|refine GX ?_)|refine GW ?_)
     try refine GA ?_
     refine dh [0,1,2,3,4,5,6] ?_;exact bW (i+1,ap (aj ⟨gz2,0,ak⟩) ou.length cv2,cn2,b3) ⟨by show i+1<=g.aF.length;omega,by show rh cn2 (ft g.aF T yn bits out (i+1)) b3;rw[FP];exact p2,by show b3<=b+62*(i+1);omega⟩ (by show g.aF.length-(i+1)<g.aF.length-i;omega) (hl:=by dsimp only;rw[FP];rfl)
    obtain rfl:i=g.aF.length:=by omega
    try refine GA ?_
    refine dh [0,1,2,3,4,5] ?_;exact bW (n+1,ft g.aF T yn bits out g.aF.length,f2,U8,v2,cn2,b3) ⟨hwk,hwx,U9,by show U8<=c+(n+1);omega,p2,by show b3<=40000+2480*(n+1);omega⟩ (by show 12000-(n+1)<12000-n;omega)
   repeat(first|refine GC ?_|refine gV (aC (v:=ap (aj ⟨gz,0,ak⟩) out.length cv) aK.ty I (aH (i:=4) I I)) ?_|refine gV (aX bL.eq aK.ty I I c2) ?_|refine gV (aX bL.eq aK.ty I I hlt) ?_|refine gV (aC (v:=av az (dn:Int)) aK.ty I (dz _ 5 I 1 _ I)) ?_|refine gV (de (b:=aE) I I (decide_eq_false J)) ?_|refine gV (aC (v:=av az yk) aK.ty I (hba _ 6 I 0 _ I)) ?_|refine gV (dm (b:=aD) I I (decide_eq_true c4)) ?_|refine GB ?_)
   have L3:uC g.aF T (jW g) ((k:Int),(dn:Int),(ln:Int)) out=out:=by
    unfold uC;rw[uH];dsimp only;rw[if_neg c4]
   rw[L3]at hwk hwx;refine dh [0,1,2,3,4,5] ?_;exact bW (n+1,out,f',c',ap (aj ⟨gz,0,ak⟩) out.length cv,cn',b) ⟨hwk,hwx,i3,by show c'<=c+(n+1);omega,i5,by show b<=40000+2480*(n+1);omega⟩ (by show 12000-(n+1)<12000-n;omega)
  have hn:n=out.length:=by have:=i1.le;omega
  have hR:sR g.aF T (jW g) 12000 0 (dH [] l0)=out:=by
   rw[<-i2,show 12000-n=(11999-n)+1 by omega,sR,if_neg c2]
  have hcI:jI g.aF T (jW g) l0=uA out:=by unfold jI;rw[hR]
  repeat(first|refine GA ?_|refine gV (aC (v:=ap bv out.length cv) aK.ty I (aH (i:=4) I I)) ?_)
  refine bx [5] [0,1,2,3,4] aiz I I (fI aI.en I I I) (λw hm hb=>abz aba (ap bv out.length cv) out w _ hb J) I I I ?_;intro _ _;refine zL ?_
  repeat(first|refine GA ?_|refine gV (aC (v:=ap bv out.length cv) aK.ty I (aH (i:=4) I I)) ?_)
  exact cJ I I λw hm=>hm.cB (S:=uM g T l0 bp cp go gm c) (f',c',ap bv out.length cv) ⟨i3,by show c'<=c+12000;omega⟩ [0,1,5] aiz (by unfold uM opL;dsimp only;rw[hcI,LG];rfl)
end bZ
namespace bZ
open Go.RowKit cU dM aT dL dG bI cT
theorem Yy.row{W:bR}{L Lx:List b_}{w:World}(hm:Mem W L w){i n size:Nat}{e:TypeId}{v:Value}{xs:List Value}(hi:L[i]?=aj (a_ e size v n xs))(is:List Nat)(hL:Lx=is.filterMap λi=>L[i]?)(hni:i∉is):Yy (bR.on w Lx) v n xs:=by
 have hh:(a_ e size v n xs).holds w:=hm.get hi;obtain⟨base,cap,rfl,h1,h2,h3⟩:=Sl.dy hh;refine⟨base,cap,rfl,h1,h2,λhn=>?_⟩;obtain⟨b,off,rfl,hr⟩:=h3 hn;have hf:(a_ e size (ap (aj ⟨b,off,ak⟩) n cap) n xs).e9 b:=by
  rcases(show w.ownsRow 0 e size _ n xs from hh).2 with⟨hv,_⟩|⟨g,cp,jM,hv,_⟩
  cases hv
  cases hv;exact .inl I
 refine⟨b,off,rfl,⟨(a_ e size _ n xs).lt w hh b hf,?_⟩,hr⟩;rintro⟨o,ho,hfo⟩;subst hL;obtain⟨j,hj,QD⟩:=IV.1 ho;exact hm.owns.apart i j _ _ (λh=>hni (h▸hj)) hi QD b hf hfo
theorem Yy.at{B:bR}{L:List b_}{α:Type}{f:α->List Value}{c:Nat}(hc:∀a,(f a).length=c){base:Option Addr}{cap n:Nat}{l:List α}(h:Yy B (ap base n cap) n (l.flatMap f))(hn:0<n):∃b off,base=aj ⟨b,off,ak⟩/\∀(k:Nat) (hk:k<l.length) (j:Nat) (u:Value),(f l[k])[j]?=aj u->At B L ⟨b,off+k*c+j,ak⟩ u:=by
 obtain⟨acW,Fp,h0,h1,h2,h3⟩:=h
 cases h0
 obtain⟨b,off,rfl,ho,hr⟩:=h3 hn;exact⟨b,off,rfl,λk hk j u hj=>tM (W:=B) (L:=L) hc (off:=off) (λq y hq=>sj ho hr q y hq) hk j u hj⟩
theorem Uf{l:List aT.Prod}{s:List bI.Item}{x:dv}{k:Nat}(h:k<s.length):mB l (s.take (k+1)) x=if pY l s[k]=aj x then mB l (s.take k) x++[aa9 s[k]]else mB l (s.take k) x:=by
 unfold mB;rw[iq h,List.filter_append,eO]
 by_cases c:pY l s[k]=aj x
 rw[if_pos c,List.filter_cons_of_pos (by simpa using c)];rfl;rw[if_neg c,List.filter_cons_of_neg (by simpa using c)];simp
theorem L4{l:List aT.Prod}{s:List bI.Item}{x:dv}:(mB l s x).length<=s.length:=by
 unfold mB;rw[dI];exact List.length_filter_le _ _
theorem Ji(g:d_)(hg:bX g=0)(bp:Option Addr)(cp:Nat)(vb:Nat->Value)(w0:World)(hG:jZ (λq=>q<w0.heap.size) w0 (dE g.aR g.bC (ap bp g.aF.length cp)) g)(zx:T1 (λq=>q<w0.heap.size) w0 vb g.aF)(nZ:0<g.aF.length->∃b off,bp=aj ⟨b,off,ak⟩/\∀i,i<g.aF.length->Rd w0 b (off+i*2) [av az (db g.aF (i:Int)).1,vb i])
 (go gm c:Nat) (f:RK->Option Value) (T:Nat) (Jh:g.aR=(T:Int)) (hT:T<=30) (s:List bI.Item) (x:dv) (vl:Value) (h0:∀it∈s,eh g.aF T it) (hl0:s.length<=20000) (hc:jJ (jW g) f) (hcc:c<=900000000000000) (w:World) (B:bR) (ho:pC w0 B) (hvl:Yy B vl s.length (s.flatMap iK))
 (hm:Mem B (opL g bp cp go gm f c) w):
 Calls aB 86 #[aJ (aj ⟨go,0,ak⟩),vl,aQ (ep x).toArray] w (dc (uM g T (mB g.aF s x) bp cp go gm c) B):=by
 have iz:=λv h2 h3 w' B' Kw xe qV=>uN g hg bp cp vb w0 hG zx nZ go gm c f T Jh hT (mB g.aF s x) v h2 h3 hc hcc w' B' Kw xe qV;have U1:=L4 (l:=g.aF) (s:=s) (x:=x);have Kf:=kI (l:=g.aF) (T:=T) (x:=x) h0;obtain⟨bl,cl,rfl,oo,yv,Fk⟩:=id hvl;clear Fk;unfold maxLen at yv;unfold opL at hm;refine dA hm (args:=[aJ (aj ⟨go,0,ak⟩),ap bl s.length cl,aQ (ep x).toArray]) (n:=50) Tryz.func86 I I I ?_;refine b9 (bz (bQ I I I λg5=>?_));refine zL ?_
 try refine GA ?_
 refine ja 208 3 ?_
 conv=>arg 7;simp only[zA,zB,zC,zD,zE,zF,zG,zH,zI,cL,ret,id_eq]
 refine dY (ι:=Nat×Value) (λ(k,_)=>k<=s.length) (λ(k,v)=>[(0,aJ (aj ⟨go,0,ak⟩)),(5,aJ (aj ⟨g5,0,ak⟩)),(7,v),(11,ap bl s.length cl),(12,av az s.length),(13,av az (k:Int))])
  (λ(k,v)=>[aP go (Bg g.aR g.bC (ap bp g.aF.length cp) gm).toArray 245,eZ iP gm f c,aP g5 (ep x).toArray 156,a_ 208 3 v (mB g.aF (s.take k) x).length ((mB g.aF (s.take k) x).flatMap iK)]) (λ(k,_)=>s.length-k) (0,ap ak 0 0) (bH _) ?_
 rintro⟨k,v⟩ i1;dsimp only at i1⊢
 by_cases c1:k<s.length
 ·obtain⟨b,off,rfl,dz⟩:=hvl.at (L:=[]) lA J
  have Eb:∀(L:List b_) (j:Nat) (u:Value),(iK s[k])[j]?=aj u->At B L ⟨b,off+k*3+j,ak⟩ u:=λL=>by
   obtain⟨b',Ah,he,h⟩:=hvl.at (L:=L) lA J
   cases he
   exact h k c1
  clear dz;have hxr:=h0 s[k] (cD c1);have uH:=Uf (l:=g.aF) (x:=x) c1;have wE:(mB g.aF (s.take k) x).length<=20000:=fv L4 (by rw[iU];omega);generalize mB g.aF (s.take k) x=ov at*;generalize FP:mB g.aF (s.take (k+1)) x=ov' at*;clear iz Kf U1;generalize s[k]=it at*;obtain⟨p,d,lo⟩:=it;have aeh:=hxr;obtain⟨r1,r2,r3,r4,r5,r6⟩:=aeh;dsimp only at r1 r2 r3 r4 r5 r6;obtain⟨kn,rfl⟩:=hY r1;obtain⟨dn,rfl⟩:=hY r3;obtain⟨ln,rfl⟩:=hY r5;have hk:kn<=g.aF.length:=by omega
  have G9:=λw' (qV:Mem B [] w')=>sq g.aR g.bC bp cp g.aF vb w0 w' B kn hk ho qV (λi hi=>let ⟨b,c,h,_⟩:=zx i hi;⟨b,_,c,h⟩) nZ;have Kj:∀q∈g.aF,q.2.length<=8:=λq hq=>((cP hg).2.2.2.2.2 q hq).1;have hb8:=mA (l:=g.aF) (p:=(kn:Int)) Kj
  repeat(first|refine GA ?_|refine gV (aX bL.eq aK.ty I I c1) ?_|refine gV (a8 (cs:=iK ((kn:Int),(dn:Int),(ln:Int))) aK.ty I I (Eb _)) ?_)
  refine aY I λg9=>?_;refine zL ?_;refine gh 4 (cs':=(iK ((kn:Int),(dn:Int),(ln:Int))).toArray) ?_;refine zL ?_
  try refine GA ?_
  refine dK ([aP go (Bg g.aR g.bC (ap bp g.aF.length cp) gm).toArray 245,aP g9 (iK ((kn:Int),(dn:Int),(ln:Int))).toArray 208]) (.calm 0 (.calm 1 (.calm 2 (.calm 3 (.calm 4 (.calm 5 (.one 6 (.calm 7 (.done))))))))) (bV [0,4]) ?_
  repeat(first|refine GW ?_|(refine GN ?_;first|refine QW (a8 aK.ty I (cs:=[av az g.aR,av az g.bC,ap bp g.aF.length cp]) I (λj v h=>aH (i:=0) I (I6 h))) ?_|refine QW (aC (v:=av az (kn:Int)) aK.ty I (aH (i:=1) I I)) ?_))
  refine aL I ?_;refine aW (fI aI.en I I I) (λw hm=>G9 _ (hm.pick [] aiz I)) I I I ?_;rintro xb hxb
  conv=>arg 8;simp only[zJ,cL,ret,id_eq,yX]
  conv=>arg 7;simp only[yX]
  obtain⟨bb,cc,hbv,hlc,-⟩:=yZ (W:=B) (i:=5) (L:=[aP go (Bg g.aR g.bC (ap bp g.aF.length cp) gm).toArray 245,eZ iP gm f c,aP g5 (ep x).toArray 156,a_ 208 3 v ov.length (ov.flatMap iK),aP g9 (iK ((kn:Int),(dn:Int),(ln:Int))).toArray 208,AD xb]) ho zx hk hxb rfl;rw[hbv];refine aM (bV [0,4]) ?_
  try refine GW ?_
  clear G9
  by_cases c2:dn<(fB g.aF (kn:Int)).length
  ·obtain⟨b2,o2,rfl,hba⟩:=RH ho zx hk hxb hbv c2
   have hns:pY g.aF ((kn:Int),(dn:Int),(ln:Int))=aj (fB g.aF (kn:Int))[dn]:=by
    unfold pY;dsimp only;rw[dB,bD c2]
   have NR:=λw=>Xm (fB g.aF (kn:Int))[dn] x w;generalize (fB g.aF (kn:Int))[dn]=y at*;rw[hns]at uH
   try refine GA ?_
   refine dK ([aP g5 (ep x).toArray 156,aP g9 (iK ((kn:Int),(dn:Int),(ln:Int))).toArray 208,AD xb]) (.calm 0 (.calm 1 (.calm 2 (.calm 3 (.calm 4 (.calm 5 (.calm 6 (.calm 7 (.calm 8 (.calm 9 (.calm 10 (.calm 11 (.calm 12 (.calm 13 (.done))))))))))))))) (bV [2,4,5]) ?_
   by_cases c3:y=x
   ·subst c3
    rw[if_pos I]at uH;rw[decide_eq_true I]at NR
    repeat(first|(refine GN ?_;first|refine QW QP ?_|refine QW (aC (v:=av az (dn:Int)) aK.ty I (aH (i:=1) I I)) ?_|refine QW (aX bL.eq aK.ty I I c2) ?_|refine QW (a8 (cs:=ep y) aK.ty I I (hba _ 2 I)) ?_|refine QW (aO (i:=0) aK.ty I I I) ?_|refine QW (C0 I I (by kernel_rfl) NR) ?_|refine GX ?_)|refine GW ?_)
    repeat(first|refine GA ?_|refine gV (aC (v:=av az (dn:Int)) aK.ty I (aH (i:=4) I I)) ?_)
    refine bU (i:=4) I I I I I I ?_;refine zL ?_
    repeat(first|refine GA ?_|refine gV (aO (i:=4) aK.ty I I I) ?_)
    refine jk (i:=3) I I I I I I I (λz h=>by cases h;rfl) J J I λz v'=>?_;refine zL ?_
    try refine GA ?_
    refine dh [0,1,2,3] ?_;exact bW (k+1,v') (by show k+1<=s.length;omega) (by show s.length-(k+1)<s.length-k;omega) (hl:=by dsimp only;rw[FP,uH,bK,gO];rfl)
   rw[if_neg (λh=>c3 (rP h))]at uH;rw[decide_eq_false c3]at NR
   repeat(first|(refine GN ?_;first|refine QW QP ?_|refine QW (aC (v:=av az (dn:Int)) aK.ty I (aH (i:=1) I I)) ?_|refine QW (aX bL.eq aK.ty I I c2) ?_|refine QW (a8 (cs:=ep y) aK.ty I I (hba _ 2 I)) ?_|refine QW (aO (i:=0) aK.ty I I I) ?_|refine QW (C0 I I (by kernel_rfl) NR) ?_|refine GX ?_)|refine GW ?_)
   try refine GA ?_
   refine dh [0,1,2,3] ?_;exact bW (k+1,v) (by show k+1<=s.length;omega) (by show s.length-(k+1)<s.length-k;omega) (hl:=by dsimp only;rw[FP,uH];rfl)
  have hns:pY g.aF ((kn:Int),(dn:Int),(ln:Int))=none:=by
   unfold pY;dsimp only;rw[dB,ku J]
  rw[hns,if_neg (λh=>by cases h)]at uH
  try refine GA ?_
  refine dK ([aP g5 (ep x).toArray 156,aP g9 (iK ((kn:Int),(dn:Int),(ln:Int))).toArray 208,AD xb]) (.calm 0 (.calm 1 (.calm 2 (.calm 3 (.calm 4 (.calm 5 (.calm 6 (.calm 7 (.calm 8 (.calm 9 (.calm 10 (.calm 11 (.calm 12 (.calm 13 (.done))))))))))))))) (bV [2,4,5]) ?_
  repeat(first|refine GW ?_|(refine GN ?_;first|refine QW (aC (v:=av az (dn:Int)) aK.ty I (aH (i:=1) I I)) ?_))
  try refine GA ?_
  refine dh [0,1,2,3] ?_;exact bW (k+1,v) (by show k+1<=s.length;omega) (by show s.length-(k+1)<s.length-k;omega) (hl:=by dsimp only;rw[FP,uH];rfl)
 ·obtain rfl:k=s.length:=by omega
  rw[my]
  try refine GA ?_
  refine bx [0,1] [2,3] aiz I I (fI aI.en I I I) (λw hm hb=>iz v Kf J w _ (ho.on hm λo h=>Co h) (Yy.row hm (i:=3) I [0,1] I aiz) hb) I I I ?_;rintro⟨f2,c2,v2⟩ ⟨U9,aei⟩
  conv=>arg 8;simp only[zJ,cL,ret,id_eq,uM,opL]
  conv=>arg 7;simp only[uM]
  try refine GA ?_
  exact cJ I I λw hm=>hm.cB (S:=uM g T (mB g.aF s x) bp cp go gm c) (f2,c2,v2) ⟨U9,aei⟩ [2,3,4] aiz I
end bZ
namespace bZ
open Go.RowKit cU dM aT dL dG bI cT
def jn(g:d_):List (List Int)×List (List bI.Item)×Int:=if bX g≠0 then([],[],bX g)else match allI g.aF g.aR.toNat g.bC.toNat (jW g)with
 |some (Nx,S)=>(Nx,S,0)
 |none=>([],[],8)
def abA(g:d_):Spec (Value×Value×List Value×(Nat->Prop)×List Value×(Nat->Prop)):=⟨λ_=>True,λx=> .tuple #[aQ #[x.1,x.2.1],av az (jn g).2.2],λx=>[a_ 203 1 x.1 (jn g).2.1.length x.2.2.1,dZ (bM I9) x.2.2.2.1 (x.2.2.1.map λv=>[v]) (jn g).2.1,a_ 27 1 x.2.1 (jn g).1.length x.2.2.2.2.1,dZ (bM fz) x.2.2.2.2.2 (x.2.2.2.2.1.map λv=>[v]) (jn g).1]⟩
theorem L5(w:World):(df 140 (#[]:Array (Nat×Value))).run aB w= .ok (aQ #[ap ak 0 0,ap ak 0 0]) w:=by kernel_rfl
theorem uO{l:List aT.Prod}{T:Nat}{s:List bI.Item}(hw:∀q∈l,q.2.length<=8)(hl:l.length<=40)(hT:T<=30)(h:∀it∈s,eh l T it):vX s:=λit hit=>by
 obtain⟨a1,a2,a3,a4,a5,a6⟩:=h it hit;have:=mA (l:=l) (p:=it.1) hw;omega
theorem Yy.els{W:bR}{L Lx:List b_}{w:World}(hm:Mem W L w){i n:Nat}{F:Nat->Prop}{vY:List Value}{S:List (List bI.Item)}(hi:L[i]?=aj (dZ (bM I9) F (vY.map λv=>[v]) S))(is:List Nat)(hL:Lx=is.filterMap λi=>L[i]?)(hni:i∉is){s:List bI.Item}(hs:S[n]?=aj s){v:Value}(hv:vY[n]?=aj v):Yy (bR.on w Lx) v s.length (s.flatMap iK):=by
 obtain⟨hn,rfl⟩:=dl.1 hs;obtain⟨⟨h1,h2⟩,h3⟩:=hm.get hi;have hnv:n<vY.length:=(dl.1 hv).1;obtain⟨v',e,hs⟩:=h2 n hn (by rw[dI];exact hnv);rw[r9]at e;obtain rfl:v=v':=by
  have:=(dl.1 hv).2;rw[this]at e;exact(X0 e).1
 obtain⟨base,cap,rfl,a1,a2,a3⟩:=hs;refine⟨base,cap,rfl,a1,a2,λh0=>?_⟩;obtain⟨b,off,rfl,hF,_⟩:=a3 h0;have wo:=jQ.flat (f:=iK) (c:=3) (hc:=λ_=>rfl) (p:=λ_=>True) (F:=F) aiz (⟨aj ⟨b,off,ak⟩,cap,rfl,a1,a2,a3⟩:jQ I9 F w _ S[n]);obtain⟨acW,Fp,e',_,_,q⟩:=wo;obtain⟨b',Ah,e2,hr⟩:=q h0
 cases e'
 cases e2
 refine⟨b,off,rfl,⟨h3 b hF,?_⟩,hr⟩;rintro⟨o,ho,hfo⟩;subst hL;obtain⟨j,hj,QD⟩:=IV.1 ho;exact hm.owns.apart i j _ _ (λh=>hni (h▸hj)) hi QD b (.inr hF) hfo
theorem YA{a b c k:Nat}(h1:a<=b+12000)(h2:b<=c+12000*k):a<=c+12000*(k+1):=by rw[Nat.mul_succ,<-lG];exact fv h1 (Nat.add_le_add_right h2 _)
theorem Ep:∀(l:List Value),(l.map λv=>[v]).flatten=l
 |[]=>rfl
 |v::l=>by rw[gd,List.flatten_cons,Ep l];rfl
theorem Bm{w:World}{v:Value}{l:List Int}(hp:∀x∈l,cU.dX x)(h:(a_ 3 1 v l.length (l.map (av .i64))).holds w):(bM fz).is (λk=>v.ownBlock=aj k) w [v] l:=
 ⟨v,rfl,jQ.of_flat (by have:=Sl.dy h;rwa [show l.map (av .i64)=l.flatMap (λn=>[av .i64 n])by rw[List.map_eq_flatMap]]at this) hp (λ_ h=>h) (λa n cp hv=>by rw[hv];rfl)⟩
theorem Ug(v:Value)(g:d_)(w:World)(hG:jZ (λk=>k<w.heap.size) w v g):
 Calls aB 47 #[v] w (cz (abA g) w):=by
 have hG0:=hG;have iS:=λw' (hg:Gr w w')=>jD v g w' (hG.gr hg);obtain⟨vp,rfl,hp,ht,hn⟩:=hG;obtain⟨vb,bp,cp,rfl,-,-,zx,nZ⟩:=Ye hp;have BJ:=I7 g.aR g.bC (ap bp g.aF.length cp);have B7:=L5;have hO:jn g=if bX g≠0 then([],[],bX g)else match allI g.aF g.aR.toNat g.bC.toNat (jW g)with
  |some (Nx,S)=>(Nx,S,0)
  |none=>([],[],8):=rfl
 unfold abA;refine enter (args:=[dE g.aR g.bC (ap bp g.aF.length cp)]) (n:=81) Tryz.func47 I I I ?_;refine b9 (bz (bQ I I I λg1=>?_));refine zL ?_
 try refine GA ?_
 refine aY I λg2=>?_;refine zL ?_
 repeat(first|refine GA ?_|refine gV (aO (i:=0) aK.ty I I I) ?_)
 refine aW (iM aI.en I I) (λw hm=>iS w hm.below) I I I ?_;intro _ _;refine zL ?_
 by_cases c0:bX g=0
 ·rw[if_neg (by rw[c0];simp)]at hO
  rw[c0];obtain⟨hT1,hT2,hN1,WD,Bl,hgb⟩:=cP c0;have Kj:∀q∈g.aF,q.2.length<=8:=λq hq=>(hgb q hq).1;obtain⟨T,Jh⟩:∃T:Nat,g.aR=(T:Int):=⟨g.aR.toNat,by omega⟩;obtain⟨N,hNn⟩:∃N:Nat,g.bC=(N:Int):=⟨g.bC.toNat,by omega⟩;rw[show g.aR.toNat=T by omega,show g.bC.toNat=N by omega]at hO;have hT:T<=30:=by omega
  have afN:0<g.aF.length->∃b off,bp=aj ⟨b,off,ak⟩/\∀i,i<g.aF.length->Rd w b (off+i*2) [av az (db g.aF (i:Int)).1,vb i]:=λh=>let ⟨b,off,h1,_,h3⟩:=nZ h;⟨b,off,h1,λi hi=>(h3 i hi).1⟩
  have iz:=λgo gm l0 vl h1 h2 w' B' Kw xe qV=>uN g c0 bp cp vb w hG0 zx afN go gm 0 (λ_=>ak) T Jh hT l0 vl h1 h2 (λx v h=>by cases h) J w' B' Kw xe qV;have hst:=λgo gm c f s x vl h1 h2 h3 h4 w' B' Kw xe qV=>Ji g c0 bp cp vb w hG0 zx afN go gm c f T Jh hT s x vl h1 h2 h3 h4 w' B' Kw xe qV;have Kk:=FJ T N J J (ap bp g.aF.length cp)
  repeat(first|refine GA ?_|refine gV (aO (i:=0) aK.ty I I I) ?_)
  refine aW (iM aI.en I I) (λw hm=>BJ w) I I I ?_;rintro⟨go,gm⟩ _
  conv=>arg 8;simp only[zJ,cL,ret,id_eq,abb]
  conv=>arg 7;simp only[abb]
  try refine GA ?_
  refine Aj (K:=hZ) I λgq=>?_;refine zL ?_
  try refine GA ?_
  refine aY I λg6=>?_;refine zL ?_;refine bU (i:=5) I I I I I I ?_;refine zL ?_
  try refine GA ?_
  refine aY I λg7=>?_;refine zL ?_
  repeat(first|refine GA ?_|refine gV (vJ I I) ?_|refine gV (aC (v:=ap bp g.aF.length cp) aK.ty I (aH (i:=0) I I)) ?_|refine gV (aC (v:=av az g.aR) aK.ty I (aH (i:=0) I I)) ?_|refine gV (bB I (Hh _ _)) ?_)
  refine fy (cs:=(iK ((g.aF.length:Int),0,g.aR)).toArray) I I I I I λg33=>?_;refine zL ?_;refine yq (i:=7) (m:=1) 3 I I aiz ?_;refine zL ?_;have U_:∀x∈[(((g.aF.length:Int),0,g.aR):bI.Item)],eh g.aF T x:=by rw[Jh];exact ig Bl hT
  try refine GA ?_
  refine bx [3,2] [0,1,4,5,6] aiz I I (fI aI.en I I I) (λw' hm hb=>iz go gm [((g.aF.length:Int),0,g.aR)] _ U_ (by simp) w' _ ((pC.self w).on hm λo h=>Co h) (Yy.row hm (i:=7) I [3,2] I aiz) hb) I I I ?_;rintro⟨f2,c2,v2⟩ ⟨U9,yv⟩
  conv=>arg 8;simp only[zJ,cL,ret,id_eq,uM,opL]
  conv=>arg 7;simp only[uM]
  have xr:jI g.aF T (jW g) [((g.aF.length:Int),0,g.aR)]=ng g.aF T (jW g):=by rw[Jh];rfl
  rw[xr];have aej:∀it∈ng g.aF T (jW g),eh g.aF T it:=iN Kj Bl hT (ig Bl hT);have afO:=uG (lk:=jW g) Kj Bl hT (l0:=[((g.aF.length:Int),0,(T:Int))]) (ig Bl hT);have afP:(ng g.aF T (jW g)).length<=11439:=so Kj Bl hT (ig Bl hT);dsimp only at U9 yv;refine vD 203 1 ?_;refine KG (dZ (bM I9) (λ_=>False) [] []) (λk hk=>hk.elim (λh=>by cases h) id) (λw=>je) ?_;refine zL ?_;have hsm:=uO Kj Bl hT aej;have A7:iW [] (ng g.aF T (jW g))=(0,[ng g.aF T (jW g)]):=if_neg (by simp)
  try refine GA ?_
  refine bx [3,2,4,8,9,7] [0,1,5,6] aiz I I (BK aI.en I I) (λw' hm hb=>Bh g6 gq g7 (ap ak 0 0) (ap ak 0 0) [] (λ_=>False) [] v2 (ng g.aF T (jW g)) (λt h=>by cases h) hsm (by simp) J w' _ hb) I I I ?_;rintro⟨vS,vY,F⟩ _
  conv=>arg 8;simp only[zJ,cL,ret,id_eq,stL]
  rw[A7];dsimp only;refine vD 27 1 ?_;refine KG (dZ (bM fz) (λ_=>False) [] []) (λk hk=>hk.elim (λh=>by cases h) id) (λw=>je) ?_;refine zL ?_
  try refine GA ?_
  refine dY (ι:=Nat×List (List bI.Item)×List (List Int)×(RK->Option Value)×Nat×Value×Value×List Value×(Nat->Prop)×List Value×(Nat->Prop))
   (λ(n,S,Nx,f,c,_,_,_,_,_,_)=>n<=S.length/\Nx.length=n/\I3 g.aF T (jW g) S/\S.length<=200/\wD g.aF T N (jW g) (202-n) n Nx S=allI g.aF T N (jW g)/\jJ (jW g) f/\c<=12000+1200000*n/\∀t∈S,t.length<=11439)
   (λ(n,_,_,_,_,_,_,_,_,_,_)=>[(1,aJ (aj ⟨g1,0,ak⟩)),(2,aJ (aj ⟨g2,0,ak⟩)),(5,aJ (aj ⟨go,0,ak⟩)),(7,aJ (aj ⟨g7,0,ak⟩)),(8,.func (.func 82) #[] #[aJ (aj ⟨g6,0,ak⟩),aJ (aj ⟨g7,0,ak⟩)]),(9,av az (n:Int))])
   (λ(_,S,Nx,f,c,vS,vN,vY,F,Bn,G)=>[aP g1 (dE g.aR g.bC (ap bp g.aF.length cp)).cells 34,aP g2 #[ap ak 0 0,ap ak 0 0] 140,aP go (Bg g.aR g.bC (ap bp g.aF.length cp) gm).toArray 245,eZ iP gm f c,aP g6 #[.map (aj gq)] 109,eZ hZ gq (ki (S.map ii)) S.length,aP g7 #[vS,vN] 140,a_ 203 1 vS S.length vY,dZ (bM I9) F (vY.map λv=>[v]) S,a_ 27 1 vN Nx.length Bn,dZ (bM fz) G (Bn.map λv=>[v]) Nx]) (λ(n,_,_,_,_,_,_,_,_,_,_)=>202-n)
   (0,[ng g.aF T (jW g)],[],f2,c2,vS,ap ak 0 0,vY,F,[],λ_=>False) ⟨bH _,rfl,⟨by simp,λs hs=>by rw[dQ.1 hs];exact aej,λs hs=>by rw[dQ.1 hs];exact afO⟩,by simp,rfl,U9,by omega,λt ht=>by rw[dQ.1 ht];exact afP⟩ ?_
  clear iz aej afO afP hsm A7 U9 yv U_ xr BJ iS;rintro⟨n,S,Nx,f,c,vS,vN,vY,F,Bn,G⟩ ⟨i1,i2,i3,i4,i5,i6,i7,i8⟩;dsimp only at i1 i2 i3 i4 i5 i6 i7 i8⊢;refine io (i:=7) I fV λgC=>?_;obtain⟨aS,cS,rfl,-,haS⟩:=gC
  by_cases c1:n<S.length
  ·rw[show 202-n=(201-n)+1 by omega,wD,if_pos c1]at i5
   have hgd:S.getD n []=S[n]:=by rw[cH,bD c1];rfl
   rw[hgd]at i5;have U_:=i3.right S[n] (cD c1);have hsn:S[n]?=aj S[n]:=bD c1;generalize UZ:S[n]=s0 at*;have hyl:(mC T N).length=T+N:=yV T N;rw[<-Jh,<-hNn]at Kk;generalize mC T N=ys at*
   repeat(first|refine GA ?_|refine gV (aC (v:=ap aS S.length cS) aK.ty I (aH (i:=6) I I)) ?_|refine gV (aO (i:=0) aK.ty I I I) ?_)
   refine aW (iM aI.en I I) (λw hm=>Kk w) I I I ?_;intro vy _
   conv=>arg 8;simp only[zJ,cL,ret,id_eq,cL]
   conv=>arg 7;simp only[cL]
   refine pS (i:=11) I fV λgC=>?_;obtain⟨ay,cy,rfl,-,hay⟩:=gC
   try refine GA ?_
   refine ja 3 1 ?_
   conv=>arg 7;simp only[zA,zB,zC,zD,zE,zF,zG,zH,zI,cL,ret,id_eq]
   refine dY (ι:=Nat×List Int×List (List bI.Item)×(RK->Option Value)×Nat×Value×List Value×(Nat->Prop)×Value)
    (λ(k,nx,S',f',c',_,_,_,_)=>k<=ys.length/\(∃E,S'=S++E)/\I3 g.aF T (jW g) S'/\S'.length<=200/\yU g.aF T (jW g) s0 (ys.drop k) nx S'=yU g.aF T (jW g) s0 ys [] S/\jJ (jW g) f'/\c'<=c+12000*k/\nx.length=k/\(∀y∈nx,cU.dX y)/\∀t∈S',t.length<=11439)
    (λ(k,_,_,_,_,_,_,_,vx)=>[(1,aJ (aj ⟨g1,0,ak⟩)),(2,aJ (aj ⟨g2,0,ak⟩)),(5,aJ (aj ⟨go,0,ak⟩)),(7,aJ (aj ⟨g7,0,ak⟩)),(8,.func (.func 82) #[] #[aJ (aj ⟨g6,0,ak⟩),aJ (aj ⟨g7,0,ak⟩)]),(9,av az (n:Int)),(10,vx),(44,ap ay ys.length cy),(45,av az (ys.length:Int)),(46,av az (k:Int))])
    (λ(_,nx,S',f',c',vS',BU,F',vx)=>[aP g1 (dE g.aR g.bC (ap bp g.aF.length cp)).cells 34,aP g2 #[ap ak 0 0,ap ak 0 0] 140,aP go (Bg g.aR g.bC (ap bp g.aF.length cp) gm).toArray 245,eZ iP gm f' c',aP g6 #[.map (aj gq)] 109,eZ hZ gq (ki (S'.map ii)) S'.length,aP g7 #[vS',vN] 140,a_ 203 1 vS' S'.length BU,dZ (bM I9) F' (BU.map λv=>[v]) S',a_ 27 1 vN Nx.length Bn,dZ (bM fz) G (Bn.map λv=>[v]) Nx,a_ 156 2 (ap ay ys.length cy) ys.length (ys.flatMap ep),a_ 3 1 vx nx.length (nx.map (av .i64))]) (λ(k,_,_,_,_,_,_,_,_)=>ys.length-k)
    (0,[],S,f,c,ap aS S.length cS,vY,F,ap ak 0 0) ⟨bH _,⟨[],(eG _).symm⟩,i3,i4,rfl,i6,by omega,rfl,(λy hy=>by cases hy),i8⟩ ?_
   clear Kk;rintro⟨k,nx,S',f',c',vS',BU,F',vx⟩ ⟨j1,⟨E,hE⟩,j3,j4,j5,j6,j7,j8,j9,j10⟩;dsimp only at j1 hE j3 j4 j5 j6 j7 j8 j9 j10⊢
   by_cases c2:k<ys.length
   ·have hn':n<S'.length:=by rw[hE,bK];omega
    have afQ:S'[n]?=aj s0:=by rw[hE,gJ c1];exact hsn
    refine io (i:=7) I fV λgC=>?_;obtain⟨aS',cS',rfl,-,ahm⟩:=gC;obtain⟨gS',rfl⟩:=ahm J;refine io (i:=8) I (λw h=>h.1.1) λhvl=>?_;rw[dI]at hvl;have hvn:BU[0+n]?=aj (BU[n]' J):=by rw[cV];exact bD _
    have afR:BU[n]?=aj (BU[n]' J):=bD _;generalize BU[n]' J=vn at hvn afR;obtain⟨gy,rfl⟩:=hay J;have dz:=λ(L:List b_) (i:Nat) (hL:L[i]?=aj (a_ 156 2 (ap (aj ⟨gy,0,ak⟩) ys.length cy) ys.length (ys.flatMap ep)))=>qO (W:=(w:bR)) D_ hL c2;rw[eI c2,yU]at j5;generalize ys[k]=x at*;have qZ:s0.length<=11439:=j10 s0 (kR afQ)
    repeat(first|refine GA ?_|refine gV (aX bL.eq aK.ty I I c2) ?_|refine gV (a8 (cs:=ep x) aK.ty I I (dz _ 11 I)) ?_)
    refine aY I λg12=>?_;refine zL ?_;refine gh 13 (cs':=(ep x).toArray) ?_;refine zL ?_
    try refine GA ?_
    refine dK ([aP g7 #[ap (aj ⟨gS',0,ak⟩) S'.length cS',vN] 140,a_ 203 1 (ap (aj ⟨gS',0,ak⟩) S'.length cS') S'.length BU,aP g12 (ep x).toArray 156]) (.calm 0 (.calm 1 (.calm 2 (.calm 3 (.calm 4 (.calm 5 (.calm 6 (.one 7 (.calm 8 (.done)))))))))) (bV [6,7,13]) ?_
    repeat(first|refine GW ?_|(refine GN ?_;first|refine QW (aC (v:=ap (aj ⟨gS',0,ak⟩) S'.length cS') aK.ty I (aH (i:=0) I I)) ?_|refine QW (bY bL.eq aK.ty I I hn') ?_|refine QW (aC (v:=vn) aK.ty I (jY (i:=1) I hvn)) ?_|refine QW (aO (i:=2) aK.ty I I I) ?_))
    refine aL I ?_;refine bx [2,3] [0,1,4,5,6,7,8,9,10,11,12,13] aiz I I (sZ aI.en I I I I) (λw' hm hb=>hst go gm c' f' s0 x vn U_ J j6 J w' _ ((pC.self w).on hm λo h=>Co h) (Yy.els hm (i:=8) I [2,3] I aiz afQ afR) hb) I I I ?_;rintro⟨f2,U8,v2⟩ ⟨U9,yv⟩;dsimp only at U9 yv
    conv=>arg 8;simp only[zJ,cL,ret,id_eq,uM,opL]
    conv=>arg 7;simp only[uM]
    rw[show jI g.aF T (jW g) (mB g.aF s0 x)=iO g.aF T (jW g) s0 x from I];refine aM (bV [4,5,11]) ?_
    try refine GW ?_
    try refine GA ?_
    refine pS (i:=14) I fV λgC=>?_;obtain⟨a2,cv2,rfl,-,ha2⟩:=gC;obtain⟨hlE,hlC,hlS⟩:=G8 (lk:=jW g) Kj Bl hT j3 U_ x;have hcc:U8<=c+12000*(k+1):=YA yv j7;have ahn:∀it∈iO g.aF T (jW g) s0 x,eh g.aF T it:=iN Kj Bl hT (kI U_);have aho:(iO g.aF T (jW g) s0 x).length<=11439:=so Kj Bl hT (kI U_)
    by_cases c3:iO g.aF T (jW g) s0 x=[]
    ·have hcell:pZ g.aF T (jW g) s0 x S'=(-1,S'):=if_pos c3
     rw[hcell,if_neg (by show ¬200<S'.length;omega)]at j5;dsimp only at j5;have hl0:(iO g.aF T (jW g) s0 x).length=0:=by rw[c3];rfl
     repeat(first|refine GA ?_|refine gV (aC (v:=ap (aj ⟨gS',0,ak⟩) S'.length cS') aK.ty I (aH (i:=4) I I)) ?_)
     refine jN (i:=10) I I I I I I (λz h=>by cases h;rfl) J J I λz vx'=>?_;refine zL ?_
     try refine GA ?_
     refine dh [0,1,12,13,2,3,4,5,6,7,8,9,10] ?_;exact bW (k+1,nx++[-1],S',f2,U8,ap (aj ⟨gS',0,ak⟩) S'.length cS',BU,F',vx') ⟨by show k+1<=ys.length;omega,⟨E,hE⟩,j3,j4,j5,U9,hcc,by show(nx++[-1]).length=k+1;rw[bK,j8];rfl,λy hy=>(fj.1 hy).elim (j9 y) λh=>by rw[dQ.1 h];exact⟨by omega,by omega⟩,j10⟩ (by show ys.length-(k+1)<ys.length-k;omega) (hl:=by dsimp only;rw[bK,eO];rfl)
    have hcell:pZ g.aF T (jW g) s0 x S'=(((iW S' (iO g.aF T (jW g) s0 x)).1:Int),(iW S' (iO g.aF T (jW g) s0 x)).2):=if_neg c3;have hsm:=uO Kj Bl hT ahn;have hSm:∀t∈S',vX t:=λt ht=>uO Kj Bl hT (j3.right t ht);have AE:0<(iO g.aF T (jW g) s0 x).length:=List.length_pos_iff.2 c3;have hq:(iW S' (iO g.aF T (jW g) s0 x)).1<=S'.length:=by
     unfold iW;split
     ·rename_i hm;exact Nat.le_of_lt (oO hm)
     exact bm _
    rw[hcell]at j5 hlE hlC hlS;dsimp only at j5 hlE hlC hlS
    try refine GA ?_
    refine bx [2,3,4,5,6,14] [0,1,7,8,9,10,11,12,13] aiz I I (BK aI.en I I) (λw' hm hb=>Bh g6 gq g7 (ap (aj ⟨gS',0,ak⟩) S'.length cS') vN BU F' S' _ (iO g.aF T (jW g) s0 x) hSm hsm J J w' _ hb) I I I ?_;rintro⟨vS2,ahp,F2⟩ _
    conv=>arg 8;simp only[zJ,cL,ret,id_eq,stL]
    have Er:∀t∈(iW S' (iO g.aF T (jW g) s0 x)).2,t.length<=11439:=by
     unfold iW;split;exact j10;intro t ht;rcases fj.1 ht with h|h
     exact j10 t h;rw[dQ.1 h];exact aho
    generalize iW S' (iO g.aF T (jW g) s0 x)=R at*;obtain⟨q,S2⟩:=R;dsimp only at j5 hlE hlC hlS hq Er⊢;refine pS (i:=12) I fV λgC=>?_;obtain⟨aS2,cS2,rfl,-,aij⟩:=gC;obtain⟨E2,hE2⟩:=hlE
    by_cases c4:200<S2.length
    ·rw[if_pos c4]at j5
     rw[<-j5]at i5
     repeat(first|refine GC ?_|refine gV (aC (v:=ap aS2 S2.length cS2) aK.ty I (aH (i:=11) I I)) ?_|refine gV (dP (b:=aD) I I (decide_eq_true J)) ?_|refine gV (bB I B7) ?_|refine GB ?_)
     have hOn:jn g=([],[],8):=by rw[hO,<-i5]
     rw[hOn];refine gh 1 ?_;refine zL ?_
     try refine GA ?_
     refine dF 203 1 (pR (dZ (bM I9) (λ_=>False) [] []) (λk hk=>hk.elim (λh=>by cases h) id) (λw=>je) (dF 27 1 (pR (dZ (bM fz) (λ_=>False) [] []) (λk hk=>hk.elim (λh=>by cases h) id) (λw=>je) ?_)));exact ey (i:=1) I I I I I λw hm=>hm.meets (S:=⟨λ(_:Value×Value×List Value×(Nat->Prop)×List Value×(Nat->Prop))=>True,λx=> .tuple #[aQ #[x.1,x.2.1],av az 8],λx=>[a_ 203 1 x.1 0 x.2.2.1,dZ (bM I9) x.2.2.2.1 (x.2.2.1.map λv=>[v]) [],a_ 27 1 x.2.1 0 x.2.2.2.2.1,dZ (bM fz) x.2.2.2.2.2 (x.2.2.2.2.1.map λv=>[v]) []]⟩) (ap ak 0 0,ap ak 0 0,[],λ_=>False,[],λ_=>False) trivial [14,15,16,17] aiz I
    rw[if_neg c4]at j5
    repeat(first|refine GC ?_|refine gV (aC (v:=ap aS2 S2.length cS2) aK.ty I (aH (i:=11) I I)) ?_|refine gV (dP (b:=aE) I I (decide_eq_false J)) ?_|refine GB ?_)
    refine jN (i:=5) I I I I I I (λz h=>by cases h;rfl) J J I λz vx'=>?_;refine zL ?_
    try refine GA ?_
    refine dh [0,1,7,8,9,10,11,12,13,2,3,4,5] ?_;exact bW (k+1,nx++[(q:Int)],S2,f2,U8,ap aS2 S2.length cS2,ahp,F2,vx') ⟨by show k+1<=ys.length;omega,⟨E++E2,by rw[hE2,hE,eY]⟩,hlS,by show S2.length<=200;omega,j5,U9,hcc,by show(nx++[(q:Int)]).length=k+1;rw[bK,j8];rfl,λy hy=>(fj.1 hy).elim (j9 y) λh=>by rw[dQ.1 h];exact⟨by omega,by omega⟩,λt ht=>Er t ht⟩ (by show ys.length-(k+1)<ys.length-k;omega) (hl:=by dsimp only;rw[bK,eO];rfl)
   obtain rfl:k=ys.length:=by omega
   rw[oL (bm _),yU]at j5;rw[<-j5]at i5;dsimp only at i5
   repeat(first|refine GA ?_|refine gV (aC (v:=vN) aK.ty I (aH (i:=6) I I)) ?_)
   refine aU (i:=12) I λQR J'=>?_;refine jN (i:=9) I I QR J' I I (λz h=>by cases h;rfl) J J I λz vN'=>?_;refine zL ?_;refine oK (dZ (bM fz) (λk=>G k\/vx.ownBlock=aj k) ((Bn.map λv=>[v])++[[vx]]) (Nx++[nx])) 12 10 [0,1,2,3,4,5,6,7,8,9] aiz I I I (λk hk=>hk.elim (λh=>by cases h) λh=>h.elim (λh=> .inr (.inr h)) λh=> .inl (.inl h)) (λw hr he=>mj he (Bm j9 hr) (y0 hr)) ?_;refine zL ?_
   try refine GA ?_
   refine aU (i:=9) I λkK lz=>bU (i:=6) I I I kK lz I ?_;refine zL ?_
   try refine GA ?_
   exact bW (n+1,S',Nx++[nx],f',c',vS',vN',BU,F',Bn++[vx],λk=>G k\/vx.ownBlock=aj k) ⟨by show n+1<=S'.length;rw[hE,bK];omega,by show(Nx++[nx]).length=n+1;rw[bK,i2];rfl,j3,j4,by show wD g.aF T N (jW g) (202-(n+1)) (n+1) (Nx++[nx]) S'=_;rw[show 202-(n+1)=201-n by omega];exact i5,j6,by dsimp only;omega,j10⟩ (by show 202-(n+1)<202-n;omega) (hl:=by dsimp only;rw[bK,eO];rfl)
  have hA:allI g.aF T N (jW g)=aj (Nx,S):=by rw[<-i5,show 202-n=(201-n)+1 by omega,wD,if_neg c1]
  rw[hA]at hO;have hO:jn g=(Nx,S,0):=hO;rw[hO];refine io (i:=9) I fV λgC=>?_;obtain⟨aN,cN,rfl,-⟩:=gC
  repeat(first|refine GA ?_|refine gV (aC (v:=ap aS S.length cS) aK.ty I (aH (i:=6) I I)) ?_|refine gV (aO (i:=6) aK.ty I I I) ?_)
  refine gh 1 (cs':=#[ap aS S.length cS,ap aN Nx.length cN]) ?_;refine zL ?_
  try refine GA ?_
  exact ey (i:=1) I I I I I λw hm=>hm.meets (S:=⟨λ(_:Value×Value×List Value×(Nat->Prop)×List Value×(Nat->Prop))=>True,λx=> .tuple #[aQ #[x.1,x.2.1],av az 0],λx=>[a_ 203 1 x.1 S.length x.2.2.1,dZ (bM I9) x.2.2.2.1 (x.2.2.1.map λv=>[v]) S,a_ 27 1 x.2.1 Nx.length x.2.2.2.2.1,dZ (bM fz) x.2.2.2.2.2 (x.2.2.2.2.1.map λv=>[v]) Nx]⟩) (ap aS S.length cS,ap aN Nx.length cN,vY,F,Bn,G) trivial [7,8,9,10] aiz I
 ·rw[if_pos c0]at hO
  rw[hO]
  repeat(first|refine GC ?_|refine gV (dm (b:=aD) I I (decide_eq_true c0)) ?_|refine gV (bB I B7) ?_|refine GB ?_)
  refine gh 1 ?_;refine zL ?_
  try refine GA ?_
  refine dF 203 1 (pR (dZ (bM I9) (λ_=>False) [] []) (λk hk=>hk.elim (λh=>by cases h) id) (λw=>je) (dF 27 1 (pR (dZ (bM fz) (λ_=>False) [] []) (λk hk=>hk.elim (λh=>by cases h) id) (λw=>je) ?_)));exact ey (i:=1) I I I I I λw hm=>hm.meets (S:=⟨λ(_:Value×Value×List Value×(Nat->Prop)×List Value×(Nat->Prop))=>True,λx=> .tuple #[aQ #[x.1,x.2.1],av az (bX g)],λx=>[a_ 203 1 x.1 0 x.2.2.1,dZ (bM I9) x.2.2.2.1 (x.2.2.1.map λv=>[v]) [],a_ 27 1 x.2.1 0 x.2.2.2.2.1,dZ (bM fz) x.2.2.2.2.2 (x.2.2.2.2.1.map λv=>[v]) []]⟩) (ap ak 0 0,ap ak 0 0,[],λ_=>False,[],λ_=>False) trivial [2,3,4,5] aiz I
end bZ
namespace bI
open aT dL cT
section
variable{l:List aT.Prod}{T N:Nat}{lk:Int->Int->Nat}{Nx:List (List Int)}{S:List (List Item)}
theorem L6{P:List Item->Prop}(hP:∀s x,(∀it∈s,eh l T it)->P s->P (iO l T lk s x)){s:List Item}(hs:∀it∈s,eh l T it)(h0:P s):∀(xs:List dv) (nx:List Int) (S:List (List Item)) (Yd:List Int) (S':List (List Item)),(∀s∈S,P s)->yU l T lk s xs nx S=aj (Yd,S')->∀s∈S',P s
 | [],nx,S,Yd,S',hS,h=>by
  simp only[yU,dr,hJ]at h;obtain⟨_,rfl⟩:=h;exact hS
 | x::xs,nx,S,Yd,S',hS,h=>by
  rw[yU]at h
  by_cases c:200<(pZ l T lk s x S).2.length
  rw[if_pos c]at h;cases h;rw[if_neg c]at h;refine L6 hP hs h0 xs _ _ Yd S' ?_ h;intro s' xe;unfold pZ at xe;split at xe;exact hS s' xe;unfold iW at xe;dsimp only at xe;split at xe;exact hS s' xe;rcases fj.1 xe with h'|h'
  exact hS s' h';rw[dQ.1 h'];exact hP s x hs h0
theorem Es{P:List Item->Prop}(hw:∀q∈l,q.2.length<=8)(hl:l.length<=40)(hT:T<=30)(hP:∀s x,(∀it∈s,eh l T it)->P s->P (iO l T lk s x)):∀(f n:Nat) (Nx:List (List Int)) (S:List (List Item)) (Nx':List (List Int)) (S':List (List Item)),(∀s∈S,P s/\∀it∈s,eh l T it)->wD l T N lk f n Nx S=aj (Nx',S')->∀s∈S',P s
 |0,_,_,_,_,_,_,h=>by cases h
 | f + 1,n,Nx,S,Nx',S',hS,h=>by
  rw[wD]at h
  by_cases c:n<S.length
  ·rw[if_pos c]at h
   have xN:S.getD n []=S[n]:=by rw[cH,bD c];rfl
   have hn:=hS _ (cD c);rw[<-xN]at hn
   cases e:yU l T lk (S.getD n []) (mC T N) [] S with
   |none=>rw[e]at h;cases h
   | some r=>
    obtain⟨nx,S1⟩:=r;rw[e]at h;dsimp only at h;have hQ:∀s x,(∀it∈s,eh l T it)->(P s/\∀it∈s,eh l T it)->P (iO l T lk s x)/\∀it∈iO l T lk s x,eh l T it:=λs x h1 h2=>⟨hP s x h1 h2.1,iN hw hl hT (kI h1)⟩;exact Es hw hl hT hP f (n+1) _ S1 Nx' S' (L6 hQ hn.2 hn (mC T N) [] S nx S1 hS e) h
  rw[if_neg c]at h;simp only[dr,hJ]at h;obtain⟨_,rfl⟩:=h;exact λs hs=>(hS s hs).1
theorem abB(hw:∀q∈l,q.2.length<=8)(hl:l.length<=40)(hT:T<=30)(h:allI l T N lk=aj (Nx,S)):∀q,q<S.length->∀it∈S.getD q [],it.1=(l.length:Int)->it.2.2=(T:Int):=by
 have UZ:∀it∈ng l T lk,eh l T it:=iN hw hl hT (ig hl hT);have L3:∀{it2 it:Item},I2 l T lk it2 it->it.1<(l.length:Int):=λ{it2 it} h=>by
  obtain⟨_,i,k,_,h2,_,_,_,rfl⟩:=h;show(i:Int)<_
  omega
 have:=Es (P:=λs=>∀it∈s,it.1=(l.length:Int)->it.2.2=(T:Int)) (N:=N) hw hl hT (λs x hs hP it hit h1=>by
  have hm:=(im (lk:=lk) hw hl hT (kI (x:=x) hs) (x:=it)).1 hit
  cases hm with
  |base hb=>
   obtain⟨it',h2,h3,rfl⟩:=LH.1 hb;exact hP it' h2 h1
  |step _ h2=>have:=L3 h2;omega) 202 0 [] [ng l T lk] Nx S (λs hs=>by
   rw[dQ.1 hs];refine⟨λit hit h1=>?_,UZ⟩;have hm:=(im (lk:=lk) hw hl hT (ig hl hT) (x:=it)).1 hit
   cases hm with
   |base hb=>rw[dQ.1 hb]
   |step _ h2=>have:=L3 h2;omega) h
 intro q hq it hit h1;have xN:S.getD q []=S[q]:=by rw[cH,bD hq];rfl
 rw[xN]at hit;exact this _ (cD hq) it hit h1
theorem abC(hw:∀q∈l,q.2.length<=8)(hl:l.length<=40)(hT:T<=30)(h:allI l T N lk=aj (Nx,S)):∀s∈S,s.length<=11439:=
 Es (P:=λs=>s.length<=11439) (N:=N) hw hl hT (λs x hs _=>so hw hl hT (kI hs)) 202 0 [] [ng l T lk] Nx S (λs hs=>by
  rw[dQ.1 hs];exact⟨so hw hl hT (ig hl hT),iN hw hl hT (ig hl hT)⟩) h
end
end bI
namespace bZ
open Go.RowKit cU dM aT dL dG bI cT
theorem RI{g:d_}(h:(jn g).2.2=0):bX g=0/\allI g.aF g.aR.toNat g.bC.toNat (jW g)=aj ((jn g).1,(jn g).2.1):=by
 unfold jn at h⊢
 by_cases c:bX g=0
 ·rw[if_neg (by rw[c];simp)]at h⊢
  refine⟨c,?_⟩
  cases e:allI g.aF g.aR.toNat g.bC.toNat (jW g)with
  |none=>rw[e]at h;cases h
  |some r=>rfl
 rw[if_pos c]at h;exact absurd h c
theorem abD{g:d_}(h:(jn g).2.2≠0):(jn g).2.1=[]/\(jn g).1=[]:=by
 unfold jn at h⊢
 by_cases c:bX g=0
 ·rw[if_neg (by rw[c];simp)]at h⊢
  cases e:allI g.aF g.aR.toNat g.bC.toNat (jW g)with
  |none=>exact⟨rfl,rfl⟩
  |some r=>rw[e]at h;exact absurd I h
 rw[if_pos c];exact⟨rfl,rfl⟩
end bZ
end Go.Proofs.YtaobbfedlnddcaaGreat

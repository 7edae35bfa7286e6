/- Part 5 of what SessionOwn needs: BuC, CfgQ, CfgR, PlacesG, ClassP, DfQ, SmPL, SpecN, SmPk, SmUp, SmCk, SpecRt, LexL, LexA, LexB, SmBk, LexN, WhL, FeedL, FeedV, WhF, FeedP, SeL, SeR, SeSt, SeCr, FeedA, FeedB, FeedC, FeedD, FeedQ, SeJ, SeT, Half, WhC, SeM, SeN, SpecP, SpecQ, SpecC, BoolC, SpecU, SpecH, SpecG, SpecV, Bun, Mk2, SeO. -/
import Derived.Test.YtdmgcnggnejnnaaGreatMgD
namespace Go.Proofs.YtdmgcnggnejnnaaGreat
set_option linter.unusedVariables false
set_option linter.unusedSimpArgs false
open _root_.And renaming intro->cJ
open _root_.Array renaming ext'->q7
open _root_.Bool renaming true->aC,false->aE,and_eq_true->eX,false_eq_true->nX,not_eq_true'->sH,true_and->F7,or_eq_false_iff->Eo,false_and->RE
open _root_.Decidable renaming of_not_not->tI
open _root_.False renaming elim->oE
open _root_.Go.Instr renaming build->df
open _root_.Go.IntKind renaming i64->az
open _root_.Go.Proofs.Tryz renaming prog->aD
open _root_.Go.Value renaming slice->ap,int->av,pointer->aJ,agg->aQ,oneCell'->eY,cells->wM
open _root_.Go.Value.agg renaming injEq->ly
open _root_.Go.World renaming block_lt_of_cell?->oF
open _root_.Int renaming toNat_natCast->dF,eq_ofNat_of_zero_le->iw,le_refl->lX
open _root_.List renaming getElem?_eq_getElem->bK,getD_eq_getElem?_getD->cB,length_append->bI,getElem?_eq_some_iff->dg,getElem_mem->b_,replicate->cL,length_cons->db,all_cons->cY,mem_singleton->dO,all_nil->c_,drop_eq_getElem_cons->eZ,append_nil->du,length_map->dA,size_toArray->ey,take_succ_eq_append_getElem->gX,append_assoc->dZ,mem_cons->dC,getElem?_append_left->iq,getElem?_map->fe,map_append->e7,take_of_length_le->fU,nil_append->eI,flatMap_append->fV,drop_of_length_le->ir,length_drop->ic,mem_append->fx,not_mem_nil->fH,range->eg,getElem?_toArray->jz,mem_cons_self->ia,length_nil->gY,eq_nil_of_length_eq_zero->mS,mem_map->eT,mem_cons_of_mem->jR,mem_iff_getElem->iB,getElem?_append_right->pv,map_cons->gv,getElem?_eq_none->k7,length_take->iN,cons_append->jf,length_singleton->nM,drop_drop->kI,mem_of_getElem?->mh,getElem?_cons_zero->px,flatten_append->rC,drop_eq_nil_of_le->pX,take_length->pY,getElem?_of_mem->uC,any_eq_false->tJ,drop_append_of_le_length->KO,take_succ_cons->sQ,map_set->tb,drop_length->yR,drop_succ_cons->Bv,map_replicate->BF,map_nil->q_,getElem?_cons_succ->DK,getD_cons_succ->RF,set_append->BN,length->yZ,map_singleton->Fv,length_pos_iff->aaO,take->RG,drop->RH
open _root_.List.cons renaming injEq->gU
open _root_.Nat renaming le_refl->bz,zero_le->bH,zero_add->cX,lt_of_lt_of_le->iO,blt->dj,le_of_ble_eq_true->k8,lt_succ_self->mC,not_lt_zero->mz,add_zero->iu,le_add_right->yC,succ_ne_zero->y0,blt_eq->Fy
open _root_.Ne renaming symm->yh
open _root_.Option renaming some->aj,none->ak,getD_some->kL
open _root_.Option.some renaming injEq->dh
open _root_.Prod renaming fst->F8,snd->BO
open _root_.Prod.mk renaming injEq->fX
open _root_.True renaming intro->cT
open _root_.Vector renaming replicate->eB,getElem_ofFn->l5,getElem_toList->nj,ext->kN,getElem_set->wB,toList_replicate->RI,getElem_set_ne->RJ,ofFn->BG,getElem_set_self->aaP,toList_set->aaQ
set_option maxHeartbeats 16000000
namespace bZ
open Go.RowKit cK dS aU dL dP bJ cD
def F9(seen:Int)(R:Int×List Nat×List dr):Spec (Value×Value):=
 ⟨λ_=>True,λx=>if R.1=0 then .tuple #[wL x.1 (seen+1) 0 aE,x.2,av az 0]else .tuple #[wL (ap ak 0 0) seen R.1 aE,ap ak 0 0,av az R.1],λx=>if R.1=0 then [TU x.1 R.2.1,jY x.2 R.2.2]else []⟩
theorem II{seen:Int}{σ:List Nat}{o:List dr}:F9 seen (0,σ,o)=⟨λ_=>True,λx=> .tuple #[wL x.1 (seen+1) 0 aE,x.2,av az 0],λx=>[TU x.1 σ,jY x.2 o]⟩:=by unfold F9;simp
theorem IJ{seen e:Int}(he:e≠0){x:List Nat×List dr}:F9 seen (e,x)=⟨λ_=>True,λ_=> .tuple #[wL (ap ak 0 0) seen e aE,ap ak 0 0,av az e],λ_=>[]⟩:=by unfold F9;simp[he]
attribute [local irreducible] Instr.build in
theorem KP(v t vs:Value)(g:ep)(T N:Nat)(A:List (List bJ.Act))(G:List (List Int))(sG:List Nat)(seen col:Nat)(w:World)(hG:kK (λk=>k<w.heap.size) w v g)(ht:BL w t A G)(hs:skR w vs sG)(hT:so g T N A G)(hq:∀q∈sG,q<A.length)(hne:sG≠[])(hl:sG.length<=60)(hc:col<T)(hsn:seen<=1000000):
 Calls aD 139 #[v,t,wL vs (seen:Int) 0 aE,av az (col:Int)] w (bY (F9 (seen:Int) (gO g.aF (jj A) (fm G) col seen 2001 sG [])) w):=by
 have h0:0<sG.length:=by rcases sG with _|⟨a,b⟩;exact absurd I hne;simp
 have IF:=hT.aT;have jw:=λw' (hg:Gr w w')=>xR v t vs g T N A G sG (seen:Int) (col:Int) w' (hG.gr hg) (ht.gr hg) (hs.gr hg) hT hq h0 hl J J J J;have hrn:=λw' (hg:Gr w w')=>Cw v t vs g T N A G sG seen col w' (hG.gr hg) (ht.gr hg) (hs.gr hg) hT hq hne hl J;have hlen:=λh=>(Dq (a:=seen) hT (show col<=T by omega) 2001 (o:=[]) hne hq hl h).2.2.1;generalize gO g.aF (jj A) (fm G) col seen 2001 sG []=R at*;obtain⟨e,σ,o⟩:=R;dsimp only at hlen;obtain⟨vp,rfl,-⟩:=hG;obtain⟨vA,vG,rfl,-⟩:=ht;clear hs hT;refine enter (args:=[dM g.aT g.bC vp,aQ #[vA,vG],wL vs (seen:Int) 0 aE,av az (col:Int)]) (n:=51) Tryz.func139 I I I ?_;refine bW (bB (bP I I I λg4=>?_));refine zL ?_;refine bP I I I λg5=>?_;refine zL ?_;refine bP I I I λg6=>?_;refine zL ?_;refine a8 I λg8=>?_;refine zL ?_
 repeat(first|refine GC ?_|refine gV (aB (v:=av az g.aT) aK.ty I (aH (i:=0) I I)) ?_|refine gV (cZ (b:=aE) I I (decide_eq_false J)) ?_|refine gV (aO (i:=0) aK.ty I I I) ?_|refine gV (aO (i:=1) aK.ty I I I) ?_|refine gV (aO (i:=2) aK.ty I I I) ?_|refine GB ?_)
 refine aV (UA aI.en I I I I I) (λw hm=>jw w hm.below) I I I ?_;intro _ _;refine zL ?_
 repeat(first|refine GA ?_|refine gV (aO (i:=0) aK.ty I I I) ?_|refine gV (aO (i:=1) aK.ty I I I) ?_|refine gV (aO (i:=2) aK.ty I I I) ?_)
 by_cases c:e=0
 ·subst c
  rw[NN]at hrn;rw[II];have hlen:=hlen I;refine aV (UA aI.en I I I I I) (λw hm=>hrn w hm.below) I I I ?_;rintro⟨v1,v2⟩ _;refine zL ?_
  try refine GA ?_
  refine n9 (i:=4) I λbt ct hv q1 q2=>?_;subst hv
  repeat(first|refine GC ?_|refine gV (aB (v:=av az (seen:Int)) aK.ty I (aH (i:=2) I I)) ?_|refine gV (dW (r:=(seen:Int)+1) I I J J J) ?_|refine gV (bD I (V3 _ _ _ _)) ?_|refine GB ?_)
  refine ij 3 (cs':=#[ap bt σ.length ct,av az ((seen:Int)+1),av az 0,.bool aE]) ?_;refine zL ?_
  try refine GA ?_
  exact fC (i:=3) I I I I I I λw hm=>hm.meets (S:=⟨λ_=>True,λx=> .tuple #[wL x.1 ((seen:Int)+1) 0 aE,x.2,av az 0],λx=>[TU x.1 σ,jY x.2 o]⟩) (ap bt σ.length ct,v2) trivial [4,5] akh I
 ·rw[NO c]at hrn
  rw[IJ c];refine aV (UA aI.en I I I I I) (λw hm=>hrn w hm.below) I I I ?_;rintro _ _;refine zL ?_
  repeat(first|refine GC ?_|refine gV (dl (b:=aC) I I (decide_eq_true c)) ?_|refine gV (aB (v:=av az (seen:Int)) aK.ty I (aH (i:=2) I I)) ?_|refine gV (bD I (IE _ _)) ?_|refine GB ?_)
  refine ij 3 (cs':=#[ap ak 0 0,av az (seen:Int),av az e,.bool aE]) ?_;refine zL ?_
  try refine GA ?_
  exact fC (i:=3) I I I I I I λw hm=>hm.meets (S:=⟨λ(_:Value×Value)=>True,λ_=> .tuple #[wL (ap ak 0 0) (seen:Int) e aE,ap ak 0 0,av az e],λ_=>[]⟩) (ap ak 0 0,ap ak 0 0) trivial [] akh I
def NS(seen:Int)(R:Int×List Nat×List dr):Spec Value:=
 ⟨λ_=>True,λx=>if R.1=0 then .tuple #[wL (ap ak 0 0) seen 0 aC,x,av az 0]else .tuple #[wL (ap ak 0 0) seen R.1 aE,ap ak 0 0,av az R.1],λx=>if R.1=0 then [jY x R.2.2]else []⟩
theorem NT{seen:Int}{σ:List Nat}{o:List dr}:NS seen (0,σ,o)=⟨λ_=>True,λx=> .tuple #[wL (ap ak 0 0) seen 0 aC,x,av az 0],λx=>[jY x o]⟩:=by unfold NS;simp
theorem NU{seen e:Int}(he:e≠0){x:List Nat×List dr}:NS seen (e,x)=⟨λ_=>True,λ_=> .tuple #[wL (ap ak 0 0) seen e aE,ap ak 0 0,av az e],λ_=>[]⟩:=by unfold NS;simp[he]
attribute [local irreducible] Instr.build in
theorem NV(v t vs:Value)(g:ep)(T N:Nat)(A:List (List bJ.Act))(G:List (List Int))(sG:List Nat)(seen:Nat)(w:World)(hG:kK (λk=>k<w.heap.size) w v g)(ht:BL w t A G)(hs:skR w vs sG)(hT:so g T N A G)(hq:∀q∈sG,q<A.length)(hne:sG≠[])(hl:sG.length<=60)(hsn:seen<=1000000):
 Calls aD 145 #[v,t,wL vs (seen:Int) 0 aE] w (bY (NS (seen:Int) (gO g.aF (jj A) (fm G) T seen 2001 sG [])) w):=by
 have h0:0<sG.length:=by rcases sG with _|⟨a,b⟩;exact absurd I hne;simp
 have IF:=hT.aT;have jw:=λw' (hg:Gr w w')=>xR v t vs g T N A G sG (seen:Int) (T:Int) w' (hG.gr hg) (ht.gr hg) (hs.gr hg) hT hq h0 hl J J J J;have hrn:=λw' (hg:Gr w w')=>Cw v t vs g T N A G sG seen T w' (hG.gr hg) (ht.gr hg) (hs.gr hg) hT hq hne hl (bz _);generalize gO g.aF (jj A) (fm G) T seen 2001 sG []=R at*;obtain⟨e,σ,o⟩:=R;obtain⟨vp,rfl,-⟩:=hG;obtain⟨vA,vG,rfl,-⟩:=ht;clear hs hT;refine enter (args:=[dM g.aT g.bC vp,aQ #[vA,vG],wL vs (seen:Int) 0 aE]) (n:=45) Tryz.func145 I I I ?_;refine bW (bB (bP I I I λg4=>?_));refine zL ?_;refine bP I I I λg5=>?_;refine zL ?_;refine bP I I I λg6=>?_;refine zL ?_;refine a8 I λg8=>?_;refine zL ?_
 repeat(first|refine GA ?_|refine gV (aB (v:=av az (T:Int)) aK.ty I (aH (i:=0) I (by show aj (av .i64 g.aT)=_;rw[IF]))) ?_|refine gV (aO (i:=0) aK.ty I I I) ?_|refine gV (aO (i:=1) aK.ty I I I) ?_|refine gV (aO (i:=2) aK.ty I I I) ?_)
 refine aV (UA aI.en I I I I I) (λw hm=>jw w hm.below) I I I ?_;intro _ _;refine zL ?_
 repeat(first|refine GA ?_|refine gV (aB (v:=av az (T:Int)) aK.ty I (aH (i:=0) I (by show aj (av .i64 g.aT)=_;rw[IF]))) ?_|refine gV (aO (i:=0) aK.ty I I I) ?_|refine gV (aO (i:=1) aK.ty I I I) ?_|refine gV (aO (i:=2) aK.ty I I I) ?_)
 by_cases c:e=0
 ·subst c
  rw[NN]at hrn;rw[NT];refine aV (UA aI.en I I I I I) (λw hm=>hrn w hm.below) I I I ?_;rintro⟨v1,v2⟩ _;refine zL ?_
  repeat(first|refine GA ?_|refine gV (aB (v:=av az (seen:Int)) aK.ty I (aH (i:=2) I I)) ?_|refine gV (bD I (V4 _)) ?_)
  refine ij 3 (cs':=#[ap ak 0 0,av az (seen:Int),av az 0,.bool aC]) ?_;refine zL ?_
  try refine GA ?_
  exact fC (i:=3) I I I I I I λw hm=>hm.meets (S:=⟨λ_=>True,λx=> .tuple #[wL (ap ak 0 0) (seen:Int) 0 aC,x,av az 0],λx=>[jY x o]⟩) v2 trivial [5] akh I
 ·rw[NO c]at hrn
  rw[NU c];refine aV (UA aI.en I I I I I) (λw hm=>hrn w hm.below) I I I ?_;rintro _ _;refine zL ?_
  repeat(first|refine GC ?_|refine gV (dl (b:=aC) I I (decide_eq_true c)) ?_|refine gV (aB (v:=av az (seen:Int)) aK.ty I (aH (i:=2) I I)) ?_|refine gV (bD I (IE _ _)) ?_|refine GB ?_)
  refine ij 3 (cs':=#[ap ak 0 0,av az (seen:Int),av az e,.bool aE]) ?_;refine zL ?_
  try refine GA ?_
  exact fC (i:=3) I I I I I I λw hm=>hm.meets (S:=⟨λ(_:Value)=>True,λ_=> .tuple #[wL (ap ak 0 0) (seen:Int) e aE,ap ak 0 0,av az e],λ_=>[]⟩) (ap ak 0 0) trivial [] akh I
end bZ
namespace bZ
open Go.RowKit cK dS aU
theorem RL(h:Int)(w:World):(df 140 #[(0,av az h)]).run aD w= .ok (aQ #[av az h,ap ak 0 0]) w:=by
 go_simp
end bZ
namespace bZ
open Go.RowKit cK dS aU
theorem gok{x:Int}(h:0<=x/\x<1000000000):cK.dU x:=by unfold cK.dU;omega
theorem y'{F:Nat->Prop}{vp:Value}{l:List aU.Prod}{w:World}{t n:Int}(ht:cK.dU t)(hn:cK.dU n)(h:(oL F vp l).holds w):kK (λk=>k<w.heap.size) w (dM t n vp) ⟨t,n,l⟩:=by
 obtain⟨⟨v',hv,h1⟩,h2⟩:=h;simp only[gU,and_true]at hv;subst hv;exact⟨vp,rfl,h1.mono h2,ht,hn⟩
end bZ
namespace eE
open de gd
def npl:Re->Nat
 | .byte _=>1
 | .Jr a b=>npl a+npl b
 | .Js a b=>npl a+npl b
 | .star a=>npl a
 |_=>0
inductive T1(P:List Nat->Prop):List Nat->Prop
 |nil:T1 P []
 |cons {u v:List Nat}:P u->T1 P v->T1 P (u++v)
def Wd:Re->Nat->List Nat->Prop
 | .none,_,_=>False
 | .empty,_,l=>l=[]
 | .byte _,n,l=>l=[n]
 | .Jr a b,n,l=>∃u v,l=u++v/\Wd a n u/\Wd b (n+npl a) v
 | .Js a b,n,l=>Wd a n l\/Wd b (n+npl a) l
 | .star a,n,l=>T1 (Wd a n) l
def Chn(F:Nat->Nat->Prop)(T:Nat->Prop):Nat->List Nat->Prop
 |x,[]=>T x
 |x,y::r=>F x y/\Chn F T y r
theorem Chn.mono{F F':Nat->Nat->Prop}{T T':Nat->Prop}(hF:∀x y,F x y->F' x y)(hT:∀x,T x->T' x):∀{l:List Nat} {x:Nat},Chn F T x l->Chn F' T' x l
 |[],_,h=>hT _ h
 |_::_,_,⟨h,h'⟩=>⟨hF _ _ h,Chn.mono hF hT h'⟩
theorem Chn.U7{F F':Nat->Nat->Prop}{T T':Nat->Prop}(hF:∀x y,F x y->F' x y){y:Nat}{r:List Nat}(hT:∀x,T x->F' x y)(hr:Chn F' T' y r):∀{l:List Nat} {x:Nat},Chn F T x l->Chn F' T' x (l++y::r)
 |[],_,h=>⟨hT _ h,hr⟩
 |_::_,_,⟨h,h'⟩=>⟨hF _ _ h,Chn.U7 hF hT hr h'⟩
end eE
namespace de
def one(x:C4):List C4:=if x=C4.zero then []else [x]
structure NW(S:List C4)(all:List C4):Prop where
 some:∀x∈all,x≠C4.zero
 apart:all.Pairwise λx y=>x.XV y=C4.zero
 sum:(all.map WA).sum=256
 whole:∀n,n<256->∃x∈all,x.mem n=aC
 each:∀c∈S,∀x∈all,x.XV c=x\/x.XV c=C4.zero
 told:all.Pairwise λx y=>∃c∈S,decide (x.XV c=x)≠decide (y.XV c=y)
theorem aaR{x:C4}:x=C4.zero↔∀n,n<256->x.mem n=false:=
 ⟨λh n _=>by rw[h,LP],λh=>ext_mem λn hn=>by rw[h n hn,LP]⟩
theorem aaS{x:C4}(h:WA x=0):x=C4.zero:=by
 have:yo x=[]:=mS h;refine aaR.2 λn hn=>?_
 cases e:x.mem n with
 |false=>rfl
 |true=>exact absurd (UC.2 ⟨hn,e⟩) (by rw[this];simp)
theorem T2:∀all:List C4,(∀x∈all,x≠C4.zero)->all.length<=(all.map WA).sum
 |[],_=>bz _
 |x::all,h=>by
  have ih:=T2 all λy hy=>h y (by simp[hy]);have:WA x≠0:=λe=>h x (by simp) (aaS e);simp only[db,gv,List.sum_cons];omega
theorem NW.len{S all:List C4}(h:NW S all):all.length<=256:=by
 have:=T2 all h.some;rw[h.sum]at this;exact this
theorem NW.more{S S' all:List C4}(h:NW S all)(h1:∀c,c∈S'->c∈S)(h2:∀c,c∈S->c∈S'):NW S' all:=
 ⟨h.some,h.apart,h.sum,h.whole,λc hc=>h.each c (h1 c hc),h.told.imp λ⟨c,hc,h⟩=>⟨c,h2 c hc,h⟩⟩
end de
namespace nu
open de gd eE cD
open bZ (mw fA xD Kq)
def NX(p:PS)(S:List C4)(all:C4)(b:Nat):Int:=if Kp p all b=C4.zero then-1 else((idx S (Kp p all b)+1:Nat):Int)
def wN(p:PS)(S:List C4)(all:C4)(b:Nat)(x:Int):Prop:=x=NX p S all b/\(Kp p all b=C4.zero\/Kp p all b∈S)
theorem wN.U7{p:PS}{S:List C4}{all:C4}{b:Nat}{x:Int}(h:wN p S all b x)(E:List C4):wN p (S++E) all b x:=by
 obtain⟨h1,h2⟩:=h;refine⟨?_,h2.imp id λh=>List.mem_append_left _ h⟩;rw[h1];unfold NX
 by_cases c:Kp p all b=C4.zero
 rw[if_pos c,if_pos c];rw[if_neg c,if_neg c,qP (h2.resolve_left c)]
def rD(p:PS)(t0:Int)(d:DM):Prop:=d.tags=t0::d.S.map (nu.xC p)
theorem V_(p:PS)(t0:Int)(d:DM)(s:C4):(∃E,(ji p d s).2.S=d.S++E)/\s∈(ji p d s).2.S/\(ji p d s).1=idx (ji p d s).2.S s+1/\(rD p t0 d->rD p t0 (ji p d s).2):=by
 unfold ji
 by_cases c:s∈d.S
 ·rw[if_pos c]
  exact⟨⟨[],(du _).symm⟩,c,rfl,id⟩
 rw[if_neg c];refine⟨⟨[s],rfl⟩,List.mem_append_right _ (dO.2 I),?_,λh=>?_⟩
 ·show d.S.length+1=idx (d.S++[s]) s+1
  unfold idx;rw[List.idxOf_append,if_neg c];simp
 show d.tags++[nu.xC p s]=t0::(d.S++[s]).map (nu.xC p)
 rw[h,e7];rfl
theorem aaT(p:PS)(t0:Int)(all:C4)(b:Nat)(hb:b<256)(r:Row)(d:DM):(∃E,(gi p all b r d).2.S=d.S++E)/\(∀c (h:c<256),c≠b->(gi p all b r d).1[c]=r[c])/\wN p (gi p all b r d).2.S all b ((gi p all b r d).1[b])/\(rD p t0 d->rD p t0 (gi p all b r d).2):=by
 unfold gi
 by_cases c:Kp p all b=C4.zero
 ·rw[if_pos c,dif_pos hb]
  refine⟨⟨[],(du _).symm⟩,λc' h hc=>?_,⟨?_,.inl c⟩,id⟩;exact RJ hb h (yh hc);rw[aaP hb];unfold NX;rw[if_pos c]
 rw[if_neg c,dif_pos hb];obtain⟨h1,h2,h3,h4⟩:=V_ p t0 d (Kp p all b);refine⟨h1,λc' h hc=>?_,⟨?_,.inr h2⟩,h4⟩
 ·dsimp only
  rw[RJ hb h (yh hc),RJ hb h (yh hc)]
 dsimp only;rw[aaP hb,h3];unfold NX;rw[if_neg c]
theorem T3(p:PS)(t0:Int)(all:C4):∀(f b:Nat) (r:Row) (d:DM),b+f=256->(nk p all f b r d).2.S.length+1<=200->
 (∃E,(nk p all f b r d).2.S=d.S++E)/\(∀c (h:c<256),c<b->(nk p all f b r d).1[c]=r[c])/\(∀c (h:c<256),b<=c->wN p (nk p all f b r d).2.S all c ((nk p all f b r d).1[c]))/\(rD p t0 d->rD p t0 (nk p all f b r d).2)
 |0,b,r,d,hbf,_=>⟨⟨[],(du _).symm⟩,λ_ _ _=>rfl,λc h hc=>by omega,id⟩
 | f +1,b,r,d,hbf,hl=>by
  obtain⟨⟨E1,h1⟩,h2,h3,h4⟩:=aaT p t0 all b J r d;have e:nk p all (f+1) b r d=if 200<(gi p all b r d).2.S.length+1 then gi p all b r d else nk p all f (b+1) (gi p all b r d).1 (gi p all b r d).2:=rfl
  rw[e]at hl⊢
  by_cases c:200<(gi p all b r d).2.S.length+1
  rw[if_pos c]at hl;omega;rw[if_neg c]at hl⊢;obtain⟨⟨E2,q1⟩,q2,q3,q4⟩:=T3 p t0 all f (b+1) _ _ J hl;refine⟨⟨E1++E2,by rw[q1,h1,dZ]⟩,λc' h hc=>?_,λc' h hc=>?_,λh=>q4 (h4 h)⟩;rw[q2 c' h J,h2 c' h J]
  by_cases ec:c'=b
  ·subst ec
   rw[q2 c' h J,q1];exact h3.U7 E2
  exact q3 c' h J
theorem IK(m:MS)(S E:List C4){n:Nat}(h:n<=S.length):nw m (S++E) n=nw m S n:=by
 cases n with
 |zero=>rfl
 |succ n=>
  show nW m.ps ((S++E).getD n C4.zero) _=nW m.ps (S.getD n C4.zero) _
  rw[jQ J]
structure MkI(m:MS)(t0:Int)(n:Nat)(R:List Row)(d:DM):Prop where
 len:R.length=n
 le:n<=d.S.length+1
 we:d.S.length+1<=200
 cell:∀q,q<n->∀c (h:c<256),wN m.ps d.S (nw m d.S q) c ((R.getD q xD)[c])
 tags:rD m.ps t0 d
theorem NY(m:MS)(t0:Int):∀(f n:Nat) (R:List Row) (d:DM) (R':List Row) (d':DM),tC m f n R d=aj (R',d')->MkI m t0 n R d->MkI m t0 (d'.S.length+1) R' d'
 |0,_,_,_,_,_,h,_=>by cases h
 | f + 1,n,R,d,R',d',h,hi=>by
  have e:tC m (f+1) n R d=if n<d.S.length+1 then(if 200<(qH m n d).2.S.length+1 then ak else tC m f (n+1) (R++[(qH m n d).1]) (qH m n d).2)else aj (R,d):=rfl
  rw[e]at h
  by_cases c1:n<d.S.length+1
  ·rw[if_pos c1]at h
   by_cases c2:200<(qH m n d).2.S.length+1
   rw[if_pos c2]at h;cases h;rw[if_neg c2]at h;refine NY m t0 f (n+1) _ _ R' d' h ?_;obtain⟨⟨E,q1⟩,_,q3,q4⟩:=T3 m.ps t0 (nw m d.S n) 256 0 (eB 256 0) d rfl (by show(qH m n d).2.S.length+1<=200;omega);have q1:(qH m n d).2.S=d.S++E:=q1;have q3:∀c (h:c<256),0<=c->wN m.ps (qH m n d).2.S (nw m d.S n) c ((qH m n d).1[c]):=q3;have hlen:=congrArg yZ q1;rw[bI]at hlen;refine⟨by rw[bI,hi.len];rfl,by omega,by omega,λq hq c hc=>?_,q4 hi.tags⟩
   by_cases eq:q=n
   ·subst eq
    rw[my (by rw[hi.len];exact bz _),hi.len,Nat.sub_self];show wN m.ps (qH m q d).2.S (nw m (qH m q d).2.S q) c ((qH m q d).1[c])
    rw[q1,IK m d.S E J,<-q1];exact q3 c hc (bH _)
   rw[jQ (by rw[hi.len];omega),q1,IK m d.S E J];exact(hi.cell q J c hc).U7 E
  rw[if_neg c1]at h;simp only[dh,fX]at h;obtain⟨rfl,rfl⟩:=h;have:n=d.S.length+1:=by have:=hi.le;omega
  rw[<-this];exact hi
theorem BP{m:MS}{R:List Row}{d:DM}(h:wy m=aj (R,d)):MkI m (fz m.empty 0) (d.S.length+1) R d:=
 NY m (fz m.empty 0) 201 0 [] ⟨[],[fz m.empty 0]⟩ R d h ⟨rfl,bH _,by show 0+1<=200;decide,λq hq=>absurd hq (mz q),rfl⟩
theorem aaU(R:List Row)(q c:Nat)(h:c<256):((R.getD q xD).toList.getD c 0)=(R.getD q xD)[c]:=by
 rw[cB,bK (by simpa using h),kL,nj]
theorem KQ{p:PS}{n:Nat}(hr:∀r∈p.rules,0<=r/\r<n)(hl:p.rules.length=p.a_.length)(s:C4):∀k,k<=p.a_.length->(kU p s k= -1/\∀i,i<k->s.mem i=aC->p.last.getD i aE=aC->False)\/(∃i,i<k/\s.mem i=aC/\p.last.getD i aE=aC/\kU p s k=p.rules.getD i 0/\0<=kU p s k/\kU p s k<n/\∀i,i<k->s.mem i=aC->p.last.getD i aE=aC->kU p s k<=p.rules.getD i 0)
 |0,_=> .inl ⟨rfl,λi hi=>absurd hi (mz i)⟩
 | k +1,hk=>by
  have UO:0<=p.rules.getD k 0/\p.rules.getD k 0<n:=by
   rw[cB,bK J,kL];exact hr _ (b_ _)
  have e:kU p s (k+1)=if s.mem k=aC/\p.last.getD k aE=aC/\(kU p s k<0\/p.rules.getD k 0<kU p s k)then p.rules.getD k 0 else kU p s k:=rfl
  rw[e];have ih:=KQ hr hl s k J
  by_cases c:s.mem k=aC/\p.last.getD k aE=aC/\(kU p s k<0\/p.rules.getD k 0<kU p s k)
  ·rw[if_pos c]
   refine .inr ⟨k,mC k,c.1,c.2.1,rfl,UO.1,UO.2,λi hi h1 h2=>?_⟩
   by_cases ei:i=k
   subst ei;exact lX _;rcases ih with⟨_,h⟩|⟨_,_,_,_,_,h0,_,h⟩
   exact(h i J h1 h2).elim;have h7:=h i J h1 h2;have h8:=c.2.2;omega
  rw[if_neg c];rcases ih with⟨h0,h⟩|⟨i,hi,h1,h2,h3,h4,h5,h6⟩
  ·refine .inl ⟨h0,λi hi h1 h2=>?_⟩
   by_cases ei:i=k
   subst ei;exact c ⟨h1,h2,.inl (by rw[h0];decide)⟩;exact h i J h1 h2
  refine .inr ⟨i,by omega,h1,h2,h3,h4,h5,λj hj g1 g2=>?_⟩
  by_cases ej:j=k
  ·subst ej
   have h9:¬(kU p s j<0\/p.rules.getD j 0<kU p s j):=λh=>c ⟨g1,g2,h⟩;omega
  exact h6 j J g1 g2
theorem F_:∀(l:List Bool) (k:Nat),(fz l k= -1/\∀i,i<l.length->l.getD i aE=aE)\/(∃i,i<l.length/\fz l k=((k+i:Nat):Int)/\l.getD i aE=aC/\∀j,j<i->l.getD j aE=aE)
 |[],_=> .inl ⟨rfl,λ_ _=>rfl⟩
 |true::l,k=> .inr ⟨0,Nat.zero_lt_succ _,rfl,rfl,λj hj=>absurd hj (mz j)⟩
 | false::l,k=>by
  have e:fz (false::l) (k:Int)=fz l ((k+1:Nat):Int):=rfl;rw[e];rcases F_ l (k+1)with⟨h1,h2⟩|⟨i,h1,h2,h3,h4⟩
  ·refine .inl ⟨h1,λi hi=>?_⟩
   cases i with
   |zero=>rfl
   |succ i=>exact h2 i (by simpa using hi)
  refine .inr ⟨i+1,by simpa using h1,by rw[h2];congr 1;omega,h3,λj hj=>?_⟩
  cases j with
  |zero=>rfl
  |succ j=>exact h4 j J
theorem IL{l:List Bool}: -1<=fz l 0/\fz l 0<(l.length:Int):=by
 rcases F_ l 0 with⟨h1,_⟩|⟨i,h1,h2,_⟩
 ·have h1:fz l 0= -1:=h1
  rw[h1];omega
 have h2:fz l 0=((0+i:Nat):Int):=h2;rw[h2];omega
section
variable{es:List Re}{m:MS}{R:List Row}{d:DM}
theorem adr(hm:Ke m)(hi:MkI m (fz m.empty 0) (d.S.length+1) R d){k:Nat}(hk:k<d.S.length+1):d.tags.getD k 0=(if h:k=0 then fz m.empty 0 else nu.xC m.ps (d.S[k-1]' J))/\ -1<=d.tags.getD k 0/\d.tags.getD k 0<20:=by
 have h:=hi.tags;unfold rD at h;rw[h];have h20:=hm.rv
 cases k with
 |zero=>
  have:=IL (l:=m.empty);refine⟨rfl,this.1,?_⟩;have e:(fz m.empty 0::d.S.map (nu.xC m.ps)).getD 0 0=fz m.empty 0:=rfl;rw[e];omega
 | succ k=>
  have hk:k<d.S.length:=by omega
  have e:(fz m.empty 0::d.S.map (nu.xC m.ps)).getD (k+1) 0=nu.xC m.ps d.S[k]:=by
   rw[RF,cB,fe,bK hk];rfl
  rw[e];refine⟨rfl,?_⟩;unfold nu.xC;rcases KQ hm.rules hm.ok.ps.rules d.S[k] m.ps.a_.length (bz _)with⟨h1,_⟩|⟨_,_,_,_,_,h1,h2,_⟩
  rw[h1];omega;omega
theorem aaV(hm:Ke m)(hi:MkI m (fz m.empty 0) (d.S.length+1) R d):mw R d.tags=0:=by
 have hl:=hi.len;have hf:=hi.we;refine Kq ⟨?_,?_,λq hq b hb=>?_,λq hq=>?_⟩ ?_;show 0<R.length;omega
 show R.length<=200;omega
 ·have hq:q<R.length:=hq
  show-1<=(R.getD q xD).toList.getD b 0/\(R.getD q xD).toList.getD b 0<(R.length:Int)
  rw[aaU R q b hb,(hi.cell q J b hb).1];unfold NX
  by_cases c:Kp m.ps (nw m d.S q) b=C4.zero
  rw[if_pos c];omega;rw[if_neg c];have:=pH ((hi.cell q J b hb).2.resolve_left c);omega
 ·have hq:q<R.length:=hq
  exact(adr hm hi J).2
 have h:=hi.tags;unfold rD at h;rw[h,hl,db,dA]
end
end nu
namespace bZ
open Go.RowKit cK dS zN cD
def gi(R:List Row)(i b:Nat):Int:=(R.getD i xD).toList.getD b 0
theorem wO{R:List Row}{i b:Nat}(h:i<R.length)(hb:b<256):gi R i b=(R[i])[b]:=Ns (tags:=[]) h hb
def Hd(R:List Row)(b k:Nat):FB:=BG λi:Fin 200=>if i<k then gi R i b else 0
def rF(R:List Row)(b:Nat):FB:=Hd R b R.length
theorem af1(R:List Row)(b:Nat):Hd R b 0=eB 200 0:=by
 refine kN λi hi=>?_;unfold Hd;simp
theorem aaW(R:List Row)(b k:Nat)(h:k<200):(Hd R b k).set k (gi R k b)=Hd R b (k+1):=by
 refine kN λi hi=>?_;unfold Hd;rw[wB,l5,l5];split
 ·rename_i e;subst e;simp
 have:i<k↔i<k+1:=by omega
 simp only[this]
theorem ads(c:FB){i:Nat}(h:i<200)(x:Int):(y7 c).toArray.setIfInBounds i (.int .i16 x)=(y7 (c.set i x)).toArray:=by
 unfold y7;rw[aaQ,tb];simp
theorem aaX:(cL 200 (av .i16 0)).toArray=(y7 (eB 200 0)).toArray:=by
 unfold y7;rw[RI,BF]
theorem NZ(R:List Row)(b i:Nat)(h:i<R.length)(h2:R.length<=200):(rF R b).toList.getD i 0=gi R i b:=by
 unfold rF Hd;rw[cB,bK (by simp;omega),kL,nj,l5];simp[h]
theorem adt{R:List Row}(hr:∀r∈R,∀x∈r.toList,-32768<=x/\x<=32767){b:Nat}(hb:b<256):aaa (rF R b):=by
 intro i hi;unfold rF Hd;rw[l5];dsimp only;split
 ·rename_i h
  rw[wO h hb];exact hr R[i] (b_ h) _ (by rw[<-nj (h:=by simpa using hb)];exact b_ _)
 omega
def mN(R:List Row)(k:Nat):List FB:=dR [] ((eg k).map (rF R))
theorem Az(R:List Row)(k:Nat):mN R (k+1)=more (mN R k) (rF R k):=by
 unfold mN;rw[List.range_succ,e7,Fv,lu]
theorem T4{R:List Row}{k:Nat}(h:rF R k∈mN R k):mN R (k+1)=mN R k:=by
 rw[Az];exact if_pos h
theorem T5{R:List Row}{k:Nat}(h:rF R k∉mN R k):mN R (k+1)=mN R k++[rF R k]:=by
 rw[Az];exact if_neg h
theorem Ds(R:List Row):∀k,(mN R k).length<=k
 |0=>bz _
 |k+1=>by
  have:=Ds R k
  by_cases c:rF R k∈mN R k
  rw[T4 c];omega;rw[T5 c,bI,nM];omega
theorem T6(R:List Row)(k:Nat):∀j,k<=j->∃E,mN R j=mN R k++E
 |0,h=>⟨[],by obtain rfl:k=0:=J;rw[du]⟩
 | j+1,h=>by
  by_cases c:k=j+1
  subst c;exact⟨[],by rw[du]⟩;obtain⟨E,hE⟩:=T6 R k j J;obtain⟨E',hE'⟩:=Eh (mN R j) (rF R j);exact⟨E++E',by rw[Az,hE',hE,dZ]⟩
theorem KR(R:List Row){b k:Nat}(h:b<k):rF R b∈mN R k:=lx.2 (.inr (eT.2 ⟨b,by simpa using h,rfl⟩))
def pkN(R:List Row)(b:Nat):Nat:=idx (mN R 256) (rF R b)
theorem af2{R:List Row}{k:Nat}(h:k<256):pkN R k=if rF R k∈mN R k then idx (mN R k) (rF R k)else(mN R k).length:=by
 obtain⟨E,hE⟩:=T6 R (k+1) 256 J;unfold pkN;rw[hE,qP (KR R (mC k)),Az,rW]
 by_cases c:rF R k∈mN R k
 rw[if_pos c,if_pos c];rw[if_neg c,if_neg c]
theorem aaY(R:List Row){b:Nat}(h:b<256):pkN R b<(mN R 256).length:=pH (KR R h)
theorem T7(R:List Row){b:Nat}(h:b<256):pkN R b<256:=iO (aaY R h) (Ds R 256)
abbrev Of:=Vector Nat 256
def za(R:List Row)(k:Nat):Of:=BG λb:Fin 256=>if b<k then pkN R b else 0
theorem aew(R:List Row):za R 0=eB 256 0:=by
 refine kN λi hi=>?_;unfold za;simp
theorem adu(R:List Row)(k:Nat)(h:k<256):(za R k).set k (pkN R k)=za R (k+1):=by
 refine kN λi hi=>?_;unfold za;rw[wB,l5,l5];split
 ·rename_i e;subst e;simp
 have:i<k↔i<k+1:=by omega
 simp only[this]
def AO(D:List FB)(i:Nat):List Int:=D.map λc=>c.toList.getD i 0
def V'(R:List Row):List (List Int):=(eg R.length).map (AO (mN R 256))
def fc(o:Of)(vn vt:Value):List Value:=o.toList.map (λn:Nat=> .int .u8 (n:Int))++[vn,vt]
def OU(o:Of)(vn vt:Value):Value:=aQ (fc o vn vt).toArray
theorem fj(o:Of)(vn vt:Value):(fc o vn vt).length=258:=by simp[fc]
theorem kV(o:Of)(vn vt:Value):(fc o vn vt).toArray.size=258:=by rw[ey,fj]
theorem aif(o:Of)(vn vt:Value){b:Nat}(h:b<256):(fc o vn vt).toArray[b]?=aj (.int .u8 (o[b]:Int)):=by
 rw[jz];unfold fc;rw[iq (by simpa using h),fe,bK (by simpa using h),nj];rfl
theorem lK(o:Of)(vn vt:Value):(fc o vn vt).toArray[256]?=aj vn:=by
 rw[jz];unfold fc;rw[pv (by simp)];simp
theorem n'(o:Of)(vn vt:Value):(fc o vn vt).toArray[257]?=aj vt:=by
 rw[jz];unfold fc;rw[pv (by simp)];simp
theorem zb(o:Of){vn vt:Value}(h1:vn.oneCell'=aC)(h2:vt.oneCell'=aC):(fc o vn vt).toArray.toList.all eY=true:=by
 refine List.all_eq_true.2 λu hu=>?_;unfold fc at hu;simp only[fx,eT,dC,fH,or_false]at hu;rcases hu with⟨n,_,rfl⟩|rfl|rfl
 rfl;exact h1;exact h2
theorem af3(o:Of)(vn vt:Value){b:Nat}(h:b<256)(x:Nat):(fc o vn vt).toArray.setIfInBounds b (.int .u8 (x:Int))=(fc (o.set b x) vn vt).toArray:=by
 unfold fc;rw[aaQ,tb];simp[BN,h]
theorem KS:(cL 256 (av .u8 0)++([ap ak 0 0,ap ak 0 0]:List Value)).toArray=(fc (eB 256 0) (ap ak 0 0) (ap ak 0 0)).toArray:=by
 unfold fc;rw[RI,BF];rfl
theorem Wa(w:World):(df 30 #[]).run aD w= .ok (OU (eB 256 0) (ap ak 0 0) (ap ak 0 0)) w:=by kernel_rfl
theorem N1(g h n m cap:Nat)(w:World):(df 30 #[(1,ap (aj ⟨g,0,ak⟩) n n),(2,ap (aj ⟨h,0,ak⟩) m cap)]).run aD w= .ok (OU (eB 256 0) (ap (aj ⟨g,0,ak⟩) n n) (ap (aj ⟨h,0,ak⟩) m cap)) w:=by kernel_rfl
end bZ
namespace hY
open de gd
open aU (dr Prod ep)
abbrev N2:=Bs->Option dr
def He(m:N2)(x:Bs)(s:dr):N2:=λy=>if y=x then aj s else m y
abbrev WS:=List Int×Int×N2
def jF(s:WS)(w:Wd):WS:=if w.1=[]then(s.1++[-1],s.2)else(s.1++[s.2.1],s.2.1+1,He s.2.2 w.1 (1,s.2.1))
abbrev HS:=Int×N2
def uc(s:HS)(r:Rl):HS:=if(s.2 r.1).isSome then s else(s.1+1,He s.2 r.1 (2,s.1))
def qI(m:N2)(x:Bs):dr:=(m x).getD (0,0)
def AA(m:N2)(r:Rl):Prod:=((qI m r.1).2,r.2.map (qI m))
def ws0:WS:=([],0,λ_=>ak)
def KT(l:List Wd):WS:=l.foldl jF ws0
def hsN(s:Sp):HS:=s.rules.foldl uc (0,(KT s.words).2.2)
def cH(s:Sp):ep:=⟨(KT s.words).2.1,(hsN s).1,s.rules.map (AA (hsN s).2)⟩
def wP(s:Sp):Int:=if aU.cz (cH s)≠0 then 2 else 0
def Small(m:N2):Prop:=∀y s,m y=aj s->0<=s.1/\s.1<=2/\0<=s.2/\s.2<=1000
theorem Wb:Small λ_=>none:=λ_ _ h=>by cases h
theorem IM{m:N2}(h:Small m){x:Bs}{s:dr}(h1:0<=s.1/\s.1<=2/\0<=s.2/\s.2<=1000):Small (He m x s):=λy z hz=>by
 unfold He at hz;split at hz
 cases hz;exact h1
 exact h y z hz
theorem IN{m:N2}(h:Small m)(x:Bs):0<=(qI m x).1/\(qI m x).1<=2/\0<=(qI m x).2/\(qI m x).2<=1000:=by
 unfold qI
 cases hx:m x with
 |none=>exact⟨by decide,by decide,by decide,by decide⟩
 |some s=>exact h x s hx
theorem step_take{α σ:Type}(f:σ->α->σ)(s:σ)(l:List α){k:Nat}(h:k<l.length):(l.take (k+1)).foldl f s=f ((l.take k).foldl f s) l[k]:=by
 rw[gX h,List.foldl_append];rfl
theorem aaZ(s:WS)(w:Wd)(k:Nat)(h:k<60)(a1:s.1.length=k)(a2:0<=s.2.1)(a3:s.2.1<=k)(a4:Small s.2.2):
 (jF s w).1.length=k+1/\0<=(jF s w).2.1/\(jF s w).2.1<=((k+1:Nat):Int)/\Small (jF s w).2.2:=by
 unfold jF;split
 ·exact⟨by rw[bI,a1];rfl,a2,by show s.2.1<=_;omega,a4⟩
 ·exact⟨by rw[bI,a1];rfl,by show 0<=s.2.1+1;omega,by show s.2.1+1<=((k+1:Nat):Int);omega,IM a4 ⟨(by decide:(0:Int)<=1),(by decide:(1:Int)<=2),a2,by show s.2.1<=1000;omega⟩⟩
theorem aa0(l:List Wd):∀k,k<=l.length->k<=60->((l.take k).foldl jF ws0).1.length=k/\0<=((l.take k).foldl jF ws0).2.1/\((l.take k).foldl jF ws0).2.1<=k/\Small ((l.take k).foldl jF ws0).2.2
 |0,_,_=>⟨rfl,lX _,lX _,Wb⟩
 |k+1,h,h60=>by
  obtain⟨a1,a2,a3,a4⟩:=aa0 l k J J;rw[step_take _ _ _ (show k<l.length by omega)];exact aaZ _ _ k J a1 a2 a3 a4
theorem aa1(s:HS)(r:Rl)(k:Nat)(h:k<60)(a2:0<=s.1)(a3:s.1<=k)(a4:Small s.2):
 0<=(uc s r).1/\(uc s r).1<=((k+1:Nat):Int)/\Small (uc s r).2:=by
 unfold uc;split
 ·exact⟨a2,by show s.1<=_;omega,a4⟩
 ·exact⟨by show 0<=s.1+1;omega,by show s.1+1<=((k+1:Nat):Int);omega,IM a4 ⟨(by decide:(0:Int)<=2),(by decide:(2:Int)<=2),a2,by show s.1<=1000;omega⟩⟩
theorem aex(l:List Rl)(m:N2)(hm:Small m):∀k,k<=l.length->k<=60->0<=((l.take k).foldl uc (0,m)).1/\((l.take k).foldl uc (0,m)).1<=k/\Small ((l.take k).foldl uc (0,m)).2
 |0,_,_=>⟨lX _,lX _,hm⟩
 |k+1,h,h60=>by
  obtain⟨a2,a3,a4⟩:=aex l m hm k J J;rw[step_take _ _ _ (show k<l.length by omega)];exact aa1 _ _ k J a2 a3 a4
end hY
namespace bZ
open Go.RowKit cK dS hY
def jE(vo:Value)(pk tl:List Value):List Value:=vo::(pk++tl)
def fQ(t n:Int)(vp:Value)(mode:Int)(rows dK gt:Value):List Value:=[av az t,av az n,vp,av az mode,rows,dK,gt]
def WQ:List Value:=fc (eB 256 0) (ap ak 0 0) (ap ak 0 0)
theorem ju:WQ.length=258:=fj _ _ _
def GO:List Value:=jE (ap ak 0 0) WQ (fQ 0 0 (ap ak 0 0) 0 (ap ak 0 0) (ap ak 0 0) (ap ak 0 0))
theorem tK:(([ap ak 0 0]:List Value)++cL 256 (av .u8 0)++([ap ak 0 0,ap ak 0 0,av az 0,av az 0,ap ak 0 0,av az 0,ap ak 0 0,ap ak 0 0,ap ak 0 0]:List Value)).toArray=GO.toArray:=by
 have e:∀z:List Value,(([ap ak 0 0]:List Value)++z++([ap ak 0 0,ap ak 0 0,av az 0,av az 0,ap ak 0 0,av az 0,ap ak 0 0,ap ak 0 0,ap ak 0 0]:List Value)).toArray=((ap ak 0 0:Value)::((z++[ap ak 0 0,ap ak 0 0])++fQ 0 0 (ap ak 0 0) 0 (ap ak 0 0) (ap ak 0 0) (ap ak 0 0))).toArray:=λz=>by simp[fQ]
 unfold GO jE WQ fc;rw[RI,BF];exact e _
theorem Wc(w:World):(df 38 #[]).run aD w= .ok (aQ GO.toArray) w:=by
 rw[<-tK];kernel_rfl
theorem je{vo:Value}{pk tl:List Value}(j:Nat)(hp:pk.length=258){k:Nat}{v:Value}(h:tl[j]?=aj v)(hk:k=j+259):(jE vo pk tl).toArray[k]?=aj v:=by
 subst hk;rw[jz,jE,DK,pv J,show j+258-pk.length=j by omega];exact h
theorem af4{vo:Value}{pk tl:List Value}(j:Nat)(hp:pk.length=258){k:Nat}(v:Value)(hk:k=j+259):(jE vo pk tl).toArray.setIfInBounds k v=(jE vo pk (tl.set j v)).toArray:=by
 subst hk;rw[List.setIfInBounds_toArray,jE,List.set_cons_succ,BN,if_neg J,show j+258-pk.length=j by omega];rfl
theorem kW{vo:Value}{pk tl:List Value}(hp:pk.length=258)(ht:tl.length=7):(jE vo pk tl).toArray.size=266:=by
 rw[ey,jE,db,bI];omega
theorem rG{vo:Value}{pk tl:List Value}(h1:vo.oneCell'=aC)(h2:pk.all eY=aC)(h3:tl.all eY=aC):(jE vo pk tl).toArray.toList.all eY=true:=by
 rw[jE,cY,List.all_append,h1,h2,h3];rfl
theorem T8:WQ.all eY=true:=by
 have:=zb (eB 256 0) (vn:=ap ak 0 0) (vt:=ap ak 0 0) I I
 simpa[WQ]using this
theorem tL{vo:Value}{pk:List Value}(hp:pk.length=258){t n mode:Int}{vp rows dK gt v:Value}{j:Nat}(h:[av az t,av az n,vp][j]?=aj v):(jE vo pk (fQ t n vp mode rows dK gt)).toArray[0+259+j]?=aj v:=by
 match j,h with
 |0,h=>exact je 0 hp h I
 |1,h=>exact je 1 hp h I
 |2,h=>exact je 2 hp h I
 |n+3,h=>cases h
section
variable{P:Program}{n:Nat}{W:bL}{fr:Fr}{L:List b9}{Q:Exit->Act->World->Prop}{ops:Array Oper}{rest:List Oper}{ty:TypeId}{pos:String}{after:Array Edge}{t:TypeId}{p x:Operand}{i g k:Nat}{vo:Value}{pk tl:List Value}{T:TypeId}{agg:Bool}{v:Value}
theorem eo(j:Nat)[hT:aK P t agg 1](hi:L[i]?=aj (aP g (jE vo pk tl).toArray T))(hp:ev fr p=aj (aJ (aj ⟨g,k,ak⟩)))(hx:ev fr x=aj v)(hv:v.cells=#[v])(h1:v.oneCell'=aC)(hk:k=j+259)(dX:pk.length=258)(hj:dj j tl.length=aC)
 (h:TL P n W ops Q rest fr (L.set i (aP g (jE vo pk (tl.set j v)).toArray T))):TL P n W ops Q (⟨ak,.store t p x,ty,pos,after,ak⟩::rest) fr L:=by
 have hj:j<tl.length:=k8 hj;refine bV hi hp hx hv h1 ?_ ?_
 ·rw[ey,jE,db,bI]
  exact Nat.ble_eq_true_of_le J
 ·rw[af4 j dX v hk];exact h
theorem zc[hT:aK P t agg 1](hi:L[i]?=aj (aP g (jE vo pk tl).toArray T))(hp:ev fr p=aj (aJ (aj ⟨g,k,ak⟩)))(hx:ev fr x=aj v)(hv:v.cells=#[v])(h1:v.oneCell'=aC)(hk:k=0)
 (h:TL P n W ops Q rest fr (L.set i (aP g (jE v pk tl).toArray T))):TL P n W ops Q (⟨ak,.store t p x,ty,pos,after,ak⟩::rest) fr L:=by
 subst hk;refine bV hi hp hx hv h1 I ?_;exact h
theorem RM{pk':List Value}[hT:aK P t agg 258](hi:L[i]?=aj (aP g (jE vo pk tl).toArray T))(hp:ev fr p=aj (aJ (aj ⟨g,k,ak⟩)))(hx:ev fr x=aj (aQ pk'.toArray))(h1:pk'.all eY=aC)(hk:k=1)(dX:pk.length=258)(aju:pk'.length=258)
 (h:TL P n W ops Q rest fr (L.set i (aP g (jE vo pk' tl).toArray T))):TL P n W ops Q (⟨ak,.store t p x,ty,pos,after,ak⟩::rest) fr L:=by
 subst hk;refine pD hT.ty hi hp hx (by simpa[wM]using aju) (by simpa[wM]using h1) (by rw[ey,jE,db,bI];omega) ?_ h;apply q7;show vo::(pk'++tl)=RG 1 (vo::(pk++tl))++pk'++RH (1+258) (vo::(pk++tl))
 rw[sQ,List.take_zero,show 1+258=258+1 from I,Bv,KO J,ir J];rfl
theorem RN{a b c d e f f' u u':Value}[hT:aK P t agg 2](hi:L[i]?=aj (aP g (jE vo pk [a,b,c,d,e,f,f']).toArray T))(hp:ev fr p=aj (aJ (aj ⟨g,k,ak⟩)))(hx:ev fr x=aj (aQ #[u,u']))(h1:u.oneCell'=aC)(h2:u'.oneCell'=aC)(hk:k=264)(dX:pk.length=258)
 (h:TL P n W ops Q rest fr (L.set i (aP g (jE vo pk [a,b,c,d,e,u,u']).toArray T))):TL P n W ops Q (⟨ak,.store t p x,ty,pos,after,ak⟩::rest) fr L:=by
 subst hk;refine pD hT.ty hi hp hx I (by simp[wM,h1,h2]) (by rw[ey,jE,db,bI];simp[dX]) ?_ h;apply q7;show vo::(pk++[a,b,c,d,e,u,u'])=RG (263+1) (vo::(pk++[a,b,c,d,e,f,f']))++[u,u']++RH (265+1) (vo::(pk++[a,b,c,d,e,f,f']))
 rw[sQ,Bv,show 263=pk.length+5 by omega,List.take_append,fU J,show 265=pk.length+7 by omega,List.drop_append,ir J];simp
end
end bZ
namespace bZ
open Go.RowKit cK dS zN cD
def We:Nat->Nat×Nat
 |0=>(0,0)
 | n+1=>match We n with
  |(a,0)=>(0,a+1)
  |(a,b+1)=>(a+1,b)
theorem Ga:∀(s a b:Nat),a+b=s->∃n,We n=(a,b)
 |0,a,b,h=>⟨0,by obtain rfl:a=0:=J;obtain rfl:b=0:=J;rfl⟩
 |s+1,0,b,h=>by
  obtain rfl:b=s+1:=by omega
  obtain⟨n,hn⟩:=Ga s s 0 J;exact⟨n+1,by simp[We,hn]⟩
 |s+1,a+1,b,h=>by
  obtain⟨n,hn⟩:=Ga (s+1) a (b+1) J;exact⟨n+1,by simp[We,hn]⟩
def ql(m x:Nat):Value:=ap (aj ⟨(We x).1,0,ak⟩) m (We x).2
section
variable{P:Program}{n:Nat}{W:bL}{fr:Fr}{ops:Array Oper}
theorem adv{i d:Nat}{α:Type}(val:α->Value)(z:α){t e ty:TypeId}{pos:String}{after:Array Edge}{x y:Operand}{bytes m:Nat}{k k':IntKind}[rO P t e 1 bytes][eQ P e #[val z]](ho:ops[i]?=aj ⟨aj d,.makeSlice t x y,ty,pos,after,ak⟩)(hx:ev fr x=aj (.int k (m:Int)))(hy:ev fr y=aj (.int k' (m:Int)))(hb:bytes*m<=281474976710656)(qA:m<=9223372036854775807)(hn:dj d n=aC):
 HO P n W ops fr ⟨i,d,λg=>ap (aj ⟨g,0,ak⟩) m m,λg=>fv e val g m λ_=>z⟩:=
 ⟨_,ho,λ_ _ _ hl h=>pO val z (zK hl hx) (zK hl hy) hb qA hn h⟩
theorem RO{i d:Nat}{o:Oper}{f:FuncId}{args:Array Value}{e:TypeId}{size m:Nat}{xs:List Value}(ho:ops[i]?=aj o)(he:∀GG,(∀q v,look fr q=aj v->look GG q=aj v)->∀a w,nH n a GG->(execOp a.eval o).run P w= .ok (.enter f args) w)
 (hc:∀(L:List b9) w,Mem W L w->Calls P f args w (bY (cI e size m xs id) w)) (hm:0<m) (hg:o.guard=ak) (hd:o.dst=aj d) (hn:dj d n=aC):
 HO P n W ops fr ⟨i,d,ql m,λx=>aZ e size (ql m x) m xs⟩:=
 ⟨o, ho,λQ GG L hl h=>aV (he GG hl) (λw hw=>hc L w hw) hg hd hn λv _=> .mk λa w hr hw=>by
  have uk:(aZ e size v m xs).holds w:=hw.get (i:=L.length) (by simp[cI]);obtain⟨G,cap,hv,_,_,_⟩:=L4 uk
  cases G with
  | none=>
   rcases uk.2 with⟨_,h0⟩|⟨g,A9,jZ,JA,_⟩
   omega;rw[JA]at hv;cases hv
  | some g=>
   obtain⟨x,hx⟩:=Ga _ g cap rfl;have e:v=ql m x:=by rw[hv];unfold ql;rw[hx];rfl
   have:=h x;dsimp only at this;rw[<-e]at this;exact this.go a w hr hw⟩
end
theorem N3{P:Program}{n:Nat}{W:bL}{fr:Fr}{L:List b9}{Q:Exit->Act->World->Prop}{ops:Array Oper}{rest:List Oper}{ty:TypeId}{pos:String}{after:Array Edge}{t:TypeId}{p x:Operand}{i g b:Nat}{c:FB}{T:TypeId}{agg:Bool}{z:Int}[hT:aK P t agg 1](hi:L[i]?=aj (aP g (y7 c).toArray T))(hp:ev fr p=aj (aJ (aj ⟨g,0+b,ak⟩)))(hx:ev fr x=aj (.int .i16 z))(hb:b<200)
 (h:TL P n W ops Q rest fr (L.set i (aP g (y7 (c.set b z)).toArray T))):TL P n W ops Q (⟨ak,.store t p x,ty,pos,after,ak⟩::rest) fr L:=by
 rw[cX]at hp;refine bV hi hp hx I I ?_ ?_
 ·rw[ey,sm];exact Fy▸hb
 ·rw[ads c hb];exact h
abbrev ze(v:Value):Value:=v
def aa2(n:Nat):Mk:=⟨3,24,λg=>ap (aj ⟨g,0,ak⟩) n n,λg=>fv 26 ze g n λ_=>ap ak 0 0⟩
def aa3(tags:List Int):Mk:=⟨6,27,ql tags.length,λx=>aZ 3 1 (ql tags.length x) tags.length (tags.flatMap cK.dQ)⟩
def adw:Mk:=⟨8,5,λg=>aJ (aj ⟨g,0,ak⟩),λg=>aP g (cL 256 (av .u8 0)++([ap ak 0 0,ap ak 0 0]:List Value)).toArray 30⟩
def Wf(n:Nat)(D:List FB)(vs:Nat->Value):b9:=jB (λi=>i<n) λi=>aZ 3 1 (vs i) D.length ((AO D i).flatMap cK.dQ)
def nxM(n:Nat)(D:List FB)(col:FB)(j:Nat)(vs:Nat->Value):b9:=jB (λi=>i<n) λi=>aZ 3 1 (vs i) (if i<j then D++[col]else D).length ((AO (if i<j then D++[col]else D) i).flatMap cK.dQ)
theorem aih(n:Nat)(D:List FB)(col:FB)(vs:Nat->Value):nxM n D col 0 vs=Wf n D vs:=by
 unfold nxM Wf;simp
theorem T9(n:Nat)(D:List FB)(col:FB)(vs:Nat->Value)(i:Nat)(h:i<n):(λi=>aZ 3 1 (vs i) (D++[col]).length ((AO (D++[col]) i).flatMap cK.dQ)) i=(λi=>aZ 3 1 (vs i) (if i<n then D++[col]else D).length ((AO (if i<n then D++[col]else D) i).flatMap cK.dQ)) i:=by
 dsimp only;rw[if_pos h]
theorem Gb{P:Program}{n:Nat}{W:bL}{fr:Fr}{L:List b9}{Q:Exit->Act->World->Prop}{ops:Array Oper}{rest:List Oper}{ty:TypeId}{pos:String}{after:Array Edge}{t:TypeId}{p x:Operand}{i g b z:Nat}{o:Of}{vn vt:Value}{T:TypeId}{agg:Bool}[hT:aK P t agg 1](hi:L[i]?=aj (aP g (fc o vn vt).toArray T))(hp:ev fr p=aj (aJ (aj ⟨g,0+b,ak⟩)))(hx:ev fr x=aj (.int .u8 (z:Int)))(hb:b<256)
 (h:TL P n W ops Q rest fr (L.set i (aP g (fc (o.set b z) vn vt).toArray T))):TL P n W ops Q (⟨ak,.store t p x,ty,pos,after,ak⟩::rest) fr L:=by
 rw[cX]at hp;refine bV hi hp hx I I ?_ ?_
 ·rw[kV];exact Fy▸J
 ·rw[af3 o vn vt hb];exact h
theorem aa4{j:Nat}{D:List FB}{col:FB}{vs:Nat->Value}{v2:Value}{x:Int}(h:AO (D++[col]) j=AO D j++[x])(q:Nat):
  (λi=>aZ 3 1 ((λi=>if i=j then v2 else vs i) i) (if i<j+1 then D++[col]else D).length ((AO (if i<j+1 then D++[col]else D) i).flatMap cK.dQ)) q
   =U2 (λi=>aZ 3 1 (vs i) (if i<j then D++[col]else D).length ((AO (if i<j then D++[col]else D) i).flatMap cK.dQ)) j (aZ 3 1 v2 (D.length+1) ((AO D j).flatMap cK.dQ++[av az x])) q:=by
 unfold U2;dsimp only
 by_cases c:q=j
 ·subst c
  rw[if_pos I,if_pos I,if_pos (mC q),h,bI,fV];rfl
 ·rw[if_neg c,if_neg c]
  have e:q<j+1↔q<j:=by omega
  simp only[e]
def aa5(R:List Row)(tags:List Int):Spec (Nat×(Nat->Value)×Value):=⟨λ_=>True,λx=> .tuple #[OU (za R 256) (ap (aj ⟨x.1,0,ak⟩) R.length R.length) x.2.2,av az 0],
 λx=>[fv 26 ze x.1 R.length x.2.1,Wf R.length (mN R 256) x.2.1,aZ 3 1 x.2.2 tags.length (tags.flatMap cK.dQ)]⟩
set_option maxRecDepth 100000 in
theorem RP(vr vt:Value)(R:List Row)(tags:List Int)(w:World)(h:G8 w vr vt R tags)(hc:mw R tags=0):
 Calls aD 79 #[ja vr vt] w (bY (aa5 R tags) w):=by
 have jw:=λw' (hg:Gr w w')=>FE vr vt R tags w' (h.gr hg);rw[hc]at jw;have jW:=λw' (hg:Gr w w') hl=>CS vt tags w' (h.hT.gr hg) hl;obtain⟨bt,ct,rfl,ht1,YC,Lp⟩:=h.hT;obtain⟨br,cr,rfl,WD,ul,Ex⟩:=h.hR;have adh:=h.rng;unfold maxLen at ul YC;clear h;obtain⟨hA,hlt⟩:=wz hc;have An:0<R.length:=hA.pos;have hle:R.length<=200:=hA.le;clear hA hc;obtain⟨b,off,rfl,hr⟩:=Ex An;obtain⟨bb,mK,rfl,hrt⟩:=Lp J;clear Ex Lp hrt;have jW:=λw' hg=>jW w' hg J;have C8:=Wa;refine enter (args:=[ja (ap (aj ⟨b,off,ak⟩) R.length cr) (ap (aj ⟨bb,mK,ak⟩) tags.length ct)]) (n:=91) Tryz.func79 I I I ?_;refine bW (bB (bP I I I λg1=>?_));refine a8 I λg2=>?_;rw[KS];refine zL ?_
 repeat(first|refine GA ?_|refine gV (aO (i:=0) aK.ty I I I) ?_)
 refine aV (i_ aI.en I I) (λw hm=>jw _ hm.below) I I I ?_;intro _ _
 try refine GA ?_
 (repeat refine bW ?_)
 refine lU (ι:=Nat×Nat×Nat) (λ_=>True) (λ(_,_,g5)=>[(1,aJ (aj ⟨g1,0,ak⟩)),(2,aJ (aj ⟨g2,0,ak⟩)),(5,aJ (aj ⟨g5,0,ak⟩))])
  (λ(gN,x,g5)=>[aP g1 (ja (ap (aj ⟨b,off,ak⟩) R.length cr) (ap (aj ⟨bb,mK,ak⟩) tags.length ct)).cells 186,aP g2 (fc (eB 256 0) (ap ak 0 0) (ap ak 0 0)).toArray 30,fv 26 ze gN R.length (λ_=>ap ak 0 0),aZ 3 1 (ql tags.length x) tags.length (tags.flatMap cK.dQ),aP g5 (fc (za R 0) (ap (aj ⟨gN,0,ak⟩) R.length R.length) (ql tags.length x)).toArray 30]) ?_ ?_
 ·refine Yj [aP g1 (ja (ap (aj ⟨b,off,ak⟩) R.length cr) (ap (aj ⟨bb,mK,ak⟩) tags.length ct)).cells 186] (bX [0]) (by kernel_rfl) (by kernel_rfl) (by intro c a d v w h;cases d<;>exact h) ?_
  refine rf 0 (by kernel_rfl) I (agP dJ.fld I I) I I I ?_;refine rf 1 (by kernel_rfl) I (aB aK.ty I (aH (i:=0) I I)) I I I ?_;refine rf 2 (by kernel_rfl) I (xr bM.eq I) I I I ?_;refine rf 4 (by kernel_rfl) I (agP dJ.fld I I) I I I ?_;refine rf 5 (by kernel_rfl) I (aB aK.ty I (aH (i:=0) I I)) I I I ?_;refine L_ [aa2 R.length,aa3 tags,adw] (λm=>!Nat.beq m.i 8) 2 (by kernel_rfl) (by kernel_rfl) ?_ (λq=>?_) λq=>?_
  ·intro m hm
   simp only[dC,fH,or_false]at hm;rcases hm with rfl|rfl|rfl
   exact adv ze _ I I I J J I;exact RO I (λGG hl=>i_ aI.en I (zK hl I)) (λL w hm=>jW w hm.below) J I I I;exact HQ I I
  ·simp only[aa2,aa3,adw,gv,q_]
   generalize q 3=gN;generalize q 6=x;generalize q 8=g5;clear q;rw[KS];refine Dc (.calm 7 (.one 9 .done)) (by kernel_rfl) I ?_
   repeat(first|refine GW ?_|(refine GN ?_;first|refine QW (bD I (N1 _ _ _ _ _)) ?_))
   refine aL I ?_;refine aX (i:=4) (cs':=(fc (eB 256 0) (ap (aj ⟨gN,0,ak⟩) R.length R.length) (ql tags.length x)).toArray) I I I (kV _ _ _) (zb _ I I) (kV _ _ _) ?_;refine aM (bX [0]) ?_
   try refine GW ?_
   exact ee (gN,x,g5) trivial (by repeat' (first|exact cT|refine cJ I ?_)) (by rw[aew];rfl)
  rw[show List.filter (λm:Mk=>!Nat.beq m.i 8) [aa2 R.length,aa3 tags,adw]=[aa2 R.length,aa3 tags]from I];simp only[aa2,aa3,adw,gv,q_];generalize q 3=gN;generalize q 6=x;clear q;refine Dc (.calm 7 (.one 8 (.one 9 .done))) (by kernel_rfl) (by kernel_rfl) ?_
  repeat(first|refine GW ?_|(refine GN ?_;first|refine QW (bD I (N1 _ _ _ _ _)) ?_))
  refine aL I ?_;refine a8 I λg5=>?_;refine aM (bX [0]) ?_;rw[KS];refine aL I ?_;refine aX (i:=4) (cs':=(fc (eB 256 0) (ap (aj ⟨gN,0,ak⟩) R.length R.length) (ql tags.length x)).toArray) I I I (kV _ _ _) (zb _ I I) (kV _ _ _) ?_;refine aM (bX [0]) ?_
  try refine GW ?_
  exact ee (gN,x,g5) trivial (by repeat' (first|exact cT|refine cJ I ?_)) (by rw[aew];rfl)
 rintro⟨gN,xT,g5⟩ _;dsimp only;generalize hvT:ql tags.length xT=vT
 try refine GA ?_
 refine Bg (K:=Nu) I λg6=>?_;refine zL ?_
 try refine GA ?_
 refine m_ (Wf R.length [] λ_=>ap ak 0 0) (λk hk=>?_) (λw=>⟨λi _=>World.ownsRow_nil _ _ _ _,λi j _ _ _ k hk=>?_⟩) ?_
 ·rcases hk with hk|⟨i,_,hk⟩
  cases hk
  rcases hk with hk|hk<;>cases hk
 ·rcases hk with hk|hk<;>cases hk
 conv=>arg 7;simp only[zA,zB,zC,zD,zE,zF,zG,zH,zI,cI,ret,id_eq]
 refine d_ (ι:=Nat×(Nat->Value)) (λ(k,_)=>k<=256) (λ(k,_)=>[(1,aJ (aj ⟨g1,0,ak⟩)),(2,aJ (aj ⟨g2,0,ak⟩)),(5,aJ (aj ⟨g5,0,ak⟩)),(6,.map (aj g6)),(30,av az (k:Int))])
  (λ(k,vs)=>[aP g1 (ja (ap (aj ⟨b,off,ak⟩) R.length cr) (ap (aj ⟨bb,mK,ak⟩) tags.length ct)).cells 186,aP g2 (fc (eB 256 0) (ap ak 0 0) (ap ak 0 0)).toArray 30,fv 26 ze gN R.length vs,aZ 3 1 vT tags.length (tags.flatMap cK.dQ),aP g5 (fc (za R k) (ap (aj ⟨gN,0,ak⟩) R.length R.length) vT).toArray 30,fq Nu g6 (kR (mN R k)) (mN R k).length,Wf R.length (mN R k) vs]) (λ(k,_)=>256-k) (0,λ_=>ap ak 0 0) (bH _) ?_
 rintro⟨k,vs⟩ hk;dsimp only at hk⊢
 by_cases c1:k<256
 ·try refine GA ?_
  refine a8 I λg8=>?_;refine zL ?_;rw[aaX,<-af1 R k]
  repeat(first|refine GA ?_|refine gV (aB aK.ty I (aH (i:=0) I I)) ?_)
  refine d_ (ι:=Nat) (λj=>j<=R.length) (λj=>[(1,aJ (aj ⟨g1,0,ak⟩)),(2,aJ (aj ⟨g2,0,ak⟩)),(5,aJ (aj ⟨g5,0,ak⟩)),(6,.map (aj g6)),(7,av az (k:Int)),(8,aJ (aj ⟨g8,0,ak⟩)),(30,av az (k:Int)),(34,ap (aj ⟨b,off,ak⟩) R.length cr),(35,av az (R.length:Int)),(36,av az (j:Int))])
   (λj=>[aP g1 (ja (ap (aj ⟨b,off,ak⟩) R.length cr) (ap (aj ⟨bb,mK,ak⟩) tags.length ct)).cells 186,aP g2 (fc (eB 256 0) (ap ak 0 0) (ap ak 0 0)).toArray 30,fv 26 ze gN R.length vs,aZ 3 1 vT tags.length (tags.flatMap cK.dQ),aP g5 (fc (za R k) (ap (aj ⟨gN,0,ak⟩) R.length R.length) vT).toArray 30,fq Nu g6 (kR (mN R k)) (mN R k).length,Wf R.length (mN R k) vs,aP g8 (y7 (Hd R k j)).toArray 263]) (λj=>R.length-j) 0 (bH _) ?_
  intro j hj
  by_cases c2:j<R.length
  ·have Rq:=λ(L:List b9)=>ib (W:=w) (L:=L) dz hr c2
   have hcell:(eU R[j]).toArray[0+k]?=aj (.int .i16 (gi R j k)):=by rw[cX,jz,qh _ c1,wO c2 c1]
   have rN:=aaW R k j J;generalize R[j]=r at*;generalize gi R j k=x at*
   repeat(first|refine GA ?_|refine gV (aY bM.eq aK.ty I I c2) ?_|refine gV (bm aK.ty I (dz r) (Rq _)) ?_)
   refine a8 I λg10=>?_;refine zL ?_
   try refine GA ?_
   refine aX (i:=8) (cs':=(eU r).toArray) I I I (by rw[ey,dz]) (by simpa using sj r) (by kernel_rfl) ?_;refine zL ?_
   repeat(first|refine GA ?_|refine gV (iz bM.eq aK.ty I I c1) ?_|refine gV (aB aK.ty I (aH (i:=8) I hcell)) ?_|refine gV (iz bM.eq aK.ty I I J) ?_)
   refine N3 (i:=7) (b:=j) I I I J ?_;rw[rN];refine zL ?_
   try refine GA ?_
   refine dm [0,1,2,3,4,5,6,7] ?_;exact bT (j+1) J (by show R.length-(j+1)<R.length-j;omega)
  obtain rfl:j=R.length:=by omega
  rw[show Hd R k R.length=rF R k from I];have lT:=adt adh c1;have hnk:=af2 (R:=R) c1;have aa6:=T7 R c1;have RT:=adu R k c1;have Ur:=Ds R k;have hzero:∀w:World,(zeroValue 3).run aD w= .ok (av az 0) w:=aab
  by_cases c2:rF R k∈mN R k
  ·have hD:=T4 c2
   rw[if_pos c2]at hnk;generalize rF R k=col at*
   repeat(first|refine GA ?_|refine gV (aO (i:=7) aK.ty I I (by rw[ey,sm])) ?_|refine gV (vz (K:=Nu) (x:=col) bM.eq hzero (i:=5) I I I lT c2) ?_)
   have hwr:=aaq (k:=idx (mN R k) col) (by rw[<-hnk];exact aa6);rw[hnk]at RT;clear hnk aa6 adh;generalize mN R k=D at*
   repeat(first|refine GA ?_|refine gV (jo bM.eq bM.eq I hwr) ?_|refine gV (iz bM.eq aK.ty I I c1) ?_)
   refine Gb (i:=4) (b:=k) I I I c1 ?_;rw[RT];refine zL ?_
   try refine GA ?_
   refine dm [0,1,2,3,4,5,6] ?_;exact bT (k+1,vs) (by show k+1<=256;omega) (by show 256-(k+1)<256-k;omega) (hl:=by dsimp only;rw[hD];rfl)
  have hD:=T5 c2;rw[if_neg c2]at hnk;have hcg:=λi hi=>NZ R k i hi hle;have hwr:=aaq (k:=(mN R k).length) J;rw[hnk]at RT;clear hnk aa6;generalize rF R k=col at*;generalize hDk:mN R k=D at*
  repeat(first|refine GC ?_|refine gV (aO (i:=7) aK.ty I I (by rw[ey,sm])) ?_|refine gV (vB (K:=Nu) (x:=col) bM.eq hzero (i:=5) I I I lT c2) ?_|refine gV (w9 Nu bM.eq (i:=5) I I) ?_|refine GB ?_)
  refine Bh (K:=Nu) (i:=5) (x:=col) bM.eq I I I I lT c2 J ?_;refine zL ?_
  repeat(first|refine GA ?_|refine gV (aB aK.ty I (aH (i:=0) I I)) ?_)
  refine rb [0,1,2,3,4,5,6] ?_;rw[<-aih R.length D col vs];refine d_ (ι:=Nat×(Nat->Value)) (λ(j,_)=>j<=R.length) (λ(j,_)=>[(1,aJ (aj ⟨g1,0,ak⟩)),(2,aJ (aj ⟨g2,0,ak⟩)),(5,aJ (aj ⟨g5,0,ak⟩)),(6,.map (aj g6)),(7,av az (k:Int)),(11,av az (D.length:Int)),(30,av az (k:Int)),(61,ap (aj ⟨b,off,ak⟩) R.length cr),(62,av az (R.length:Int)),(63,av az (j:Int))])
   (λ(j,vs)=>[aP g1 (ja (ap (aj ⟨b,off,ak⟩) R.length cr) (ap (aj ⟨bb,mK,ak⟩) tags.length ct)).cells 186,aP g2 (fc (eB 256 0) (ap ak 0 0) (ap ak 0 0)).toArray 30,fv 26 ze gN R.length vs,aZ 3 1 vT tags.length (tags.flatMap cK.dQ),aP g5 (fc (za R k) (ap (aj ⟨gN,0,ak⟩) R.length R.length) vT).toArray 30,fq Nu g6 (kR (D++[col])) (D++[col]).length,nxM R.length D col j vs]) (λ(j,_)=>R.length-j) (0,vs) (bH _) ?_
  rintro⟨j,vs⟩ hj;dsimp only at hj⊢
  by_cases c3:j<R.length
  ·have Rq:=λ(L:List b9)=>ib (W:=w) (L:=L) dz hr c3
   have hcell:(eU R[j]).toArray[0+k]?=aj (.int .i16 (gi R j k)):=by rw[cX,jz,qh _ c1,wO c3 c1]
   have hx:=adh R[j] (b_ c3) (gi R j k) (by rw[wO c3 c1,<-nj (h:=by simpa using c1)];exact b_ _);have hcj:=hcg j c3;clear hcg;generalize R[j]=r at*;generalize gi R j k=x at*
   repeat(first|refine GA ?_|refine gV (aY bM.eq aK.ty I I c3) ?_|refine gV (bm aK.ty I (dz r) (Rq _)) ?_)
   refine a8 I λg14=>?_;refine zL ?_
   try refine GA ?_
   refine aX (i:=7) (cs':=(eU r).toArray) I I I (by rw[ey,dz]) (by simpa using sj r) (by kernel_rfl) ?_;refine zL ?_
   try refine GA ?_
   unfold nxM;refine P1 (q:=6) j I c3 ?_;rw[if_neg (Nat.lt_irrefl j)]
   conv=>arg 7;simp only[zA,zB,zC,zD,zE,zF,zG,zH,zI,cI,ret,id_eq]
   (repeat refine bW ?_)
   refine dT ([aP g1 (ja (ap (aj ⟨b,off,ak⟩) R.length cr) (ap (aj ⟨bb,mK,ak⟩) tags.length ct)).cells 186,aP g5 (fc (za R k) (ap (aj ⟨gN,0,ak⟩) R.length R.length) vT).toArray 30,aP g14 (eU r).toArray 257]) (.calm 0 (.calm 1 (.calm 2 (.calm 3 (.calm 4 (.calm 5 (.calm 6 (.calm 8 (.calm 9 (.calm 10 (.calm 11 (.two 7 (.one 12 (.one 13 (.calm 14 (.one 15 (.done))))) 12 (.one 7 (.one 13 (.calm 14 (.one 15 (.done))))))))))))))))) (bX [0,4,7]) ?_
   repeat(first|refine GW ?_|(refine GN ?_;first|refine QW (aB aK.ty I (aH (i:=1) I (lK _ _ _))) ?_|refine QW (bU (j:=j) bM.eq aK.ty I I c3) ?_|refine QW (iz bM.eq aK.ty I I c1) ?_|refine QW (aB aK.ty I (aH (i:=2) I hcell)) ?_|refine QW (jo bM.eq bM.eq I (n0 J J)) ?_))
   have hnj:AO (D++[col]) j=AO D j++[x]:=by unfold AO;rw[e7,Fv,hcj]
   have hst:∀v2:Value,∀i,i<R.length->(λi=>if i=j then v2 else vs i) i=if i=j then v2 else vs i:=λ_ _ _=>rfl
   refine eK I I ?_ ?_
   ·refine dx (aB aK.ty I (gI (i:=2) I c3)) I I I (aM (bX [0,4,7]) ?_)
    refine aL I (fN I I I I I λg80=>aM (bX [0,4,7]) ?_);refine aL I (l8 (i:=8) (q:=9) I I I I I I J J I λv2=>aM (bX [0,4,7]) ?_)
    repeat(first|refine GW ?_|(refine GN ?_;first|refine QW (bU (j:=j) bM.eq aK.ty I I c3) ?_))
    refine aL I (aW (i:=8) I λpf mY=>jl (i:=2) (val:=ze) (off:=j) (v:=v2) (λi=>if i=j then v2 else vs i) aK.ty I I I pf mY c3 (hst v2) (aM (bX [0,4,7]) ?_))
    try refine GW ?_
    try refine GA ?_
    refine SV j 6 8 [0,1,2,3,4,5] akh I I I (λh=>h.2 I) (D':=λi=>i<R.length) (f':=λi=>aZ 3 1 ((λi=>if i=j then v2 else vs i) i) (if i<j+1 then D++[col]else D).length ((AO (if i<j+1 then D++[col]else D) i).flatMap cK.dQ)) (λq hq=>(by by_cases e:q=j;exact .inr e;exact .inl ⟨hq,e⟩)) (λq hq=>?_) ?_;exact aa4 hnj q;exact bT (j+1,λi=>if i=j then v2 else vs i) (by show j+1<=R.length;omega) (by show R.length-(j+1)<R.length-j;omega)
   refine fN I I I I I λg80=>aM (bX [0,4,7]) ?_;refine aL I (dx (aB aK.ty I (gI (i:=2) I c3)) I I I (aM (bX [0,4,7]) ?_));refine aL I (l8 (i:=8) (q:=9) I I I I I I J J I λv2=>aM (bX [0,4,7]) ?_)
   repeat(first|refine GW ?_|(refine GN ?_;first|refine QW (bU (j:=j) bM.eq aK.ty I I c3) ?_))
   refine aL I (aW (i:=8) I λpf mY=>jl (i:=2) (val:=ze) (off:=j) (v:=v2) (λi=>if i=j then v2 else vs i) aK.ty I I I pf mY c3 (hst v2) (aM (bX [0,4,7]) ?_))
   try refine GW ?_
   try refine GA ?_
   refine SV j 6 8 [0,1,2,3,4,5] akh I I I (λh=>h.2 I) (D':=λi=>i<R.length) (f':=λi=>aZ 3 1 ((λi=>if i=j then v2 else vs i) i) (if i<j+1 then D++[col]else D).length ((AO (if i<j+1 then D++[col]else D) i).flatMap cK.dQ)) (λq hq=>(by by_cases e:q=j;exact .inr e;exact .inl ⟨hq,e⟩)) (λq hq=>?_) ?_;exact aa4 hnj q;exact bT (j+1,λi=>if i=j then v2 else vs i) (by show j+1<=R.length;omega) (by show R.length-(j+1)<R.length-j;omega)
  obtain rfl:j=R.length:=by omega
  refine SM (Wf R.length (D++[col]) vs) (i:=6) I (Bi (λ_ h=>h) (T9 _ _ _ _)) (EC (λ_ h=>h) (T9 _ _ _ _)) ?_
  conv=>arg 7;simp only[zA,zB,zC,zD,zE,zF,zG,zH,zI,cI,ret,id_eq]
  repeat(first|refine GA ?_|refine gV (jo bM.eq bM.eq I hwr) ?_|refine gV (iz bM.eq aK.ty I I c1) ?_)
  refine Gb (i:=4) (b:=k) I I I c1 ?_;rw[RT];refine zL ?_
  try refine GA ?_
  exact bT (k+1,vs) (by show k+1<=256;omega) (by show 256-(k+1)<256-k;omega) (hl:=by dsimp only;rw[hD])
 ·obtain rfl:k=256:=by omega
  repeat(first|refine GA ?_|refine gV (aO (i:=4) aK.ty I I (kV _ _ _)) ?_)
  refine aW (i:=3) I λpf mY=>?_;refine aX (i:=1) (cs':=(fc (za R 256) (ap (aj ⟨gN,0,ak⟩) R.length R.length) vT).toArray) I I I (kV _ _ _) (zb _ I mY) (kV _ _ _) ?_;refine zL ?_
  try refine GA ?_
  refine eJ (i:=1) I I I (kV _ _ _) I λw hm=>?_;exact hm.meets (S:=aa5 R tags) (gN,vs,vT) trivial [2,6,3] akh I
end bZ
namespace bZ
open Go.RowKit cK dS zN cD
structure PkM(w:World)(vn vt:Value)(N:List (List Int))(tags:List Int):Prop where
 ex:∃(b off cap:Nat) (vs:Nat->Value),vn=ap (aj ⟨b,off,ak⟩) N.length cap/\∀i (h:i<N.length),w.cell? ⟨b,off+i,ak⟩=aj (vs i)/\Sl w (vs i) N[i].length (N[i].flatMap cK.dQ)
 hT:Sl w vt tags.length (tags.flatMap cK.dQ)
structure aa7(o:Of)(N:List (List Int))(tags:List Int)(wide:Nat):Prop where
 pos:0<N.length
 le:N.length<=200
 len:tags.length=N.length
 w0:0<wide
 w1:wide<=256
 row:∀i (h:i<N.length),N[i].length=wide
 tag:∀i (h:i<tags.length),-1<=tags[i]/\tags[i]<20
 rng:∀i (h:i<N.length),∀j (h':j<N[i].length),-1<=N[i][j]/\N[i][j]<N.length
 of:∀b (h:b<256),o[b]<wide
theorem PkM.gr{w w':World}{vn vt:Value}{N:List (List Int)}{tags:List Int}(h:PkM w vn vt N tags)(hg:Gr w w'):PkM w' vn vt N tags:=by
 obtain⟨b,off,cap,vs,h1,h2⟩:=h.ex;refine⟨⟨b,off,cap,vs,h1,λi hi=>⟨?_,(h2 i hi).2.gr hg⟩⟩,h.hT.gr hg⟩;rw[hg.cell (oF w _ (h2 i hi).1)];exact(h2 i hi).1
def ofC(o:Of):List Value:=o.toList.map λn:Nat=> .int .u8 (n:Int)
theorem adx(o:Of):(ofC o).length=256:=by simp[ofC]
theorem ady(o:Of){b:Nat}(h:b<256):(ofC o).toArray[b]?=aj (.int .u8 (o[b]:Int)):=by
 rw[jz];unfold ofC;rw[fe,bK (by simpa using h),nj];rfl
theorem af5(o:Of)(vn vt:Value){j:Nat}{v:Value}(h:(ofC o)[j]?=aj v):(fc o vn vt).toArray[0+j]?=aj v:=by
 have hj:j<(ofC o).length:=(dg.1 h).1;rw[cX,jz];show(ofC o++[vn,vt])[j]?=_
 rw[iq hj];exact h
end bZ
namespace bZ
open Go.RowKit cK dS cD
structure WR(w:World)(vn vt:Value)(N:List (List Int))(tags:List Int):Prop where
 hN:ky (bO fP) (qy w) w vn N
 hT:Sl w vt tags.length (tags.flatMap cK.dQ)
theorem WR.gr{w w':World}{vn vt:Value}{N:List (List Int)}{tags:List Int}(h:WR w vn vt N tags)(hg:Gr w w'):WR w' vn vt N tags:=⟨tp h.hN hg,h.hT.gr hg⟩
abbrev mE(o:Of)(N:List (List Int))(tags:List Int):Prop:=aa7 o N tags (N.headD []).length
open Classical in
noncomputable def AB(o:Of)(N:List (List Int))(tags:List Int):Int:=if 200<N.length then 2 else if mE o N tags then 0 else 1
def N4(N:List (List Int))(tags:List Int)(wide i:Nat):Prop:=(N.getD i []).length=wide/\ -1<=tags.getD i 0/\tags.getD i 0<20/\∀x∈N.getD i [],-1<=x/\x<N.length
theorem adz{o:Of}{N:List (List Int)}{tags:List Int}{wide:Nat}(h:aa7 o N tags wide){i:Nat}(hi:i<N.length):N4 N tags wide i:=by
 have hit:i<tags.length:=by rw[h.len];exact hi
 unfold N4;rw[cB,bK hi,cB,bK hit];refine⟨h.row i hi,(h.tag i hit).1,(h.tag i hit).2,λx hx=>?_⟩;obtain⟨j,hj,rfl⟩:=iB.1 hx;exact h.rng i hi j hj
theorem adA{o:Of}{N:List (List Int)}{tags:List Int}{wide:Nat}(h0:0<N.length)(h1:N.length<=200)(h2:tags.length=N.length)(h3:0<wide)(h4:wide<=256)(h5:∀i,i<N.length->N4 N tags wide i)(h6:∀b (h:b<256),o[b]<wide):aa7 o N tags wide:=by
 have g:∀i (hi:i<N.length),N.getD i []=N[i]:=λi hi=>by rw[cB,bK hi];rfl
 have gt:∀i (hi:i<tags.length),tags.getD i 0=tags[i]:=λi hi=>by rw[cB,bK hi];rfl
 refine⟨h0,h1,h2,h3,h4,λi hi=>?_,λi hi=>?_,λi hi j hj=>?_,h6⟩;have:=(h5 i hi).1;rwa [g i hi]at this;have:=h5 i J;unfold N4 at this;rw[gt i hi]at this;exact⟨this.2.1,this.2.2.1⟩;have:=(h5 i hi).2.2.2;rw[g i hi]at this;exact this _ (b_ hj)
theorem af6{o:Of}{N:List (List Int)}{tags:List Int}(h:200<N.length):AB o N tags=2:=if_pos h
theorem af7{o:Of}{N:List (List Int)}{tags:List Int}(h:¬200<N.length)(hg:¬mE o N tags):AB o N tags=1:=by unfold AB;rw[if_neg h,if_neg hg]
theorem RU{o:Of}{N:List (List Int)}{tags:List Int}(hg:mE o N tags):AB o N tags=0:=by unfold AB;rw[if_neg (by have:=hg.le;omega),if_pos hg]
theorem sv{o:Of}{N:List (List Int)}{tags:List Int}(h:AB o N tags=0):mE o N tags:=by
 unfold AB at h;split at h
 cases h
 split at h
 assumption
 cases h
theorem Cy(o:Of)(vn vt:Value)(N:List (List Int))(tags:List Int)(w:World)(h:WR w vn vt N tags)(ho:∀b (h:b<256),o[b]<256):
 Calls aD 89 #[OU o vn vt] w (bY (ret (av az (AB o N tags))) w):=by
 obtain⟨⟨an,cn,rfl,hn1,hn2,hn3⟩,at',ct,rfl,ht1,YC,Lp⟩:=h;unfold maxLen at hn2 YC;have hE1:=λh hg=>af7 (o:=o) (N:=N) (tags:=tags) h hg;have hE2:=λh=>af6 (o:=o) (N:=N) (tags:=tags) h;have hE0:=λh=>RU (o:=o) (N:=N) (tags:=tags) h;generalize AB o N tags=e at*;refine enter (args:=[OU o (ap an N.length cn) (ap at' tags.length ct)]) (n:=92) Tryz.func89 I I I ?_;refine bW (bB (bP I I I λg1=>?_))
 by_cases c1:200<N.length
 ·rw[hE2 c1]
  repeat(first|refine GC ?_|refine gV (aB aK.ty I (aH (i:=0) I (lK _ _ _))) ?_|refine gV (ea (b:=aC) I I (decide_eq_true J)) ?_|refine GB ?_)
  exact dH I I I
 by_cases c2:N.length=0
 ·rw[hE1 c1 (λh=>by have:=h.pos;omega)]
  repeat(first|refine GC ?_|refine gV (aB aK.ty I (aH (i:=0) I (lK _ _ _))) ?_|refine gV (ea (b:=aE) I I (decide_eq_false J)) ?_|refine gV (cZ (b:=aC) I I (decide_eq_true J)) ?_|refine GB ?_)
  exact dH I I I
 by_cases c3:tags.length=N.length
 case neg=>
  rw[hE1 c1 (λh=>c3 h.len)]
  repeat(first|refine GC ?_|refine gV (aB aK.ty I (aH (i:=0) I (lK _ _ _))) ?_|refine gV (aB aK.ty I (aH (i:=0) I (n' _ _ _))) ?_|refine gV (ea (b:=aE) I I (decide_eq_false J)) ?_|refine gV (cZ (b:=aE) I I (decide_eq_false J)) ?_|refine gV (dl (b:=aC) I I (decide_eq_true J)) ?_|refine GB ?_)
  exact dH I I I
 obtain⟨bn,N5,rfl,_,LD⟩:=hn3 J;obtain⟨bt,KU,rfl,htd⟩:=Lp J;clear hn3 Lp;obtain⟨u0,⟨a0,c0,rfl,-⟩,hd0⟩:=Bz LD (show 0<N.length by omega);have afW:=λ(L:List b9)=>jc (L:=L) hd0 (j:=0) (v:=ap a0 (N[0]' J).length c0) I;have hw:(N.headD []).length=(N[0]' J).length:=by cases N with
  |nil=>simp at c2
  |cons x r=>rfl
 have zP:mE o N tags↔aa7 o N tags (N[0]' J).length:=by unfold mE;rw[hw]
 clear hd0 hw;generalize (N[0]' J).length=wide at*
 repeat(first|refine GC ?_|refine gV (aB aK.ty I (aH (i:=0) I (lK _ _ _))) ?_|refine gV (aB aK.ty I (aH (i:=0) I (n' _ _ _))) ?_|refine gV (ea (b:=aE) I I (decide_eq_false J)) ?_|refine gV (cZ (b:=aE) I I (decide_eq_false J)) ?_|refine gV (dl (b:=aE) I I (decide_eq_false J)) ?_|refine gV (aY (j:=0) bM.eq aK.ty I I J) ?_|refine gV (aB (v:=ap a0 wide c0) aK.ty I (afW _)) ?_|refine GB ?_)
 by_cases c4:wide=0
 ·rw[hE1 c1 (λh=>by have:=(zP.1 h).w0;omega)]
  repeat(first|refine GC ?_|refine gV (cZ (b:=aC) I I (decide_eq_true J)) ?_|refine GB ?_)
  exact dH I I I
 by_cases c5:256<wide
 ·rw[hE1 c1 (λh=>by have:=(zP.1 h).w1;omega)]
  repeat(first|refine GC ?_|refine gV (cZ (b:=aE) I I (decide_eq_false J)) ?_|refine gV (ea (b:=aC) I I (decide_eq_true J)) ?_|refine GB ?_)
  exact dH I I I
 repeat(first|refine GC ?_|refine gV (cZ (b:=aE) I I (decide_eq_false J)) ?_|refine gV (ea (b:=aE) I I (decide_eq_false J)) ?_|refine GB ?_)
 refine d_ (ι:=Nat) (λi=>i<=N.length/\∀j,j<i->N4 N tags wide j) (λi=>[(1,aJ (aj ⟨g1,0,ak⟩)),(3,av az (N.length:Int)),(4,av az (wide:Int)),(35,av az (N.length:Int)),(36,av az (i:Int))])
  (λ_=>[aP g1 (fc o (ap (aj ⟨bn,N5,ak⟩) N.length cn) (ap (aj ⟨bt,KU,ak⟩) tags.length ct)).toArray 30]) (λi=>N.length-i) 0 ⟨bH _,λj h=>by omega⟩ ?_
 rintro i ⟨hi,hgi⟩
 by_cases q1:i<N.length
 ·have hit:i<tags.length:=by omega
  obtain⟨u,⟨au,cu,rfl,hcu,hmu,OT⟩,hdu⟩:=Bz LD q1;unfold maxLen at hmu;have KV:=λ(L:List b9)=>jc (L:=L) hdu (j:=0) (v:= .slice au N[i].length cu) I;have NE:=λ(L:List b9)=>ib (L:=L) kC htd hit 0 _ I;have hG:N4 N tags wide i↔(N[i].length=wide/\ -1<=tags[i]/\tags[i]<20/\∀x∈N[i],-1<=x/\x<N.length):=by
   unfold N4;rw[cB,bK q1,cB,bK hit];rfl
  have om:¬N4 N tags wide i->e=1:=λhg=>hE1 c1 λh=>hg (adz (zP.1 h) q1);clear hdu hE1 hE2;generalize tags[i]=tg at*;generalize N[i]=l at*
  by_cases r1:l.length=wide
  case neg=>
   rw[om (λh=>r1 (hG.1 h).1)]
   repeat(first|refine GC ?_|refine gV (aB aK.ty I (aH (i:=0) I (lK _ _ _))) ?_|refine gV (aB aK.ty I (aH (i:=0) I (n' _ _ _))) ?_|refine gV (aY (j:=i) bM.eq aK.ty I I q1) ?_|refine gV (aB (v:=ap au l.length cu) aK.ty I (KV _)) ?_|refine gV (dl (b:=aC) I I (decide_eq_true J)) ?_|refine GB ?_)
   exact dH I I I
  by_cases r2:tg< -1
  ·rw[om (λh=>by have:=(hG.1 h).2.1;omega)]
   repeat(first|refine GC ?_|refine gV (aB aK.ty I (aH (i:=0) I (lK _ _ _))) ?_|refine gV (aB aK.ty I (aH (i:=0) I (n' _ _ _))) ?_|refine gV (aY (j:=i) bM.eq aK.ty I I q1) ?_|refine gV (aB (v:=ap au l.length cu) aK.ty I (KV _)) ?_|refine gV (dl (b:=aE) I I (decide_eq_false J)) ?_|refine gV (aY (j:=i) bM.eq aK.ty I I hit) ?_|refine gV (aB (v:=av az tg) aK.ty I (NE _)) ?_|refine gV (dq (b:=aC) I I (decide_eq_true r2)) ?_|refine GB ?_)
   exact dH I I I
  by_cases r3:20<=tg
  ·rw[om (λh=>by have:=(hG.1 h).2.2.1;omega)]
   repeat(first|refine GC ?_|refine gV (aB aK.ty I (aH (i:=0) I (lK _ _ _))) ?_|refine gV (aB aK.ty I (aH (i:=0) I (n' _ _ _))) ?_|refine gV (aY (j:=i) bM.eq aK.ty I I q1) ?_|refine gV (aB (v:=ap au l.length cu) aK.ty I (KV _)) ?_|refine gV (dl (b:=aE) I I (decide_eq_false J)) ?_|refine gV (aY (j:=i) bM.eq aK.ty I I hit) ?_|refine gV (aB (v:=av az tg) aK.ty I (NE _)) ?_|refine gV (dq (b:=aE) I I (decide_eq_false r2)) ?_|refine gV (ff (b:=aC) I I (decide_eq_true r3)) ?_|refine GB ?_)
   exact dH I I I
  repeat(first|refine GC ?_|refine gV (aB aK.ty I (aH (i:=0) I (lK _ _ _))) ?_|refine gV (aB aK.ty I (aH (i:=0) I (n' _ _ _))) ?_|refine gV (aY (j:=i) bM.eq aK.ty I I q1) ?_|refine gV (aB (v:=ap au l.length cu) aK.ty I (KV _)) ?_|refine gV (dl (b:=aE) I I (decide_eq_false J)) ?_|refine gV (aY (j:=i) bM.eq aK.ty I I hit) ?_|refine gV (aB (v:=av az tg) aK.ty I (NE _)) ?_|refine gV (dq (b:=aE) I I (decide_eq_false r2)) ?_|refine gV (ff (b:=aE) I I (decide_eq_false r3)) ?_|refine GB ?_)
  refine d_ (ι:=Nat) (λj=>j<=l.length/\∀x∈l.take j,-1<=x/\x<N.length) (λj=>[(1,aJ (aj ⟨g1,0,ak⟩)),(3,av az (N.length:Int)),(4,av az (wide:Int)),(35,av az (N.length:Int)),(36,av az (i:Int)),(67,ap au l.length cu),(68,av az (l.length:Int)),(69,av az (j:Int))])
   (λ_=>[aP g1 (fc o (ap (aj ⟨bn,N5,ak⟩) N.length cn) (ap (aj ⟨bt,KU,ak⟩) tags.length ct)).toArray 30]) (λj=>l.length-j) 0 ⟨bH _,λx h=>by simp at h⟩ ?_
  rintro j ⟨hj,hgj⟩
  by_cases s1:j<l.length
  ·obtain⟨bu,adB,rfl,eP⟩:=OT J
   have Hf:=λ(L:List b9)=>ib (L:=L) kC eP s1 0 _ I;have hxm:=b_ s1;have pq:=gX s1;clear eP;generalize l[j]=x at*
   by_cases t1:x< -1
   ·rw[om (λh=>by have:=((hG.1 h).2.2.2 x hxm).1;omega)]
    repeat(first|refine GC ?_|refine gV (aY (j:=j) bM.eq aK.ty I I s1) ?_|refine gV (aB (v:=av az x) aK.ty I (Hf _)) ?_|refine gV (dq (b:=aC) I I (decide_eq_true t1)) ?_|refine GB ?_)
    exact dH I I I
   by_cases t2:(N.length:Int)<=x
   ·rw[om (λh=>by have:=((hG.1 h).2.2.2 x hxm).2;omega)]
    repeat(first|refine GC ?_|refine gV (aY (j:=j) bM.eq aK.ty I I s1) ?_|refine gV (aB (v:=av az x) aK.ty I (Hf _)) ?_|refine gV (dq (b:=aE) I I (decide_eq_false t1)) ?_|refine gV (ff (b:=aC) I I (decide_eq_true t2)) ?_|refine GB ?_)
    exact dH I I I
   repeat(first|refine GC ?_|refine gV (aY (j:=j) bM.eq aK.ty I I s1) ?_|refine gV (aB (v:=av az x) aK.ty I (Hf _)) ?_|refine gV (dq (b:=aE) I I (decide_eq_false t1)) ?_|refine gV (ff (b:=aE) I I (decide_eq_false t2)) ?_|refine GB ?_)
   exact jH (j+1) ⟨by omega,λy hy=>by
    rw[pq,fx,dO]at hy;rcases hy with hy|rfl
    exact hgj y hy;omega⟩ (by show l.length-(j+1)<l.length-j;omega) (by repeat' (first|exact cT|refine cJ I ?_)) I
  rw[fU J]at hgj
  try refine GA ?_
  exact jH (i+1) ⟨by omega,λj hj2=>by
   by_cases e:j=i
   subst e;exact hG.2 ⟨r1,by omega,by omega,hgj⟩;exact hgi j J⟩ (by show N.length-(i+1)<N.length-i;omega) (by repeat' (first|exact cT|refine cJ I ?_)) I
 ·repeat(first|refine GA ?_|refine gV (bm (cs:=ofC o) aK.ty I (adx o) (λj v hj=>aH (i:=0) I (af5 _ _ _ hj))) ?_)
  refine d_ (ι:=Nat) (λj=>j<=256/\∀b (h:b<256),b<j->o[b]<wide) (λj=>[(4,av az (wide:Int)),(83,aQ (ofC o).toArray),(84,av az (j:Int))]) (λ_=>[aP g1 (fc o (ap (aj ⟨bn,N5,ak⟩) N.length cn) (ap (aj ⟨bt,KU,ak⟩) tags.length ct)).toArray 30]) (λj=>256-j) 0 ⟨bH _,λb _ h=>by omega⟩ ?_;rintro j ⟨hj,Sx⟩
  by_cases s1:j<256
  ·have hcell:=ady o s1
   have hz:=ho j s1;have om:¬o[j]<wide->e=1:=λhg=>hE1 c1 λh=>hg ((zP.1 h).of j s1);have wg:o[j]<wide->∀b (h:b<256),b<j+1->o[b]<wide:=λhw b h hb=>by
    by_cases e:b=j
    subst e;exact hw;exact Sx b h J
   clear hE1 hE2;generalize o[j]=z at*
   by_cases t1:z<wide
   ·repeat(first|refine GC ?_|refine gV (jN bM.eq aK.ty I I s1 hcell) ?_|refine gV (jo bM.eq bM.eq I (n0 J J)) ?_|refine gV (ff (b:=aE) I I (decide_eq_false J)) ?_|refine GB ?_)
    exact bT (j+1) ⟨by omega,wg t1⟩ (by show 256-(j+1)<256-j;omega)
   rw[om t1]
   repeat(first|refine GC ?_|refine gV (jN bM.eq aK.ty I I s1 hcell) ?_|refine gV (jo bM.eq bM.eq I (n0 J J)) ?_|refine gV (ff (b:=aC) I I (decide_eq_true J)) ?_|refine GB ?_)
   exact dH I I I
  rw[hE0 (zP.2 (adA J J c3 J J (λi h=>hgi i J) λb h=>Sx b h J))]
  try refine GA ?_
  exact dH I I I
end bZ
namespace bZ
open Go.RowKit cK dS de gd hY aU cD
structure Md where
 of:List Int
 o:Of
 N:List (List Int)
 tags:List Int
 g:ep
 mode:Int
 rows:List (List Int)
 A:List (List bJ.Act)
 G:List (List Int)
structure CY(w:World)(v:Value)(m:Md)(vo vn vt vp vr va vg:Value):Prop where
 val:v=aQ (jE vo (fc m.o vn vt) (fQ m.g.aT m.g.bC vp m.mode vr va vg)).toArray
 of:Sl w vo m.of.length (m.of.flatMap cK.dQ)
 pk:WR w vn vt m.N m.tags
 BQ:kK (λk=>k<w.heap.size) w (dM m.g.aT m.g.bC vp) m.g
 rows:Aw w vr m.rows
 pM:BL w (aQ #[va,vg]) m.A m.G
structure MdGood(m:Md):Prop where
 byte:∀b (h:b<256),m.o[b]<256
 mw:AB m.o m.N m.tags=0
 BQ:cz m.g=0
 some:0<m.of.length
 rv:m.of.length<=20
 ofs:∀t∈m.of,-1<=t/\t<m.g.aT
 tag:∀t∈m.tags,t<(m.of.length:Int)
 mode:(m.mode=1/\FQ m.g m.rows=0)\/(m.mode=2/\∃T N,so m.g T N m.A m.G)
theorem Gc{vo:Value}{pk tl:List Value}(hp:pk.length=258){j:Nat}{v:Value}(h:pk[j]?=aj v):(jE vo pk tl).toArray[0+1+j]?=aj v:=by
 rw[jz,jE,show 0+1+j=j+1 by omega,DK,iq (dg.1 h).1];exact h
theorem af8{vo:Value}{pk:List Value}(hp:pk.length=258){a b c d e f f' v:Value}{j:Nat}(h:[f,f'][j]?=aj v):(jE vo pk [a,b,c,d,e,f,f']).toArray[0+264+j]?=aj v:=by
 match j,h with
 |0,h=>exact je 5 hp h I
 |1,h=>exact je 6 hp h I
 |n+2,h=>cases h
theorem RV(x:Int):(cK.dQ x).length=1:=rfl
set_option maxRecDepth 100000 in
theorem KW(v:Value)(m:Md)(w:World){vo vn vt vp vr va vg:Value}(h:CY w v m vo vn vt vp vr va vg)(hg:MdGood m):
 Calls aD 47 #[v] w (bY (ret (av az 0)) w):=by
 have jw:=λw' (hw:Gr w w')=>Cy m.o vn vt m.N m.tags w' (h.pk.gr hw) hg.byte;rw[hg.mw]at jw;have hcg:=λw' (hw:Gr w w')=>kj (dM m.g.aT m.g.bC vp) m.g w' (h.BQ.gr hw);rw[hg.BQ]at hcg;have UJ:=λw' (hw:Gr w w')=>xP (dM m.g.aT m.g.bC vp) vr m.g m.rows w' (h.BQ.gr hw) (tp h.rows hw);have Pp:=λT N hT w' (hw:Gr w w')=>xQ (dM m.g.aT m.g.bC vp) (aQ #[va,vg]) m.g T N m.A m.G hT w' (h.BQ.gr hw) (h.pM.gr hw);have Vc:=h.of;have htg:=h.pk.hT;have hv:=h.val;obtain⟨b1,b2,b3,b4,b5,b6,b7,b8⟩:=hg;clear h b1 b2 b3;have dX:(fc m.o vn vt).length=258:=fj _ _ _;have hpt:(fc m.o vn vt)[257]?=aj vt:=by have:=n' m.o vn vt;simpa using this
 obtain⟨of,o,N,tags,g,mode,rows,A,G⟩:=m;dsimp only at*;rw[show OU o vn vt=aQ (fc o vn vt).toArray from I]at jw;generalize fc o vn vt=PK at*;obtain⟨a1,c1,rfl,GJ,hm1,WD⟩:=Vc;obtain⟨a2,c2,rfl,WE,XD,ul⟩:=htg;unfold maxLen at hm1 XD;subst hv;refine enter (args:=[aQ (jE (ap a1 of.length c1) PK (fQ g.aT g.bC vp mode vr va vg)).toArray]) (n:=77) Tryz.func47 I I I ?_;refine bW (bB (bP I I I λg1=>?_));refine zL ?_
 repeat(first|refine GA ?_|refine gV (bm (cs:=PK) aK.ty I dX (λj v h=>aH (i:=0) I (Gc dX h))) ?_)
 refine aV (i_ aI.en I I) (λw hm=>jw _ hm.below) I I I ?_;intro _ _;refine zL ?_
 repeat(first|refine GC ?_|refine gV (dl (b:=aE) I I (decide_eq_false (by simp))) ?_|refine gV (bm (cs:=[av az g.aT,av az g.bC,vp]) aK.ty I I (λj v h=>aH (i:=0) I (tL dX h))) ?_|refine GB ?_)
 refine aV (i_ aI.en I I) (λw hm=>hcg _ hm.below) I I I ?_;intro _ _;refine zL ?_
 repeat(first|refine GC ?_|refine gV (dl (b:=aE) I I (decide_eq_false (by simp))) ?_|refine gV (aB (v:=ap a1 of.length c1) aK.ty I (aH (i:=0) I I)) ?_|refine GB ?_)
 have hz:(1:Nat)<=of.length:=b4;refine d_ (ι:=Nat) (λk=>k<=of.length) (λk=>[(1,aJ (aj ⟨g1,0,ak⟩)),(31,ap a1 of.length c1),(32,av az of.length),(33,av az (k:Int))])
  (λ_=>[aP g1 (jE (ap a1 of.length c1) PK (fQ g.aT g.bC vp mode vr va vg)).toArray 38]) (λk=>of.length-k) 0 (bH _) ?_
 intro k k1
 by_cases d1:k<of.length
 ·obtain⟨b,off,rfl,hr⟩:=WD J
  have dy:=λ(L:List b9)=>ib (L:=L) RV hr d1 0 _ I;obtain⟨y1,y2⟩:=b6 of[k] (b_ d1);generalize of[k]=x at*
  repeat(first|refine GA ?_|refine gV (aY bM.eq aK.ty I I d1) ?_|refine gV (aB (v:=av az x) aK.ty I (dy _)) ?_|refine gV (aB (v:=av az g.aT) aK.ty I (aH (i:=0) I (je 0 dX I I))) ?_)
  exact bT (k+1) J (by show of.length-(k+1)<of.length-k;omega)
 obtain rfl:k=of.length:=by omega
 repeat(first|refine GA ?_|refine gV (aB (v:=ap a2 tags.length c2) aK.ty I (aH (i:=0) I (Gc dX hpt))) ?_)
 refine d_ (ι:=Nat) (λk=>k<=tags.length) (λk=>[(1,aJ (aj ⟨g1,0,ak⟩)),(49,ap a2 tags.length c2),(50,av az tags.length),(51,av az (k:Int))])
  (λ_=>[aP g1 (jE (ap a1 of.length c1) PK (fQ g.aT g.bC vp mode vr va vg)).toArray 38]) (λk=>tags.length-k) 0 (bH _) ?_
 intro k k2
 by_cases d2:k<tags.length
 ·obtain⟨b,off,rfl,hr⟩:=ul J
  have dy:=λ(L:List b9)=>ib (L:=L) RV hr d2 0 _ I;have y1:=b7 tags[k] (b_ d2);generalize tags[k]=x at*
  repeat(first|refine GA ?_|refine gV (aY bM.eq aK.ty I I d2) ?_|refine gV (aB (v:=av az x) aK.ty I (dy _)) ?_|refine gV (aB (v:=ap a1 of.length c1) aK.ty I (aH (i:=0) I I)) ?_)
  exact bT (k+1) J (by show tags.length-(k+1)<tags.length-k;omega)
 obtain rfl:k=tags.length:=by omega
 rcases b8 with⟨rfl,hc⟩|⟨rfl,T,N',hc⟩
 ·rw[hc]at UJ
  repeat(first|refine GA ?_|refine gV (aB (v:=av az 1) aK.ty I (aH (i:=0) I (je 3 dX I I))) ?_|refine gV (bm (cs:=[av az g.aT,av az g.bC,vp]) aK.ty I I (λj v h=>aH (i:=0) I (tL dX h))) ?_|refine gV (aB (v:=vr) aK.ty I (aH (i:=0) I (je 4 dX I I))) ?_)
  refine aV (fB aI.en I I I) (λw hm=>UJ _ hm.below) I I I ?_;intro _ _;refine zL ?_
  try refine GA ?_
  exact eH
 ·have Pp:=λw' hw=>Pp T N' hc w' hw
  repeat(first|refine GA ?_|refine gV (aB (v:=av az 2) aK.ty I (aH (i:=0) I (je 3 dX I I))) ?_|refine gV (bm (cs:=[av az g.aT,av az g.bC,vp]) aK.ty I I (λj v h=>aH (i:=0) I (tL dX h))) ?_|refine gV (bm (cs:=[va,vg]) aK.ty I I (λj v h=>aH (i:=0) I (af8 dX h))) ?_)
  refine aV (fB aI.en I I I) (λw hm=>Pp _ hm.below) I I I ?_;intro _ _;refine zL ?_
  try refine GA ?_
  exact eH
end bZ
namespace jG
open Go.RowKit cK dS bZ cD
def xS(o:Of)(N:List (List Int))(now:Int)(b:UInt8):Int:=(N.getD now.toNat []).getD (o.toList.getD b.toNat 0) 0
def jv(o:Of)(N:List (List Int))(tags:List Int):List UInt8->Nat->Int->Int->Nat->Int×Nat
 |[],_,_,r,t=>(r,t)
 | b::s,i,now,r,t=>
  if xS o N now b<0 then(r,t)
  else if 0<=tags.getD (xS o N now b).toNat 0 then jv o N tags s (i+1) (xS o N now b) (tags.getD (xS o N now b).toNat 0) (i+1)
  else jv o N tags s (i+1) (xS o N now b) r t
def nt(o:Of)(N:List (List Int))(tags:List Int)(s:List UInt8)(fr:Nat):Int×Nat:=jv o N tags (s.drop fr) fr 0 0 0
theorem lC(o:Of)(N:List (List Int))(tags:List Int)(b:UInt8)(s:List UInt8)(i:Nat)(now r:Int)(t:Nat):jv o N tags (b::s) i now r t=
 if xS o N now b<0 then(r,t)
 else if 0<=tags.getD (xS o N now b).toNat 0 then jv o N tags s (i+1) (xS o N now b) (tags.getD (xS o N now b).toNat 0) (i+1)
 else jv o N tags s (i+1) (xS o N now b) r t:=rfl
abbrev Tok:=Int×Nat×Nat
def oV(o:Of)(N:List (List Int))(tags:List Int)(s:List UInt8):Nat->Nat->List Tok×Nat×Int
 |0,_=>([],0,0)
 |f+1,at'=>if at'<s.length then(if(nt o N tags s at').2=0 then([],at',9)else((((nt o N tags s at').1,at',(nt o N tags s at').2)::(oV o N tags s f (nt o N tags s at').2).1),(oV o N tags s f (nt o N tags s at').2).2))else([],0,0)
def BR(o:Of)(N:List (List Int))(tags:List Int)(s:List UInt8):List Tok×Nat×Int:=oV o N tags s (s.length+1) 0
theorem Ge(o:Of)(N:List (List Int))(tags:List Int)(s:List UInt8)(f at':Nat):oV o N tags s (f+1) at'=if at'<s.length then(if(nt o N tags s at').2=0 then([],at',9)else((((nt o N tags s at').1,at',(nt o N tags s at').2)::(oV o N tags s f (nt o N tags s at').2).1),(oV o N tags s f (nt o N tags s at').2).2))else([],0,0):=rfl
theorem Gf(o:Of)(N:List (List Int))(tags:List Int):∀(s:List UInt8) (i:Nat) (now r:Int) (t:Nat),(jv o N tags s i now r t).2=t\/(i<(jv o N tags s i now r t).2/\(jv o N tags s i now r t).2<=i+s.length)
 |[],_,_,_,_=> .inl I
 | b ::s,i,now,r,t=>by
  rw[lC];split;exact .inl I;split
  ·rcases Gf o N tags s (i+1) (xS o N now b) (tags.getD (xS o N now b).toNat 0) (i+1)with h|h
   rw[h];exact .inr ⟨by omega,by rw[db];omega⟩;exact .inr ⟨by omega,by rw[db];omega⟩
  rcases Gf o N tags s (i+1) (xS o N now b) r t with h|h
  exact .inl h;exact .inr ⟨by omega,by rw[db];omega⟩
theorem RW{o:Of}{N:List (List Int)}{tags:List Int}(h:mE o N tags){q:Nat}(hq:q<N.length)(b:UInt8):
 ∃(h1:q<N.length) (h2:o[b.toNat]'b.toNat_lt<N[q].length),xS o N (q:Int) b=N[q][o[b.toNat]'b.toNat_lt]/\ -1<=xS o N (q:Int) b/\xS o N (q:Int) b<N.length:=by
 have hw:o[b.toNat]'b.toNat_lt<N[q].length:=by rw[h.row q hq];exact h.of _ _
 have e:xS o N (q:Int) b=N[q][o[b.toNat]'b.toNat_lt]:=by
  unfold xS;rw[dF,cB (l:=N),bK hq,kL,cB (l:=o.toList),bK (by rw[Vector.length_toList];exact b.toNat_lt),kL,nj,cB,bK hw];rfl
 have hr:=h.rng q hq _ hw;exact⟨hq,hw,e,by rw[e];exact hr.1,by rw[e];exact hr.2⟩
end jG
namespace bZ
open Go.RowKit cK dS cD jG
theorem af9{vn vt:Value}(o:Of)(b:UInt8):(fc o vn vt).toArray[0+b.toNat]?=aj (.int .u8 ((o[b.toNat]'b.toNat_lt:Nat):Int)):=by
 rw[cX];exact aif o vn vt b.toNat_lt
def tM(t:Tok):List Value:=[av az t.1,av az (t.2.1:Int),av az (t.2.2:Int)]
end bZ
namespace bZ
open Go.RowKit cK dS cD jG
abbrev Gg(v:Value)(l:List Tok):b9:=aZ 53 3 v l.length (l.flatMap tM)
theorem IP(v:Value)(l:List Tok)(x:Tok):Gg v (l++[x])=aZ 53 3 v (l.length+1) (l.flatMap tM++tM x):=by
 unfold Gg;rw[bI,fV];simp
end bZ
namespace bZ
open Go.RowKit cK dS zN cD
theorem lL(R:List Row):(V' R).length=R.length:=by unfold V';simp
theorem KX(R:List Row){i:Nat}(h:i<R.length):(V' R)[i]'(by rw[lL];exact h)=AO (mN R 256) i:=by unfold V';simp
theorem adC{R:List Row}{c:FB}(h:c∈mN R 256):∃b,b<256/\c=rF R b:=by
 unfold mN at h;rcases lx.1 h with h|h
 cases h
 obtain⟨b,hb,rfl⟩:=eT.1 h;exact⟨b,by simpa using hb,rfl⟩
theorem af_{R:List Row}{tags:List Int}(h:mw R tags=0){i:Nat}(hi:i<R.length){x:Int}(hx:x∈AO (mN R 256) i): -1<=x/\x<R.length:=by
 obtain⟨hA,_⟩:=wz h;unfold AO at hx;obtain⟨c,hc,rfl⟩:=eT.1 hx;obtain⟨b,hb,rfl⟩:=adC hc;rw[NZ R b i hi hA.le,wO hi hb];have:=hA.step i hi b hb;rw[Ns hi hb]at this;exact this
theorem aey{R:List Row}{tags:List Int}(h:mw R tags=0):aa7 (za R 256) (V' R) tags (mN R 256).length:=by
 obtain⟨hA,hl⟩:=wz h;have hle:R.length<=200:=hA.le;refine⟨by rw[lL];exact hA.pos,by rw[lL];exact hle,by rw[lL];exact hl,List.length_pos_of_mem (KR R (show 0<256 by decide)),Ds R 256,λi hi=>?_,λi hi=>?_,λi hi j hj=>?_,λb hb=>?_⟩
 ·rw[lL]at hi
  rw[KX R hi];unfold AO;rw[dA]
 ·have:=hA.tags i (show i<R.length by omega)
  rw[Aq hi]at this;exact this
 ·have qw:i<R.length:=by rw[lL]at hi;exact hi
  have e:=KX R qw;have hx:(V' R)[i][j]∈AO (mN R 256) i:=e▸b_ hj;rw[lL];exact af_ h qw hx
 have e:(za R 256)[b]'hb=pkN R b:=by
  unfold za;rw[l5];simp[hb]
 rw[e];exact aaY R hb
end bZ
namespace jG
open Go.RowKit cK dS bZ cD
end jG
namespace bZ
open Go.RowKit cK dS cD
theorem Mem.pkI{B:bL}{w:World}{L:List b9}{i j k g:Nat}{R:List Row}{tags:List Int}{vs:Nat->Value}{vt:Value}(hm:Mem B L w)(hi:L[i]?=aj (fv 26 ze g R.length vs))(hj:L[j]?=aj (Wf R.length (mN R 256) vs))(hk:L[k]?=aj (aZ 3 1 vt tags.length (tags.flatMap cK.dQ)))(hc:mw R tags=0):
 WR w (ap (aj ⟨g,0,ak⟩) R.length R.length) vt (V' R) tags:=by
 have h1:(fv 26 ze g R.length vs).holds w:=hm.get hi;have h2:(Wf R.length (mN R 256) vs).holds w:=hm.get hj;have ok:=aey hc;refine⟨⟨aj ⟨g,0,ak⟩,R.length,by rw[lL],by rw[lL];exact bz _,by have:=ok.le;rw[lL]at this;unfold maxLen;omega,λh0=>⟨g,0,rfl,?_,λi hi=>⟨[vs i],⟨vs i,rfl,?_⟩,λj u hj=>?_⟩⟩⟩,lm hk _ hm⟩
 ·rw[lL]at h0
  exact oF w _ (Bl h1 h0)
 ·have WB:i<R.length:=by rw[lL]at hi;exact hi
  have h3:(aZ 3 1 (vs i) (mN R 256).length ((AO (mN R 256) i).flatMap cK.dQ)).holds w:=h2.1 i WB;have h4:Sl w (vs i) (mN R 256).length ((AO (mN R 256) i).flatMap cK.dQ):=Sl.dD h3;have e:(V' R)[i]=AO (mN R 256) i:=KX R WB;have hl:(AO (mN R 256) i).length=(mN R 256).length:=dA ..;refine ky.of_flat (by rw[e,hl];exact h4) (λx hx=>?_) (λb hb=>?_) λa n cp hv=>?_
  ·obtain⟨q,hq,rfl⟩:=iB.1 hx
   have:=ok.rng i hi q hq;have:=ok.le;exact⟨by omega,by omega⟩
  exact b9.lt _ w h3 b (.inl hb);exact b9.lt _ w h3 a.block (.inl (by rw[hv];rfl))
 ·have WB:i<R.length:=by rw[lL]at hi;exact hi
  have hj0:j=0:=by have:=(dg.1 hj).1;simp at this;exact this
  subst hj0;simp only[px,dh]at hj;subst hj;have:=Bl h1 WB;show w.cell? ⟨g,0+i*1+0,ak⟩=aj (vs i)
  rw[Nat.mul_one,iu];exact this
theorem T_(R:List Row):∀b (h:b<256),(za R 256)[b]<256:=λb hb=>by
 have e:(za R 256)[b]'hb=pkN R b:=by
  unfold za;rw[l5];simp[hb]
 rw[e];exact T7 R hb
theorem Ua{R:List Row}{tags:List Int}(h:mw R tags=0):mE (za R 256) (V' R) tags:=by
 have ok:=aey h;have:((V' R).headD []).length=(mN R 256).length:=by
  have h0:=ok.pos;have:=ok.row 0 h0
  cases hR:V' R with
  |nil=>rw[hR]at h0;simp at h0
  |cons x r=>simp only[hR]at this;exact this
 unfold mE;rw[this];exact ok
end bZ
namespace gZ
open aU dL eO jG bJ cD bZ
abbrev PS:=List TD×List Nat
def ps0:PS:=([.sym (2,0)],[0])
def fG(m:Md)(b:Bool)(p:PS)(a:Nat)(t:Int):Int×PS×List dr:=
 if b then((kD m.g.aF (jb m.rows t.toNat) p.1 a t).1,((kD m.g.aF (jb m.rows t.toNat) p.1 a t).2.1,p.2),(kD m.g.aF (jb m.rows t.toNat) p.1 a t).2.2)
 else((gO m.g.aF (jj m.A) (fm m.G) t.toNat a 2001 p.2 []).1,(p.1,(gO m.g.aF (jj m.A) (fm m.G) t.toNat a 2001 p.2 []).2.1),(gO m.g.aF (jj m.A) (fm m.G) t.toNat a 2001 p.2 []).2.2)
def rH(m:Md)(b:Bool)(p:PS)(a:Nat):Int×List dr:=
 if b then iF m.g.aF (jb m.rows m.g.aT.toNat) p.1
 else((gO m.g.aF (jj m.A) (fm m.G) m.g.aT.toNat a 2001 p.2 []).1,(gO m.g.aF (jj m.A) (fm m.G) m.g.aT.toNat a 2001 p.2 []).2.2)
def Ub(m:Md)(b:Bool)(p:PS):Prop:=if b then(∀d∈p.1,ry m.g d)/\p.1.length<=60 else p.2≠[]/\(∀q∈p.2,q<m.A.length)/\p.2.length<=60
structure iA(m:Md)(b:Bool)(T N:Nat):Prop extends MdGood m where
 md:m.mode=if b then 1 else 2
 tT:m.g.aT=T
 nN:m.g.bC=N
 ll:b=aC->FQ m.g m.rows=0/\FY m.g m.rows T N
 lr:b=aE->so m.g T N m.A m.G
def mK(m:Md)(t:Tok):Int:=m.of.getD t.1.toNat 0
def OV(m:Md)(b:Bool):List Tok->PS->Nat->List dr->Option (Int×Nat)×List dr×PS×Nat
 |[],p,a,out=>(ak,out,p,a)
 | t::r,p,a,out=>
  if mK m t<0 then OV m b r p a out
  else if(fG m b p a (mK m t)).1≠0 then(aj ((fG m b p a (mK m t)).1,t.2.1),out,p,a)
  else OV m b r (fG m b p a (mK m t)).2.1 (a+1) (out++(fG m b p a (mK m t)).2.2)
theorem sw(m:Md)(b:Bool)(t:Tok)(r:List Tok)(p:PS)(a:Nat)(out:List dr):OV m b (t::r) p a out=
 if mK m t<0 then OV m b r p a out
 else if(fG m b p a (mK m t)).1≠0 then(aj ((fG m b p a (mK m t)).1,t.2.1),out,p,a)
 else OV m b r (fG m b p a (mK m t)).2.1 (a+1) (out++(fG m b p a (mK m t)).2.2):=rfl
def tN(m:Md)(b:Bool)(L:List Tok×Nat×Int)(n:Nat):List dr×Int×Nat:=
 match OV m b L.1 ps0 0 []with
 |(aj x,out,_,_)=>(out,x)
 |(ak,out,p,a)=>if L.2.2≠0 then(out,L.2.2,L.2.1)else(out++(rH m b p a).2,(rH m b p a).1,n)
def rI(m:Md)(b:Bool)(s:List UInt8):List dr×Int×Nat:=tN m b (BR m.o m.N m.tags s) s.length
theorem zf{o:Of}{N:List (List Int)}{tags:List Int}{n:Int}(hn:0<n)(ht:∀t∈tags,t<n):∀(s:List UInt8) (i:Nat) (now r:Int) (t:Nat),0<=r->r<n->0<=(jv o N tags s i now r t).1/\(jv o N tags s i now r t).1<n
 |[],_,_,_,_,h0,h1=>⟨h0,h1⟩
 | b ::s,i,now,r,t,h0,h1=>by
  rw[lC]
  by_cases c:xS o N now b<0
  rw[if_pos c];exact⟨h0,h1⟩;rw[if_neg c]
  by_cases c2:0<=tags.getD (xS o N now b).toNat 0
  ·rw[if_pos c2]
   refine zf hn ht s _ _ _ _ c2 ?_;rw[cB]
   cases e:tags[(xS o N now b).toNat]? with
   |none=>exact hn
   |some z=>exact ht z (mh e)
  rw[if_neg c2];exact zf hn ht s _ _ _ _ h0 h1
theorem aii{m:Md}{b:Bool}{T N:Nat}(h:iA m b T N):Ub m b ps0:=by
 have hg:=cV h.BQ
 cases b with
 |true=>
  refine⟨λd hd=>?_,by decide⟩;simp only[ps0,dO]at hd;subst hd;unfold ry right;simp;omega
 |false=>
  refine⟨by decide,λq hq=>?_,by decide⟩;simp only[ps0,dO]at hq;subst hq;exact(h.lr I).pos
theorem xh{m:Md}{b:Bool}{T N:Nat}(h:iA m b T N){p:PS}(hp:Ub m b p){a:Nat}{t:Int}(ht:t<T)(h0:(fG m b p a t).1=0):Ub m b (fG m b p a t).2.1/\(fG m b p a t).2.2.length<=2001:=by
 cases b with
 |true=>
  obtain⟨h1,h2⟩:=hp;obtain⟨h3,h4,h5⟩:=acP h.BQ ((h.ll rfl).2.nx t.toNat) rfl h0 h1 h2;exact⟨⟨h3,h4⟩,by show _<=2001;exact Nat.le_succ_of_le h5⟩
 |false=>
  obtain⟨h1,h2,h3⟩:=hp;obtain⟨h4,h5,h6,h7⟩:=Dq (h.lr rfl) (col:=t.toNat) (a:=a) J 2001 h1 h2 h3 h0;simp only[gY,cX]at h7;exact⟨⟨h4,h5,h6⟩,h7⟩
theorem Gh{l:List aU.Prod}{act:Nat->Nat->bJ.Act}{gt:Nat->Int->Int}{col a:Nat}:∀(f:Nat) (σ:List Nat) (o:List dr),(gO l act gt col a f σ o).1≠0->(gO l act gt col a f σ o).2.2=[]
 |0,σ,o,_=>by unfold gO;rfl
 | f + 1,σ,o,h=>by
  unfold gO at h⊢;split at h
  ·rename_i c;rw[if_pos c]
  rename_i c;rw[if_neg c]
  split at h;exact absurd I h
  rename_i c2;rw[if_neg c2]
  split at h
  ·rename_i c3;rw[if_pos c3]
   split at h
   ·rename_i c4;rw[if_pos c4]
   exact absurd I h
  rename_i c3;rw[if_neg c3]
  split at h
  ·rename_i c4;rw[if_pos c4]
   cases hr:CW l gt σ (act (σ.headD 0) col).2 with
   |none=>rfl
   | some σ'=>
    rw[hr]at h;dsimp only at h⊢;split at h
    ·rename_i c5;rw[if_pos c5]
    rename_i c5;rw[if_neg c5];exact Gh f _ _ h
  rename_i c4;rw[if_neg c4]
theorem Gi{m:Md}{b:Bool}{T N:Nat}(h:iA m b T N){p:PS}(hp:Ub m b p){a:Nat}:((rH m b p a).1=0->(rH m b p a).2.length<=2001)/\((rH m b p a).1≠0->(rH m b p a).2=[]):=by
 cases b with
 |true=>
  rcases Io (l:=m.g.aF) (nx:=jb m.rows m.g.aT.toNat) (st:=p.1) rfl with⟨h1,h2⟩|⟨a1,h1,h2⟩
  exact⟨λh0=>by have:(rH m aC p a).1=_:=rfl;rcases h1 with h1|h1<;>exact absurd (h1.symm.trans h0) akh,λ_=>h2⟩;obtain⟨_,h3,h4,_⟩:=Ao h1 rfl hp.2 (bH _);refine⟨λ_=>?_,λh0=>absurd h2 h0⟩;show(iF m.g.aF (jb m.rows m.g.aT.toNat) p.1).2.length<=2001
  dsimp only at h3 h4;simp only[gY]at h4;omega
 |false=>
  obtain⟨h1,h2,h3⟩:=hp;refine⟨λh0=>?_,λh0=>Gh _ _ _ h0⟩;obtain⟨h4,h5,h6,h7⟩:=Dq (h.lr rfl) (col:=m.g.aT.toNat) (a:=a) (by have:=h.tT;omega) 2001 h1 h2 h3 h0;simp only[gY,cX]at h7;exact h7
end gZ
namespace jG
open Go.RowKit cK dS bZ cD
def AC(o:Of)(N:List (List Int)):Int->List UInt8->Bool
 |now,[]=>!((N.getD now.toNat []).any λx=>decide (0<=x))
 |now,b::s=>if xS o N now b<0 then aC else AC o N (xS o N now b) s
theorem Gj(o:Of)(N:List (List Int))(now:Int)(b:UInt8)(s:List UInt8):AC o N now (b::s)=if xS o N now b<0 then aC else AC o N (xS o N now b) s:=rfl
def dG(o:Of)(N:List (List Int))(tags:List Int)(s:List UInt8):(Int×Nat)×Bool:=(jv o N tags s 0 0 0 0,decide (s≠[])&&AC o N 0 s)
theorem sx(o:Of)(N:List (List Int))(tags:List Int)(s:List UInt8):(dG o N tags s).1.2=0\/(0<(dG o N tags s).1.2/\(dG o N tags s).1.2<=s.length):=by
 rcases Gf o N tags s 0 0 0 0 with h|h
 exact .inl h
 right
 exact⟨h.1,by have:=h.2;show(jv _ _ _ _ _ _ _ _).2<=_;omega⟩
def dE(o:Of)(N:List (List Int))(tags:List Int):Nat->Nat->List UInt8->List Tok×Nat×List UInt8×Int
 |0,a,u=>([],a,u,0)
 |f+1,a,u=>if(dG o N tags u).2=aC then(if(dG o N tags u).1.2=0 then([],a,u,9)else(((dG o N tags u).1.1,a,a+(dG o N tags u).1.2)::(dE o N tags f (a+(dG o N tags u).1.2) (u.drop (dG o N tags u).1.2)).1,(dE o N tags f (a+(dG o N tags u).1.2) (u.drop (dG o N tags u).1.2)).2))else([],a,u,0)
theorem qm(o:Of)(N:List (List Int))(tags:List Int)(f a:Nat)(u:List UInt8):dE o N tags (f+1) a u=if(dG o N tags u).2=aC then(if(dG o N tags u).1.2=0 then([],a,u,9)else(((dG o N tags u).1.1,a,a+(dG o N tags u).1.2)::(dE o N tags f (a+(dG o N tags u).1.2) (u.drop (dG o N tags u).1.2)).1,(dE o N tags f (a+(dG o N tags u).1.2) (u.drop (dG o N tags u).1.2)).2))else([],a,u,0):=rfl
def dv(o:Of)(N:List (List Int))(tags:List Int):List UInt8->Nat->List UInt8->List Tok×Nat×List UInt8×Int
 |[],a,u=>([],a,u,0)
 | b::s,a,u=>
  if(dE o N tags (u.length+2) a (u++[b])).2.2.2≠0 then((dE o N tags (u.length+2) a (u++[b])).1,(dE o N tags (u.length+2) a (u++[b])).2.1,[],9)
  else if 64<(dE o N tags (u.length+2) a (u++[b])).2.2.1.length then((dE o N tags (u.length+2) a (u++[b])).1,(dE o N tags (u.length+2) a (u++[b])).2.1,[],10)
  else((dE o N tags (u.length+2) a (u++[b])).1++(dv o N tags s (dE o N tags (u.length+2) a (u++[b])).2.1 (dE o N tags (u.length+2) a (u++[b])).2.2.1).1,(dv o N tags s (dE o N tags (u.length+2) a (u++[b])).2.1 (dE o N tags (u.length+2) a (u++[b])).2.2.1).2)
theorem iL(o:Of)(N:List (List Int))(tags:List Int)(b:UInt8)(s:List UInt8)(a:Nat)(u:List UInt8):dv o N tags (b::s) a u=
 if(dE o N tags (u.length+2) a (u++[b])).2.2.2≠0 then((dE o N tags (u.length+2) a (u++[b])).1,(dE o N tags (u.length+2) a (u++[b])).2.1,[],9)
 else if 64<(dE o N tags (u.length+2) a (u++[b])).2.2.1.length then((dE o N tags (u.length+2) a (u++[b])).1,(dE o N tags (u.length+2) a (u++[b])).2.1,[],10)
 else((dE o N tags (u.length+2) a (u++[b])).1++(dv o N tags s (dE o N tags (u.length+2) a (u++[b])).2.1 (dE o N tags (u.length+2) a (u++[b])).2.2.1).1,(dv o N tags s (dE o N tags (u.length+2) a (u++[b])).2.1 (dE o N tags (u.length+2) a (u++[b])).2.2.1).2):=rfl
theorem Wg{o:Of}{N:List (List Int)}{tags:List Int}{b:UInt8}{s:List UInt8}{a0:Nat}{u0:List UInt8}{wx:List Tok}{fin:List Tok×Nat×List UInt8×Int}(h:(wx++(dv o N tags (b::s) a0 u0).1,(dv o N tags (b::s) a0 u0).2)=fin)(out:List Tok)(a:Nat)(u:List UInt8)(e:Int)
 (hD:(out,a,u,e)=(wx++(dE o N tags (u0.length+2) a0 (u0++[b])).1,(dE o N tags (u0.length+2) a0 (u0++[b])).2)):
 (e≠0->fin=(out,a,[],9))/\(e=0->64<u.length->fin=(out,a,[],10))/\(e=0->¬64<u.length->(out++(dv o N tags s a u).1,(dv o N tags s a u).2)=fin):=by
 subst h;rw[iL];generalize dE o N tags (u0.length+2) a0 (u0++[b])=D at*;obtain⟨d1,d2,d3,d4⟩:=D;simp only[fX]at hD;obtain⟨rfl,rfl,rfl,rfl⟩:=hD;dsimp only;refine⟨λh=>?_,λh1 h2=>?_,λh1 h2=>?_⟩
 ·rw[if_pos h]
 ·rw[if_neg (by simpa using h1),if_pos h2]
 ·rw[if_neg (by simpa using h1),if_neg h2]
  dsimp only;rw[dZ]
theorem qn{o:Of}{N:List (List Int)}{tags:List Int}:∀(f a:Nat) (u:List UInt8),u.length<f->a<=(dE o N tags f a u).2.1/\(dE o N tags f a u).2.1<=a+u.length/\(dE o N tags f a u).2.2.1=u.drop ((dE o N tags f a u).2.1-a)/\((dE o N tags f a u).2.2.2=9\/((dE o N tags f a u).2.2.2=0/\(dG o N tags (dE o N tags f a u).2.2.1).2=aE))
 |0,_,_,h=>by omega
 | f + 1,a,u,h=>by
  rw[qm]
  by_cases c:(dG o N tags u).2=aC
  ·rw[if_pos c]
   by_cases c2:(dG o N tags u).1.2=0
   ·rw[if_pos c2]
    exact⟨bz _,yC _ _,by simp,.inl I⟩
   rw[if_neg c2];have hto:=(sx o N tags u).resolve_left c2;obtain⟨h1,h2,h3,h4⟩:=qn (o:=o) (N:=N) (tags:=tags) f (a+(dG o N tags u).1.2) (u.drop (dG o N tags u).1.2) (by rw[ic];omega);rw[ic]at h2;refine⟨by dsimp only;omega,by dsimp only;omega,?_,h4⟩;dsimp only;rw[h3,kI]
   congr 1;omega
  rw[if_neg c];exact⟨bz _,yC _ _,by simp,.inr ⟨rfl,Bool.eq_false_iff.2 c⟩⟩
end jG
namespace jG
open Go.RowKit cK dS bZ cD
theorem aa8{o:Of}{N:List (List Int)}{tags:List Int}(hg:mE o N tags){q:Nat}(hq:q<N.length)(h:AC o N (q:Int) []=aC)(b:UInt8):xS o N (q:Int) b<0:=by
 obtain⟨_,hw,e,_⟩:=RW hg hq b;have hN:N.getD ((q:Int).toNat) []=N[q]:=by rw[dF,cB,bK hq];rfl
 have h:(!((N.getD ((q:Int).toNat) []).any λx=>decide (0<=x)))=true:=h;rw[hN,sH,tJ]at h;have:=h _ (b_ hw);rw[e]
 simpa using this
theorem zg{o:Of}{N:List (List Int)}{tags:List Int}(hg:mE o N tags)(m:List UInt8):∀(u:List UInt8) (i:Nat) (q:Nat) (r:Int) (t:Nat),q<N.length->AC o N (q:Int) u=aC->jv o N tags (u++m) i (q:Int) r t=jv o N tags u i (q:Int) r t
 | [],i,q,r,t,hq,h=>by
  cases m with
  |nil=>rfl
  | cons b m=>
   show jv o N tags (b::m) i (q:Int) r t=(r,t)
   rw[lC,if_pos (aa8 hg hq h b)]
 | b::u,i,q,r,t,hq,h=>by
  rw[Gj]at h;obtain⟨_,_,_,h1,h2⟩:=RW hg hq b;rw[jf,lC,lC]
  by_cases c:xS o N (q:Int) b<0
  rw[if_pos c,if_pos c];rw[if_neg c]at h;obtain⟨x,hx⟩:=iw (show 0<=xS o N (q:Int) b by omega);rw[hx]at h h2⊢;rw[zg hg m u _ x _ _ J h,zg hg m u _ x _ _ J h]
theorem qZ{o:Of}{N:List (List Int)}{tags:List Int}(a:Nat):∀(u:List UInt8) (i:Nat) (now r:Int) (t t':Nat),((t=0/\t'=0)\/(t≠0/\t'=a+t))->
 (jv o N tags u (a+i) now r t').1=(jv o N tags u i now r t).1/\(((jv o N tags u i now r t).2=0/\(jv o N tags u (a+i) now r t').2=0)\/((jv o N tags u i now r t).2≠0/\(jv o N tags u (a+i) now r t').2=a+(jv o N tags u i now r t).2))
 |[],_,_,_,_,_,h=>⟨rfl,h⟩
 | b ::u,i,now,r,t,t',h=>by
  rw[lC,lC]
  by_cases c:xS o N now b<0
  rw[if_pos c,if_pos c];exact⟨rfl,h⟩;rw[if_neg c,if_neg c]
  by_cases c2:0<=tags.getD (xS o N now b).toNat 0
  ·rw[if_pos c2,if_pos c2]
   exact qZ a u (i+1) _ _ (i+1) (a+i+1) (.inr ⟨y0 i,rfl⟩)
  rw[if_neg c2,if_neg c2];exact qZ a u (i+1) _ _ t t' h
theorem aa9{o:Of}{N:List (List Int)}{tags:List Int}(hg:mE o N tags){full u m:List UInt8}{a:Nat}(hf:full.drop a=u++m)(h:(dG o N tags u).2=aC):u≠[]/\(nt o N tags full a).1=(dG o N tags u).1.1/\(((dG o N tags u).1.2=0/\(nt o N tags full a).2=0)\/((dG o N tags u).1.2≠0/\(nt o N tags full a).2=a+(dG o N tags u).1.2)):=by
 have h:(decide (u≠[])&&AC o N 0 u)=true:=h;rw[eX,decide_eq_true_eq]at h;refine⟨h.1,?_⟩;unfold nt;rw[hf];have e:=zg hg m u a 0 0 0 hg.pos h.2;have e:jv o N tags (u++m) a 0 0 0=jv o N tags u a 0 0 0:=e;rw[e];exact qZ (o:=o) (N:=N) (tags:=tags) a u 0 0 0 0 0 (.inl ⟨rfl,rfl⟩)
theorem IQ{o:Of}{N:List (List Int)}{tags:List Int}(hg:mE o N tags){full m:List UInt8}:∀(f a:Nat) (u:List UInt8) (F:Nat),u.length<f->full.drop a=u++m->full.length<a+F->
 ((dE o N tags f a u).2.2.2=9->oV o N tags full F a=((dE o N tags f a u).1,(dE o N tags f a u).2.1,9))/\
 ((dE o N tags f a u).2.2.2=0->∃F',full.length<(dE o N tags f a u).2.1+F'/\oV o N tags full F a=((dE o N tags f a u).1++(oV o N tags full F' (dE o N tags f a u).2.1).1,(oV o N tags full F' (dE o N tags f a u).2.1).2))
 |0,_,_,_,h,_,_=>by omega
 | f + 1,a,u,F,h,hf,hF=>by
  rw[qm]
  by_cases c:(dG o N tags u).2=aC
  ·rw[if_pos c]
   obtain⟨h1,h2,h3⟩:=aa9 hg hf c;have hlt:a<full.length:=by
    have:=congrArg yZ hf;rw[ic,bI]at this;have:=aaO.2 h1;omega
   obtain⟨F,rfl⟩:∃F',F=F'+1:=by
    cases F with
    |zero=>omega
    |succ n=>exact⟨n,rfl⟩
   rw[Ge,if_pos hlt]
   by_cases c2:(dG o N tags u).1.2=0
   ·rw[if_pos c2]
    have h4:=(h3.resolve_right λh=>h.1 c2).2;rw[if_pos h4];exact⟨λ_=>rfl,λh=>absurd (show(9:Int)=0 from h) akh⟩
   rw[if_neg c2];have h4:=(h3.resolve_left λh=>c2 h.1).2;have hto:=(sx o N tags u).resolve_left c2;rw[if_neg J,h4,h2];have ih:=IQ hg (full:=full) (m:=m) f (a+(dG o N tags u).1.2) (u.drop (dG o N tags u).1.2) F (by rw[ic];omega) (by rw[<-kI,hf,KO hto.2]) J;dsimp only;refine⟨λh=>?_,λh=>?_⟩;rw[ih.1 h];obtain⟨F',k1,k2⟩:=ih.2 h;exact⟨F',k1,by rw[k2];rfl⟩
  rw[if_neg c];exact⟨λh=>absurd (show(0:Int)=9 from h) akh,λ_=>⟨F,hF,rfl⟩⟩
theorem Gk{o:Of}{N:List (List Int)}{tags:List Int}(hg:mE o N tags){full m:List UInt8}:∀(s:List UInt8) (a:Nat) (u:List UInt8) (F:Nat),full.drop a=u++(s++m)->full.length<a+F->
 ((dv o N tags s a u).2.2.2=9->oV o N tags full F a=((dv o N tags s a u).1,(dv o N tags s a u).2.1,9))/\
 (∃F',full.length<(dv o N tags s a u).2.1+F'/\((dv o N tags s a u).2.2.2≠9->oV o N tags full F a=((dv o N tags s a u).1++(oV o N tags full F' (dv o N tags s a u).2.1).1,(oV o N tags full F' (dv o N tags s a u).2.1).2)))
 |[],a,u,F,hf,hF=>⟨λh=>absurd (show(0:Int)=9 from h) akh,F,hF,λ_=>rfl⟩
 | b ::s,a,u,F,hf,hF=>by
  have hk:=qn (o:=o) (N:=N) (tags:=tags) (u.length+2) a (u++[b]) (by rw[bI];exact mC _);have hd:=IQ hg (full:=full) (m:=s++m) (u.length+2) a (u++[b]) F (by rw[bI];exact mC _) (by rw[hf];simp) hF;rw[iL];generalize dE o N tags (u.length+2) a (u++[b])=D at*;obtain⟨d1,d2,d3,d4⟩:=D;dsimp only at hk hd⊢;obtain⟨k1,k2,k3,k4⟩:=hk
  by_cases c1:d4≠0
  ·rw[if_pos c1]
   have h9:d4=9:=k4.resolve_right λh=>c1 h.1;exact⟨λ_=>hd.1 h9,full.length+1,by dsimp only;omega,λh=>absurd I h⟩
  rw[if_neg c1];obtain⟨F',k5,k6⟩:=hd.2 J
  by_cases c2:64<d3.length
  ·rw[if_pos c2]
   exact⟨λh=>absurd (show(10:Int)=9 from h) akh,F',k5,λ_=>k6⟩
  rw[if_neg c2];have zS:full.drop d2=d3++(s++m):=by
   have e1:full.drop a=(u++[b])++(s++m):=by rw[hf];simp
   have e2:d2=a+(d2-a):=by omega
   rw[e2,<-kI,e1,KO J,k3]
  obtain⟨ih1,F2,ih2,ih3⟩:=Gk hg s d2 d3 F' zS k5;dsimp only;refine⟨λh=>?_,F2,ih2,λh=>?_⟩;rw[k6,ih1 h];rw[k6,ih3 h,dZ]
end jG
namespace gZ
open aU dL eO jG bJ cD bZ
theorem AD{m:Md}{b:Bool}(z:List Tok):∀(x:List Tok) (p:PS) (a:Nat) (out:List dr),OV m b (x++z) p a out=match OV m b x p a out with|(aj e,r)=>(aj e,r)|(ak,ahl,p',a')=>OV m b z p' a' ahl
 |[],p,a,out=>rfl
 | t::x,p,a,out=>by
  rw[jf,sw,sw]
  by_cases c:mK m t<0
  rw[if_pos c,if_pos c];exact AD z x p a out;rw[if_neg c,if_neg c]
  by_cases d:(fG m b p a (mK m t)).1≠0
  rw[if_pos d,if_pos d];rw[if_neg d,if_neg d];exact AD z x _ _ _
theorem KY{m:Md}{b:Bool}:∀(x:List Tok) (p:PS) (a:Nat) (out:List dr),∃E,(OV m b x p a out).2.1=out++E
 |[],p,a,out=>⟨[],(du _).symm⟩
 | t::x,p,a,out=>by
  rw[sw]
  by_cases c:mK m t<0
  rw[if_pos c];exact KY x p a out;rw[if_neg c]
  by_cases d:(fG m b p a (mK m t)).1≠0
  rw[if_pos d];exact⟨[],(du _).symm⟩;rw[if_neg d];obtain⟨E,h⟩:=KY x (fG m b p a (mK m t)).2.1 (a+1) (out++(fG m b p a (mK m t)).2.2);exact⟨_,by rw[h,dZ]⟩
end gZ
namespace jG
open Go.RowKit cK dS bZ cD
theorem Gl{o:Of}{N:List (List Int)}{tags:List Int}:∀(s t:List UInt8) (a:Nat) (u:List UInt8),dv o N tags (s++t) a u=
 if(dv o N tags s a u).2.2.2≠0 then dv o N tags s a u else((dv o N tags s a u).1++(dv o N tags t (dv o N tags s a u).2.1 (dv o N tags s a u).2.2.1).1,(dv o N tags t (dv o N tags s a u).2.1 (dv o N tags s a u).2.2.1).2)
 | [],t,a,u=>by
  show dv o N tags t a u=if(0:Int)≠0 then _ else _
  rw[if_neg akh];rfl
 | b::s,t,a,u=>by
  rw[jf,iL,iL];generalize dE o N tags (u.length+2) a (u++[b])=D at*
  by_cases c1:D.2.2.2≠0
  rw[if_pos c1,if_pos c1,if_pos (show(9:Int)≠0 by decide)];rw[if_neg c1,if_neg c1]
  by_cases c2:64<D.2.2.1.length
  rw[if_pos c2,if_pos c2,if_pos (show(10:Int)≠0 by decide)];rw[if_neg c2,if_neg c2];dsimp only;rw[Gl s t]
  by_cases c3:(dv o N tags s D.2.1 D.2.2.1).2.2.2≠0
  rw[if_pos c3,if_pos c3];rw[if_neg c3,if_neg c3];dsimp only;rw[dZ]
def iF(o:Of)(N:List (List Int))(tags:List Int):Nat->Nat->List UInt8->List Tok×Nat×Int
 |0,a,_=>([],a,0)
 |f+1,a,u=>if u=[]then([],a,0)else if(dG o N tags u).1.2=0 then([],a,9)else(((dG o N tags u).1.1,a,a+(dG o N tags u).1.2)::(iF o N tags f (a+(dG o N tags u).1.2) (u.drop (dG o N tags u).1.2)).1,(iF o N tags f (a+(dG o N tags u).1.2) (u.drop (dG o N tags u).1.2)).2)
theorem AE(o:Of)(N:List (List Int))(tags:List Int)(f a:Nat)(u:List UInt8):iF o N tags (f+1) a u=if u=[]then([],a,0)else if(dG o N tags u).1.2=0 then([],a,9)else(((dG o N tags u).1.1,a,a+(dG o N tags u).1.2)::(iF o N tags f (a+(dG o N tags u).1.2) (u.drop (dG o N tags u).1.2)).1,(iF o N tags f (a+(dG o N tags u).1.2) (u.drop (dG o N tags u).1.2)).2):=rfl
theorem Uc{o:Of}{N:List (List Int)}{tags:List Int}{full:List UInt8}:∀(f a:Nat) (u:List UInt8) (F:Nat),u.length<f->full.drop a=u->a+u.length=full.length->full.length<a+F->
 ((iF o N tags f a u).2.2=9/\oV o N tags full F a=((iF o N tags f a u).1,(iF o N tags f a u).2.1,9))\/((iF o N tags f a u).2=(full.length,0)/\oV o N tags full F a=((iF o N tags f a u).1,0,0))
 |0,_,_,_,h,_,_,_=>by omega
 | f +1,a,u,F,h,hu,hl,hF=>by
  obtain⟨F,rfl⟩:∃F',F=F'+1:=⟨F-1,by omega⟩;rw[AE,Ge]
  by_cases c1:u=[]
  ·rw[if_pos c1]
   subst c1;have:a=full.length:=by simpa using hl
   rw[if_neg J];exact .inr ⟨by rw[this],rfl⟩
  rw[if_neg c1];have An:=aaO.2 c1;rw[if_pos (show a<full.length by omega)];have e:=qZ (o:=o) (N:=N) (tags:=tags) a u 0 0 0 0 0 (.inl ⟨rfl,rfl⟩);have e1:nt o N tags full a=jv o N tags u (a+0) 0 0 0:=by unfold nt;rw[hu];rfl
  rw[<-e1]at e;have e2:jv o N tags u 0 0 0 0=(dG o N tags u).1:=rfl;rw[e2]at e
  by_cases c2:(dG o N tags u).1.2=0
  ·rw[if_pos c2]
   have h4:=(e.2.resolve_right λh=>h.1 c2).2;rw[if_pos h4];exact .inl ⟨rfl,rfl⟩
  rw[if_neg c2];have h4:=(e.2.resolve_left λh=>c2 h.1).2;have hto:=(sx o N tags u).resolve_left c2;have Ur:(u.drop (dG o N tags u).1.2).length=u.length-(dG o N tags u).1.2:=ic ..;rw[if_neg J,h4,e.1];rcases Uc (full:=full) f (a+(dG o N tags u).1.2) (u.drop (dG o N tags u).1.2) F J (by rw[<-kI,hu]) J J with ih|ih
  exact .inl ⟨ih.1,by rw[ih.2]⟩;exact .inr ⟨ih.1,by rw[ih.2]⟩
theorem IR{o:Of}{N:List (List Int)}{tags:List Int}:∀(f a:Nat) (u:List UInt8),(dE o N tags f a u).1.length+a<=(dE o N tags f a u).2.1
 |0,a,_=>by show 0+a<=a;omega
 | f +1,a,u=>by
  rw[qm]
  by_cases c:(dG o N tags u).2=aC
  ·rw[if_pos c]
   by_cases c2:(dG o N tags u).1.2=0
   rw[if_pos c2];show 0+a<=a;omega;rw[if_neg c2];have ih:=IR (o:=o) (N:=N) (tags:=tags) f (a+(dG o N tags u).1.2) (u.drop (dG o N tags u).1.2);dsimp only[db];omega
  rw[if_neg c];show 0+a<=a;omega
theorem AF{o:Of}{N:List (List Int)}{tags:List Int}:∀(s:List UInt8) (a:Nat) (u:List UInt8),(dv o N tags s a u).1.length+a<=(dv o N tags s a u).2.1/\(dv o N tags s a u).2.1+(dv o N tags s a u).2.2.1.length<=a+u.length+s.length
 |[],a,u=>⟨by show 0+a<=a;omega,by show a+u.length<=a+u.length+0;omega⟩
 | b ::s,a,u=>by
  have h1:=IR (o:=o) (N:=N) (tags:=tags) (u.length+2) a (u++[b]);have hk:=qn (o:=o) (N:=N) (tags:=tags) (u.length+2) a (u++[b]) (by rw[bI];exact mC _);have hl:(u++[b]).length=u.length+1:=by rw[bI];rfl
  rw[iL];generalize dE o N tags (u.length+2) a (u++[b])=D at*;obtain⟨d1,d2,d3,d4⟩:=D;dsimp only at h1 hk⊢;rw[db];rw[hl]at hk
  by_cases c1:d4≠0
  ·rw[if_pos c1]
   exact⟨h1,by show d2+0<=_;omega⟩
  rw[if_neg c1]
  by_cases c2:64<d3.length
  ·rw[if_pos c2]
   exact⟨h1,by show d2+0<=_;omega⟩
  rw[if_neg c2];have ih:=AF (o:=o) (N:=N) (tags:=tags) s d2 d3;have h3:d3.length=u.length+1-(d2-a):=by rw[hk.2.2.1,ic,hl]
  dsimp only;rw[bI];omega
theorem Dt{o:Of}{N:List (List Int)}{tags:List Int}:∀(f a:Nat) (u:List UInt8),(iF o N tags f a u).1.length+a<=(iF o N tags f a u).2.1/\(iF o N tags f a u).2.1<=a+u.length/\((iF o N tags f a u).2.2=0\/(iF o N tags f a u).2.2=9)
 |0,a,_=>⟨by show 0+a<=a;omega,by show a<=a+_;omega,.inl I⟩
 | f+1,a,u=>by
  rw[AE]
  by_cases c:u=[]
  rw[if_pos c];exact⟨by show 0+a<=a;omega,by show a<=a+_;omega,.inl I⟩;rw[if_neg c]
  by_cases c2:(dG o N tags u).1.2=0
  rw[if_pos c2];exact⟨by show 0+a<=a;omega,by show a<=a+_;omega,.inr I⟩;rw[if_neg c2];have ih:=Dt (o:=o) (N:=N) (tags:=tags) f (a+(dG o N tags u).1.2) (u.drop (dG o N tags u).1.2);have hto:=(sx o N tags u).resolve_left c2;rw[ic]at ih;dsimp only[db];exact⟨by omega,by omega,ih.2.2⟩
end jG
namespace ft
open aU dL eO jG bJ cD bZ gZ
open gK (Ev qG takeN)
structure e9 where
 jU:Int
 mF:Int
 dV:Nat
 jV:List UInt8
 ended:Bool
 kO:Bool
 dy:Nat
 iU:List UInt8
 lF:Int
 bad:Int
 eb:List Tok
 p:PS
 seen:Nat
 rM:Int
 sy:Bool
 wait:List Ev
 cr:Int
 gone:Int
 over:Bool
 e8:Int
 pl:Nat
def oP(jU mF:Int):e9:=⟨jU,mF,0,[],aE,aE,0,[],0,0,[],ps0,0,0,aE,[],0,0,aE,0,0⟩
def zh(b:Bool)(p:PS):PS:=if b then([],p.2)else(p.1,[])
def j0(s:e9)(e:Int)(pl:Nat):e9:={s with over:=aC,e8:=e,pl:=pl}
def xi(s:e9)(e:Int)(pl:Nat):e9:={j0 s e pl with wait:=[]}
def aij(s:e9):Nat:=s.dV-s.jV.length
def kF(s:e9)(x:List UInt8):e9×Int:=
 if s.over=aC\/s.ended=aC then(s,15)else if 1024<x.length then(s,2)
 else if s.jU<x.length then(xi s 16 s.dV,16)
 else({s with jU:=s.jU-x.length,dV:=s.dV+x.length,jV:=s.jV++x},0)
def iV(s:e9):e9×Int:=if s.over=aC\/s.ended=aC then(s,15)else({s with ended:=aC},0)
def rJ(s:e9)(n:Int):e9×Int:=if s.over=aC/\s.wait=[]then(s,15)else if n<1\/1073741824<n then(s,1)else({s with cr:=min (s.cr+n) 1073741824},0)
def gD(s:e9):Bool:=!s.over&&decide (s.wait.length<200)&&(decide (s.eb≠[])||decide (s.bad≠0)||decide (s.jV≠[])||s.ended)
def dI(s:e9)(n:Int):e9×List Ev:=
 if n<0 then(s,[])else({s with wait:=s.wait.drop (takeN s.wait s.cr n),cr:=s.cr-(takeN s.wait s.cr n:Nat),gone:=s.gone+(takeN s.wait s.cr n:Nat)},s.wait.take (takeN s.wait s.cr n))
def wQ(s:e9):Int×Nat×Bool:=if s.over=aC/\s.wait=[]then(s.e8,s.pl,aC)else(0,0,aE)
def qJ(m:Md)(b:Bool)(s:e9)(t:Int):e9×Int:=
 ({s with p:=(fG m b s.p s.seen t).2.1,seen:=if(fG m b s.p s.seen t).1=0 then s.seen+1 else s.seen,rM:=(fG m b s.p s.seen t).1,wait:=s.wait++(fG m b s.p s.seen t).2.2},(fG m b s.p s.seen t).1)
def q6(s:e9)(e:Int)(pl:Nat):e9:=if e≠0 then j0 s e pl else s
def qo(m:Md)(b:Bool)(s:e9):e9×Int:=
 ({s with p:=zh b s.p,rM:=(rH m b s.p s.seen).1,sy:=decide ((rH m b s.p s.seen).1=0),wait:=s.wait++(rH m b s.p s.seen).2},(rH m b s.p s.seen).1)
def AG(m:Md)(s:e9)(c:UInt8):List Tok×Nat×List UInt8×Int:=dv m.o m.N m.tags [c] s.dy s.iU
def IS(m:Md)(s:e9)(c:UInt8)(r:List UInt8):e9:=
 {s with jV:=r,eb:=(AG m s c).1,dy:=(AG m s c).2.1,iU:=(AG m s c).2.2.1,lF:=(AG m s c).2.2.2,bad:=(AG m s c).2.2.2}
def wR(m:Md)(s:e9):List Tok×Nat×Int:=iF m.o m.N m.tags (s.iU.length+1) s.dy s.iU
def BS(m:Md)(s:e9):e9:=
 {s with kO:=aC,eb:=(wR m s).1,dy:=(wR m s).2.1,iU:=[],lF:=if(wR m s).2.2=0 then 15 else 9,bad:=(wR m s).2.2}
def hZ(m:Md)(b:Bool)(s:e9):e9:=
 match s.eb with
 |t::r=>if mK m t<0 then {s with eb:=r}else q6 (qJ m b {s with eb:=r} (mK m t)).1 (qJ m b {s with eb:=r} (mK m t)).2 t.2.1
 | []=>if s.bad≠0 then j0 s s.bad s.dy else
  match s.jV with
  |c::r=>IS m s c r
  |[]=>if s.kO=aE then BS m s else j0 (qo m b s).1 (qo m b s).2 s.dV
def ef(m:Md)(b:Bool):Nat->e9->e9×Nat
 |0,s=>(s,0)
 |k+1,s=>if gD s=aC then((ef m b k (hZ m b s)).1,(ef m b k (hZ m b s)).2+1)else(s,0)
structure gT(m:Md)(b:Bool)(s:e9):Prop where
 jU:0<=s.jU
 we:s.jU+s.dV<=4096
 mF:0<=s.mF/\s.mF<=1000
 jV:s.dy+s.iU.length+s.jV.length<=s.dV
 iU:s.iU.length<=64
 lF:s.bad=0->s.kO=aE->s.lF=0
 seen:s.seen+s.eb.length<=s.dy
 tok:∀t∈s.eb,0<=t.1/\t.1<(m.of.length:Int)
 live:s.over=aE->s.rM=0/\s.sy=aE/\Ub m b s.p
 kO:s.kO=aC->s.jV=[]/\s.ended=aC
 ev:s.wait.any qG=aE
 WA:s.gone+s.wait.length<=(s.seen+if s.over=aC then 1 else 0)*2001
 wl:s.wait.length<=2201
 cr:0<=s.cr/\s.cr<=1073741824
 gone:0<=s.gone
theorem KZ{m:Md}{b:Bool}{T N:Nat}(h:iA m b T N){x y:Int}(hx:0<=x)(fO:x<=4096)(hy:0<=y)(hy2:y<=1000):gT m b (oP x y):=by
 refine⟨hx,by show x+0<=4096;omega,⟨hy,hy2⟩,bz _,bH _,λ_ _=>rfl,bz _,λt ht=>(by cases ht),λ_=>⟨rfl,rfl,aii h⟩,λh=>(by cases h),rfl,by simp[oP],bH _,⟨lX _,by simp[oP]⟩,lX _⟩
theorem BT{g:ep}(hP:g.aF.length<=40):∀{st:List TD} {out:List dr} {a:Nat},(∀d∈st,ry g d)->(∀x∈out,qG x=aE)->∀x∈(bR st out a).2.1,qG x=aE
 |[],out,a,_,h=>h
 | .sym x::r,out,a,_,h=>h
 | .close p::r,out,a,hd,h=>by
  have h2:∀x∈out++[((3:Int),p)],qG x=false:=λx hx=>by
   rcases fx.1 hx with hx|hx
   exact h x hx;obtain⟨h0,h1⟩:=hd _ (ia ..);rw[dO.1 hx];simp only[qG,Eo,decide_eq_false_iff_not];omega
  unfold bR;split;exact BT hP (λd Pm=>hd d (jR _ Pm)) h2;exact h2
theorem Du{k n:Int}(h1:1<=k)(h2:k<=4)(h3:0<=n)(h4:n<=1099511627776):qG (k,n)=false:=by
 simp only[qG,Eo,decide_eq_false_iff_not];omega
theorem K0{g:ep}(hg:aU.cz g=0)(hP:g.aF.length<=40){nx:Int->Int}(hn:acO g.aF nx):∀{f:Nat} {st:List TD} {out:List dr} {a:Nat},(∀d∈st,ry g d)->(∀x∈out,qG x=aE)->∀x∈(fS g.aF nx f st out a).2.1,qG x=aE
 |0,st,out,a,_,h=>h
 | f + 1,st,out,a,hd,h=>by
  have h1:=BT hP (a:=a) hd h;have hd1:=se (out:=out) (a:=a) hd;unfold fS;split;exact h1;generalize hc:(bR st out a).1=C at*;split
  ·rename_i x r
   split;exact h1;split;exact h1
   rename_i c
   obtain⟨h3,-⟩:=hn x.2 J;have h2:∀y∈(bR st out a).2.1++[((1:Int),nx x.2)],qG y=false:=λy hy=>by
    rcases fx.1 hy with hy|hy
    exact h1 y hy;rw[dO.1 hy];exact Du akh akh J J
   split;exact K0 hg hP hn (BA hg J h3 λd Pm=>hd1 d (jR _ Pm)) h2;exact h2
  exact h1
theorem K1{g:ep}{T N:Nat}{A:List (List bJ.Act)}{G:List (List Int)}(h:so g T N A G)(hP:g.aF.length<=40){col a:Nat}(hc:col<=T)(ha:a<=1000000):∀(f:Nat) {σ:List Nat} {o:List dr},σ≠[]->(∀q∈σ,q<A.length)->(∀x∈o,qG x=aE)->∀x∈(gO g.aF (jj A) (fm G) col a f σ o).2.2,qG x=aE
 |0,σ,o,_,_,_=>by unfold gO;simp
 | f + 1,σ,o,hne,hq,ho=>by
  have hd:σ.headD 0<A.length:=by
   cases σ with
   |nil=>exact absurd I hne
   |cons q σ=>exact hq q (ia ..)
  have hr:=h.right hd hc;unfold gO;generalize jj A (σ.headD 0) col=x at*
  by_cases c1:f=0/\x.1≠0
  rw[if_pos c1];simp;rw[if_neg c1]
  by_cases c2:x.1=3
  rw[if_pos c2];exact ho;rw[if_neg c2]
  by_cases c3:x.1=1
  ·rw[if_pos c3]
   split;simp;intro y hy;rcases fx.1 hy with hy|hy
   exact ho y hy;rw[dO.1 hy];exact Du akh akh J J
  rw[if_neg c3]
  by_cases c4:x.1=2
  ·rw[if_pos c4]
   have hx:0<=x.2/\x.2<(g.aF.length:Int):=by rcases hr with⟨h1,_⟩|⟨h1,_⟩|⟨_,h1,h2⟩|⟨h1,_⟩<;>omega
   cases e:CW g.aF (fm G) σ x.2 with
   |none=>simp
   | some σ'=>
    obtain⟨r1,r2,r3⟩:=KH h hx.1 hx.2 hq e;dsimp only
    by_cases c5:60<σ'.length
    rw[if_pos c5];simp;rw[if_neg c5];refine K1 h hP hc ha f r1 r3 λy hy=>?_;rcases fx.1 hy with hy|hy
    exact ho y hy;rw[dO.1 hy];exact Du akh akh J J
  rw[if_neg c4];simp
theorem K2{m:Md}{b:Bool}{T N:Nat}(h:iA m b T N){p:PS}(hp:Ub m b p){a:Nat}(ha:a<=1000000){t:Int}(ht:t<T):∀x∈(fG m b p a t).2.2,qG x=false:=by
 have hP:=(cV h.BQ).2.2.2.2.1
 cases b with
 | true=>
  obtain⟨h1,h2⟩:=hp;have hn:=(h.ll I).2.nx t.toNat;have hd:=K0 h.BQ hP hn (f:=2001) (st:=p.1) (out:=[]) (a:=0) h1 (by simp);have ho:=λR (hR:fS m.g.aF (jb m.rows t.toNat) 2001 p.1 [] 0=R) h0=>Kg h.BQ hn (f:=2001) (st:=p.1) (out:=[]) (a:=0) hR h0 h1;intro x hx;have hx:x∈(kD m.g.aF (jb m.rows t.toNat) p.1 a t).2.2:=hx;unfold kD at hx;generalize fS m.g.aF (jb m.rows t.toNat) 2001 p.1 [] 0=D at*;obtain⟨st1,o1,a1,e⟩:=D;dsimp only at hx hd;split at hx
  cases hx
  rename_i c
  have ho:=ho _ I (by simpa using c);dsimp only at ho;split at hx
  ·rename_i y r
   split at hx
   cases hx
   split at hx
   ·refine BT hP (λd Pm=>ho d (jR _ Pm)) (λz hz=>?_) x hx
    rcases fx.1 hz with hz|hz
    exact hd z hz;rw[dO.1 hz];exact Du akh akh J J
   cases hx
  cases hx
 | false=>
  obtain⟨h1,h2,h3⟩:=hp;exact K1 (h.lr I) hP J ha 2001 h1 h2 (by simp)
theorem RX{m:Md}{b:Bool}{T N:Nat}(h:iA m b T N){p:PS}(hp:Ub m b p){a:Nat}(ha:a<=1000000):∀x∈(rH m b p a).2,qG x=false:=by
 have hP:=(cV h.BQ).2.2.2.2.1
 cases b with
 |true=>
  obtain⟨h1,h2⟩:=hp;have hn:=(h.ll I).2.nx m.g.aT.toNat;have hd:=K0 h.BQ hP hn (f:=2001) (st:=p.1) (out:=[]) (a:=0) h1 (by simp);intro x hx;have hx:x∈(eO.iF m.g.aF (jb m.rows m.g.aT.toNat) p.1).2:=hx;unfold eO.iF at hx;generalize fS m.g.aF (jb m.rows m.g.aT.toNat) 2001 p.1 [] 0=D at*;obtain⟨st1,o1,a1,e⟩:=D;dsimp only at hx hd;split at hx
  cases hx
  split at hx;exact hd x hx
  cases hx
 |false=>
  obtain⟨h1,h2,h3⟩:=hp;exact K1 (h.lr I) hP (by have:=h.tT;omega) ha 2001 h1 h2 (by simp)
end ft
namespace ft
open aU dL eO jG bJ cD bZ gZ
open gK (Ev qG takeN)
section
variable{o:Of}{N:List (List Int)}{tags:List Int}{n:Int}(hn:0<n)(ht:∀t∈tags,t<n)
include hn ht
theorem IT(s:List UInt8):0<=(dG o N tags s).1.1/\(dG o N tags s).1.1<n:=zf hn ht s 0 0 0 0 (lX 0) hn
theorem tO:∀(f a:Nat) (u:List UInt8),∀t∈(dE o N tags f a u).1,0<=t.1/\t.1<n
 |0,_,_,_,h=>by cases h
 | f +1,a,u,t,h=>by
  rw[qm]at h;split at h
  ·split at h
   cases h
   rcases dC.1 h with rfl|h
   exact IT hn ht u;exact tO f _ _ t h
  cases h
theorem IU:∀(s:List UInt8) (a:Nat) (u:List UInt8),∀t∈(dv o N tags s a u).1,0<=t.1/\t.1<n
 |[],_,_,_,h=>by cases h
 | b::s,a,u,t,h=>by
  rw[iL]at h;split at h;exact tO hn ht _ _ _ t h;split at h;exact tO hn ht _ _ _ t h;rcases fx.1 h with h|h
  exact tO hn ht _ _ _ t h;exact IU s _ _ t h
theorem N6:∀(f a:Nat) (u:List UInt8),∀t∈(iF o N tags f a u).1,0<=t.1/\t.1<n
 |0,_,_,_,h=>by cases h
 | f+1,a,u,t,h=>by
  rw[AE]at h;split at h
  cases h
  split at h
  cases h
  rcases dC.1 h with rfl|h
  exact IT hn ht u;exact N6 f _ _ t h
end
theorem N7{o:Of}{N:List (List Int)}{tags:List Int}:∀(s:List UInt8) (a:Nat) (u:List UInt8),u.length<=64->(dv o N tags s a u).2.2.1.length<=64
 |[],_,_,h=>h
 | b::s,a,u,h=>by
  rw[iL];split;exact bH _;split;exact bH _;exact N7 s _ _ J
theorem Ud{a l:List Ev}(h:a.any qG=aE)(h2:∀x∈l,qG x=aE):(a++l).any qG=false:=by
 rw[List.any_append,h,tJ.2 λx hx=>by rw[h2 x hx];decide];rfl
theorem sA{s:e9}(h:gD s=aC):s.over=aE/\s.wait.length<200/\(s.eb≠[]\/s.bad≠0\/s.jV≠[]\/s.ended=aC):=by
 unfold gD at h;simp only[eX,sH,Bool.or_eq_true,decide_eq_true_eq]at h;exact⟨h.1.1,h.1.2,by rcases h.2 with((h|h)|h)|h<;>simp[h]⟩
theorem N8{m:Md}{b:Bool}{T N:Nat}(h:iA m b T N){p:PS}(hp:Ub m b p){a:Nat}{t:Int}(ht:t<T):(fG m b p a t).2.2.length<=2001/\((fG m b p a t).1≠0->(fG m b p a t).2.2=[]):=by
 have hb:(fG m b p a t).1≠0->(fG m b p a t).2.2=[]:=λh0=>by
  cases b with
  |true=>
   rcases yV (l:=m.g.aF) (nx:=jb m.rows t.toNat) (st:=p.1) (seen:=a) (t:=t) rfl with⟨h1,h2⟩|⟨x,r,o,a1,h1,h2,h3,h4,h5,h6⟩
   exact congrArg BO h2;exact absurd (congrArg F8 h6) h0
  |false=>exact Gh 2001 p.2 [] h0
 refine⟨?_,hb⟩
 by_cases c:(fG m b p a t).1=0
 exact(xh h hp ht c).2;rw[hb c];exact bH _
theorem Ue{m:Md}{b:Bool}{T N:Nat}(hk:iA m b T N){s:e9}(hs:gT m b s)(hr:gD s=aC):gT m b (hZ m b s):=by
 obtain⟨r1,r2,r3⟩:=sA hr;obtain⟨h1,h2,h3,h4,h5,h6,h7,h8,h9,LA,K3,RY,Uf,N9,N_⟩:=hs;obtain⟨l1,l2,l3⟩:=h9 r1;have hn:(0:Int)<m.of.length:=by have:=hk.some;omega
 have WI:s.seen<=4096:=by omega
 rw[r1]at RY;simp only[nX,if_false]at RY;unfold hZ
 cases e1:s.eb with
 | cons t l=>
  rw[e1]at h7 h8;simp only[db]at h7;have h8':=λu hu=>h8 u (jR _ hu);dsimp only
  by_cases c1:mK m t<0
  ·rw[if_pos c1]
   exact⟨h1,h2,h3,h4,h5,h6,by dsimp only;omega,h8',λ_=>⟨l1,l2,l3⟩,LA,K3,by dsimp only;rw[r1];simpa using RY,Uf,N9,N_⟩
  rw[if_neg c1];obtain⟨t0,t1⟩:=h8 t (ia ..);have hl:mK m t<T:=by
   unfold mK;rw[cB,bK J,kL];have:=(hk.ofs _ (b_ (show t.1.toNat<m.of.length by omega))).2;have:=hk.tT;omega
  obtain⟨g1,g2⟩:=N8 hk l3 (a:=s.seen) hl;have g3:=K2 hk l3 (a:=s.seen) J hl;have g4:=xh hk l3 (a:=s.seen) hl;unfold q6 qJ;dsimp only;generalize fG m b s.p s.seen (mK m t)=R at*;have hlen:(s.wait++R.2.2).length<=s.wait.length+2001:=by rw[bI];omega
  by_cases c2:R.1≠0
  ·rw[if_pos c2]
   unfold j0;rw[g2 c2,du,if_neg c2];exact⟨h1,h2,h3,h4,h5,h6,by dsimp only;omega,h8',λh=>(by cases h),LA,K3,by dsimp only;rw[if_pos I];omega,Uf,N9,N_⟩
  rw[if_neg c2];have c3:R.1=0:=by simpa using c2
  rw[if_pos c3];refine⟨h1,h2,h3,h4,h5,h6,by dsimp only;omega,h8',λ_=>⟨c3,l2,(g4 c3).1⟩,LA,Ud K3 g3,by dsimp only;rw[r1,bI];simp only[nX,if_false];omega,by dsimp only;omega,N9,N_⟩
 | nil =>
  rw[e1]at h7 h8 r3;simp only[gY,ne_eq,not_true_eq_false,false_or]at h7 r3;dsimp only
  by_cases c1:s.bad≠0
  ·rw[if_pos c1]
   unfold j0;exact⟨h1,h2,h3,h4,h5,h6,by dsimp only;rw[e1];simpa using h7,by dsimp only;rw[e1];exact h8,λh=>(by cases h),LA,K3,by dsimp only;rw[if_pos I];omega,Uf,N9,N_⟩
  rw[if_neg c1];have c1:s.bad=0:=by simpa using c1
  cases e2:s.jV with
  | cons c r=>
   rw[e2]at h4;simp only[db]at h4;dsimp only;unfold IS AG;have hc:=AF (o:=m.o) (N:=m.N) (tags:=m.tags) [c] s.dy s.iU;have hb:=N7 (o:=m.o) (N:=m.N) (tags:=m.tags) [c] s.dy s.iU h5;have OT:=IU (o:=m.o) (N:=m.N) (tags:=m.tags) hn hk.tag [c] s.dy s.iU;simp only[nM]at hc;generalize dv m.o m.N m.tags [c] s.dy s.iU=D at*;have tW:¬s.kO=true:=λh=>by have:=(LA h).1;rw[e2]at this;cases this
   exact⟨h1,h2,h3,by dsimp only;omega,hb,λh _=>h,by dsimp only;omega,OT,λ_=>⟨l1,l2,l3⟩,λh=>absurd h tW,K3,by dsimp only;rw[r1];simpa using RY,Uf,N9,N_⟩
  | nil=>
   rw[e2]at r3 h4;simp only[not_true_eq_false,false_or,c1]at r3;dsimp only
   by_cases c2:s.kO=aE
   ·rw[if_pos c2]
    unfold BS wR;have hc:=Dt (o:=m.o) (N:=m.N) (tags:=m.tags) (s.iU.length+1) s.dy s.iU;have OT:=N6 (o:=m.o) (N:=m.N) (tags:=m.tags) hn hk.tag (s.iU.length+1) s.dy s.iU;generalize iF m.o m.N m.tags (s.iU.length+1) s.dy s.iU=D at*;refine⟨h1,h2,h3,by dsimp only;rw[e2];simp only[gY]at h4⊢;omega,bH _,λ_ h=>(by cases h),by dsimp only;omega,OT,λ_=>⟨l1,l2,l3⟩,λ_=>⟨e2,r3⟩,K3,by dsimp only;rw[r1];simpa using RY,Uf,N9,N_⟩
   rw[if_neg c2];have g1:=Gi hk l3 (a:=s.seen);have g3:=RX hk l3 (a:=s.seen) J;unfold j0 qo;dsimp only;generalize rH m b s.p s.seen=R at*;have g2:R.2.length<=2001:=by
    by_cases c:R.1=0
    exact g1.1 c;rw[g1.2 c];exact bH _
   refine⟨h1,h2,h3,by dsimp only;rw[e2];exact h4,h5,h6,by dsimp only;rw[e1];simpa using h7,by dsimp only;rw[e1];exact h8,λh=>(by cases h),LA,Ud K3 g3,by dsimp only;rw[if_pos I,bI];omega,by dsimp only;rw[bI];omega,N9,N_⟩
theorem Wh{m:Md}{b:Bool}{s:e9}(hs:gT m b s)(e:Int)(pl:Nat):gT m b (xi s e pl):=by
 obtain⟨h1,h2,h3,h4,h5,h6,h7,h8,h9,LA,K3,RY,Uf,N9,N_⟩:=hs;refine⟨h1,h2,h3,h4,h5,h6,h7,h8,λh=>(by cases h),LA,rfl,?_,bH _,N9,N_⟩;show s.gone+((0:Nat):Int)<=(s.seen+if aC=aC then 1 else 0)*2001
 rw[if_pos I];split at RY<;>omega
theorem adD{m:Md}{b:Bool}{s:e9}(hs:gT m b s)(x:List UInt8):gT m b (kF s x).1:=by
 unfold kF;split;exact hs;split;exact hs;split;exact Wh hs _ _
 rename_i c1 c2 c3
 have c4:¬s.kO=true:=λh=>c1 (.inr (hs.kO h).2);obtain⟨h1,h2,h3,h4,h5,h6,h7,h8,h9,LA,K3,RY,Uf,N9,N_⟩:=hs;exact⟨by dsimp only;omega,by dsimp only;omega,h3,by dsimp only;rw[bI];omega,h5,h6,h7,h8,h9,λh=>absurd h c4,K3,RY,Uf,N9,N_⟩
theorem aa_{m:Md}{b:Bool}{s:e9}(hs:gT m b s):gT m b (iV s).1:=by
 unfold iV;split;exact hs;obtain⟨h1,h2,h3,h4,h5,h6,h7,h8,h9,LA,K3,RY,Uf,N9,N_⟩:=hs;exact⟨h1,h2,h3,h4,h5,h6,h7,h8,h9,λh=>⟨(LA h).1,rfl⟩,K3,RY,Uf,N9,N_⟩
theorem aa'{m:Md}{b:Bool}{s:e9}(hs:gT m b s)(n:Int):gT m b (rJ s n).1:=by
 unfold rJ;split;exact hs;split;exact hs;obtain⟨h1,h2,h3,h4,h5,h6,h7,h8,h9,LA,K3,RY,Uf,N9,N_⟩:=hs;exact⟨h1,h2,h3,h4,h5,h6,h7,h8,h9,LA,K3,RY,Uf,⟨by dsimp only;omega,by dsimp only;omega⟩,N_⟩
theorem Oa{l:List Ev}{c n:Int}(hc:0<=c)(hn:0<=n):takeN l c n<=l.length/\(takeN l c n:Int)<=c:=by
 unfold takeN;omega
theorem adE{m:Md}{b:Bool}{s:e9}(hs:gT m b s)(n:Int):gT m b (dI s n).1:=by
 unfold dI;split;exact hs
 rename_i c
 obtain⟨h1,h2,h3,h4,h5,h6,h7,h8,h9,LA,K3,RY,Uf,N9,N_⟩:=hs;obtain⟨k1,k2⟩:=Oa (l:=s.wait) N9.1 (by omega:0<=n);have FX:(s.wait.drop (takeN s.wait s.cr n)).any qG=false:=by
  rw[tJ]at K3⊢;exact λx hx=>K3 x (List.mem_of_mem_drop hx)
 refine⟨h1,h2,h3,h4,h5,h6,h7,h8,h9,LA,FX,?_,?_,⟨by dsimp only;omega,by dsimp only;omega⟩,by dsimp only;omega⟩
 ·dsimp only
  rw[ic];generalize ((s.seen:Int)+if s.over=aC then 1 else 0)=K at*;omega
 dsimp only;rw[ic];omega
end ft
namespace ft
open aU dL eO jG bJ cD bZ gZ
open gK (Ev qG takeN)
def RZ(s:e9):Nat:=2*s.jV.length+s.iU.length+s.eb.length+(if s.kO=aC then 0 else 1)+(if s.over=aC then 0 else 1)
structure Wi(s' s:e9):Prop where
 ended:s'.ended=s.ended
 cr:s'.cr=s.cr
 gone:s'.gone=s.gone
theorem Ob{m:Md}{b:Bool}{s:e9}(hr:gD s=aC):RZ (hZ m b s)+1<=RZ s/\Wi (hZ m b s) s:=by
 obtain⟨r1,r2,r3⟩:=sA hr;unfold hZ RZ;rw[r1]
 cases e1:s.eb with
 | cons t l=>
  dsimp only;split
  ·refine⟨?_,rfl,rfl,rfl⟩
   dsimp only;rw[db];simp only[nX,if_false];omega
  unfold q6 qJ;dsimp only;split
  ·refine⟨?_,rfl,rfl,rfl⟩
   unfold j0;dsimp only;rw[db];simp only[nX,if_false,if_true];omega
  refine⟨?_,rfl,rfl,rfl⟩;dsimp only;rw[db];simp only[nX,if_false];omega
 | nil =>
  dsimp only;split
  ·refine⟨?_,rfl,rfl,rfl⟩
   unfold j0;dsimp only;rw[e1];simp only[nX,if_false,if_true,gY];omega
  cases e2:s.jV with
  | cons c r=>
   dsimp only;unfold IS AG;have hc:=AF (o:=m.o) (N:=m.N) (tags:=m.tags) [c] s.dy s.iU;simp only[nM]at hc;generalize dv m.o m.N m.tags [c] s.dy s.iU=D at*;refine⟨?_,rfl,rfl,rfl⟩;dsimp only;rw[db];simp only[r1,nX,if_false,gY];omega
  | nil=>
   dsimp only;split
   ·rename_i c2
    unfold BS wR;have hc:=Dt (o:=m.o) (N:=m.N) (tags:=m.tags) (s.iU.length+1) s.dy s.iU;generalize iF m.o m.N m.tags (s.iU.length+1) s.dy s.iU=D at*;refine⟨?_,rfl,rfl,rfl⟩;dsimp only;rw[e2,c2];simp only[r1,nX,if_false,if_true,gY];omega
   refine⟨?_,rfl,rfl,rfl⟩;unfold j0 qo;dsimp only;rw[e1,e2];simp only[nX,if_false,if_true,gY];omega
theorem K4:rJ (oP 4096 1000) 1073741824=({oP 4096 1000 with cr:=1073741824},0):=by
 unfold rJ oP;simp
end ft
namespace ft
open aU dL eO jG bJ cD bZ gZ
open gK (Ev qG takeN)
theorem Wi.trans{s1 s2 s3:e9}(h:Wi s1 s2)(h':Wi s2 s3):Wi s1 s3:=⟨h.ended.trans h'.ended,h.cr.trans h'.cr,h.gone.trans h'.gone⟩
theorem IV{m:Md}{b:Bool}:∀(k:Nat) (s:e9),Wi (ef m b k s).1 s
 |0,s=>⟨rfl,rfl,rfl⟩
 |k+1,s=>by
  unfold ef;split
  ·rename_i h;exact(IV k _).trans (Ob h).2
  exact⟨rfl,rfl,rfl⟩
theorem adF(s:e9)(x:List UInt8):(kF s x).1.cr=s.cr/\(kF s x).1.gone=s.gone:=by
 unfold kF;split;exact⟨rfl,rfl⟩;split;exact⟨rfl,rfl⟩;split<;>exact⟨rfl,rfl⟩
theorem aba(s:e9):(iV s).1.cr=s.cr/\(iV s).1.gone=s.gone:=by
 unfold iV;split<;>exact⟨rfl,rfl⟩
theorem adG{m:Md}{b:Bool}{s:e9}(hs:gT m b s)(n:Int):(dI s n).1.gone=s.gone+((dI s n).2.length:Int)/\(dI s n).1.cr+(dI s n).1.gone=s.cr+s.gone/\((dI s n).2.length:Int)<=s.cr:=by
 unfold dI;split;have:=hs.cr;exact⟨by simp,rfl,by simp;omega⟩;obtain⟨h1,h2⟩:=Oa (l:=s.wait) hs.cr.1 (by omega:0<=n);have e:(s.wait.take (takeN s.wait s.cr n)).length=takeN s.wait s.cr n:=by simp;omega
 dsimp only;rw[e];exact⟨rfl,by omega,h2⟩
end ft
namespace bZ
open Go.RowKit cK dS cD jG
def im(a:Int)(u:List UInt8)(e:Int):List Value:=[av az a,str u,av az e]
def adH(c:Int)(a:Int)(u:List UInt8)(e:Int):Int:=if c≠0 then c else if a<0\/1099511627776<a\/64<u.length then 1 else if e≠0 then 15 else 0
theorem ud(o:Of)(vn vt:Value)(N:List (List Int))(tags:List Int)(a:Int)(u:List UInt8)(e:Int)(w:World)(h:WR w vn vt N tags)(ho:∀b (h:b<256),o[b]<256)(hu:u.length<=9223372036854775807):
 Calls aD 141 #[OU o vn vt,aQ (im a u e).toArray] w (bY (ret (av az (adH (AB o N tags) a u e))) w):=by
 have jw:=λw' (hg:Gr w w')=>Cy o vn vt N tags w' (h.gr hg) ho;obtain⟨⟨an,cn,rfl,-⟩,at',ct,rfl,-⟩:=h;generalize AB o N tags=c at*;unfold adH;refine enter (args:=[OU o (ap an N.length cn) (ap at' tags.length ct),aQ (im a u e).toArray]) (n:=30) Tryz.func141 I I I ?_;refine bW (bB (bP I I I λg2=>bP I I I λg3=>?_));refine zL ?_
 repeat(first|refine GA ?_|refine gV (aO (i:=0) aK.ty I I (kV _ _ _)) ?_)
 refine aV (i_ aI.en I I) (λw hm=>jw _ hm.below) I I I ?_;intro _ _;refine zL ?_
 by_cases c1:c=0
 ·rw[if_neg (by simpa using c1)]
  by_cases c2:a<0
  ·rw[if_pos (.inl c2)]
   repeat(first|refine GC ?_|refine gV (dl (b:=aE) I I (decide_eq_false (by simpa using c1))) ?_|refine gV (aB (v:=av az a) aK.ty I (aH (i:=1) I I)) ?_|refine gV (dq (b:=aC) I I (decide_eq_true c2)) ?_|refine GB ?_)
   exact dH I I I
  by_cases c3:1099511627776<a
  ·rw[if_pos (.inr (.inl c3))]
   repeat(first|refine GC ?_|refine gV (dl (b:=aE) I I (decide_eq_false (by simpa using c1))) ?_|refine gV (aB (v:=av az a) aK.ty I (aH (i:=1) I I)) ?_|refine gV (dq (b:=aE) I I (decide_eq_false c2)) ?_|refine gV (ea (b:=aC) I I (decide_eq_true c3)) ?_|refine GB ?_)
   exact dH I I I
  by_cases c4:64<u.length
  ·rw[if_pos (.inr (.inr c4))]
   repeat(first|refine GC ?_|refine gV (dl (b:=aE) I I (decide_eq_false (by simpa using c1))) ?_|refine gV (aB (v:=av az a) aK.ty I (aH (i:=1) I I)) ?_|refine gV (aB (v:=str u) aK.ty I (aH (i:=1) I I)) ?_|refine gV (dq (b:=aE) I I (decide_eq_false c2)) ?_|refine gV (ea (b:=aE) I I (decide_eq_false c3)) ?_|refine gV (ea (b:=aC) I I (decide_eq_true J)) ?_|refine GB ?_)
   exact dH I I I
  rw[if_neg J]
  by_cases c5:e=0
  ·rw[if_neg (by simpa using c5)]
   repeat(first|refine GC ?_|refine gV (dl (b:=aE) I I (decide_eq_false (by simpa using c1))) ?_|refine gV (aB (v:=av az a) aK.ty I (aH (i:=1) I I)) ?_|refine gV (aB (v:=str u) aK.ty I (aH (i:=1) I I)) ?_|refine gV (aB (v:=av az e) aK.ty I (aH (i:=1) I I)) ?_|refine gV (dq (b:=aE) I I (decide_eq_false c2)) ?_|refine gV (dl (b:=aE) I I (decide_eq_false (by simpa using c5))) ?_|refine gV (ea (b:=aE) I I (decide_eq_false c3)) ?_|refine gV (ea (b:=aE) I I (decide_eq_false J)) ?_|refine GB ?_)
   exact dH I I I
  rw[if_pos c5]
  repeat(first|refine GC ?_|refine gV (dl (b:=aE) I I (decide_eq_false (by simpa using c1))) ?_|refine gV (aB (v:=av az a) aK.ty I (aH (i:=1) I I)) ?_|refine gV (aB (v:=str u) aK.ty I (aH (i:=1) I I)) ?_|refine gV (aB (v:=av az e) aK.ty I (aH (i:=1) I I)) ?_|refine gV (dq (b:=aE) I I (decide_eq_false c2)) ?_|refine gV (dl (b:=aC) I I (decide_eq_true c5)) ?_|refine gV (ea (b:=aE) I I (decide_eq_false c3)) ?_|refine gV (ea (b:=aE) I I (decide_eq_false J)) ?_|refine GB ?_)
  exact dH I I I
 ·rw[if_pos c1]
  repeat(first|refine GC ?_|refine gV (dl (b:=aC) I I (decide_eq_true c1)) ?_|refine GB ?_)
  exact dH I I I
theorem af'{l:List Int}{k:Nat}(h:∀j (h:j<l.length),j<k->l[j]<0)(hk:l.length<=k):(l.any λx=>decide (0<=x))=false:=by
 rw[tJ];intro x hx;obtain⟨j,hj,rfl⟩:=iB.1 hx;have:=h j hj J;simp;omega
theorem Gm(o:Of)(vn vt:Value)(N:List (List Int))(tags:List Int)(s:List UInt8)(w:World)(h:WR w vn vt N tags)(hg:mE o N tags)(hs:s.length<=1000000):
 Calls aD 142 #[OU o vn vt,str s] w (bY (ret (.tuple #[av az (dG o N tags s).1.1,av az ((dG o N tags s).1.2:Int),.bool (dG o N tags s).2])) w):=by
 have wg:=λ{q} hq b=>RW hg (q:=q) hq b;have An:=hg.pos;have hlen:=hg.len;obtain⟨⟨an,cn,rfl,hn1,hn2,hn3⟩,at',ct,rfl,ht1,YC,Lp⟩:=h;unfold maxLen at hn2 YC;obtain⟨bn,N5,rfl,_,LD⟩:=hn3 J;obtain⟨bt,KU,rfl,htd⟩:=Lp J;clear hn3 Lp hg;refine enter (args:=[OU o (ap (aj ⟨bn,N5,ak⟩) N.length cn) (ap (aj ⟨bt,KU,ak⟩) tags.length ct),str s]) (n:=66) Tryz.func142 I I I ?_;refine bW (bB (bP I I I λg2=>?_));refine zL ?_
 try refine GA ?_
 unfold dG;dsimp only;generalize jX:jv o N tags s 0 0 0 0=fin;generalize WL:AC o N 0 s=sr;refine d_ (ι:=Nat×Nat×Int×Nat) (λ(i,now,r,t)=>i<=s.length/\now<N.length/\t<=i/\(t=0->r=0)/\jv o N tags (s.drop i) i (now:Int) r t=fin/\AC o N (now:Int) (s.drop i)=sr) (λ(i,now,r,t)=>[(1,str s),(2,aJ (aj ⟨g2,0,ak⟩)),(4,av az r),(5,av az (t:Int)),(7,av az (now:Int)),(12,av az s.length),(13,av az (i:Int))])
  (λ_=>[aP g2 (fc o (ap (aj ⟨bn,N5,ak⟩) N.length cn) (ap (aj ⟨bt,KU,ak⟩) tags.length ct)).toArray 30]) (λ(i,_,_,_)=>s.length-i) (0,0,0,0) ⟨bH _,An,bH _,λ_=>rfl,jX,WL⟩ ?_
 rintro⟨i,now,r,t⟩ ⟨i1,i2,i3,i6,i4,i5⟩;dsimp only at i1 i2 i3 i4 i5 i6⊢;clear jX WL
 by_cases c1:i<s.length
 ·have hne:decide (s≠[])=true:=decide_eq_true (by rintro rfl;simp at c1)
  rw[eZ c1,lC]at i4;rw[eZ c1,Gj]at i5;obtain⟨_,hw,hx0,kz,fO⟩:=wg i2 s[i];have hb:s[(i:Int).toNat]?=aj s[i]:=by rw[dF];exact bK c1
  have hcell:=af9 (vn:=ap (aj ⟨bn,N5,ak⟩) N.length cn) (vt:=ap (aj ⟨bt,KU,ak⟩) tags.length ct) o s[i];have hb8:=s[i].toNat_lt;obtain⟨u,⟨au,cu,rfl,hcu,hmu,OT⟩,hdu⟩:=Bz LD i2;have KV:=λ(L:List b9)=>jc (L:=L) hdu (j:=0) (v:= .slice au N[now].length cu) I;obtain⟨bu,adB,rfl,eP⟩:=OT J;have Hf:=λ(L:List b9)=>ib (L:=L) kC eP hw 0 _ I;have abb:∀(L:List b9),At (w:bL) L ⟨bu,adB+o[s[i].toNat]*1+0,ak⟩ (av az (xS o N (now:Int) s[i])):=λL=>by rw[hx0];exact Hf L
  clear hdu eP OT Hf hx0 LD;generalize s[i]=b at*;generalize o[b.toNat]=ob at*;generalize xS o N (now:Int) b=x at*;generalize N[now].length=wd at*
  try refine GA ?_
  refine dT ([aP g2 (fc o (ap (aj ⟨bn,N5,ak⟩) N.length cn) (ap (aj ⟨bt,KU,ak⟩) tags.length ct)).toArray 30]) (.calm 0 (.calm 1 (.calm 2 (.calm 3 (.calm 4 (.calm 5 (.calm 6 (.calm 7 (.calm 8 (.calm 9 (.calm 10 (.calm 11 (.calm 12 (.calm 13 (.done))))))))))))))) (λ_ h=>h) ?_
  repeat(first|refine GW ?_|(refine GN ?_;first|refine QW (aB aK.ty I (aH (i:=0) I (lK _ _ _))) ?_|refine QW (aY (j:=now) bM.eq aK.ty I I i2) ?_|refine QW (aB aK.ty I (KV _)) ?_|refine QW (wX bM.eq I I J hb) ?_|refine QW (iz bM.eq aK.ty I I hb8) ?_|refine QW (aB aK.ty I (aH (i:=0) I hcell)) ?_|refine QW (aY (j:=ob) bM.eq aK.ty I I hw) ?_|refine QW (aB aK.ty I (abb _)) ?_))
  by_cases q1:x<0
  ·rw[if_pos q1]at i4 i5
   subst i4 i5;rw[hne,F7]
   repeat(first|refine GC ?_|refine gV (dq (b:=aC) I I (decide_eq_true q1)) ?_|refine GB ?_)
   exact mU I I I I λw hm=>hm.ret
  rw[if_neg q1]at i4 i5;obtain⟨xn,rfl⟩:=iw (show 0<=x by omega);have hxt:xn<tags.length:=by omega
  have NE:=λ(L:List b9)=>ib (L:=L) kC htd hxt 0 _ I;rw[dF,cB (l:=tags),bK hxt,kL]at i4;generalize tags[xn]=tg at*;have aez:∀(L:List b9),At (w:bL) L ⟨bt,KU+xn*1+0,ak⟩ (av az tg):=NE
  by_cases q2:0<=tg
  ·rw[if_pos q2]at i4
   repeat(first|refine GC ?_|refine gV (dq (b:=aE) I I (decide_eq_false q1)) ?_|refine gV (aB aK.ty I (aH (i:=0) I (n' _ _ _))) ?_|refine gV (aY (j:=xn) bM.eq aK.ty I I hxt) ?_|refine gV (aB (v:=av az tg) aK.ty I (aez _)) ?_|refine gV (ff (b:=aC) I I (decide_eq_true q2)) ?_|refine gV (dW (r:=((i+1:Nat):Int)) I I J J J) ?_|refine GB ?_)
   exact bT (i+1,xn,tg,i+1) ⟨by show i+1<=s.length;omega,by show xn<N.length;omega,bz _,λh=>absurd h (y0 i),i4,i5⟩ (by show s.length-(i+1)<s.length-i;omega)
  rw[if_neg q2]at i4
  repeat(first|refine GC ?_|refine gV (dq (b:=aE) I I (decide_eq_false q1)) ?_|refine gV (aB aK.ty I (aH (i:=0) I (n' _ _ _))) ?_|refine gV (aY (j:=xn) bM.eq aK.ty I I hxt) ?_|refine gV (aB (v:=av az tg) aK.ty I (aez _)) ?_|refine gV (ff (b:=aE) I I (decide_eq_false q2)) ?_|refine gV (dW (r:=((i+1:Nat):Int)) I I J J J) ?_|refine GB ?_)
  exact bT (i+1,xn,r,t) ⟨by show i+1<=s.length;omega,by show xn<N.length;omega,by show t<=i+1;omega,i6,i4,i5⟩ (by show s.length-(i+1)<s.length-i;omega)
 ·rw[pX J]at i4 i5
  have i4:(r,t)=fin:=i4;subst i4
  by_cases e1:s=[]
  ·have hne:decide (s≠[])=false:=decide_eq_false (by simpa using e1)
   rw[hne,RE];subst e1;obtain rfl:i=0:=by simp at i1;exact i1
   obtain rfl:t=0:=by omega
   obtain rfl:=i6 rfl
   repeat(first|refine GC ?_|refine gV (pC (b:=aC) I I (decide_eq_true I)) ?_|refine GB ?_)
   exact mU I I I I λw hm=>hm.ret
  have hne:decide (s≠[])=true:=decide_eq_true e1;rw[hne,F7];have i5:(!((N.getD ((now:Int).toNat) []).any λx=>decide (0<=x)))=sr:=i5;obtain⟨u,⟨au,cu,rfl,hcu,hmu,OT⟩,hdu⟩:=Bz LD i2;have KV:=λ(L:List b9)=>jc (L:=L) hdu (j:=0) (v:= .slice au N[now].length cu) I;rw[dF,cB,bK i2,kL]at i5;clear hdu wg LD i4;generalize N[now]=row at*;unfold maxLen at hmu
  repeat(first|refine GC ?_|refine gV (pC (b:=aE) I I (decide_eq_false e1)) ?_|refine gV (aB aK.ty I (aH (i:=0) I (lK _ _ _))) ?_|refine gV (aY (j:=now) bM.eq aK.ty I I i2) ?_|refine gV (aB aK.ty I (KV _)) ?_|refine GB ?_)
  clear KV;refine rb [] ?_;refine d_ (ι:=Nat) (λk=>k<=row.length/\∀j (h:j<row.length),j<k->row[j]<0) (λk=>[(4,av az r),(5,av az (t:Int)),(53,ap au row.length cu),(54,av az row.length),(55,av az (k:Int))]) (λ_=>[]) (λk=>row.length-k) 0 ⟨bH _,λj _ h=>absurd h (mz _)⟩ ?_;rintro k ⟨k1,k2⟩
  by_cases c2:k<row.length
  ·obtain⟨bu,adB,rfl,eP⟩:=OT J
   have Hf:=λ(L:List b9)=>ib (L:=L) kC eP c2 0 _ I;have hk2:∀(h:row[k]<0),∀j (h:j<row.length),j<k+1->row[j]<0:=λh j hj hjk=>by
    by_cases e:j=k
    subst e;exact h;exact k2 j hj J
   by_cases c3:0<=row[k]
   ·have FX:(row.any λx=>decide (0<=x))=true:=List.any_eq_true.2 ⟨row[k],b_ c2,decide_eq_true c3⟩
    rw[FX]at i5;subst i5;clear hk2 FX;generalize row[k]=x at*
    repeat(first|refine GC ?_|refine gV (aY bM.eq aK.ty I I c2) ?_|refine gV (aB (v:=av az x) aK.ty I (Hf _)) ?_|refine gV (ff (b:=aC) I I (decide_eq_true c3)) ?_|refine GB ?_)
    exact mU I I I I λw hm=>hm.ret
   have hk3:=hk2 J;clear hk2;have abb:∀(L:List b9),At (w:bL) L ⟨bu,adB+k*1+0,ak⟩ (av az row[k]):=Hf;clear Hf;generalize hx:row[k]=x at*
   repeat(first|refine GC ?_|refine gV (aY bM.eq aK.ty I I c2) ?_|refine gV (aB (v:=av az x) aK.ty I (abb _)) ?_|refine gV (ff (b:=aE) I I (decide_eq_false c3)) ?_|refine GB ?_)
   exact bT (k+1) ⟨by omega,hk3⟩ (by show row.length-(k+1)<row.length-k;omega)
  rw[af' k2 J]at i5;subst i5
  try refine GA ?_
  exact mU I I I I λw hm=>hm.ret
end bZ
namespace bZ
open Go.RowKit cK dS cD jG
section
variable{P:Program}{n:Nat}{W:bL}{fr:Fr}{L:List b9}
theorem adI{fn:Func}{R:Ending->World->Prop}{t u:Tmp}{T U:TypeId}{i j g g' c c':Nat}{cs cs':Array Value}{T' U':TypeId}[hT:aK P T aC c][hU:aK P U aC c'](mO:fn.results=#[.cell t T,.cell u U])(hp:look fr t=aj (aJ (aj ⟨g,0,ak⟩)))(hi:L[i]?=aj (aP g cs T'))(hc:cs.size=c)
 (hq:look fr u=aj (aJ (aj ⟨g',0,ak⟩))) (hj:L[j]?=aj (aP g' cs' U')) (hc':cs'.size=c')
 (h:∀w,Mem W L w->R (.returned (.tuple #[.agg cs,.agg cs'])) w):E n W .ret (bodyPost P fn R) fr L:=
 B1 λa w hr sU=>⟨_,by
  have D7:=run_loadCells_list (P:=P) w ⟨g,0,ak⟩ cs.toList λj v hj=>by rw[eV,cX];exact aH hi (by simpa using hj) w sU
  have hl:(loadCells ⟨g,0,ak⟩ c).run P w= .ok cs w:=by rw[<-hc];simpa using D7
  have hv:(loadVar T ⟨g,0,ak⟩).run P w= .ok (.agg cs) w:=by simp[loadVar,hT.ty.agg,hT.ty.size,hl]
  have aga:=run_loadCells_list (P:=P) w ⟨g',0,ak⟩ cs'.toList λj v sF=>by rw[eV,cX];exact aH hj (by simpa using sF) w sU
  have hl':(loadCells ⟨g',0,ak⟩ c').run P w= .ok cs' w:=by rw[<-hc'];simpa using aga
  have JA:(loadVar U ⟨g',0,ak⟩).run P w= .ok (.agg cs') w:=by simp[loadVar,hU.ty.agg,hU.ty.size,hl']
  simp[results,mO,Array.getD_eq_getD_getElem?,hr.get t _ hp,hr.get u _ hq,asAddr,hv,JA],h w sU⟩
end
theorem Oc(a:Int)(u:List UInt8)(w:World):(df 164 #[(0,av az a),(1,str u)]).run aD w= .ok (aQ (im a u 0).toArray) w:=by
 unfold im str;go_simp
theorem Cz(a e:Int)(w:World):(df 164 #[(0,av az a),(2,av az e)]).run aD w= .ok (aQ (im a [] e).toArray) w:=by
 unfold im str;go_simp
theorem R0(r a b:Int)(w:World):(df 53 #[(0,av az r),(1,av az a),(2,av az b)]).run aD w= .ok (aQ #[av az r,av az a,av az b]) w:=by
 go_simp
theorem IW(a:Nat)(u:List UInt8)(e r:Int)(t:Nat)(w:World)(ha:a<=9223372036854775)(ht:t<=u.length)(hu:u.length<=1000000):
 Calls aD 143 #[aQ (im a u e).toArray,av az r,av az (t:Int)] w (bY (ret (.tuple #[aQ (im ((a+t:Nat):Int) (u.drop t) 0).toArray,aQ (tM (r,a,a+t)).toArray])) w):=by
 have hb:=R0 r a ((a+t:Nat):Int);have OO:=Oc ((a+t:Nat):Int) (u.drop t);refine enter (args:=[aQ (im a u e).toArray,av az r,av az (t:Int)]) (n:=25) Tryz.func143 I I I ?_;refine bW (bB (bP I I I λg3=>a8 I λg6=>a8 I λg7=>?_));refine zL ?_
 repeat(first|refine GC ?_|refine gV (aB (v:=av az (a:Int)) aK.ty I (aH (i:=0) I I)) ?_|refine gV (dW (r:=((a+t:Nat):Int)) I I J J J) ?_|refine gV (bD I hb) ?_|refine GB ?_)
 refine a8 I λg8=>?_;refine zL ?_;refine ij 3 (cs':=(tM (r,a,a+t)).toArray) ?_;refine zL ?_
 try refine GA ?_
 refine dT ([aP g3 (im a u e).toArray 164,aP g8 (tM (r,a,a+t)).toArray 53]) (.calm 0 (.calm 1 (.calm 2 (.calm 3 (.calm 4 (.calm 5 (.calm 6 (.calm 7 (.one 8 (.one 9 (.done))))))))))) (bX [0,3]) ?_
 repeat(first|refine GW ?_|(refine GN ?_;first|refine QW (aB (v:=av az ((a+t:Nat):Int)) aK.ty I (aH (i:=1) I I)) ?_|refine QW (aB (v:=str u) aK.ty I (aH (i:=0) I I)) ?_|refine QW (DZ bM.eq I I ht) ?_|refine QW (bD I OO) ?_|refine QW (aO (i:=1) aK.ty I I I) ?_))
 refine aL I ?_;refine ij 1 (cs':=(im ((a+t:Nat):Int) (u.drop t) 0).toArray) ?_;refine zL ?_;refine aM (bX [0,3]) ?_
 try refine GW ?_
 refine aL I ?_;refine ij 2 (cs':=(tM (r,a,a+t)).toArray) ?_;refine zL ?_;refine aM (bX [0,3]) ?_
 try refine GW ?_
 try refine GA ?_
 exact adI (i:=1) (j:=2) I I I I I I I λw hm=>hm.ret
end bZ
namespace bZ
open Go.RowKit cK dS cD jG
def IX(R:List Tok×Nat×List UInt8×Int):Spec Value:=⟨λ_=>True,λv=> .tuple #[aQ (im (R.2.1:Int) R.2.2.1 R.2.2.2).toArray,v,av az R.2.2.2],λv=>[Gg v R.1]⟩
theorem Ug{c:Int}{a:Nat}{u:List UInt8}(hc:c=0)(ha:a<=1099511627776)(hu:u.length<=64):adH c a u 0=0:=by
 unfold adH;rw[if_neg (by simpa using hc),if_neg J,if_neg akh]
theorem sub_one{l:List UInt8}{i:Nat}(h:i<l.length):(l.drop i).take (i+1-i)=[l[i]]:=by
 rw[Nat.add_sub_cancel_left,eZ h];rfl
theorem Hg(o:Of)(vn vt:Value)(N:List (List Int))(tags:List Int)(a0:Nat)(u0:List UInt8)(s:List UInt8)(w:World)(h:WR w vn vt N tags)(hc:AB o N tags=0)(ho:∀b (h:b<256),o[b]<256)(ha0:a0<=1099511627776)(hu0:u0.length<=64)(hs:s.length<=2000):
 Calls aD 106 #[OU o vn vt,aQ (im (a0:Int) u0 0).toArray,str s] w (bY (IX (dv o N tags s a0 u0)) w):=by
 have jw:=λw' (hg:Gr w w')=>ud o vn vt N tags (a0:Int) u0 0 w' (h.gr hg) ho J;rw[Ug hc ha0 hu0]at jw;have Cc:=λ(u:List UInt8) (hu:u.length<=65) w' (hg:Gr w w')=>Gm o vn vt N tags u w' (h.gr hg) (sv hc) J;have hcut:=λa u r t w' (ha:a<=9223372036854775) ht hu=>IW a u 0 r t w' ha ht hu;have hbE:=Cz;obtain⟨⟨an,cn,rfl,-⟩,at',ct,rfl,-⟩:=h;refine enter (args:=[OU o (ap an N.length cn) (ap at' tags.length ct),aQ (im (a0:Int) u0 0).toArray,str s]) (n:=79) Tryz.func106 I I I ?_;refine bW (bB (bP I I I λg3=>bP I I I λg4=>a8 I λg6=>?_));refine zL ?_
 repeat(first|refine GA ?_|refine gV (aO (i:=0) aK.ty I I (kV _ _ _)) ?_|refine gV (aO (i:=1) aK.ty I I I) ?_)
 refine aV (fB aI.en I I I) (λw hm=>jw _ hm.below) I I I ?_;intro _ _;refine zL ?_;clear jw
 repeat(first|refine GC ?_|refine gV (dl (b:=aE) I I (decide_eq_false akh)) ?_|refine gV (ea (b:=aE) I I (decide_eq_false J)) ?_|refine GB ?_)
 refine jd 53 3 ?_
 conv=>arg 7;simp only[zA,zB,zC,zD,zE,zF,zG,zH,zI,cI,ret,id_eq]
 generalize jX:dv o N tags s a0 u0=fin;refine d_ (ι:=Nat×Nat×List UInt8×List Tok×Value) (λ(i,a,u,out,_)=>i<=s.length/\u.length<=64/\a+u.length<=1099511627840+i/\out.length<=a/\(out++(dv o N tags (s.drop i) a u).1,(dv o N tags (s.drop i) a u).2)=fin) (λ(i,_,_,_,v)=>[(2,str s),(3,aJ (aj ⟨g3,0,ak⟩)),(4,aJ (aj ⟨g4,0,ak⟩)),(6,aJ (aj ⟨g6,0,ak⟩)),(10,v),(28,av az s.length),(29,av az (i:Int))])
  (λ(_,a,u,out,v)=>[aP g3 (fc o (ap an N.length cn) (ap at' tags.length ct)).toArray 30,aP g4 (im (a:Int) u 0).toArray 164,aP g6 (im 0 [] 0).toArray 164,Gg v out]) (λ(i,_,_,_,_)=>s.length-i) (0,a0,u0,[],ap ak 0 0) ⟨bH _,hu0,by show a0+u0.length<=_;omega,bH _,by rw[List.drop_zero,jX];rfl⟩ ?_
 clear jX;rintro⟨i,a1,u1,ig,v1⟩ ⟨i1,i2,i3,i4,i5⟩;dsimp only at i1 i2 i3 i4 i5⊢
 by_cases c1:i<s.length
 ·have lf:=sub_one c1
  rw[eZ c1]at i5;generalize s[i]=b at*;have hstep:=Wg i5;clear i5
  try refine GA ?_
  refine dT ([]) (.calm 0 (.calm 2 (.calm 3 (.calm 4 (.calm 5 (.calm 6 (.one 1 (.calm 7 (.calm 8 (.one 9 (.done))))))))))) (bX []) ?_
  repeat(first|(refine GN ?_;first|refine QW QP ?_|refine QW (Ux (j:=i+1) bM.eq I I I J J) ?_|refine QW (dW (r:=((i+1:Nat):Int)) I I J J J) ?_|refine GX ?_)|refine GW ?_)
  rw[lf];refine aL I (dx (aB (v:=str u1) aK.ty I (aH (i:=1) I I)) I I I (aM (bX []) ?_))
  repeat(first|refine GW ?_|(refine GN ?_;first|refine QW (Hy I I (by show u1.length+1<=_;omega)) ?_))
  refine aL I ?_;refine bV (i:=1) I I I I I I ?_;refine zL ?_;refine aM (bX []) ?_
  try refine GW ?_
  try refine GA ?_
  generalize hD:dE o N tags (u1.length+2) a1 (u1++[b])=D at hstep;refine d_ (ι:=Nat×Nat×List UInt8×List Tok×Value) (λ(f,a,u,out,_)=>u.length<f/\u.length<=65/\a+u.length<=1099511627840+i+1/\out.length<=a/\(out++(dE o N tags f a u).1,(dE o N tags f a u).2)=(ig++D.1,D.2)) (λ(_,_,_,_,v)=>[(2,str s),(3,aJ (aj ⟨g3,0,ak⟩)),(4,aJ (aj ⟨g4,0,ak⟩)),(6,aJ (aj ⟨g6,0,ak⟩)),(10,v),(28,av az s.length),(29,av az (i:Int))])
   (λ(_,a,u,out,v)=>[aP g3 (fc o (ap an N.length cn) (ap at' tags.length ct)).toArray 30,aP g4 (im (a:Int) u 0).toArray 164,aP g6 (im 0 [] 0).toArray 164,Gg v out]) (λ(f,_,_,_,_)=>f) (u1.length+2,a1,u1++[b],ig,v1) ⟨by show(u1++[b]).length<_;rw[bI];exact mC _,by show(u1++[b]).length<=65;rw[bI];simp;omega,by show a1+(u1++[b]).length<=_;rw[bI];simp;omega,i4,by rw[hD]⟩ ?_
  clear hD;rintro⟨f,a,u,out,v⟩ ⟨j1,j2,j3,j4,j5⟩;dsimp only at j1 j2 j3 j4 j5⊢;obtain⟨f,rfl⟩:∃f',f=f'+1:=⟨f-1,by omega⟩;rw[qm]at j5;have hto:=sx o N tags u;have Lu:=Cc u j2;generalize dG o N tags u=lk at*;obtain⟨⟨r,t⟩,sr⟩:=lk;dsimp only at hto Lu j5
  repeat(first|refine GA ?_|refine gV (aO (i:=0) aK.ty I I (kV _ _ _)) ?_|refine gV (aB (v:=str u) aK.ty I (aH (i:=1) I I)) ?_)
  refine aV (fB aI.en I I I) (λw hm=>Lu _ hm.below) I I I ?_;intro _ _;refine zL ?_
  cases sr with
  | false=>
   rw[if_neg akh]at j5;have j5:(out++[],a,u,(0:Int))=(ig++D.1,D.2):=j5;rw[du]at j5;obtain⟨_,k2,k3⟩:=hstep out a u 0 j5;clear hstep j5 Lu
   by_cases c2:64<u.length
   ·have k4:=k2 I c2
    subst k4
    repeat(first|refine GC ?_|refine gV (aB (v:=str u) aK.ty I (aH (i:=1) I I)) ?_|refine gV (ea (b:=aC) I I (decide_eq_true J)) ?_|refine gV (aB (v:=av az (a:Int)) aK.ty I (aH (i:=1) I I)) ?_|refine gV (bD I (hbE _ _)) ?_|refine GB ?_)
    refine ij 2 (cs':=(im (a:Int) [] 10).toArray) ?_;refine zL ?_
    try refine GA ?_
    exact fC (i:=2) I I I I I I λw hm=>hm.meets (S:=IX (out,a,[],10)) v trivial [3] akh I
   have k4:=k3 I c2
   repeat(first|refine GC ?_|refine gV (aB (v:=str u) aK.ty I (aH (i:=1) I I)) ?_|refine gV (ea (b:=aE) I I (decide_eq_false J)) ?_|refine GB ?_)
   exact bT (i+1,a,u,out,v) ⟨by show i+1<=s.length;omega,by show u.length<=64;omega,by show a+u.length<=1099511627840+(i+1);omega,j4,k4⟩ (by show s.length-(i+1)<s.length-i;omega)
  | true=>
   rw[if_pos I]at j5
   by_cases c2:t=0
   ·rw[if_pos c2]at j5
    have j5:(out++[],a,u,(9:Int))=(ig++D.1,D.2):=j5;rw[du]at j5;have k4:=(hstep out a u 9 j5).1 akh;clear hstep j5 Lu;subst k4 c2
    repeat(first|refine GC ?_|refine gV (cZ (b:=aC) I I (decide_eq_true I)) ?_|refine gV (aB (v:=av az (a:Int)) aK.ty I (aH (i:=1) I I)) ?_|refine gV (bD I (hbE _ _)) ?_|refine GB ?_)
    refine ij 2 (cs':=(im (a:Int) [] 9).toArray) ?_;refine zL ?_
    try refine GA ?_
    exact fC (i:=2) I I I I I I λw hm=>hm.meets (S:=IX (out,a,[],9)) v trivial [3] akh I
   rw[if_neg c2]at j5;have ht:=hto.resolve_left c2;have hct:=hcut a u r t;have Ur:(u.drop t).length=u.length-t:=ic ..;clear Lu Cc hcut
   repeat(first|refine GC ?_|refine gV (cZ (b:=aE) I I (decide_eq_false J)) ?_|refine GB ?_)
   refine a8 I λg15=>?_;refine zL ?_
   repeat(first|refine GA ?_|refine gV (aO (i:=1) aK.ty I I I) ?_)
   refine aV (sV aI.en I I I I) (λw hm=>hct w J ht.2 J) I I I ?_;intro _ _;refine zL ?_
   try refine GA ?_
   refine ij 1 (cs':=(im ((a+t:Nat):Int) (u.drop t) 0).toArray) ?_;refine zL ?_
   try refine GA ?_
   refine ij 4 (cs':=(tM (r,a,a+t)).toArray) ?_;refine zL ?_
   repeat(first|refine GA ?_|refine gV (aO (i:=4) aK.ty I I I) ?_)
   refine jO (i:=3) I I I I I I I (λz h=>by cases h;rfl) J J I λz v2=>?_;refine zL ?_
   try refine GA ?_
   refine dm [0,1,2,3] ?_;exact bT (f,a+t,u.drop t,out++[(r,a,a+t)],v2) ⟨by show(u.drop t).length<f;omega,by show(u.drop t).length<=65;omega,by show a+t+(u.drop t).length<=1099511627840+i+1;omega,by show(out++[(r,a,a+t)]).length<=a+t;rw[bI];simp;omega,by rw[dZ];exact j5⟩ (by show f<f+1;omega) (hl:=by dsimp only;rw[IP];rfl)
 ·rw[pX J]at i5
  have i5:(ig++[],a1,u1,0)=fin:=i5;rw[du]at i5;subst i5
  repeat(first|refine GA ?_|refine gV (aO (i:=1) aK.ty I I I) ?_)
  refine ij 2 (cs':=(im (a1:Int) u1 0).toArray) ?_;refine zL ?_
  try refine GA ?_
  exact fC (i:=2) I I I I I I λw hm=>hm.meets (S:=IX (ig,a1,u1,0)) v1 trivial [3] akh I
end bZ
namespace jG
open Go.RowKit cK dS bZ cD nu
theorem IY{o:Of}{N:List (List Int)}{tags:List Int}:∀(s:List UInt8) (a:Nat) (u:List UInt8),(dG o N tags u).2=aE->(dv o N tags s a u).2.2.2=0->
 a<=(dv o N tags s a u).2.1/\(dv o N tags s a u).2.1<=a+(u++s).length/\(dv o N tags s a u).2.2.1=(u++s).drop ((dv o N tags s a u).2.1-a)/\(dG o N tags (dv o N tags s a u).2.2.1).2=aE
 |[],a,u,h,_=>⟨bz _,yC _ _,by show u=(u++[]).drop (a-a);simp,h⟩
 | b ::s,a,u,h,he=>by
  rw[iL]at he⊢;have hk:=qn (o:=o) (N:=N) (tags:=tags) (u.length+2) a (u++[b]) (by rw[bI];exact mC _);generalize dE o N tags (u.length+2) a (u++[b])=D at*;obtain⟨d1,d2,d3,d4⟩:=D;dsimp only at hk he⊢;obtain⟨k1,k2,k3,k4⟩:=hk
  by_cases c1:d4≠0
  rw[if_pos c1]at he;cases he;rw[if_neg c1]at he⊢
  by_cases c2:64<d3.length
  rw[if_pos c2]at he;cases he;rw[if_neg c2]at he⊢;dsimp only at he⊢;have k5:=(k4.resolve_left J).2;obtain⟨m1,m2,m3,m4⟩:=IY s d2 d3 k5 he;have hl:(u++[b]).length=u.length+1:=by rw[bI];rfl
  have HJ:d3.length=u.length+1-(d2-a):=by rw[k3,ic,hl]
  have Y4:(u++b::s).length=u.length+1+s.length:=by rw[bI,db];omega
  have hl4:(d3++s).length=d3.length+s.length:=bI ..;rw[hl]at k2;refine⟨by omega,by omega,?_,m4⟩;rw[m3];have e1:u++b::s=(u++[b])++s:=by simp
  have e2:d3++s=((u++[b])++s).drop (d2-a):=by
   rw[KO J,k3]
  rw[e2,e1,kI]
  congr 1;omega
end jG
namespace bZ
open Go.RowKit cK dS cD jG
end bZ
namespace jG
open Go.RowKit cK dS bZ cD
theorem look_nil(o:Of)(N:List (List Int))(tags:List Int):(dG o N tags []).2=false:=rfl
end jG
namespace ft
open aU dL eO jG bJ cD bZ gZ
open gK (Ev qG takeN)
def aik(m:Md)(b:Bool)(s:e9)(out:List Ev)(D:List UInt8):Prop:=
  ∃ done,OV m b done ps0 0 []=(ak,out++s.wait,s.p,s.seen)/\
    ((s.kO=aE/\∃F,D=F++s.jV/\dv m.o m.N m.tags F 0 []=(done++s.eb,s.dy,s.iU,s.bad))\/
     (s.kO=aC/\∃L1 a u L2,dv m.o m.N m.tags D 0 []=(L1,a,u,0)/\iF m.o m.N m.tags (u.length+1) a u=(L2,s.dy,s.bad)/\done++s.eb=L1++L2))
def Told(m:Md)(b:Bool)(D:List UInt8)(fin:Bool)(evs:List Ev)(e:Int)(pl:Nat):Prop:=
 ∀more,(fin=aC->more=[])->(e≠10\/D.length<=64->rI m b (D++more)=(evs,e,pl))/\∃E,(rI m b (D++more)).1=evs++E
structure abc(m:Md)(b:Bool)(s:e9)(out:List Ev)(D:List UInt8):Prop where
 dV:s.dV=D.length
 live:s.over=aE->aik m b s out D
 told:s.over=aC->Told m b D s.ended (out++s.wait) s.e8 s.pl
theorem IZ{o:Of}{N:List (List Int)}{tags:List Int}:∀(s:List UInt8) (a:Nat) (u:List UInt8),(dv o N tags s a u).2.2.2=0\/(dv o N tags s a u).2.2.2=9\/(dv o N tags s a u).2.2.2=10
 |[],_,_=> .inl I
 | b::s,a,u=>by
  rw[iL];split;exact .inr (.inl I);split;exact .inr (.inr I);exact IZ s _ _
theorem Od{o:Of}{N:List (List Int)}{tags:List Int}:∀(s:List UInt8) (a:Nat) (u:List UInt8),u.length+s.length<=64->(dv o N tags s a u).2.2.2≠10
 |[],_,_,_=>(by decide:(0:Int)≠10)
 | b ::s,a,u,h=>by
  have h:u.length+(s.length+1)<=64:=h;have hd:=qn (o:=o) (N:=N) (tags:=tags) (u.length+2) a (u++[b]) (by simp);have hl:(dE o N tags (u.length+2) a (u++[b])).2.2.1.length<=u.length+1:=by
   simp_all
  rw[iL];split;exact(by decide:(9:Int)≠10);split;omega;exact Od s _ _ J
section
variable{m:Md}{b:Bool}{T N:Nat}(hk:iA m b T N)
theorem I0{L:List Tok×Nat×Int}{n:Nat}{l z:List Tok}{p:PS}{a:Nat}{out:List Ev}(h:OV m b l ps0 0 []=(ak,out,p,a))(hL:L.1=l++z):∃E,(tN m b L n).1=out++E:=by
 have ha:=AD (m:=m) (b:=b) z l ps0 0 [];rw[h,<-hL]at ha;dsimp only at ha;obtain⟨E,hE⟩:=KY (m:=m) (b:=b) z p a out;unfold tN;rw[ha];generalize OV m b z p a out=R at*;obtain⟨q,o,p',a'⟩:=R;dsimp only at hE;subst hE
 cases q with
 |some x=>exact⟨E,rfl⟩
 |none=>
  dsimp only;split;exact⟨E,rfl⟩;exact⟨E++_,dZ _ _ _⟩
theorem Wj{L:List Tok×Nat×Int}{n:Nat}{l z:List Tok}{t:Tok}{p:PS}{a:Nat}{out:List Ev}(h:OV m b l ps0 0 []=(ak,out,p,a))(hL:L.1=l++(t::z))(h1:¬mK m t<0)(h2:(fG m b p a (mK m t)).1≠0):tN m b L n=(out,(fG m b p a (mK m t)).1,t.2.1):=by
 simp_all[AD,sw,if_neg,tN]
include hk
theorem Uh{F z:List UInt8}{L:List Tok}{a:Nat}{u:List UInt8}{e:Int}(h:dv m.o m.N m.tags F 0 []=(L,a,u,e)):(e=9->BR m.o m.N m.tags (F++z)=(L,a,9))/\∃r,(BR m.o m.N m.tags (F++z)).1=L++r:=by
 obtain⟨h1,F',_,h2⟩:=Gk (sv hk.mw) (full:=F++z) (m:=z) F 0 [] ((F++z).length+1) rfl J;rw[h]at h1 h2;refine⟨h1,?_⟩
 by_cases c:e=9
 simp_all[BR]
 simp_all[BR]
theorem K5{D:List UInt8}{L1 L2:List Tok}{a a':Nat}{u:List UInt8}{e:Int}(h:dv m.o m.N m.tags D 0 []=(L1,a,u,0))(h2:iF m.o m.N m.tags (u.length+1) a u=(L2,a',e)):(e=9/\BR m.o m.N m.tags D=(L1++L2,a',9))\/(e=0/\BR m.o m.N m.tags D=(L1++L2,0,0)):=by
 have hg:=sv hk.mw;have hkp:=IY (o:=m.o) (N:=m.N) (tags:=m.tags) D 0 [] (look_nil _ _ _) (by rw[h]);obtain⟨_,F',hF,hl⟩:=Gk hg (full:=D) (m:=[]) D 0 [] (D.length+1) (by simp) J;rw[h]at hkp hF hl;dsimp only[eI]at hkp hF hl;obtain⟨-,k2,k3,-⟩:=hkp;have hu:u=D.drop a:=by omega
 have hlen:a+u.length=D.length:=by simp_all
 grind[Uc,BR]
theorem agb{s:e9}(hs:gT m b s){out:List Ev}{D:List UInt8}(h:abc m b s out D)(hr:gD s=aC):abc m b (hZ m b s) out D:=by
 obtain⟨r1,r2,r3⟩:=sA hr;obtain⟨done,hgo,Oe⟩:=h.live r1;have CA:=h.dV;have tW:s.kO=aC->s.ended=true:=λh=>(hs.kO h).2
 have pq:∀more,(s.ended=aC->more=[])->∃z,(BR m.o m.N m.tags (D++more)).1=(done++s.eb)++z/\(s.bad=9->BR m.o m.N m.tags (D++more)=(done++s.eb,s.dy,9)):=λmore hm=>by
  rcases Oe with⟨_,F,rfl,hF⟩|⟨c,L1,a,u,L2,h1,h2,h3⟩
  ·obtain⟨k1,r,k2⟩:=Uh hk (z:=s.jV++more) hF
   simp_all
  obtain rfl:=hm (tW c);rw[du,h3];rcases K5 hk h1 h2 with⟨k1,k2⟩|⟨k1,k2⟩
  simp_all;exact⟨[],by rw[k2,du],λh=>by rw[k1]at h;cases h⟩
 unfold hZ
 cases e1:s.eb with
 | cons t l=>
  rw[e1]at pq Oe;have hd:∀R,OV m b [t] s.p s.seen (out++s.wait)=R->OV m b (done++[t]) ps0 0 []=R:=λR h=>by
   simp_all[AD]
  have akg:done++t::l=(done++[t])++l:=by simp
  have abd:(s.kO=aE/\∃F,D=F++s.jV/\dv m.o m.N m.tags F 0 []=((done++[t])++l,s.dy,s.iU,s.bad))\/(s.kO=aC/\∃L1 a u L2,dv m.o m.N m.tags D 0 []=(L1,a,u,0)/\iF m.o m.N m.tags (u.length+1) a u=(L2,s.dy,s.bad)/\(done++[t])++l=L1++L2):=by grind
  dsimp only
  by_cases c1:mK m t<0
  ·rw[if_pos c1]
   exact⟨CA,λ_=>⟨done++[t],hd _ (by rw[sw,if_pos c1];rfl),abd⟩,λh=>by grind⟩
  rw[if_neg c1];unfold q6 qJ
  by_cases c2:(fG m b s.p s.seen (mK m t)).1≠0
  ·rw[if_pos c2]
   have ho:(fG m b s.p s.seen (mK m t)).2.2=[]:=(N8 hk (h.live r1|>λ_=>(hs.live r1).2.2) (by
    obtain⟨t0,t1⟩:=hs.tok t (by grind);unfold mK;rw[cB,bK J,kL];have:=(hk.ofs _ (b_ (show t.1.toNat<m.of.length by omega))).2;have:=hk.tT;omega)).2 c2
   unfold j0;rw[ho,du];refine⟨CA,λh=>(by cases h),λ_ more hm=>?_⟩;obtain⟨z,hz,_⟩:=pq more hm;have hw:rI m b (D++more)=(out++s.wait,(fG m b s.p s.seen (mK m t)).1,t.2.1):=Wj (z:=l++z) hgo (by grind) c1 c2;exact⟨λ_=>hw,⟨[],by grind⟩⟩
  rw[if_neg c2];have c3:(fG m b s.p s.seen (mK m t)).1=0:=by omega
  refine⟨CA,λ_=>⟨done++[t],hd _ ?_,abd⟩,λh=>by grind⟩;rw[sw,if_neg c1,if_neg c2,if_pos c3,dZ];rfl
 | nil =>
  rw[e1,du]at pq
  by_cases c1:s.bad≠0
  ·rw[if_pos c1]
   unfold j0;refine⟨CA,λh=>(by cases h),λ_ more hm=>?_⟩;obtain⟨z,hz,h9⟩:=pq more hm;refine⟨λLA=>?_,I0 hgo hz⟩;have hb:s.bad=9:=by
    grind[IZ,Od,K5]
   show tN m b (BR m.o m.N m.tags (D++more)) _=_
   simp_all[tN]
  rw[if_neg c1];have c1:s.bad=0:=by omega
  cases e2:s.jV with
  | cons c r=>
   unfold IS AG;have hf:s.kO=false:=by
    cases h:s.kO with
    |false=>rfl
    |true=>have:=(hs.kO h).1;rw[e2]at this;cases this
   refine⟨CA,λ_=>⟨done,hgo,.inl ⟨hf,?_⟩⟩,λh=>by simp_all⟩;rcases Oe with⟨_,F,hD,hF⟩|⟨h,_⟩
   ·refine⟨F++[c],by simp_all,?_⟩
    simp_all[Gl]
   simp_all
  | nil =>
   by_cases c2:s.kO=aE
   ·rw[if_pos c2]
    unfold BS wR;refine⟨CA,λ_=>⟨done,hgo,.inr ⟨rfl,?_⟩⟩,λh=>by simp_all⟩;rcases Oe with⟨_,F,hD,hF⟩|⟨h,_⟩
    ·rw[e2,du]at hD
     subst hD;rw[e1,du,c1]at hF;exact⟨done,s.dy,s.iU,_,hF,rfl,rfl⟩
    rw[c2]at h;cases h
   rw[if_neg c2];have c2:s.kO=true:=by simp_all
   unfold j0 qo;refine⟨CA,λh=>(by cases h),λ_ more hm=>?_⟩;obtain rfl:=hm (tW c2);rcases Oe with⟨h,_⟩|⟨_,L1,a,u,L2,h1,h2,h3⟩
   simp_all;rw[e1,du]at h3;rcases K5 hk h1 h2 with⟨k1,_⟩|⟨_,k2⟩
   omega;have hw:rI m b (D++[])=(out++(s.wait++(rH m b s.p s.seen).2),(rH m b s.p s.seen).1,s.dV):=by
    rw[du];show tN m b (BR m.o m.N m.tags D) _=_
    rw[k2,<-h3];unfold tN;rw[hgo];dsimp only;rw[if_neg akh,CA,dZ]
   exact⟨λ_=>hw,⟨[],by rw[hw,du]⟩⟩
end
theorem agc{m:Md}{b:Bool}{s:e9}{out:List Ev}{D:List UInt8}(h:abc m b s out D)(n:Int):abc m b (dI s n).1 (out++(dI s n).2) D:=by
 unfold dI;split;rw[du];exact h;have e:(out++s.wait.take (takeN s.wait s.cr n))++s.wait.drop (takeN s.wait s.cr n)=out++s.wait:=by simp
 refine⟨h.dV,λho=>?_,λho=>?_⟩
 ·obtain⟨done,h1,h2⟩:=h.live ho
  exact⟨done,by simp_all,h2⟩
 have:=h.told ho;rw[<-e]at this;exact this
structure AH(m:Md)(b:Bool)(s:e9)(out:List Ev)(X:List UInt8):Prop where
 ok:gT m b s
 ex:∃D more,X=D++more/\(s.over=aE->more=[])/\(s.ended=aC->more=[])/\abc m b s out D
 quo:s.jU+s.dV=4096
theorem agd{m:Md}{b:Bool}{s:e9}{out:List Ev}{X:List UInt8}(h:AH m b s out X)(he:s.ended=aE){x:List UInt8}(h1:x.length<=1024)(h2:X.length+x.length<=4096):AH m b (kF s x).1 out (X++x)/\(kF s x).1.ended=false:=by
 obtain⟨ok,⟨D,more,hX,q1,q2,hJ⟩,hq⟩:=h;have ok2:=adD ok x;unfold kF at ok2⊢
 by_cases c1:s.over=aC
 ·rw[if_pos (.inl c1)]at ok2⊢
  exact⟨⟨ok2,⟨D,more++x,by simp_all,(λh=>by simp_all),(λh=>by simp_all),hJ⟩,hq⟩,he⟩
 have c1:s.over=false:=by simp_all
 obtain rfl:=q1 c1;rw[du]at hX;subst hX;have hc:=hJ.dV;rw[if_neg (by simp_all),if_neg J,if_neg J]at ok2⊢;refine⟨⟨ok2,⟨X++x,[],by simp,λ_=>rfl,λ_=>rfl,⟨by simp_all,λ_=>?_,λh=>by simp_all⟩⟩,by grind⟩,he⟩;obtain⟨done,g1,g2⟩:=hJ.live c1;refine⟨done,g1,?_⟩;rcases g2 with⟨g2,F,g3,g4⟩|⟨g2,_⟩
 simp_all;have:=(ok.kO g2).2;rw[he]at this;cases this
theorem adJ{m:Md}{b:Bool}{s:e9}{out:List Ev}{X:List UInt8}(h:AH m b s out X):AH m b (iV s).1 out X:=by
 obtain⟨ok,⟨D,more,hX,q1,q2,hJ⟩,hq⟩:=h;have ok2:=aa_ ok;unfold iV at ok2⊢;split at ok2
 ·rename_i c;rw[if_pos c];exact⟨ok,⟨D,more,hX,q1,q2,hJ⟩,hq⟩
 rename_i c
 rw[if_neg c];have c1:s.over=false:=by
  simp_all
 exact⟨ok2,⟨D,more,hX,q1,λ_=>q1 c1,hJ.dV,hJ.live,λh=>by simp_all⟩,hq⟩
theorem abe{m:Md}{b:Bool}(s:e9):(hZ m b s).jU+(hZ m b s).dV=s.jU+s.dV/\(hZ m b s).ended=s.ended:=by
 unfold hZ;split
 ·split
  simp;unfold q6 qJ;dsimp only;split<;>exact⟨rfl,rfl⟩
 split;exact⟨rfl,rfl⟩;split;exact⟨rfl,rfl⟩;split<;>exact⟨rfl,rfl⟩
theorem abf{m:Md}{b:Bool}{T N:Nat}(hk:iA m b T N):∀(k:Nat) {s:e9} {out:List Ev} {X:List UInt8},AH m b s out X->AH m b (ef m b k s).1 out X/\(ef m b k s).1.ended=s.ended
 |0,s,out,X,h=>⟨h,rfl⟩
 | k +1,s,out,X,h=>by
  unfold ef
  by_cases c:gD s=aC
  ·rw[if_pos c]
   obtain⟨ok,⟨D,more,hX,q1,q2,hJ⟩,hq⟩:=h;obtain⟨u1,u2⟩:=abe (m:=m) (b:=b) s;have hm:=q1 (sA c).1;obtain⟨w1,w2⟩:=abf hk k (s:=hZ m b s) (out:=out) (X:=X) ⟨Ue hk ok c,⟨D,more,hX,λ_=>hm,λ_=>hm,agb hk ok hJ c⟩,by omega⟩;exact⟨w1,w2.trans u2⟩
  simp_all
theorem age{m:Md}{b:Bool}{s:e9}{out:List Ev}{X:List UInt8}(h:AH m b s out X)(n:Int):AH m b (dI s n).1 (out++(dI s n).2) X/\(dI s n).1.ended=s.ended:=by
 obtain⟨ok,⟨D,more,hX,q1,q2,hJ⟩,hq⟩:=h;have h2:=adE ok n;have h3:=agc hJ n;have hkp:(dI s n).1.over=s.over/\(dI s n).1.ended=s.ended/\(dI s n).1.jU=s.jU/\(dI s n).1.dV=s.dV:=by
  unfold dI;split<;>exact⟨rfl,rfl,rfl,rfl⟩
 obtain⟨k1,k2,k3,k4⟩:=hkp;exact⟨⟨h2,⟨D,more,hX,by simp_all,by simp_all,h3⟩,by omega⟩,k2⟩
theorem AH.fin{m:Md}{b:Bool}{s:e9}{out:List Ev}{X:List UInt8}(h:AH m b s out X)(ho:s.over=aC)(hw:s.wait=[]):(s.e8≠10\/X.length<=64->rI m b X=(out,s.e8,s.pl))/\∃E,(rI m b X).1=out++E:=by
 obtain⟨ok,⟨D,more,rfl,q1,q2,hJ⟩,hq⟩:=h;have:=hJ.told ho more q2;rw[hw,du]at this;exact⟨λh=>this.1 (h.imp_right λh=>by rw[bI]at h;omega),this.2⟩
theorem AH.pre{m:Md}{b:Bool}{T N:Nat}(hk:iA m b T N){s:e9}{out:List Ev}{X:List UInt8}(h:AH m b s out X)(he:s.ended=aE)(z:List UInt8):(∃E,(rI m b (X++z)).1=out++E)/\(s.over=aC->s.wait=[]->s.e8≠10->rI m b (X++z)=(out,s.e8,s.pl)):=by
 obtain⟨ok,⟨D,more,rfl,q1,q2,hJ⟩,hq⟩:=h;rw[dZ]
 by_cases c:s.over=aC
 ·obtain⟨h1,E,h2⟩:=hJ.told c (more++z) (λh=>by simp_all)
  simp_all
 have c:s.over=false:=by simp_all
 refine⟨?_,λh=>by simp_all⟩;obtain⟨done,g1,g2⟩:=hJ.live c;rcases g2 with⟨_,F,rfl,hF⟩|⟨g2,_⟩
 ·obtain⟨-,r,hr⟩:=Uh hk (z:=s.jV++(more++z)) hF
  rw[<-dZ]at hr;obtain⟨E,hE⟩:=I0 (m:=m) (b:=b) (L:=BR m.o m.N m.tags ((F++s.jV)++(more++z))) (n:=((F++s.jV)++(more++z)).length) g1 (z:=s.eb++r) (by simp_all);exact⟨s.wait++E,hE.trans (dZ ..)⟩
 have:=(ok.kO g2).2;rw[he]at this;cases this
theorem agf{m:Md}{b:Bool}{T N:Nat}(hk:iA m b T N):AH m b {oP 4096 1000 with cr:=1073741824} [] []:=by
 have h:=aa' (KZ hk (x:=4096) (y:=1000) akh akh akh akh) 1073741824;rw[K4]at h;refine⟨h,⟨[],[],rfl,λ_=>rfl,λ_=>rfl,rfl,λ_=>⟨[],rfl,.inl ⟨rfl,[],rfl,rfl⟩⟩,λh=>(by cases h)⟩,rfl⟩
end ft
namespace ft
open aU dL eO jG bJ cD bZ gZ
open gK (Ev qG takeN)
structure nY(m:Md)(b:Bool)(s:e9)(out:List Ev)(X:List UInt8):Prop where
 x:AH m b s out X
 cr:s.cr+s.gone=1073741824
 gone:s.gone=(out.length:Int)
section
variable{m:Md}{b:Bool}{T N:Nat}{s:e9}{out:List Ev}{X:List UInt8}
theorem nY.we(h:nY m b s out X):out.length<=8200000:=by
 have h0:=h.x.ok;have h1:=h0.seen;have h2:=h0.jV;have h3:=h0.we;have h4:=h0.jU;have h5:=h0.WA;have h6:=h.gone;have hk:((s.seen:Int)+if s.over=aC then 1 else 0)<=4097:=by split<;>omega
 generalize ((s.seen:Int)+if s.over=aC then 1 else 0)=K at*;omega
theorem nY.data(h:nY m b s out X)(he:s.ended=aE){x:List UInt8}(h1:x.length<=1024)(h2:X.length+x.length<=4096):nY m b (kF s x).1 out (X++x)/\(kF s x).1.ended=false:=by
 obtain⟨k1,k2⟩:=agd h.x he h1 h2;obtain⟨c1,c2⟩:=adF s x;exact⟨⟨k1,by rw[c1,c2];exact h.cr,by rw[c2];exact h.gone⟩,k2⟩
theorem nY.ended(h:nY m b s out X)(he:s.ended=aE):nY m b (iV s).1 out X/\((iV s).1.ended=aC\/(iV s).1.over=aC):=by
 obtain⟨c1,c2⟩:=aba s;refine⟨⟨adJ h.x,by rw[c1,c2];exact h.cr,by rw[c2];exact h.gone⟩,?_⟩;unfold iV;split
 ·rename_i c
  rcases c with c|c
  exact .inr c;rw[he]at c;cases c
 exact .inl I
theorem nY.send(h:nY m b s out X)(n:Int):nY m b (dI s n).1 (out++(dI s n).2) X/\(dI s n).1.ended=s.ended/\(dI s n).1.over=s.over:=by
 obtain⟨k1,k2⟩:=age h.x n;obtain⟨c1,c2,_⟩:=adG h.x.ok n;refine⟨⟨k1,by rw[c2];exact h.cr,by rw[c1,h.gone,bI];omega⟩,k2,?_⟩;unfold dI;split<;>rfl
theorem agh{k:Nat}(h:gD s=aE):ef m b k s=(s,0):=by
 cases k with
 |zero=>rfl
 |succ k=>rw[ef,if_neg (by rw[h];decide)]
theorem ail{k:Nat}(h:gD s=aC):ef m b (k+1) s=((ef m b k (hZ m b s)).1,(ef m b k (hZ m b s)).2+1):=by rw[ef,if_pos h]
theorem Wk(k:Nat)(s:e9)(h:s.over=aC):ef m b k s=(s,0):=agh (by unfold gD;rw[h];rfl)
theorem nY.agi(hk:iA m b T N)(h:nY m b s out X)(k:Nat):nY m b (ef m b k s).1 out X/\(ef m b k s).1.ended=s.ended:=by
 obtain⟨k1,k2⟩:=abf hk k h.x;have c:=IV (m:=m) (b:=b) k s;exact⟨⟨k1,by rw[c.cr,c.gone];exact h.cr,by rw[c.gone];exact h.gone⟩,k2⟩
theorem Og:∀(k:Nat) (s:e9),RZ (ef m b k s).1+(ef m b k s).2<=RZ s
 |0,_=>bz _
 | k +1,s=>by
  by_cases hr:gD s=aC
  ·rw[ail hr]
   have h1:=Og k (hZ m b s);have h2:=(Ob (m:=m) (b:=b) hr).1;dsimp only;omega
  rw[agh (by simpa using hr)];exact bz _
theorem I1{k:Nat}(h:(ef m b (k+1) s).2=0):gD s=aE/\(ef m b (k+1) s).1=s:=by
 by_cases hr:gD s=aC
 rw[ail hr]at h;cases h;have hr:gD s=false:=by simpa using hr
 rw[agh hr];exact⟨hr,rfl⟩
def xU(s:e9):Nat:=RZ s*5000+s.wait.length
theorem adK{n:Int}:xU (dI s n).1+(dI s n).2.length=xU s:=by
 unfold dI;split;exact iu _;unfold xU RZ;dsimp only;rw[ic,iN];omega
theorem nY.round(hk:iA m b T N)(h:nY m b s out X)(he:s.ended=aC\/s.over=aC):
    nY m b (ef m b 37 s).1 out X/\nY m b (dI (ef m b 37 s).1 41).1 (out++(dI (ef m b 37 s).1 41).2) X/\((dI (ef m b 37 s).1 41).1.ended=aC\/(dI (ef m b 37 s).1 41).1.over=aC)/\
    (((ef m b 37 s).2=0/\(dI (ef m b 37 s).1 41).2.length=0->(dI (ef m b 37 s).1 41).1.over=aC/\(dI (ef m b 37 s).1 41).1.wait=[])/\
     (¬((ef m b 37 s).2=0/\(dI (ef m b 37 s).1 41).2.length=0)->xU (dI (ef m b 37 s).1 41).1<xU s)):=by
  obtain⟨w1,w2⟩:=h.agi hk 37;obtain⟨g1,g2,g3⟩:=w1.send 41;have hm:=adK (s:=(ef m b 37 s).1) (n:=41);have hp:=Og (m:=m) (b:=b) 37 s;have Im:=w1.x.ok.wl;refine⟨w1,g1,?_,λc=>?_,λc=>?_⟩
  · rcases he with he|he
    left;rw[g2,w2];exact he
    right;rw[g3,Wk 37 s he];exact he
  · obtain⟨c1,c2⟩:=c
    obtain⟨r1,r2⟩:=I1 c1;rw[r2]at c2 g3⊢;have hf:=h.we;have hc:=h.cr;have hg:=h.gone;have Im:=h.x.ok.wl;have ht:s.wait=[]:=by
      refine mS ?_;unfold dI at c2;rw[if_neg akh]at c2;dsimp only at c2;rw[iN]at c2;unfold takeN at c2;omega
    rw[g3]
    constructor
    · rcases he with he|he
      · unfold gD at r1
        rw[ht,he]at r1
        simpa using r1
      exact he
    unfold dI;rw[if_neg akh];dsimp only;rw[ht,List.drop_nil]
  · by_cases c1:(ef m b 37 s).2=0
    · obtain⟨_,r2⟩:=I1 c1
      rw[r2]at hm c⊢;omega
    have:xU (ef m b 37 s).1<xU s:=by unfold xU;omega
    omega
theorem aim(hk:iA m b T N):nY m b {oP 4096 1000 with cr:=1073741824} [] []:=⟨agf hk,rfl,rfl⟩
inductive ui(m:Md)(b:Bool):e9->List Ev->(List Ev×Int×Nat)->Prop
 |stop {s:e9} {out:List Ev} (h:(ef m b 37 s).2=0/\(dI (ef m b 37 s).1 41).2.length=0):ui m b s out (out++(dI (ef m b 37 s).1 41).2,(dI (ef m b 37 s).1 41).1.e8,(dI (ef m b 37 s).1 41).1.pl)
 |step {s:e9} {out:List Ev} {r:List Ev×Int×Nat} (h:¬((ef m b 37 s).2=0/\(dI (ef m b 37 s).1 41).2.length=0)) (h2:ui m b (dI (ef m b 37 s).1 41).1 (out++(dI (ef m b 37 s).1 41).2) r):ui m b s out r
theorem ui.det{s:e9}{out:List Ev}{r r':List Ev×Int×Nat}(h:ui m b s out r):ui m b s out r'->r=r':=by
 induction h with
 |stop h=>intro h';cases h' with
  |stop=>rfl
  |step g=>exact absurd h g
 |step h _ ih=>intro h';cases h' with
  |stop g=>exact absurd g h
  |step _ g2=>exact ih g2
def Oh(l:List (List UInt8)):e9:=(iV (l.foldl (λs x=>(kF s x).1) {oP 4096 1000 with cr:=1073741824})).1
structure ain(m:Md)(b:Bool)(X:List UInt8)(x:List Ev×Int×Nat):Prop where
 we:x.1.length<=8200000
 all:x.2.1≠10\/X.length<=64->rI m b X=x
 pre:∃E,(rI m b X).1=x.1++E
theorem nY.fin(h:nY m b s out X)(ho:s.over=aC)(hw:s.wait=[]):ain m b X (out,s.e8,s.pl)/\wQ s=(s.e8,s.pl,aC):=by
 obtain⟨h1,h2⟩:=h.x.fin ho hw;exact⟨⟨h.we,h1,h2⟩,if_pos ⟨ho,hw⟩⟩
end
end ft
namespace bZ
open Go.RowKit cK dS
def xV(g:Nat)(cs:List Value)(T:TypeId):b9:=
 ⟨aj g,λ_=>False,λw=>∃r:List Value,w.heap[g]?=aj (.cells (cs++r).toArray T (0,0)),λw ⟨r,h⟩ k hk=>by simp only[dh,or_false]at hk;subst hk;exact(Array.getElem?_eq_some_iff.1 h).1,
  λw w' ⟨r,h⟩ _ hb=>⟨r,by rw[hb g (.inl I)];exact h⟩⟩
section
variable{W:bL}{L:List b9}
theorem np{i g off:Nat}{cs:List Value}{T:TypeId}{v:Value}(hi:L[i]?=aj (xV g cs T))(hv:cs.toArray[off]?=aj v):At W L ⟨g,off,ak⟩ v:=λw hm=>by
 obtain⟨r,h⟩:=hm.get hi;rw[cell_of_row w g off _ T (0,0) h,jz];rw[jz]at hv;rw[iq (dg.1 hv).1];exact hv
theorem eu{i g:Nat}{C:Array Value}{cs:List Value}{T:TypeId}(hi:L[i]?=aj (aP g C T))(hC:∃r,C=(cs++r).toArray):∀w,Mem W L w->Mem W [xV g cs T] w:=λw hm=>by
 have h1:Mem W [aP g C T] w:=hm.pick [i] (by simp) (by simp[hi]);obtain⟨r,rfl⟩:=hC;exact h1.qN (i:=0) (xV g cs T) I (λw h=>⟨r,h⟩) λk h=>h
end
theorem ii(vo:Value)(pk tl r:List Value):∃q,(jE vo pk (tl++r)).toArray=(jE vo pk tl++q).toArray:=⟨r,by simp[jE]⟩
end bZ
namespace bZ
open Go.RowKit cK dS aU dL eO hY gZ bJ
theorem l7{vo:Value}{pk tl cs:List Value}(k0:Nat)(hp:pk.length=258)(hc:(tl.drop k0).take cs.length=cs){j k:Nat}{v:Value}(h:cs[j]?=aj v)(hk:k=k0+259+j):(jE vo pk tl).toArray[k]?=aj v:=by
 have hj:=(dg.1 h).1;rw[<-hc,List.getElem?_take_of_lt hj,List.getElem?_drop]at h;exact je (k0+j) hp h J
section
variable{P:Program}{n:Nat}{W:bL}{fr:Fr}{L:List b9}{Q:Exit->Act->World->Prop}{ops:Array Oper}{rest:List Oper}{ty:TypeId}{pos:String}{after:Array Edge}{t:TypeId}{p x:Operand}{i g k:Nat}{vo:Value}{pk tl:List Value}{T:TypeId}{agg:Bool}{v:Value}
theorem iW(k0:Nat){cs tl':List Value}{c:Nat}[hT:aK P t agg c](hi:L[i]?=aj (aP g (jE vo pk tl).toArray T))(hp:ev fr p=aj (aJ (aj ⟨g,k,ak⟩)))(hx:ev fr x=aj (aQ cs.toArray))(h1:cs.all eY=aC)(hc:cs.length=c)(hk:k=k0+259)(dX:pk.length=258)(hj:Nat.ble (k0+c) tl.length=aC)
 (htl:tl.take k0++cs++tl.drop (k0+c)=tl') (h:TL P n W ops Q rest fr (L.set i (aP g (jE vo pk tl').toArray T))):TL P n W ops Q (⟨ak,.store t p x,ty,pos,after,ak⟩::rest) fr L:=by
 subst hk htl;have hj:=k8 hj;refine pD hT.ty hi hp hx (by simpa[wM]using hc) (by simpa[wM]using h1) (by rw[ey,jE,db,bI];omega) ?_ h;apply q7;show vo::(pk++(tl.take k0++cs++tl.drop (k0+c)))=RG (k0+259) (vo::(pk++tl))++cs++RH (k0+259+c) (vo::(pk++tl))
 rw[show k0+259=pk.length+k0+1 by omega,sQ,show pk.length+k0+1+c=pk.length+(k0+c)+1 by omega,Bv,List.take_length_add_append,List.drop_length_add_append];simp
end
def qK:Bool->Value->PS->b9
 |true,v,p=>xz v p.1
 |false,v,p=>TU v p.2
theorem Dv{v:Value}{a e:Int}{d:Bool}(h:v.oneCell'=aC):[v,av az a,av az e,.bool d].all eY=true:=by
 simp only[cY,c_,h];rfl
end bZ
namespace bZ
open Go.RowKit cK dS aU dL eO hY gZ bJ jG ft
open gK (Ev qG takeN)
def jk(b:Bool)(s:e9)(vp vq:Value):List Value:=
 if b then [vp,av az s.seen,av az s.rM,.bool s.sy,vq,av az 0,av az 0,.bool aE]else [vq,av az 0,av az 0,.bool aE,vp,av az s.seen,av az s.rM,.bool s.sy]
theorem K6(b:Bool)(s:e9)(vp vq:Value):∃a c d e f h i j,jk b s vp vq=[a,c,d,e,f,h,i,j]:=by
 cases b<;>exact⟨_,_,_,_,_,_,_,_,rfl⟩
def rK(s:e9)(vt:Value)(pc:List Value)(vw:Value):List Value:=
 [av az s.jU,av az s.mF,av az s.dV,str s.jV,.bool s.ended,.bool s.kO,av az s.dy,str s.iU,av az s.lF,av az s.bad,vt]++(pc++[vw,av az s.cr,av az s.gone,.bool s.over,av az s.e8,av az s.pl])
abbrev qL(g:Nat)(vo:Value)(pk md:List Value)(s:e9)(vt:Value)(pc:List Value)(vw:Value):b9:=aP g (jE vo pk (md++rK s vt pc vw)).toArray 168
theorem fu{vo:Value}{pk tl:List Value}{j k:Nat}{v:Value}(hp:pk.length=258)(hk:k=j+259)(h:tl[j]?=aj v):(jE vo pk tl).toArray[k]?=aj v:=je j hp h hk
theorem qq{w:World}{L:List b9}{g k:Nat}{cs:Array Value}{T:TypeId}{v:Value}(h:(aP g cs T).holds w)(hv:cs[k]?=aj v):At w L ⟨g,k,ak⟩ v:=kJ (by rw[cell_of_row w g k cs T (0,0) h];exact hv)
def oB(B:bL)(φ:World->Prop):Prop:=∀(L:List b9) (w:World),Mem B L w->φ w
theorem oB.on{B:bL}{φ:World->Prop}(h:oB B φ){Lx:List b9}{w:World}(hm:Mem B Lx w):oB (bL.on w Lx) φ:=λL' w' h'=>h ([]++L') w' (Mem.back (R:=[]) (by rw[du];exact hm) h')
theorem xW{α:Type}{l:List α}(h:l.length=7):∃a b c d e f g,l=[a,b,c,d,e,f,g]:=by
 match l,h with
 |[a,b,c,d,e,f,g],_=>exact⟨a,b,c,d,e,f,g,rfl⟩
theorem xX{α:Type}{l:List α}(h:l.length=8):∃a b c d e f g i,l=[a,b,c,d,e,f,g,i]:=by
 match l,h with
 |[a,b,c,d,e,f,g,i],_=>exact⟨a,b,c,d,e,f,g,i,rfl⟩
section
variable{g:Nat}{vo:Value}{pk md:List Value}{vt vw:Value}{pc:List Value}(dX:pk.length=258)(oD:md.length=7)(xE:pc.length=8)
include dX oD xE
set_option maxRecDepth 100000 in
theorem pa(s:e9)(e:Int)(pl:Nat)(w:World)(B:bL)(hm:Mem B [qL g vo pk md s vt pc vw] w):
 Calls aD 103 #[aJ (aj ⟨g,0,ak⟩),av az e,av az (pl:Int)] w (da ⟨λ(_:Unit)=>True,λ_=> .tuple #[],λ_=>[qL g vo pk md (j0 s e pl) vt pc vw]⟩ B):=by
 obtain⟨m0,m1,m2,m3,m4,m5,m6,rfl⟩:=xW oD;obtain⟨p0,p1,p2,p3,p4,p5,p6,p7,rfl⟩:=xX xE;refine dB hm (args:=[aJ (aj ⟨g,0,ak⟩),av az e,av az (pl:Int)]) (n:=17) Tryz.func103 I I I ?_
 try refine GA ?_
 refine eo (i:=0) 29 I I I I I I dX I ?_
 try refine GA ?_
 refine eo (i:=0) 30 I I I I I I dX I ?_
 try refine GA ?_
 refine eo (i:=0) 31 I I I I I I dX I ?_
 try refine GA ?_
 exact jP I λw hm=>hm.cC (S:=⟨λ(_:Unit)=>True,λ_=> .tuple #[],λ_=>[qL g vo pk [m0,m1,m2,m3,m4,m5,m6] (j0 s e pl) vt [p0,p1,p2,p3,p4,p5,p6,p7] vw]⟩) () trivial [0] akh I
set_option maxRecDepth 100000 in
theorem Gn(s:e9)(e:Int)(pl:Nat)(w:World)(B:bL)(hm:Mem B [qL g vo pk md s vt pc vw] w):
 Calls aD 68 #[aJ (aj ⟨g,0,ak⟩),av az e,av az (pl:Int)] w (da ⟨λ(_:Unit)=>True,λ_=> .tuple #[],λ_=>[qL g vo pk md (xi s e pl) vt pc (ap ak 0 0),jY (ap ak 0 0) []]⟩ B):=by
 have hst:=λw' B hm=>pa (g:=g) (vo:=vo) (vt:=vt) (vw:=vw) dX oD xE s e pl w' B hm;obtain⟨m0,m1,m2,m3,m4,m5,m6,rfl⟩:=xW oD;obtain⟨p0,p1,p2,p3,p4,p5,p6,p7,rfl⟩:=xX xE;refine dB hm (args:=[aJ (aj ⟨g,0,ak⟩),av az e,av az (pl:Int)]) (n:=14) Tryz.func68 I I I ?_
 try refine GA ?_
 refine bx [0] [] akh I I (sV aI.en I I I I) (λw hm hb=>hst w _ hb) I I I ?_;intro _ _;refine zL ?_
 try refine GA ?_
 refine eo (i:=0) 26 I I I I I I dX I ?_
 try refine GA ?_
 refine dN 55 2 ?_;exact jP I λw hm=>hm.cC (S:=⟨λ(_:Unit)=>True,λ_=> .tuple #[],λ_=>[qL g vo pk [m0,m1,m2,m3,m4,m5,m6] (xi s e pl) vt [p0,p1,p2,p3,p4,p5,p6,p7] (ap ak 0 0),jY (ap ak 0 0) []]⟩) () trivial [0,1] akh I
set_option maxRecDepth 100000 in
theorem Oi(s:e9)(hs:s.dV<=9223372036854775807)(hi:s.jV.length<=s.dV)(w:World)(h:(qL g vo pk md s vt pc vw).holds w):
 Calls aD 71 #[aJ (aj ⟨g,0,ak⟩)] w (bY (ret (av az (aij s:Int))) w):=by
 obtain⟨m0,m1,m2,m3,m4,m5,m6,rfl⟩:=xW oD;obtain⟨p0,p1,p2,p3,p4,p5,p6,p7,rfl⟩:=xX xE;unfold aij;refine enter (args:=[aJ (aj ⟨g,0,ak⟩)]) (n:=13) Tryz.func71 I I I ?_
 try refine GA ?_
 refine dT ([]) (.calm 0 (.calm 1 (.calm 2 (.calm 3 (.calm 4 (.calm 5 (.calm 6 (.calm 7 (.calm 8 (.calm 9 (.calm 10 (.done)))))))))))) (w4) ?_
 repeat(first|refine GW ?_|(refine GN ?_;first|refine QW (aB aK.ty I (qq h (fu dX I I))) ?_))
 try refine GA ?_
 exact dH I I (congrArg (av .i64) (Int.ofNat_sub hi).symm)
end
end bZ
namespace bZ
open Go.RowKit cK dS aU dL eO hY gZ bJ jG ft
open gK (Ev qG takeN)
abbrev xF(g:Nat)(vo:Value)(pk md:List Value)(s:e9)(vt:Value)(pc:List Value)(vw:Value):List b9:=[qL g vo pk md s vt pc vw,jY vw s.wait]
def CZ(g:Nat)(vo:Value)(pk md:List Value)(R:e9×Int)(vt:Value)(pc:List Value):Spec Value:=⟨λ_=>True,λ_=>av az R.2,λvw=>xF g vo pk md R.1 vt pc vw⟩
section
variable{g:Nat}{vo:Value}{pk md:List Value}{vt vw:Value}{pc:List Value}(dX:pk.length=258)(oD:md.length=7)(xE:pc.length=8)
include dX oD xE
set_option maxRecDepth 100000 in
theorem K7(s:e9)(x:List UInt8)(hx:x.length<=9223372036854775807)(hb:0<=s.jU)(OO:s.jU+s.dV<=4096)(hi:s.jV.length<=s.dV)(w:World)(B:bL)(hm:Mem B (xF g vo pk md s vt pc vw) w):
 Calls aD 27 #[aJ (aj ⟨g,0,ak⟩),str x] w (da (CZ g vo pk md (kF s x) vt pc) B):=by
 have hbr:=λ(s:e9) e pl w' B hm=>Gn (g:=g) (vo:=vo) (vt:=vt) (vw:=vw) dX oD xE s e pl w' B hm;have hhd:=λ(s:e9) h1 h2 w' h=>Oi (g:=g) (vo:=vo) (vt:=vt) (vw:=vw) dX oD xE s h1 h2 w' h;obtain⟨m0,m1,m2,m3,m4,m5,m6,rfl⟩:=xW oD;obtain⟨p0,p1,p2,p3,p4,p5,p6,p7,rfl⟩:=xX xE;obtain⟨jU,mF,dV,jV,ended,kO,dy,iU,lF,bad,eb,p,seen,rM,sy,wait,cr,gone,over,e8,pl⟩:=s
 try dsimp only at*
 dsimp only[xF,qL,rK,jf,eI]at hm;unfold kF;dsimp only
 cases over with
 |true=>
  rw[if_pos (.inl I)];refine dB hm (args:=[aJ (aj ⟨g,0,ak⟩),str x]) (n:=60) Tryz.func27 I I I ?_
  repeat(first|refine GA ?_|refine gV (aB aK.ty I (aH (i:=0) I (fu dX I I))) ?_)
  exact cO I I λw hm=>hm.cC (S:=CZ g vo pk [m0,m1,m2,m3,m4,m5,m6] (⟨jU,mF,dV,jV,ended,kO,dy,iU,lF,bad,eb,p,seen,rM,sy,wait,cr,gone,aC,e8,pl⟩,15) vt [p0,p1,p2,p3,p4,p5,p6,p7]) vw trivial [0,1] akh I
 |false=>
 cases ended with
 |true=>
  rw[if_pos (.inr I)];refine dB hm (args:=[aJ (aj ⟨g,0,ak⟩),str x]) (n:=60) Tryz.func27 I I I ?_
  repeat(first|refine GA ?_|refine gV (aB aK.ty I (aH (i:=0) I (fu dX I I))) ?_)
  exact cO I I λw hm=>hm.cC (S:=CZ g vo pk [m0,m1,m2,m3,m4,m5,m6] (⟨jU,mF,dV,jV,aC,kO,dy,iU,lF,bad,eb,p,seen,rM,sy,wait,cr,gone,aE,e8,pl⟩,15) vt [p0,p1,p2,p3,p4,p5,p6,p7]) vw trivial [0,1] akh I
 |false=>
 rw[if_neg akh]
 by_cases c4:1024<x.length
 ·rw[if_pos c4]
  refine dB hm (args:=[aJ (aj ⟨g,0,ak⟩),str x]) (n:=60) Tryz.func27 I I I ?_
  repeat(first|refine GA ?_|refine gV (aB aK.ty I (aH (i:=0) I (fu dX I I))) ?_)
  exact cO I I λw hm=>hm.cC (S:=CZ g vo pk [m0,m1,m2,m3,m4,m5,m6] (⟨jU,mF,dV,jV,aE,kO,dy,iU,lF,bad,eb,p,seen,rM,sy,wait,cr,gone,aE,e8,pl⟩,2) vt [p0,p1,p2,p3,p4,p5,p6,p7]) vw trivial [0,1] akh I
 rw[if_neg c4]
 by_cases c5:jU<x.length
 ·rw[if_pos c5]
  refine dB hm (args:=[aJ (aj ⟨g,0,ak⟩),str x]) (n:=60) Tryz.func27 I I I ?_
  repeat(first|refine GA ?_|refine gV (aB aK.ty I (aH (i:=0) I (fu dX I I))) ?_)
  refine bx [0] [1] akh I I (sV aI.en I I I I) (λw hm hb=>hbr ⟨jU,mF,dV,jV,aE,kO,dy,iU,lF,bad,eb,p,seen,rM,sy,wait,cr,gone,aE,e8,pl⟩ _ _ w _ hb) I I I ?_;intro _ _;refine zL ?_
  try refine GA ?_
  exact cO I I λw hm=>hm.cC (S:=CZ g vo pk [m0,m1,m2,m3,m4,m5,m6] (xi ⟨jU,mF,dV,jV,aE,kO,dy,iU,lF,bad,eb,p,seen,rM,sy,wait,cr,gone,aE,e8,pl⟩ 16 dV,16) vt [p0,p1,p2,p3,p4,p5,p6,p7]) (ap ak 0 0) trivial [1,2] akh I
 rw[if_neg c5];refine dB hm (args:=[aJ (aj ⟨g,0,ak⟩),str x]) (n:=60) Tryz.func27 I I I ?_
 repeat(first|refine GA ?_|refine gV (aB aK.ty I (aH (i:=0) I (fu dX I I))) ?_)
 refine eo (i:=0) 7 I I I I I I dX I ?_;refine zL ?_
 repeat(first|refine GA ?_|refine gV (aB aK.ty I (aH (i:=0) I (fu dX I I))) ?_)
 refine eo (i:=0) 9 I I I I I I dX I ?_;refine zL ?_
 repeat(first|refine GA ?_|refine gV (aB aK.ty I (aH (i:=0) I (fu dX I I))) ?_|refine gV (Hy I I J) ?_)
 refine eo (i:=0) 10 I I I I I I dX I ?_
 try refine GA ?_
 exact cO I I λw hm=>hm.cC (S:=CZ g vo pk [m0,m1,m2,m3,m4,m5,m6] (⟨jU-x.length,mF,dV+x.length,jV++x,aE,kO,dy,iU,lF,bad,eb,p,seen,rM,sy,wait,cr,gone,aE,e8,pl⟩,0) vt [p0,p1,p2,p3,p4,p5,p6,p7]) vw trivial [0,1] akh I
set_option maxRecDepth 100000 in
theorem Oj(s:e9)(w:World)(B:bL)(hm:Mem B (xF g vo pk md s vt pc vw) w):
 Calls aD 28 #[aJ (aj ⟨g,0,ak⟩)] w (da (CZ g vo pk md (iV s) vt pc) B):=by
 obtain⟨m0,m1,m2,m3,m4,m5,m6,rfl⟩:=xW oD;obtain⟨p0,p1,p2,p3,p4,p5,p6,p7,rfl⟩:=xX xE;obtain⟨jU,mF,dV,jV,ended,kO,dy,iU,lF,bad,eb,p,seen,rM,sy,wait,cr,gone,over,e8,pl⟩:=s
 try dsimp only at*
 dsimp only[xF,qL,rK,jf,eI]at hm;unfold iV;dsimp only
 cases over with
 |true=>
  rw[if_pos (.inl I)];refine dB hm (args:=[aJ (aj ⟨g,0,ak⟩)]) (n:=16) Tryz.func28 I I I ?_
  repeat(first|refine GA ?_|refine gV (aB aK.ty I (aH (i:=0) I (fu dX I I))) ?_)
  exact cO I I λw hm=>hm.cC (S:=CZ g vo pk [m0,m1,m2,m3,m4,m5,m6] (⟨jU,mF,dV,jV,ended,kO,dy,iU,lF,bad,eb,p,seen,rM,sy,wait,cr,gone,aC,e8,pl⟩,15) vt [p0,p1,p2,p3,p4,p5,p6,p7]) vw trivial [0,1] akh I
 |false=>
 cases ended with
 |true=>
  rw[if_pos (.inr I)];refine dB hm (args:=[aJ (aj ⟨g,0,ak⟩)]) (n:=16) Tryz.func28 I I I ?_
  repeat(first|refine GA ?_|refine gV (aB aK.ty I (aH (i:=0) I (fu dX I I))) ?_)
  exact cO I I λw hm=>hm.cC (S:=CZ g vo pk [m0,m1,m2,m3,m4,m5,m6] (⟨jU,mF,dV,jV,aC,kO,dy,iU,lF,bad,eb,p,seen,rM,sy,wait,cr,gone,aE,e8,pl⟩,15) vt [p0,p1,p2,p3,p4,p5,p6,p7]) vw trivial [0,1] akh I
 |false=>
 rw[if_neg akh];refine dB hm (args:=[aJ (aj ⟨g,0,ak⟩)]) (n:=16) Tryz.func28 I I I ?_
 repeat(first|refine GA ?_|refine gV (aB aK.ty I (aH (i:=0) I (fu dX I I))) ?_)
 refine eo (i:=0) 11 I I I I I I dX I ?_
 try refine GA ?_
 exact cO I I λw hm=>hm.cC (S:=CZ g vo pk [m0,m1,m2,m3,m4,m5,m6] (⟨jU,mF,dV,jV,aC,kO,dy,iU,lF,bad,eb,p,seen,rM,sy,wait,cr,gone,aE,e8,pl⟩,0) vt [p0,p1,p2,p3,p4,p5,p6,p7]) vw trivial [0,1] akh I
set_option maxRecDepth 100000 in
theorem xY(s:e9)(hl:s.eb.length<=1000000)(hvt:∃a c,vt=ap a s.eb.length c)(hvw:∃a c,vw=ap a s.wait.length c)(hw:s.wait.length<=1000000)(w:World)(h:(qL g vo pk md s vt pc vw).holds w):
    Calls aD 32 #[aJ (aj ⟨g,0,ak⟩)] w (bY (ret (.bool (gD s))) w):=by
  obtain⟨m0,m1,m2,m3,m4,m5,m6,rfl⟩:=xW oD;obtain⟨p0,p1,p2,p3,p4,p5,p6,p7,rfl⟩:=xX xE;obtain⟨at',ct,rfl⟩:=hvt;obtain⟨aw,cw,rfl⟩:=hvw;obtain⟨jU,mF,dV,jV,ended,kO,dy,iU,lF,bad,eb,p,seen,rM,sy,wait,cr,gone,over,e8,pl⟩:=s
  try dsimp only at*
  dsimp only[xF,qL,rK,jf,eI]at h
  cases over with
  | true=>
    refine enter (args:=[aJ (aj ⟨g,0,ak⟩)]) (n:=45) Tryz.func32 I I I ?_
    repeat(first|refine GA ?_|refine gV (aB aK.ty I (qq h (fu dX I I))) ?_)
    exact dH I I I
  |false=>
  by_cases c1:wait.length<200
  · by_cases c2:eb.length=0
    · obtain rfl:=mS c2
      by_cases c3:bad=0
      · subst c3
        cases jV with
        | nil=>
          refine enter (args:=[aJ (aj ⟨g,0,ak⟩)]) (n:=45) Tryz.func32 I I I ?_
          repeat(first|refine GC ?_|refine gV (aB aK.ty I (qq h (fu dX I I))) ?_|refine gV (lh (b:=aE) I I I) ?_|refine GB ?_)
          exact dH I I (by simp[gD,c1])
        | cons c r=>
          refine enter (args:=[aJ (aj ⟨g,0,ak⟩)]) (n:=45) Tryz.func32 I I I ?_
          repeat(first|refine GC ?_|refine gV (aB aK.ty I (qq h (fu dX I I))) ?_|refine gV (lh (b:=aC) I I I) ?_|refine GB ?_)
          exact dH I I (by simp[gD,c1])
      refine enter (args:=[aJ (aj ⟨g,0,ak⟩)]) (n:=45) Tryz.func32 I I I ?_
      repeat(first|refine GA ?_|refine gV (aB aK.ty I (qq h (fu dX I I))) ?_)
      exact dH I I (by simp[gD,c1,c3])
    refine enter (args:=[aJ (aj ⟨g,0,ak⟩)]) (n:=45) Tryz.func32 I I I ?_
    repeat(first|refine GA ?_|refine gV (aB aK.ty I (qq h (fu dX I I))) ?_)
    exact dH I I (by simp[gD,c1,show eb≠[]from λh=>c2 (by rw[h];rfl)])
  · refine enter (args:=[aJ (aj ⟨g,0,ak⟩)]) (n:=45) Tryz.func32 I I I ?_
    repeat(first|refine GA ?_|refine gV (aB aK.ty I (qq h (fu dX I I))) ?_)
    exact dH I I (by simp[gD,c1])
set_option maxRecDepth 100000 in
theorem C0(s:e9)(hvw:∃a c,vw=ap a s.wait.length c)(hw:s.wait.length<=1000000)(w:World)(h:(qL g vo pk md s vt pc vw).holds w):
 Calls aD 31 #[aJ (aj ⟨g,0,ak⟩)] w (bY (ret (.tuple #[av az (wQ s).1,av az ((wQ s).2.1:Int),.bool (wQ s).2.2])) w):=by
 obtain⟨m0,m1,m2,m3,m4,m5,m6,rfl⟩:=xW oD;obtain⟨p0,p1,p2,p3,p4,p5,p6,p7,rfl⟩:=xX xE;obtain⟨aw,cw,rfl⟩:=hvw;obtain⟨jU,mF,dV,jV,ended,kO,dy,iU,lF,bad,eb,p,seen,rM,sy,wait,cr,gone,over,e8,pl⟩:=s
 try dsimp only at*
 dsimp only[xF,qL,rK,jf,eI]at h;unfold wQ;dsimp only
 cases over with
 |false=>
  rw[if_neg (by simp)];refine enter (args:=[aJ (aj ⟨g,0,ak⟩)]) (n:=27) Tryz.func31 I I I ?_
  repeat(first|refine GA ?_|refine gV (aB aK.ty I (qq h (fu dX I I))) ?_)
  exact Jl I I I I I
 |true=>
 by_cases c1:wait.length=0
 ·obtain rfl:=mS c1
  rw[if_pos ⟨rfl,rfl⟩];refine enter (args:=[aJ (aj ⟨g,0,ak⟩)]) (n:=27) Tryz.func31 I I I ?_
  repeat(first|refine GA ?_|refine gV (aB aK.ty I (qq h (fu dX I I))) ?_)
  refine dT ([]) (.calm 0 (.calm 1 (.calm 2 (.calm 3 (.calm 4 (.calm 5 (.calm 6 (.calm 7 (.calm 8 (.calm 9 (.calm 10 (.done)))))))))))) (w4) ?_
  repeat(first|refine GW ?_|(refine GN ?_;first|refine QW (aB aK.ty I (qq h (fu dX I I))) ?_))
  try refine GA ?_
  exact Jl I I I I I
 ·rw[if_neg λh=>c1 (by rw[h.2];rfl)]
  refine enter (args:=[aJ (aj ⟨g,0,ak⟩)]) (n:=27) Tryz.func31 I I I ?_
  repeat(first|refine GA ?_|refine gV (aB aK.ty I (qq h (fu dX I I))) ?_)
  exact Jl I I I I I
end
end bZ
namespace bZ
open Go.RowKit cK dS de gd hY aU
def AI(s:dr):Value:=aQ (eC s).toArray
theorem xj(w:World):(zeroValue 148).run aD w= .ok (AI (0,0)) w:=by kernel_rfl
theorem R4(s:dr)(w:World):(Instr.field 148 (AI s) 1).run aD w= .ok (av az s.2) w:=by
 obtain⟨a,b⟩:=s
 kernel_rfl
theorem Ol{P:Program}{k:TypeId}{κ:Type}{K:yt P k κ}{W:bL}{fr:Fr}{L:List b9}{n:Nat}{dst:Option Tmp}{ty:TypeId}{pos:String}{after:Array Edge}{guard:Option (Nat×Bool)}{i g c:Nat}{t e:TypeId}{m:κ->Option Value}{x:κ}{z v:Value}{xm xk:Operand}(ht:P.underlying t=aj (.map k e))(hz:∀w,(zeroValue e).run P w= .ok z w)(hi:L[i]?=aj (fq K g m c))(hm:ev fr xm=aj (.map (aj g)))(hk:ev fr xk=aj (K.kv x))(hx:K.ok x)(hv:(m x).getD z=v):RR P n W ⟨dst,.lookup t xm xk aE,ty,pos,after,guard⟩ fr L v:=by
 subst hv;exact abZ K ht hz hi hm hk hx
def CB(m:Bs->Option Value)(M:N2):Prop:=∀y,m y=(M y).map AI
theorem Wl:CB (λ_=>ak) (λ_=>ak):=λ_=>rfl
theorem I2{m:Bs->Option Value}{M:N2}(h:CB m M){x:Bs}{s:dr}{v:Value}(hv:v=AI s):CB (λy=>if y=x then aj v else m y) (He M x s):=λy=>by
 unfold He;dsimp only;subst hv
 by_cases e:y=x
 rw[if_pos e,if_pos e];rfl;rw[if_neg e,if_neg e];exact h y
theorem I3{m:Bs->Option Value}{M:N2}(h:CB m M)(x:Bs):(m x).getD (AI (0,0))=AI (qI M x):=by
 rw[h x];unfold qI
 cases M x<;>rfl
theorem R5{m:Bs->Option Value}{M:N2}(h:CB m M){x:Bs}(hx:M x=ak):m x=none:=by rw[h x,hx];rfl
theorem R6{m:Bs->Option Value}{M:N2}(h:CB m M){x:Bs}{s:dr}(hx:M x=aj s):m x=aj (AI s):=by rw[h x,hx];rfl
def Gp(gp:Nat)(e:Int)(len:Nat)(of:List Int)(g:ep):Spec (Value×Value×(Nat->Prop)):=
 ⟨λx=>x.1.oneCell'=aC/\x.2.1.oneCell'=aC,λ_=>av az e,λx=>[aP gp (jE x.1 WQ (fQ g.aT g.bC x.2.1 0 (ap ak 0 0) (ap ak 0 0) (ap ak 0 0))).toArray 38,aZ 3 1 x.1 len (of.map (av .i64)),oL x.2.2 x.2.1 g.aF]⟩
def K8(gp:Nat)(s:Sp):Spec (Value×Value×(Nat->Prop)):=Gp gp (wP s) s.words.length (KT s.words).1 (cH s)
theorem Hh(vw vr:Value)(s:Sp)(gp:Nat)(w0:World)(hv:TB (qy w0) w0 (aQ #[vw,vr]) s)(hlw:s.words.length<=60)(Pp:s.rules.length<=60)(H':∀r∈s.rules,r.2.length<=8796093021952)(w:World)(B:bL)(ho:qx w0 B)(hm:Mem B [aP gp GO.toArray 38] w):
 Calls aD 76 #[aQ #[vw,vr],aJ (aj ⟨gp,0,ak⟩)] w (da (K8 gp s) B):=by
 obtain⟨K9,CQ,hvv,hw,hr⟩:=hv;obtain⟨rfl,rfl⟩:vw=K9/\vr=CQ:=by simpa using hvv
 clear hvv;obtain⟨words,rules⟩:=s;dsimp only at*;obtain⟨bw,cw,rfl,-,-,R7⟩:=hw;obtain⟨br,cr,rfl,-,-,abg⟩:=hr;refine dB hm (args:=[aQ #[ap bw words.length cw,ap br rules.length cr],aJ (aj ⟨gp,0,ak⟩)]) (n:=153) Tryz.func76 I I I ?_;refine bW (bB (bP I I I λg2=>?_));refine zL ?_
 try refine GA ?_
 refine yu iC I λgm=>?_;refine zL ?_
 repeat(first|refine GA ?_|refine gV (aB (v:=ap bw words.length cw) aK.ty I (aH (i:=1) I I)) ?_)
 refine jd 3 1 ?_;refine d_ (ι:=Nat×List Int×Int×N2×Value×(Bs->Option Value)×Nat)
  (λ(k,of,t,M,vo,m,n)=>k<=words.length/\n<=k/\(words.take k).foldl jF ws0=(of,t,M)/\CB m M/\vo.oneCell'=aC)
  (λ(k,_,_,_,_,_,_)=>[(1,aJ (aj ⟨gp,0,ak⟩)),(2,aJ (aj ⟨g2,0,ak⟩)),(5,.map (aj gm)),(19,ap bw words.length cw),(20,av az words.length),(21,av az (k:Int))])
  (λ(k,of,t,_,vo,m,n)=>[aP gp (jE vo WQ (fQ t 0 (ap ak 0 0) 0 (ap ak 0 0) (ap ak 0 0) (ap ak 0 0))).toArray 38,aP g2 #[ap bw words.length cw,ap br rules.length cr] 25,fq iC gm m n,aZ 3 1 vo k (of.map (av .i64))])
  (λ(k,_,_,_,_,_,_)=>words.length-k) (0,[],0,λ_=>ak,ap ak 0 0,λ_=>ak,0) ⟨bH _,bz _,rfl,Wl,rfl⟩ ?_
 clear hm;rintro⟨k,of,t,M,vo,m,n⟩ ⟨i1,i2,i3,i4,i5⟩;dsimp only at i1 i2 i3 i4 i5⊢;have hws:=aa0 words k i1 J;rw[i3]at hws;obtain⟨s1,s2,s3,s4⟩:=hws;dsimp only at s1 s2 s3 s4
 by_cases c1:k<words.length
 ·obtain⟨b,off,rfl,_,hr⟩:=R7 J
  obtain⟨bk,ck,q1,q2,q3⟩:=TC hr c1;have hst:=step_take jF ws0 words c1;rw[i3]at hst;have dy:∀(L:List b9) (j:Nat) (u:Value),(zk words[k].1 words[k].2.kind words[k].2.uQ (.slice bk words[k].2.kids.length ck))[j]?=aj u->At B L ⟨b,off+k*7+j,ak⟩ u:=λL j u hj=>iX ho (q1 j u hj);clear hr R7 abg q1 q2;generalize words[k]=wd at*;obtain⟨nm,r⟩:=wd;dsimp only at*;generalize r.kind=rk at*;generalize r.uQ=rc at*;generalize r.kids.length=rn at*
  repeat(first|refine GA ?_|refine gV (aY bM.eq aK.ty I I c1) ?_|refine gV (bm (cs:=zk nm rk rc (ap bk rn ck)) aK.ty I I (dy _)) ?_)
  clear dy;refine a8 I λg7=>?_;refine zL ?_;refine ij 4 (cs':=(zk nm rk rc (ap bk rn ck)).toArray) ?_;refine zL ?_
  by_cases e0:nm=[]
  ·subst e0
   repeat(first|refine GC ?_|refine gV (aB (v:=str []) aK.ty I (aH (i:=4) I I)) ?_|refine gV (pC (b:=aC) I I I) ?_|refine gV (aB (v:=vo) aK.ty I (aH (i:=0) I I)) ?_|refine GB ?_)
   refine ku (i:=3) I I I I I I (λz h=>by cases h;rfl) J J I λz' v'=>?_;refine zL ?_
   try refine GA ?_
   refine aW (i:=3) I λpf mY=>?_;refine zc (i:=0) I I I pf mY I ?_;refine zL ?_
   try refine GA ?_
   refine dm [0,1,2,3] ?_;exact bT (k+1,of++[-1],t,M,v',m,n) ⟨by omega,by show n<=k+1;omega,hst,i4,mY⟩ (by show words.length-(k+1)<words.length-k;omega) (hl:=by dsimp only;rw[e7];rfl)
  rw[show jF (of,t,M) (nm,r)=(of++[t],t+1,He M nm (1,t))from if_neg e0]at hst
  repeat(first|refine GC ?_|refine gV (aB (v:=str nm) aK.ty I (aH (i:=4) I I)) ?_|refine gV (pC (b:=aE) I I (decide_eq_false e0)) ?_|refine GB ?_)
  (repeat refine bW ?_)
  refine dT ([aP gp (jE vo WQ (fQ t 0 (ap ak 0 0) 0 (ap ak 0 0) (ap ak 0 0) (ap ak 0 0))).toArray 38,aP g7 (zk nm rk rc (ap bk rn ck)).toArray 122]) (.calm 0 (.calm 1 (.calm 2 (.calm 3 (.calm 4 (.calm 5 (.calm 6 (.calm 7 (.calm 8 (.one 9 (.done))))))))))) (bX [0,4]) ?_
  repeat(first|refine GW ?_|(refine GN ?_;first|refine QW (aB (v:=str nm) aK.ty I (aH (i:=1) I I)) ?_|refine QW (aB (v:=av az t) aK.ty I (aH (i:=0) I (je 0 ju I I))) ?_|refine QW (bD I (ND _ _)) ?_))
  refine aL I (mI (i:=2) (x:=nm) (v:=AI (1,t)) iC bM.eq I I I I q3 J (aM (bX [0,4]) ?_));refine zL ?_
  try refine GW ?_
  try refine GA ?_
  (repeat refine bW ?_)
  refine dT ([]) (.calm 0 (.calm 1 (.calm 2 (.calm 3 (.calm 5 (.calm 6 (.calm 7 (.calm 8 (.two 4 (.one 9 (.one 10 (.one 11 (.calm 12 (.calm 13 (.one 14 (.done))))))) 9 (.two 4 (.one 10 (.one 11 (.calm 12 (.calm 13 (.one 14 (.done)))))) 10 (.one 4 (.one 11 (.calm 12 (.calm 13 (.one 14 (.done)))))))))))))))) (bX []) ?_
  try refine GW ?_
  refine eK I I ?a1 ?a2
  case' a2=>
   refine dx (aB (v:=av az t) aK.ty I (aH (i:=0) I (je 0 ju I I))) I I I (aM (bX []) ?_);refine eK I I ?a3 ?a4
  case' a4=>
   refine fN (cs:=#[av az t]) I I I I I λg56=>aM (bX []) ?_;refine aL I (dx (aB (v:=vo) aK.ty I (aH (i:=0) I I)) I I I (aM (bX []) ?_))
  case' a3=>
   refine dx (aB (v:=vo) aK.ty I (aH (i:=0) I I)) I I I (aM (bX []) ?_);refine aL I (fN (cs:=#[av az t]) I I I I I λg56=>aM (bX []) ?_)
  case' a1=>
   refine dx (aB (v:=vo) aK.ty I (aH (i:=0) I I)) I I I (aM (bX []) ?_);refine aL I (dx (aB (v:=av az t) aK.ty I (aH (i:=0) I (je 0 ju I I))) I I I (aM (bX []) ?_));refine aL I (fN (cs:=#[av az t]) I I I I I λg56=>aM (bX []) ?_)
  all_goals
   refine zL ?_;refine aL I (l8 (i:=3) (q:=5) I I I I I I J J I λv'=>aM (bX []) ?_);refine zL ?_
   try refine GW ?_
   refine aL I (aW (i:=3) I λpf mY=>zc (i:=0) I I I pf mY I (aM (bX []) ?_));refine zL ?_
   try refine GW ?_
   repeat(first|refine GA ?_|refine gV (aB (v:=av az t) aK.ty I (aH (i:=0) I (je 0 ju I I))) ?_)
   refine eo 0 (i:=0) I I I I I I ju I ?_;refine zL ?_
   try refine GA ?_
   refine dm [0,1,2,3] ?_;exact jH (k+1,of++[t],t+1,He M nm (1,t),v',_,_) ⟨by omega,by show(if(m nm).isSome then n else n+1)<=k+1;split<;>omega,hst,I2 i4 I,mY⟩ (by show words.length-(k+1)<words.length-k;omega) (by repeat' (first|exact cT|refine cJ I ?_)) (by dsimp only;rw[e7];rfl)
 ·obtain rfl:k=words.length:=by omega
  rw[pY]at i3;have hW:KT words=(of,t,M):=i3;clear R7
  repeat(first|refine GA ?_|refine gV (aB (v:=ap br rules.length cr) aK.ty I (aH (i:=1) I I)) ?_)
  refine d_ (ι:=Nat×Int×N2×(Bs->Option Value)×Nat)
   (λ(j,N,M2,m2,n2)=>j<=rules.length/\n2<=60+j/\(rules.take j).foldl uc (0,M)=(N,M2)/\CB m2 M2)
   (λ(j,_,_,_,_)=>[(1,aJ (aj ⟨gp,0,ak⟩)),(2,aJ (aj ⟨g2,0,ak⟩)),(5,.map (aj gm)),(71,ap br rules.length cr),(72,av az rules.length),(73,av az (j:Int))])
   (λ(_,N,_,m2,n2)=>[aP gp (jE vo WQ (fQ t N (ap ak 0 0) 0 (ap ak 0 0) (ap ak 0 0) (ap ak 0 0))).toArray 38,aP g2 #[ap bw words.length cw,ap br rules.length cr] 25,fq iC gm m2 n2,aZ 3 1 vo words.length (of.map (av .i64))])
   (λ(j,_,_,_,_)=>rules.length-j) (0,0,M,m,n) ⟨bH _,by omega,rfl,i4⟩ ?_
  clear i4;rintro⟨j,N,M2,m2,n2⟩ ⟨j1,j2,j3,j4⟩;dsimp only at j1 j2 j3 j4⊢;have hhs:=aex rules M s4 j j1 J;rw[j3]at hhs;obtain⟨u1,u2,u3⟩:=hhs;dsimp only at u1 u2 u3
  by_cases c2:j<rules.length
  ·obtain⟨b,off,rfl,_,eP⟩:=abg J
   obtain⟨bk,ck,q1,-,q3⟩:=Dn eP c2;have hst:=step_take uc (0,M) rules c2;rw[j3]at hst;have dy:∀(L:List b9) (j':Nat) (u:Value),([str rules[j].1,.slice bk rules[j].2.length ck]:List Value)[j']?=aj u->At B L ⟨b,off+j*2+j',ak⟩ u:=λL j' u hj=>iX ho (q1 j' u hj);clear eP q1 abg;generalize rules[j]=r at*;obtain⟨nm,bd⟩:=r;dsimp only at*;generalize bd.length=bn at*
   repeat(first|refine GA ?_|refine gV (aY bM.eq aK.ty I I c2) ?_|refine gV (bm (cs:=[str nm,ap bk bn ck]) aK.ty I I (dy _)) ?_)
   clear dy;refine a8 I λg9=>?_;refine zL ?_;refine ij 4 (cs':=#[str nm,ap bk bn ck]) ?_;refine zL ?_
   cases hM:M2 nm with
   | some x=>
    rw[show uc (N,M2) (nm,bd)=(N,M2)from if_pos (by show(M2 nm).isSome=aC;rw[hM];rfl)]at hst
    repeat(first|refine GA ?_|refine gV (aB (v:=str nm) aK.ty I (aH (i:=4) I I)) ?_|refine gV (kh iC (x:=nm) bM.eq xj (i:=2) I I I q3 (R6 j4 hM)) ?_)
    refine a8 I λg10=>?_;refine zL ?_;refine ij 5 (cs':=(eC x).toArray) ?_;refine zL ?_
    try refine GA ?_
    refine dm [0,1,2,3] ?_;exact bT (j+1,N,M2,m2,n2) ⟨by omega,by show n2<=60+(j+1);omega,hst,j4⟩ (by show rules.length-(j+1)<rules.length-j;omega)
   | none=>
    rw[show uc (N,M2) (nm,bd)=(N+1,He M2 nm (2,N))from if_neg (by show ¬(M2 nm).isSome=aC;rw[hM];decide)]at hst
    repeat(first|refine GA ?_|refine gV (aB (v:=str nm) aK.ty I (aH (i:=4) I I)) ?_|refine gV (ki iC (x:=nm) bM.eq xj (i:=2) I I I q3 (R5 j4 hM)) ?_)
    refine a8 I λg10=>?_;refine zL ?_;refine ij 5 (cs':=(eC (0,0)).toArray) ?_;refine zL ?_
    try refine GA ?_
    (repeat refine bW ?_)
    refine dT ([aP gp (jE vo WQ (fQ t N (ap ak 0 0) 0 (ap ak 0 0) (ap ak 0 0) (ap ak 0 0))).toArray 38,aP g9 #[str nm,ap bk bn ck] 124]) (.calm 0 (.calm 1 (.calm 2 (.calm 3 (.calm 4 (.calm 5 (.calm 6 (.calm 7 (.calm 8 (.one 9 (.done))))))))))) (bX [0,4]) ?_
    repeat(first|refine GW ?_|(refine GN ?_;first|refine QW (aB (v:=str nm) aK.ty I (aH (i:=1) I I)) ?_|refine QW (aB (v:=av az N) aK.ty I (aH (i:=0) I (je 1 ju I I))) ?_|refine QW (bD I (ND _ _)) ?_))
    refine aL I (mI (i:=2) (x:=nm) (v:=AI (2,N)) iC bM.eq I I I I q3 J (aM (bX [0,4]) ?_));refine zL ?_
    try refine GW ?_
    repeat(first|refine GA ?_|refine gV (aB (v:=av az N) aK.ty I (aH (i:=0) I (je 1 ju I I))) ?_)
    refine eo 1 (i:=0) I I I I I I ju I ?_;refine zL ?_
    try refine GA ?_
    refine dm [0,1,2,3] ?_;exact jH (j+1,N+1,He M2 nm (2,N),_,_) ⟨by omega,by show(if(m2 nm).isSome then n2 else n2+1)<=60+(j+1);split<;>omega,hst,I2 j4 I⟩ (by show rules.length-(j+1)<rules.length-j;omega) (by repeat' (first|exact cT|refine cJ I ?_)) I
  obtain rfl:j=rules.length:=by omega
  rw[pY]at j3;have hH:hsN ⟨words,rules⟩=(N,M2):=by unfold hsN;rw[hW];exact j3
  repeat(first|refine GA ?_|refine gV (aB (v:=ap br rules.length cr) aK.ty I (aH (i:=1) I I)) ?_)
  refine jd 140 2 (m_ (eh oR (λ_=>False) [] []) (λk hk=>hk.elim (λh=>by cases h) id) (λw=>jI) ?_);refine rb [0,2,3,4,5] ?_;refine d_ (ι:=Nat×List aU.Prod×Value×List (List Value)×(Nat->Prop))
   (λ(j,ps,vp,gH,F)=>j<=rules.length/\ps=(rules.take j).map (AA M2)/\vp.oneCell'=aC)
   (λ(j,_,_,_,_)=>[(1,aJ (aj ⟨gp,0,ak⟩)),(5,.map (aj gm)),(106,ap br rules.length cr),(107,av az rules.length),(108,av az (j:Int))])
   (λ(j,ps,vp,gH,F)=>[aP gp (jE vo WQ (fQ t N vp 0 (ap ak 0 0) (ap ak 0 0) (ap ak 0 0))).toArray 38,fq iC gm m2 n2,aZ 3 1 vo words.length (of.map (av .i64)),aZ 140 2 vp ps.length gH.flatten,eh oR F gH ps])
   (λ(j,_,_,_,_)=>rules.length-j) (0,[],ap ak 0 0,[],λ_=>False) ⟨bH _,rfl,rfl⟩ ?_
  rintro⟨j,ps,vp,gH,F⟩ ⟨k1,k2,k3⟩;dsimp only at k1 k2 k3⊢
  by_cases c3:j<rules.length
  ·obtain⟨b,off,rfl,_,eP⟩:=abg J
   obtain⟨bk,ck,q1,q2,q3⟩:=Dn eP c3;have hps:(rules.take (j+1)).map (AA M2)=ps++[AA M2 rules[j]]:=by rw[gX c3,e7,<-k2];rfl
   have Ci:ps.length=j:=by rw[k2,dA,iN];omega
   have dy:∀(L:List b9) (j':Nat) (u:Value),([str rules[j].1,.slice bk rules[j].2.length ck]:List Value)[j']?=aj u->At B L ⟨b,off+j*2+j',ak⟩ u:=λL j' u hj=>iX ho (q1 j' u hj);have sa:=q2.flat akh;have lT:=q2.okp;have hb6:=H' _ (b_ c3);clear eP q1 q2 abg;generalize rules[j]=r at*;obtain⟨nm,bd⟩:=r;dsimp only at*;obtain⟨b2,M6,me,zw,XD,F4⟩:=sa
   cases me
   unfold maxLen at XD;have hsm:=IN u3 nm
   repeat(first|refine GA ?_|refine gV (aY bM.eq aK.ty I I c3) ?_|refine gV (bm (cs:=[str nm,ap bk bd.length ck]) aK.ty I I (dy _)) ?_)
   clear dy;refine a8 I λg13=>?_;refine zL ?_;refine ij 5 (cs':=#[str nm,ap bk bd.length ck]) ?_;refine zL ?_
   repeat(first|refine GA ?_|refine gV (aB (v:=str nm) aK.ty I (aH (i:=5) I I)) ?_|refine gV (Ol (K:=iC) (x:=nm) bM.eq xj (i:=1) I I I q3 (I3 j4 nm)) ?_|refine gV (Ts I (R4 _)) ?_|refine gV (bD I (RL _)) ?_)
   refine a8 I λg14=>?_;refine zL ?_;refine ij 6 (cs':=#[av az (qI M2 nm).2,ap ak 0 0]) ?_;refine zL ?_
   repeat(first|refine GA ?_|refine gV (aB (v:=ap bk bd.length ck) aK.ty I (aH (i:=5) I I)) ?_)
   refine jd 148 2 ?_;refine rb [0,1,2,3,4,6,7] ?_;refine d_ (ι:=Nat×Value) (λ(i,vb)=>i<=bd.length/\vb.oneCell'=aC)
    (λ(i,vb)=>[(1,aJ (aj ⟨gp,0,ak⟩)),(5,.map (aj gm)),(14,aJ (aj ⟨g14,0,ak⟩)),(106,ap (aj ⟨b,off,ak⟩) rules.length cr),(107,av az rules.length),(108,av az (j:Int)),(119,ap bk bd.length ck),(120,av az bd.length),(121,av az (i:Int))])
    (λ(i,vb)=>[aP gp (jE vo WQ (fQ t N vp 0 (ap ak 0 0) (ap ak 0 0) (ap ak 0 0))).toArray 38,fq iC gm m2 n2,aZ 3 1 vo words.length (of.map (av .i64)),aZ 140 2 vp ps.length gH.flatten,eh oR F gH ps,aP g14 #[av az (qI M2 nm).2,vb] 140,aZ 148 2 vb i (((bd.take i).map (qI M2)).flatMap eC)])
    (λ(i,_)=>bd.length-i) (0,ap ak 0 0) ⟨bH _,rfl⟩ ?_
   rintro⟨i,vb⟩ ⟨l1,l2⟩;dsimp only at l1 l2⊢
   by_cases c4:i<bd.length
   ·obtain⟨b3,adm,rfl,Ex⟩:=F4 J
    have dy:=λL=>uT (W:=B) (L:=L) TA (λj u hj=>iX ho (Ex j u hj)) c4 0 _ I;have hlen:=lT bd[i] (b_ c4);have pq:((bd.take (i+1)).map (qI M2)).flatMap eC=((bd.take i).map (qI M2)).flatMap eC++eC (qI M2 bd[i]):=by
     rw[gX c4,e7,fV];simp
    clear Ex F4;generalize bd[i]=x at*
    repeat(first|refine GA ?_|refine gV (aY bM.eq aK.ty I I c4) ?_|refine gV (aB (v:=str x) aK.ty I (dy _)) ?_|refine gV (aB (v:=vb) aK.ty I (aH (i:=5) I I)) ?_|refine gV (Ol (K:=iC) (x:=x) bM.eq xj (i:=1) I I I hlen (I3 j4 x)) ?_)
    refine jO (i:=6) (cs:=(eC (qI M2 x)).toArray) I I I I I I I (λz h=>by cases h;rfl) J J I λz vb'=>?_;refine zL ?_
    try refine GA ?_
    refine aW (i:=6) I λpf mY=>?_;refine bV (i:=5) I I I pf mY I ?_;refine zL ?_
    try refine GA ?_
    exact bT (i+1,vb') ⟨by omega,mY⟩ (by show bd.length-(i+1)<bd.length-i;omega) (hl:=by dsimp only;rw[pq];rfl)
   obtain rfl:i=bd.length:=by omega
   rw[pY];clear F4;have PH:(bd.map (qI M2)).length=bd.length:=dA ..;rw[<-PH];have ajv:AA M2 (nm,bd)=((qI M2 nm).2,bd.map (qI M2)):=rfl;have Lv:∀x∈bd.map (qI M2),YN x:=λx hx=>by
    obtain⟨y,-,rfl⟩:=eT.1 hx;have:=IN u3 y;exact⟨gok ⟨this.1,by omega⟩,gok ⟨this.2.2.1,by omega⟩⟩
   generalize qI M2 nm=hd at*;generalize bd.map (qI M2)=body at*
   try refine GA ?_
   (repeat refine bW ?_)
   refine dT ([aP g14 #[av az hd.2,vb] 140]) (.calm 0 (.calm 1 (.calm 2 (.calm 3 (.calm 4 (.calm 6 (.two 5 (.one 7 (.one 8 (.calm 9 (.calm 10 (.calm 11 (.one 12 (.done))))))) 7 (.one 5 (.one 8 (.calm 9 (.calm 10 (.calm 11 (.one 12 (.done)))))))))))))) (bX [5]) ?_
   repeat(first|refine GW ?_|(refine GN ?_;first|refine QW (aO (i:=0) aK.ty I I I) ?_))
   refine eK I I ?b1 ?b2
   case' b1=>
    refine dx (aB (v:=vp) aK.ty I (aH (i:=0) I (je 2 ju I I))) I I I (aM (bX [5]) ?_);refine aL I (fN (cs:=#[av az hd.2,vb]) I I I I I λg15=>aM (bX [5]) ?_)
   case' b2=>
    refine fN (cs:=#[av az hd.2,vb]) I I I I I λg15=>aM (bX [5]) ?_;refine aL I (dx (aB (v:=vp) aK.ty I (aH (i:=0) I (je 2 ju I I))) I I I (aM (bX [5]) ?_))
   all_goals
    refine zL ?_;refine aL I (mX (i:=3) (q:=7) I I I I I (by simp only[cY,c_,l2];rfl) J J I λv'=>aM (bX [5]) ?_);refine zL ?_
    try refine GW ?_
    refine aL I (aW (i:=3) I λpf mY=>eo 2 (i:=0) I I I pf mY I ju I (aM (bX [5]) ?_));refine zL ?_
    try refine GW ?_
    refine oZ (eh oR (λk=>F k\/vb.ownBlock=aj k) (gH++[[av az hd.2,vb]]) (ps++[(hd.2,body)])) 6 4 [0,1,2,3] akh I I I (λk hk=>hk.elim (λh=>by cases h) λh=>h.elim (λh=> .inr (.inr h)) λh=> .inl (.inl h)) (λw hr he=>?_) ?_
    ·exact mZ he (B_ (gok ⟨hsm.2.2.1,by omega⟩) Lv hr) λk hk=>(aZ 148 2 vb body.length (body.flatMap eC)).lt w hr k (.inl hk)
    try refine GA ?_
    exact bT (j+1,ps++[(hd.2,body)],v',gH++[[av az hd.2,vb]],λk=>F k\/vb.ownBlock=aj k) ⟨by omega,by rw[hps,ajv],mY⟩ (by show rules.length-(j+1)<rules.length-j;omega) (hl:=by rw[bI,rC];rfl)
  obtain rfl:j=rules.length:=by omega
  rw[pY]at k2;subst k2;have hG:cH ⟨words,rules⟩=⟨t,N,rules.map (AA M2)⟩:=by unfold cH;rw[hW,hH]
  have hE:wP ⟨words,rules⟩=if cz ⟨t,N,rules.map (AA M2)⟩≠0 then 2 else 0:=by unfold wP;rw[hG]
  have hS:∀e,wP ⟨words,rules⟩=e->K8 gp ⟨words,rules⟩=Gp gp e words.length of ⟨t,N,rules.map (AA M2)⟩:=λe he=>by
   show Gp gp (wP _) words.length (KT words).1 (cH _)=_
   rw[hW,hG,he]
  clear hG;generalize rules.map (AA M2)=ps at*
  repeat(first|refine GA ?_|refine gV (bm (cs:=[av az t,av az N,vp]) aK.ty I I (λj v h=>aH (i:=0) I (tL ju h))) ?_)
  refine pF (oL (X_ F vp) vp ps) 3 4 [0,2] akh I I I (λk hk=>hk.elim (λh=>by cases h) λh=>h.elim (λh=> .inr (.inr h)) λh=> .inl (.inl h)) (λw hr he=>⟨⟨vp,rfl,yq hr he akh⟩,yr hr he⟩) ?_;refine zL ?_;refine aV (i_ aI.en I I) (λw hm=>kj _ ⟨t,N,ps⟩ w (y' (gok ⟨s2,by omega⟩) (gok ⟨u1,by omega⟩) (hm.get (i:=2) I))) I I I ?_;intro _ _;refine zL ?_;generalize cz ⟨t,N,ps⟩=e at*
  by_cases c:e≠0
  ·rw[if_pos c]at hE
   rw[hS _ hE]
   repeat(first|refine GC ?_|refine gV (dl (b:=aC) I I (decide_eq_true c)) ?_|refine GB ?_)
   exact cO I I λw hm=>hm.cC (S:=Gp gp 2 words.length of ⟨t,N,ps⟩) (vo,vp,X_ F vp) ⟨i5,k3⟩ [0,1,2] akh I
  rw[if_neg c]at hE;rw[hS _ hE]
  repeat(first|refine GC ?_|refine gV (dl (b:=aE) I I (decide_eq_false c)) ?_|refine GB ?_)
  exact cO I I λw hm=>hm.cC (S:=Gp gp 0 words.length of ⟨t,N,ps⟩) (vo,vp,X_ F vp) ⟨i5,k3⟩ [0,1,2] akh I
end bZ
namespace bZ
open Go.RowKit cK dS de gd hY aU eE nu cD
def qt(s:Sp):List Rx:=s.words.map (·.2)
def R8(s:Sp)(r:Int×List Row×List Int):Prop:=
  (∃k:Int,k≠0/\Ih (qt s) (k,.zero)/\r=(k,[],[]))\/
  ∃ (es:List Re) (m:MS),qt s=es.map l9/\(∀e∈es,Fit e 1 0)/\0<es.length/\es.length<=20/\l_ 0 .zero es=(0,m)/\Ih (qt s) (0,m)/\
    ((wP s≠0/\r=(wP s,[],[]))\/(wP s=0/\(tE m).2.2≠0/\r=((tE m).2.2,[],[]))\/
      (wP s=0/\(tE m).2.2=0/\mw (tE m).1 (tE m).2.1=0/\r=(0,Au (tE m).1 (tE m).2.1,Av (tE m).1 (tE m).2.1)))
theorem agj(s:Sp):∃r,R8 s r:=by
  rcases VA (qt s)with⟨k,h1,h2⟩|⟨es,m,h1,h2,h3,h4,h5,h6⟩
  exact⟨_,.inl ⟨k,h1,h2,rfl⟩⟩
  by_cases c1:wP s=0
  · by_cases c2:(tE m).2.2=0
    · refine⟨_,.inr ⟨es,m,h1,h2,h3,h4,h5,h6,.inr (.inr ⟨c1,c2,?_,rfl⟩)⟩⟩
      cases hd:wy m with
      |none=>rw[Rk hd]at c2;cases c2
      | some y=>
        obtain⟨R,d⟩:=y;rw[FF hd];exact aaV (Dm h3 h4 h5) (BP hd)
    exact⟨_,.inr ⟨es,m,h1,h2,h3,h4,h5,h6,.inr (.inl ⟨c1,c2,rfl⟩)⟩⟩
  exact⟨_,.inr ⟨es,m,h1,h2,h3,h4,h5,h6,.inl ⟨c1,rfl⟩⟩⟩
theorem abh{F:Nat->Prop}{w:World}{b off:Nat}{l:List Wd}(h:∀i (h:i<l.length),∃cs,Ap.is F w cs l[i]/\Rd w b (off+i*Ap.c) cs){k:Nat}(hk:k<l.length):
 ∃base cap,Rd w b (off+k*7) (zk l[k].1 l[k].2.kind l[k].2.uQ (.slice base l[k].2.kids.length cap))/\kQ F w (mQ l[k].2.kind l[k].2.uQ (.slice base l[k].2.kids.length cap)) l[k].2:=by
 obtain⟨cs,⟨c1,c2,rfl,⟨rfl,h1⟩,h2⟩,h3⟩:=h k hk;have h2:kQ F w c2 l[k].2:=h2;have h4:=h2.r;obtain⟨vk,e,-,hs⟩:=h4;obtain⟨base,cap,rfl,-⟩:=hs;have e2:c2=mQ l[k].2.kind l[k].2.uQ (.slice base l[k].2.kids.length cap):=by
  unfold re at e;simp only[ly]at e
  simpa using congrArg Array.toList e
 subst e2;exact⟨base,cap,h3,h2⟩
def Dw(w0:World)(words:List Wd)(gH:List (List Value)):Prop:=∀i c,gH[i]?=aj c->∃h:i<words.length,yv.is (qy w0) w0 c words[i].2
theorem R9{w0:World}{words:List Wd}{gH:List (List Value)}{c:List Value}(h:Dw w0 words gH)(hk:gH.length<words.length)(hc:yv.is (qy w0) w0 c words[gH.length].2):Dw w0 words (gH++[c]):=λi x hx=>by
 rcases Nat.lt_trichotomy i gH.length with h1|h1|h1
 rw[iq h1]at hx;exact h i x hx
 ·subst h1
  rw[List.getElem?_concat_length]at hx
  cases hx
  exact⟨hk,hc⟩
 rw[k7 (by rw[bI,nM];omega)]at hx;cases hx
theorem I4{w0 w:World}(hg:Gr w0 w){words:List Wd}{gH:List (List Value)}{v:Value}(hl:gH.length=words.length)(h:Dw w0 words gH)(hr:(aZ 119 6 v words.length gH.flatten).holds w):ky yv (qy w) w v (words.map (·.2)):=by
 have he:(eh yv (qy w0) gH (words.map (·.2))).holds w:=⟨⟨by rw[hl,dA],λi h1 h2=>by
  obtain⟨h3,h4⟩:=h i _ (bK h2);rw[List.getElem_map];exact yv.stay h4 λk hk=>hg.block k hk⟩,λk hk=>iO hk hg.size⟩
 have hr:(aZ 119 yv.c v (words.map (·.2)).length gH.flatten).holds w:=by rw[dA];exact hr
 exact(yq hr he akh).mono λk hk=>yr hr he k hk
def Om(gp:Nat)(s:Sp)(R:List Row)(T:List Int):Spec (Value×Value×(Nat->Prop)×Nat×(Nat->Value)×Value):=
 ⟨λx=>x.1.oneCell'=aC/\x.2.1.oneCell'=aC/\x.2.2.2.2.2.oneCell'=aC,λ_=>av az 0,λx=>[aP gp (jE x.1 (fc (za R 256) (ap (aj ⟨x.2.2.2.1,0,ak⟩) R.length R.length) x.2.2.2.2.2) (fQ (cH s).aT (cH s).bC x.2.1 0 (ap ak 0 0) (ap ak 0 0) (ap ak 0 0))).toArray 38,aZ 3 1 x.1 s.words.length ((KT s.words).1.map (av .i64)),oL x.2.2.1 x.2.1 (cH s).aF,
  fv 26 ze x.2.2.2.1 R.length x.2.2.2.2.1,Wf R.length (mN R 256) x.2.2.2.2.1,aZ 3 1 x.2.2.2.2.2 T.length (T.flatMap cK.dQ)]⟩
def I5(gp:Nat)(s:Sp)(r:Int×List Row×List Int):Spec (Value×Value×(Nat->Prop)×Nat×(Nat->Value)×Value):=
 if r.1=0 then Om gp s r.2.1 r.2.2 else⟨λ_=>True,λ_=>av az r.1,λ_=>[]⟩
set_option maxRecDepth 100000 in
theorem On(vw vr:Value)(s:Sp)(r:Int×List Row×List Int)(hx:R8 s r)(gp:Nat)(w0:World)(hv:TB (qy w0) w0 (aQ #[vw,vr]) s)(hlw:s.words.length<=60)(Pp:s.rules.length<=60)(H':∀r∈s.rules,r.2.length<=8796093021952)(w:World)(B:bL)(ho:qx w0 B)(hm:Mem B [aP gp GO.toArray 38] w):
 Calls aD 41 #[aQ #[vw,vr],aJ (aj ⟨gp,0,ak⟩)] w (da (I5 gp s r) B):=by
 have aap:=λw' B' LN rX=>Hh vw vr s gp w0 hv hlw Pp H' w' B' LN rX;obtain⟨K9,CQ,hvv,hw,-⟩:=hv;obtain⟨rfl,rfl⟩:vw=K9/\vr=CQ:=by simpa using hvv
 clear hvv H';obtain⟨bw,cw,rfl,-,-,R7⟩:=hw;have J2:qt s=s.words.map (·.2):=rfl
 refine dB hm (args:=[aQ #[ap bw s.words.length cw,vr],aJ (aj ⟨gp,0,ak⟩)]) (n:=60) Tryz.func41 I I I ?_;refine bW (bB (bP I I I λg2=>?_));refine zL ?_
 repeat(first|refine GA ?_|refine gV (aB (v:=ap bw s.words.length cw) aK.ty I (aH (i:=1) I I)) ?_)
 refine jd 119 6 ?_;refine d_ (ι:=Nat×List (List Value)×Value) (λ(k,gH,vl)=>k<=s.words.length/\gH.length=k/\Dw w0 s.words gH)
  (λ(k,_,vl)=>[(1,aJ (aj ⟨gp,0,ak⟩)),(2,aJ (aj ⟨g2,0,ak⟩)),(5,vl),(13,ap bw s.words.length cw),(14,av az s.words.length),(15,av az (k:Int))])
  (λ(k,gH,vl)=>[aP gp GO.toArray 38,aP g2 #[ap bw s.words.length cw,vr] 25,aZ 119 6 vl k gH.flatten])
  (λ(k,_,_)=>s.words.length-k) (0,[],ap ak 0 0) ⟨bH _,rfl,λi c h=>by cases h⟩ ?_
 clear hm;rintro⟨k,gH,vl⟩ ⟨i1,i2,i3⟩;dsimp only at i1 i2 i3⊢
 by_cases c1:k<s.words.length
 ·obtain⟨b,off,rfl,_,hr⟩:=R7 J
  obtain⟨bk,ck,q1,q2⟩:=abh hr c1;have dy:∀(L:List b9) (j:Nat) (u:Value),(zk s.words[k].1 s.words[k].2.kind s.words[k].2.uQ (.slice bk s.words[k].2.kids.length ck))[j]?=aj u->At B L ⟨b,off+k*7+j,ak⟩ u:=λL j u hj=>iX ho (q1 j u hj);clear hr R7 q1 hx aap;subst i2;have hsn:=R9 i3 c1 q2;clear q2;generalize s.words[gH.length].1=nm at*;generalize s.words[gH.length].2.kind=rk at*;generalize s.words[gH.length].2.uQ=rc at*;generalize s.words[gH.length].2.kids.length=rn at*
  repeat(first|refine GA ?_|refine gV (aY bM.eq aK.ty I I c1) ?_|refine gV (bm (cs:=zk nm rk rc (ap bk rn ck)) aK.ty I I (dy _)) ?_)
  clear dy;refine a8 I λg7=>?_;refine zL ?_;refine ij 3 (cs':=(zk nm rk rc (ap bk rn ck)).toArray) ?_;refine zL ?_
  repeat(first|refine GA ?_|refine gV (bm (cs:=mQ rk rc (ap bk rn ck)) aK.ty I I (λj v hj=>aH (i:=3) I (Q3 hj))) ?_)
  refine jO (i:=2) I I I I I I I (λz h=>by cases h;rfl) J J I λz Ti=>?_;refine zL ?_
  try refine GA ?_
  refine dm [0,1,2] ?_;exact bT (gH.length+1,gH++[mQ rk rc (ap bk rn ck)],Ti) ⟨by omega,by rw[bI];rfl,hsn⟩ (by show s.words.length-(gH.length+1)<s.words.length-gH.length;omega) (hl:=by dsimp only;rw[rC];simp)
 ·obtain rfl:k=s.words.length:=by omega
  clear R7;rcases hx with⟨k,hk,hR,rfl⟩|⟨es,m,hes,D0,h0,h20,hlp,hR,hx⟩
  ·have L6:=λw' (sa:ky yv (qy w') w' vl (qt s))=>Fa vl (qt s) (k,.zero) w' sa hR
   rw[show I5 gp s (k,[],[])=⟨λ_=>True,λ_=>av az k,λ_=>[]⟩from if_neg hk]
   try refine GA ?_
   refine aV (i_ aI.en I I) (λw hm=>L6 _ (I4 (ho.mem hm) i2 i3 (hm.get (i:=2) I))) I I I ?_;rintro⟨um,uo,vf1,g_,uu,ve1,oy,F1⟩ kz
   conv=>arg 8;simp only[zJ,cI,ret,id_eq,ru,QD,QE]
   conv=>arg 7;simp only[ru,QE]
   refine aW (i:=3) I λ_ a1=>aW (i:=4) I λ_ a2=>aW (i:=5) I λ_ a3=>aW (i:=6) I λ_ a4=>aW (i:=8) I λ_ a5=>aW (i:=9) I λ_ a6=>?_
   try refine GA ?_
   refine a8 I λg4=>?_;refine zL ?_;refine aX (i:=10) (cs':=#[um,uo,vf1,g_,uu,ve1]) I I I I (by simp only[cY,c_,a1,a2,a3,a4,a5,a6];rfl) I ?_;refine zL ?_
   repeat(first|refine GC ?_|refine gV (dl (b:=aC) I I (decide_eq_true hk)) ?_|refine GB ?_)
   exact cO I I λw hm=>hm.cC (S:=⟨λ_=>True,λ_=>av az k,λ_=>[]⟩) (vl,vl,λ_=>False,0,λ_=>vl,vl) trivial [] akh I
  have L6:=λw' (sa:ky yv (qy w') w' vl (qt s))=>Fa vl (qt s) (0,m) w' sa hR;have lT:=Dm h0 h20 hlp;have hdm:=λv' w' h=>G9 v' m w' h lT;unfold TI at hdm
  try refine GA ?_
  refine aV (i_ aI.en I I) (λw hm=>L6 _ (I4 (ho.mem hm) i2 i3 (hm.get (i:=2) I))) I I I ?_;rintro⟨um,uo,vf1,g_,uu,ve1,oy,F1⟩ kz;have kz:oy.length=m.ps.follow.length:=kz
  conv=>arg 8;simp only[zJ,cI,ret,id_eq,ru,QD,QE]
  conv=>arg 7;simp only[ru,QE]
  refine aW (i:=3) I λ_ a1=>aW (i:=4) I λ_ a2=>aW (i:=5) I λ_ a3=>aW (i:=6) I λ_ a4=>aW (i:=8) I λ_ a5=>aW (i:=9) I λ_ a6=>?_
  try refine GA ?_
  refine a8 I λg4=>?_;refine zL ?_;refine aX (i:=10) (cs':=#[um,uo,vf1,g_,uu,ve1]) I I I I (by simp only[cY,c_,a1,a2,a3,a4,a5,a6];rfl) I ?_;refine zL ?_;clear a1 a2 a3 a4 a5 a6
  repeat(first|refine GC ?_|refine gV (dl (b:=aE) I I (decide_eq_false (by simp))) ?_|refine gV (aO (i:=1) aK.ty I I I) ?_|refine GB ?_)
  refine bx [0] [3,4,5,6,7,8,9,10] akh I I (fB aI.en I I I) (λw' rX hb=>aap w' _ (qx.on ho rX (λo ho=>by simp at ho;subst ho;simp)) hb) I I I ?_;rintro⟨vo,vp,F⟩ ⟨k1,k2⟩
  conv=>arg 8;simp only[zJ,cI,ret,id_eq,K8,Gp]
  conv=>arg 7;simp only[K8,Gp]
  have om:∀e:Int,e≠0->I5 gp s (e,[],[])=⟨λ_=>True,λ_=>av az e,λ_=>[]⟩:=λe he=>if_neg he;have zP:∀R T,I5 gp s (0,R,T)=Om gp s R T:=λR T=>if_pos I
  by_cases d1:wP s≠0
  ·obtain rfl:r=(wP s,[],[]):=by
    rcases hx with⟨-,h⟩|⟨h,-⟩|⟨h,-⟩
    exact h;exact absurd h d1;exact absurd h d1
   rw[om _ d1]
   repeat(first|refine GC ?_|refine gV (dl (b:=aC) I I (decide_eq_true d1)) ?_|refine GB ?_)
   exact cO I I λw hm=>hm.cC (S:=⟨λ_=>True,λ_=>av az (wP s),λ_=>[]⟩) (vl,vl,λ_=>False,0,λ_=>vl,vl) trivial [] akh I
  have d1:wP s=0:=tI d1;rw[d1];have hx:=hx.resolve_left (λh=>h.1 d1);generalize tE m=D at*;obtain⟨R,T,e⟩:=D;dsimp only at hdm hx⊢
  repeat(first|refine GC ?_|refine gV (dl (b:=aE) I I (decide_eq_false (by simp))) ?_|refine gV (aO (i:=7) aK.ty I I I) ?_|refine GB ?_)
  refine aV (i_ aI.en I I) (λw hm=>hdm _ w (hm.ai4 (x:=⟨um,uo,vf1,g_,uu,ve1,oy,F1⟩) 0 kz I (by simp))) I I I ?_;rintro⟨vrr,vtt⟩ _
  conv=>arg 8;simp only[zJ,cI,ret,id_eq,ja]
  conv=>arg 7;simp only[ja]
  refine aW (i:=11) I λ_ a1=>aW (i:=12) I λ_ a2=>?_
  try refine GA ?_
  refine a8 I λg6=>?_;refine zL ?_;refine aX (i:=13) (cs':=#[vrr,vtt]) I I I I (by simp only[cY,c_,a1,a2];rfl) I ?_;refine zL ?_;clear a1 a2
  by_cases d2:e≠0
  ·obtain rfl:r=(e,[],[]):=by
    rcases hx with⟨-,-,h⟩|⟨-,h,-⟩
    exact h;exact absurd h d2
   rw[om _ d2]
   repeat(first|refine GC ?_|refine gV (dl (b:=aC) I I (decide_eq_true d2)) ?_|refine GB ?_)
   exact cO I I λw hm=>hm.cC (S:=⟨λ_=>True,λ_=>av az e,λ_=>[]⟩) (vl,vl,λ_=>False,0,λ_=>vl,vl) trivial [] akh I
  have d2:e=0:=tI d2;subst d2;obtain⟨pf,rfl⟩:mw R T=0/\r=(0,Au R T,Av R T):=by
   rcases hx with⟨-,h,-⟩|⟨-,-,h,h2⟩
   exact absurd I h;exact⟨h,h2⟩
  rw[zP];have agk:=λvr vt w' h=>G_ vr vt R T w' h;have ON:=TP pf;unfold adg at agk;rw[pf]at agk;generalize Au R T=MR at*;generalize Av R T=MT at*;have xE:=λvr vt w' h=>RP vr vt MR MT w' h ON;unfold aa5 at xE
  repeat(first|refine GC ?_|refine gV (dl (b:=aE) I I (decide_eq_false (by simp))) ?_|refine gV (aO (i:=13) aK.ty I I I) ?_|refine GB ?_)
  refine aV (i_ aI.en I I) (λw hm=>agk _ _ w (hm.ahI (i:=11) (j:=12) I (by rw[sc];rfl) pf)) I I I ?_;rintro⟨mr,mt⟩ _;refine zL ?_;dsimp only;refine aW (i:=14) I λ_ d1=>aW (i:=15) I λ_ d2=>?_
  try refine GA ?_
  refine aX (i:=13) (cs':=(ja mr mt).cells) I I I I (by show([mr,mt].all eY)=aC;simp[d1,d2]) I ?_;refine zL ?_
  repeat(first|refine GA ?_|refine gV (aO (i:=13) aK.ty I I I) ?_)
  refine aV (i_ aI.en I I) (λw hm=>xE _ _ w (hm.ahI (i:=14) (j:=15) I I ON)) I I I ?_;rintro⟨gP,Hi,vTP⟩ _;refine zL ?_;dsimp only;refine aW (i:=18) I λ_ d3=>?_
  try refine GA ?_
  refine RM (i:=8) (pk':=fc (za MR 256) (ap (aj ⟨gP,0,ak⟩) MR.length MR.length) vTP) I I I (by have:=zb (za MR 256) (vn:=ap (aj ⟨gP,0,ak⟩) MR.length MR.length) (vt:=vTP) I d3;simpa using this) I ju (fj _ _ _) ?_;refine zL ?_
  try refine GA ?_
  exact cO I I λw hm=>hm.cC (S:=Om gp s MR MT) (vo,vp,F,gP,Hi,vTP) ⟨k1,k2,d3⟩ [8,9,10,16,17,18] akh I
end bZ
namespace bZ
open Go.RowKit cK dS de gd hY
theorem R_(r:Rl)(l:List Rl)(of:List Bs):rz (r::l) of=if tu r.1=aE then 1 else if r.1∈of then 11 else rz l of:=rfl
theorem Wm(of hd:List Bs)(x:Bs)(l:List Bs):BE of hd (x::l)=((decide (x∈of)||decide (x∈hd))&&BE of hd l):=rfl
theorem Oo(of hd:List Bs)(r:Rl)(l:List Rl):sg of hd (r::l)=(BE of hd r.2&&sg of hd l):=rfl
theorem Hj(v:Value)(s:Sp)(w:World)(h:TB (qy w) w v s):Calls aD 40 #[v] w (bY (ret (av az (qd s))) w):=by
 obtain⟨vw,vr,rfl,hw,hr⟩:=h;have hnm:=λs w=>Co s w;have hwd:=λgm w' B ho hl hm=>Nh vw vr s.words gm w hw hl w' B ho hm;obtain⟨bw,cw,rfl,-⟩:=hw;obtain⟨br,cr,rfl,hcr,hmr,hrr⟩:=hr;unfold maxLen at hmr;have hC:qd s=if 60<s.words.length\/60<s.words.length+s.rules.length then 2 else if(l4 s.words []).1≠0 then(l4 s.words []).1 else if rz s.rules (l4 s.words []).2≠0 then rz s.rules (l4 s.words []).2 else if sg (l4 s.words []).2 (s.rules.map (·.1)) s.rules=aC then 0 else 11:=rfl
 obtain⟨words,rules⟩:=s;dsimp only at*;refine enter (args:=[aQ #[ap bw words.length cw,ap br rules.length cr]]) (n:=99) Tryz.func40 I I I ?_;refine bW (bB (bP I I I λg1=>?_));refine zL ?_
 by_cases c0:60<words.length
 ·rw[if_pos (.inl c0)]at hC
  rw[hC]
  repeat(first|refine GA ?_|refine gV (aB (v:=ap bw words.length cw) aK.ty I (aH (i:=0) I I)) ?_)
  exact dH I I I
 by_cases c1:60<words.length+rules.length
 ·rw[if_pos (.inr c1)]at hC
  rw[hC]
  repeat(first|refine GA ?_|refine gV (aB (v:=ap bw words.length cw) aK.ty I (aH (i:=0) I I)) ?_|refine gV (aB (v:=ap br rules.length cr) aK.ty I (aH (i:=0) I I)) ?_)
  exact dH I I I
 rw[if_neg J]at hC;rw[hC]
 repeat(first|refine GA ?_|refine gV (aB (v:=ap bw words.length cw) aK.ty I (aH (i:=0) I I)) ?_|refine gV (aB (v:=ap br rules.length cr) aK.ty I (aH (i:=0) I I)) ?_)
 refine yu iC I λg3=>?_;refine zL ?_;refine yu iC I λg4=>?_;refine zL ?_
 repeat(first|refine GA ?_|refine gV (aO (i:=0) aK.ty I I I) ?_)
 refine bx [1] [0,2] akh I I (fB aI.en I I I) (λw' rX hb=>hwd g3 w' _ (qx.on (qx.self w) rX (λo ho=>by simp at ho;subst ho;simp)) J hb) I I I ?_;rintro⟨m,n⟩ ⟨k1,k2⟩
 conv=>arg 8;simp only[zJ,cI,ret,id_eq,tv]
 conv=>arg 7;simp only[tv]
 generalize l4 words []=W at*;obtain⟨e,of⟩:=W;dsimp only at k1 k2⊢
 by_cases e0:e=0
 ·subst e0
  rw[if_neg (by simp)]
  repeat(first|refine GA ?_|refine gV (aB (v:=ap br rules.length cr) aK.ty I (aH (i:=0) I I)) ?_)
  generalize jX:rz rules of=fin;refine d_ (ι:=Nat×(Bs->Option Value)×Nat) (λ(k,m2,n2)=>k<=rules.length/\n2<=k/\KeysOf m2 ((rules.take k).map (·.1))/\rz (rules.drop k) of=fin) (λ(k,_,_)=>[(1,aJ (aj ⟨g1,0,ak⟩)),(3,.map (aj g3)),(4,.map (aj g4)),(41,ap br rules.length cr),(42,av az rules.length),(43,av az (k:Int))])
   (λ(_,m2,n2)=>[aP g1 #[ap bw words.length cw,ap br rules.length cr] 25,fq iC g4 m2 n2,fq iC g3 m n]) (λ(k,_)=>rules.length-k) (0,λ_=>ak,0) ⟨bH _,bz _,λy=>rfl,jX⟩ ?_
  rintro⟨k,m2,n2⟩ ⟨i1,i2,i3,i4⟩;dsimp only at i1 i2 i3 i4⊢
  by_cases c2:k<rules.length
  ·obtain⟨b,off,rfl,_,eP⟩:=hrr J
   obtain⟨bk,ck,q1,-,q3⟩:=Dn eP c2;rw[eZ c2,R_]at i4;have pq:(rules.take (k+1)).map (·.1)=(rules.take k).map (·.1)++[rules[k].1]:=by rw[gX c2,e7];rfl
   have dy:∀(L:List b9) (j:Nat) (u:Value),([str rules[k].1,.slice bk rules[k].2.length ck]:List Value)[j]?=aj u->At w L ⟨b,off+k*2+j,ak⟩ u:=λL j u hj=>kJ (q1 j u hj);clear eP q1;generalize rules[k]=r at*;obtain⟨nm,bd⟩:=r;dsimp only at*;generalize bd.length=bn at*
   repeat(first|refine GA ?_|refine gV (aY bM.eq aK.ty I I c2) ?_|refine gV (bm (cs:=[str nm,ap bk bn ck]) aK.ty I I (dy _)) ?_)
   clear dy;refine a8 I λg7=>?_;refine zL ?_
   try refine GA ?_
   refine ij 3 (cs':=#[str nm,ap bk bn ck]) ?_;refine zL ?_
   repeat(first|refine GA ?_|refine gV (aB (v:=str nm) aK.ty I (aH (i:=3) I I)) ?_)
   refine aV (i_ aI.en I I) (λw hm=>hnm nm w) I I I ?_;intro _ _;refine zL ?_
   cases hb:tu nm with
   | false=>
    rw[if_pos hb]at i4;subst i4;rw[if_pos akh]
    try refine GA ?_
    exact dH I I I
   | true=>
    rw[if_neg (by rw[hb];decide)]at i4
    cases Cg:m nm with
    | some u=>
     rw[if_pos (sh k1 Cg)]at i4;subst i4;rw[if_pos akh]
     repeat(first|refine GA ?_|refine gV (aB (v:=str nm) aK.ty I (aH (i:=3) I I)) ?_|refine gV (kh iC (x:=nm) bM.eq il (i:=2) I I I q3 Cg) ?_)
     exact dH I I I
    | none=>
     rw[if_neg (si k1 Cg)]at i4
     repeat(first|refine GA ?_|refine gV (aB (v:=str nm) aK.ty I (aH (i:=3) I I)) ?_|refine gV (ki iC (x:=nm) bM.eq il (i:=2) I I I q3 Cg) ?_)
     refine mI (i:=1) (x:=nm) (v:=av az (k:Int)) iC bM.eq I I I I q3 J ?_;refine zL ?_
     try refine GA ?_
     refine dm [0,1,2] ?_;exact jH (k+1,_,_) ⟨by omega,by show(if(m2 nm).isSome then n2 else n2+1)<=k+1;split<;>omega,by show KeysOf _ ((rules.take (k+1)).map (·.1));rw[pq];exact Ng i3,i4⟩ (by show rules.length-(k+1)<rules.length-k;omega) (by repeat' (first|exact cT|refine cJ I ?_)) I
  obtain rfl:k=rules.length:=by omega
  rw[yR]at i4;subst i4;rw[pY]at i3;rw[if_neg (by simp[rz])];generalize rules.map (·.1)=hd at*
  repeat(first|refine GA ?_|refine gV (aB (v:=ap br rules.length cr) aK.ty I (aH (i:=0) I I)) ?_)
  refine rb [1,2] ?_;generalize jX:sg of hd rules=fin;refine d_ (ι:=Nat) (λk=>k<=rules.length/\sg of hd (rules.drop k)=fin) (λk=>[(3,.map (aj g3)),(4,.map (aj g4)),(66,ap br rules.length cr),(67,av az rules.length),(68,av az (k:Int))])
   (λ_=>[fq iC g4 m2 n2,fq iC g3 m n]) (λk=>rules.length-k) 0 ⟨bH _,jX⟩ ?_
  rintro k ⟨i5,i6⟩
  by_cases c2:k<rules.length
  ·obtain⟨b,off,rfl,_,eP⟩:=hrr J
   obtain⟨bk,ck,q1,q2,q3⟩:=Dn eP c2;rw[eZ c2,Oo]at i6;have dy:∀(L:List b9) (j:Nat) (u:Value),([str rules[k].1,.slice bk rules[k].2.length ck]:List Value)[j]?=aj u->At w L ⟨b,off+k*2+j,ak⟩ u:=λL j u hj=>kJ (q1 j u hj);have sa:=q2.flat akh;have lT:=q2.okp;clear eP q1 q2;generalize rules[k]=r at*;obtain⟨nm,bd⟩:=r;dsimp only at*;obtain⟨b2,M6,me,zw,XD,F4⟩:=sa
   cases me
   unfold maxLen at XD
   repeat(first|refine GA ?_|refine gV (aY bM.eq aK.ty I I c2) ?_|refine gV (bm (cs:=[str nm,ap bk bd.length ck]) aK.ty I I (dy _)) ?_)
   clear dy;refine a8 I λg11=>?_;refine zL ?_;refine ij 2 (cs':=#[str nm,ap bk bd.length ck]) ?_;refine zL ?_
   repeat(first|refine GA ?_|refine gV (aB (v:=ap bk bd.length ck) aK.ty I (aH (i:=2) I I)) ?_)
   refine rb [0,1] ?_;generalize aio:BE of hd bd=aip at i6;refine d_ (ι:=Nat) (λi=>i<=bd.length/\BE of hd (bd.drop i)=aip) (λi=>[(3,.map (aj g3)),(4,.map (aj g4)),(66,ap (aj ⟨b,off,ak⟩) rules.length cr),(67,av az rules.length),(68,av az (k:Int)),(73,ap bk bd.length ck),(74,av az bd.length),(75,av az (i:Int))])
    (λ_=>[fq iC g4 m2 n2,fq iC g3 m n]) (λi=>bd.length-i) 0 ⟨bH _,aio⟩ ?_
   rintro i ⟨i7,i8⟩
   by_cases c3:i<bd.length
   ·obtain⟨b3,adm,rfl,Ex⟩:=F4 J
    have dy:=ib (L:=([fq iC g4 m2 n2,fq iC g3 m n]:List b9)) TA Ex c3 0 _ I;rw[eZ c3,Wm]at i8;have hlen:=lT bd[i] (b_ c3);clear Ex lT F4;generalize bd[i]=x at*
    repeat(first|refine GA ?_|refine gV (aY bM.eq aK.ty I I c3) ?_|refine gV (aB (v:=str x) aK.ty I dy) ?_)
    cases Cg:m x with
    | some u=>
     rw[decide_eq_true (sh k1 Cg),Bool.true_or,F7]at i8
     cases Sa:m2 x with
     | some u2=>
      repeat(first|refine GA ?_|refine gV (kh iC (x:=x) bM.eq il (i:=1) I I I hlen Cg) ?_|refine gV (kh iC (x:=x) bM.eq il (i:=0) I I I hlen Sa) ?_)
      exact bT (i+1) ⟨by omega,i8⟩ (by show bd.length-(i+1)<bd.length-i;omega)
     | none=>
      repeat(first|refine GA ?_|refine gV (kh iC (x:=x) bM.eq il (i:=1) I I I hlen Cg) ?_|refine gV (ki iC (x:=x) bM.eq il (i:=0) I I I hlen Sa) ?_)
      exact bT (i+1) ⟨by omega,i8⟩ (by show bd.length-(i+1)<bd.length-i;omega)
    | none=>
     cases Sa:m2 x with
     | some u2=>
      rw[decide_eq_true (sh i3 Sa),Bool.or_true,F7]at i8
      repeat(first|refine GA ?_|refine gV (ki iC (x:=x) bM.eq il (i:=1) I I I hlen Cg) ?_|refine gV (kh iC (x:=x) bM.eq il (i:=0) I I I hlen Sa) ?_)
      exact bT (i+1) ⟨by omega,i8⟩ (by show bd.length-(i+1)<bd.length-i;omega)
     | none=>
      rw[decide_eq_false (si k1 Cg),decide_eq_false (si i3 Sa),Bool.or_false,RE]at i8;subst i8;rw[RE]at i6;rw[<-i6,if_neg akh]
      repeat(first|refine GA ?_|refine gV (ki iC (x:=x) bM.eq il (i:=1) I I I hlen Cg) ?_|refine gV (ki iC (x:=x) bM.eq il (i:=0) I I I hlen Sa) ?_)
      exact dH I I I
   obtain rfl:i=bd.length:=by omega
   rw[yR]at i8;have i8:aC=aip:=i8;rw[<-i8,F7]at i6
   try refine GA ?_
   exact bT (k+1) ⟨by omega,i6⟩ (by show rules.length-(k+1)<rules.length-k;omega)
  obtain rfl:k=rules.length:=by omega
  rw[yR]at i6;have i6:aC=fin:=i6;rw[<-i6,if_pos I]
  try refine GA ?_
  exact dH I I I
 rw[if_pos e0]
 repeat(first|refine GC ?_|refine gV (dl (b:=aC) I I (decide_eq_true e0)) ?_|refine GB ?_)
 exact dH I I I
end bZ
namespace bZ
open Go.RowKit cK dS
theorem C1(v:Value)(l:List Bool)(x:Bool)(w:World)(hs:Sl w v l.length (l.map .bool)):
 Calls aD 83 #[v,.bool x] w (bY (ret (av az (rQ (· ==x) l))) w):=by
 obtain⟨base,cap,rfl,lW,jS,eP⟩:=hs;unfold maxLen at jS;refine enter (args:=[ap base l.length cap,.bool x]) (n:=19) Tryz.func83 I I I ?_
 try refine GA ?_
 refine d_ (ι:=Nat) (λk=>k<=l.length/\∀j (hj:j<l.length),j<k->(l[j]==x)=aE) (λk=>[(0,ap base l.length cap),(1,.bool x),(7,av az l.length),(8,av az (k:Int))]) (λ_=>[]) (λk=>l.length-k) 0 ⟨by omega,λj hj h=>by omega⟩ ?_;rintro k ⟨h1,h2⟩
 by_cases c2:k<l.length
 ·obtain⟨b,off,rfl,hr⟩:=eP J
  have dy:=Jo (L:=([]:List b9)) hr c2
  by_cases c3:(l[k]==x)=aC
  ·rw[rR c2 c3 h2]
   have e:x=l[k]:=by simpa using(beq_iff_eq.1 c3).symm
   clear h2 eP;subst e
   repeat(first|refine GC ?_|refine gV (bU bM.eq aK.ty I I c2) ?_|refine gV (aB aK.ty I dy) ?_|refine gV (A8 (c:=aC) bM.eq I I (by simp)) ?_|refine GB ?_)
   exact eH
  have OP:(l[k]==x)=false:=by simpa using c3
  have e:(x==l[k])=false:=by rw[beq_eq_false_iff_ne]at OP⊢;exact λh=>OP h.symm
  clear eP c3
  repeat(first|refine GC ?_|refine gV (bU bM.eq aK.ty I I c2) ?_|refine gV (aB aK.ty I dy) ?_|refine gV (A8 (c:=aE) bM.eq I I e) ?_|refine GB ?_)
  exact bT (k+1) ⟨by omega,λj hj h=>if e:j<k then h2 j hj e else(by obtain rfl:j=k:=J;exact OP)⟩ (by show l.length-(k+1)<l.length-k;omega)
 ·rw[rS λj hj=>h2 j hj J]
  clear h2 eP
  try refine GA ?_
  exact eH
theorem qu(v:Value)(l:List Bool)(x:Bool)(w:World)(hs:Sl w v l.length (l.map .bool)):
 Calls aD 43 #[v,.bool x] w (bY (ret (.bool (l.any (· ==x)))) w):=by
 refine enter (args:=[v,.bool x]) (n:=9) Tryz.func43 I I I ?_;have hh:=λw' (hg:Gr w w')=>C1 v l x w' (hs.gr hg);have hr:=pE (· ==x) l
 rw[<-uU (· ==x) l]
 generalize rQ (· ==x) l=r at*
 try refine GA ?_
 refine aV (fB aI.en I I I) (λw hm=>hh _ hm.below) I I I ?_;intro _ _
 repeat(first|refine GC ?_|refine gV (ff I I I) ?_|refine GB ?_)
 exact eH
end bZ
namespace bZ
open Go.RowKit cK dS de gd hY aU cD CL
def BU(g:ep):List Bool:=(xw g.bC.toNat g.aF).R
def BV(g:ep):List Bool:=(xw g.bC.toNat g.aF).M
def zi(g:ep):List Cl:=nb g.aF (y9 g.bC.toNat g.aF) g.aT.toNat g.bC.toNat
def AP(s:Sp)(e:Int):Int×Int:=
 if qd s≠0 then(qd s,0)else if s.words.length=0\/s.rules.length=0 then(1,0)else if e≠0 then(e,0)
 else if(BU (cH s)).any (· ==aE)=aC\/(BV (cH s)).any (· ==aE)=aC then(4,0)
 else if(zi (cH s)).length=0 then(0,1)
 else if(iH (cH s)).2.2.2≠0 then((iH (cH s)).2.2.2,0)else if 0<(iH (cH s)).2.2.1.length then(12,0)else(0,2)
structure Hk where
 vo:Value
 vp:Value
 F:Nat->Prop
 gP:Nat
 Hi:Nat->Value
 vT:Value
 gR:Nat
 WT:Nat->Value
 tx:Rv
def CC:Hk:=⟨ap ak 0 0,ap ak 0 0,λ_=>False,0,λ_=>ap ak 0 0,ap ak 0 0,0,λ_=>ap ak 0 0,⟨ap ak 0 0,[],λ_=>False,ap ak 0 0,[],λ_=>False⟩⟩
def Hk.pk(x:Hk)(R:List Row):List Value:=fc (za R 256) (ap (aj ⟨x.gP,0,ak⟩) R.length R.length) x.vT
structure aiq(x:Hk):Prop where
 o:x.vo.oneCell'=aC
 p:x.vp.oneCell'=aC
 t:x.vT.oneCell'=aC
def Hk.lex(x:Hk)(s:Sp)(R:List Row)(T:List Int):List b9:=
 [aZ 3 1 x.vo s.words.length ((KT s.words).1.map (av .i64)),oL x.F x.vp (cH s).aF,fv 26 ze x.gP R.length x.Hi,Wf R.length (mN R 256) x.Hi,aZ 3 1 x.vT T.length (T.flatMap cK.dQ)]
def wS(e:Int):Spec Hk:=⟨λ_=>True,λ_=> .tuple #[aQ GO.toArray,av az e],λ_=>[]⟩
def Hk.cLL(x:Hk)(g:ep)(R:List Row):Array Value:=(jE x.vo (x.pk R) (fQ g.aT g.bC x.vp 1 (ap (aj ⟨x.gR,0,ak⟩) g.bC.toNat g.bC.toNat) (ap ak 0 0) (ap ak 0 0))).toArray
def Hk.cLR(x:Hk)(g:ep)(R:List Row):Array Value:=(jE x.vo (x.pk R) (fQ g.aT g.bC x.vp 2 (ap ak 0 0) x.tx.vA x.tx.vG)).toArray
def Hk.rows(x:Hk)(g:ep):List b9:=[fv 26 wH x.gR g.bC.toNat x.WT,jB (λj=>j<g.bC.toNat) (mL g.aF (y9 g.bC.toNat g.aF) g.aT.toNat x.WT g.bC.toNat 0)]
def abi(s:Sp)(R:List Row)(T:List Int):Spec Hk:=
 ⟨aiq,λx=> .tuple #[.agg (x.cLL (cH s) R),av az 0],λx=>x.lex s R T++x.rows (cH s)⟩
def abj(s:Sp)(R:List Row)(T:List Int):Spec Hk:=
 ⟨λx=>aiq x/\x.tx.vA.oneCell'=aC/\x.tx.vG.oneCell'=aC,λx=> .tuple #[.agg (x.cLR (cH s) R),av az 0],λx=>x.lex s R T++Rw x.tx (iH (cH s)).1 (iH (cH s)).2.1⟩
def nZ(s:Sp)(r:Int×List Row×List Int):Spec Hk:=
 if(AP s r.1).1≠0 then wS (AP s r.1).1 else if(AP s r.1).2=1 then abi s r.2.1 r.2.2 else abj s r.2.1 r.2.2
theorem wT{s:Sp}{r:Int×List Row×List Int}(h:R8 s r)(h0:r.1=0):cz (cH s)=0/\mw r.2.1 r.2.2=0:=by
 have hn:wP s=0->cz (cH s)=0:=λh=>by
  unfold wP at h;generalize cz (cH s)=e at*
  by_cases c:e≠0
  rw[if_pos c]at h;cases h;exact tI c
 rcases h with⟨k,hk,-,rfl⟩|⟨es,m,-,-,h3,h4,h5,-,⟨h,rfl⟩|⟨-,h,rfl⟩|⟨h,-,hc,rfl⟩⟩
 exact absurd h0 hk;exact absurd h0 h;exact absurd h0 h;refine⟨hn h,?_⟩;have:=TP hc;dsimp only;exact this
set_option maxRecDepth 100000 in
theorem tP(v:Value)(s:Sp)(r:Int×List Row×List Int)(hx:R8 s r)(w:World)(hv:TB (qy w) w v s)(H':∀r∈s.rules,r.2.length<=8796093021952):
 Calls aD 12 #[v] w (bY (nZ s r) w):=by
 have jw:=λw' (hg:Gr w w')=>Hj v s w' (hv.gr hg);have hv0:=hv;obtain⟨vw,vr,rfl,hw,hr⟩:=hv;obtain⟨bw,cw,rfl,-⟩:=hw;obtain⟨br,cr,rfl,-⟩:=hr;have hM:AP s r.1=if qd s≠0 then(qd s,0)else if s.words.length=0\/s.rules.length=0 then(1,0)else if r.1≠0 then(r.1,0)
  else if(BU (cH s)).any (· ==aE)=aC\/(BV (cH s)).any (· ==aE)=aC then(4,0)
  else if(zi (cH s)).length=0 then(0,1)
  else if(iH (cH s)).2.2.2≠0 then((iH (cH s)).2.2.2,0)else if 0<(iH (cH s)).2.2.1.length then(12,0)else(0,2):=rfl
 have om:∀e m,AP s r.1=(e,m)->e≠0->nZ s r=wS e:=λe m h he=>by unfold nZ;rw[h,if_pos he]
 have hLL:AP s r.1=(0,1)->nZ s r=abi s r.2.1 r.2.2:=λh=>by unfold nZ;rw[h];rfl
 have hLR:AP s r.1=(0,2)->nZ s r=abj s r.2.1 r.2.2:=λh=>by unfold nZ;rw[h];rfl
 have C8:=Wc;have C2:GO.toArray.toList.all eY=true:=rG I T8 I;have hsz:GO.toArray.size=266:=kW ju I;refine enter (args:=[aQ #[ap bw s.words.length cw,ap br s.rules.length cr]]) (n:=86) Tryz.func12 I I I ?_;refine bW (bB (bP I I I λg1=>a8 I λg2=>?_));rw[tK];refine zL ?_
 repeat(first|refine GA ?_|refine gV (aO (i:=0) aK.ty I I I) ?_)
 refine aV (i_ aI.en I I) (λw hm=>jw _ hm.below) I I I ?_;intro _ _;refine zL ?_
 by_cases c0:qd s≠0
 ·rw[if_pos c0]at hM
  rw[om _ _ hM c0]
  repeat(first|refine GC ?_|refine gV (dl (b:=aC) I I (decide_eq_true c0)) ?_|refine gV (bD I C8) ?_|refine GB ?_)
  refine aX (i:=1) (cs':=GO.toArray) I I I hsz C2 hsz ?_;refine zL ?_
  try refine GA ?_
  exact eJ (i:=1) I I I hsz I λw hm=>hm.meets (S:=wS (qd s)) CC trivial [] akh I
 rw[if_neg c0]at hM;have abk:qd s=0:=tI c0;have xJ:s.words.length<=60/\s.rules.length<=60:=by
  unfold qd at abk
  by_cases c:60<s.words.length\/60<s.words.length+s.rules.length
  rw[if_pos c]at abk;cases abk;omega
 rw[abk];clear jw abk
 by_cases c1:s.words.length=0\/s.rules.length=0
 ·rw[if_pos c1]at hM
  rw[om _ _ hM akh]
  by_cases c2:s.words.length=0
  ·repeat(first|refine GC ?_|refine gV (dl (b:=aE) I I (decide_eq_false (by simp))) ?_|refine gV (aB (v:=ap bw s.words.length cw) aK.ty I (aH (i:=0) I I)) ?_|refine gV (cZ (b:=aC) I I (decide_eq_true J)) ?_|refine gV (bD I C8) ?_|refine GB ?_)
   refine aX (i:=1) (cs':=GO.toArray) I I I hsz C2 hsz ?_;refine zL ?_
   try refine GA ?_
   exact eJ (i:=1) I I I hsz I λw hm=>hm.meets (S:=wS 1) CC trivial [] akh I
  repeat(first|refine GC ?_|refine gV (dl (b:=aE) I I (decide_eq_false (by simp))) ?_|refine gV (aB (v:=ap bw s.words.length cw) aK.ty I (aH (i:=0) I I)) ?_|refine gV (aB (v:=ap br s.rules.length cr) aK.ty I (aH (i:=0) I I)) ?_|refine gV (cZ (b:=aE) I I (decide_eq_false J)) ?_|refine gV (cZ (b:=aC) I I (decide_eq_true J)) ?_|refine gV (bD I C8) ?_|refine GB ?_)
  refine aX (i:=1) (cs':=GO.toArray) I I I hsz C2 hsz ?_;refine zL ?_
  try refine GA ?_
  exact eJ (i:=1) I I I hsz I λw hm=>hm.meets (S:=wS 1) CC trivial [] akh I
 rw[if_neg c1]at hM;have Pl:=λgp w' B ho hm=>On (ap bw s.words.length cw) (ap br s.rules.length cr) s r hx gp w hv0 xJ.1 xJ.2 H' w' B ho hm
 repeat(first|refine GC ?_|refine gV (dl (b:=aE) I I (decide_eq_false (by simp))) ?_|refine gV (aB (v:=ap bw s.words.length cw) aK.ty I (aH (i:=0) I I)) ?_|refine gV (aB (v:=ap br s.rules.length cr) aK.ty I (aH (i:=0) I I)) ?_|refine gV (cZ (b:=aE) I I (decide_eq_false J)) ?_|refine GB ?_)
 refine a8 I λg5=>?_;rw[tK];refine zL ?_
 repeat(first|refine GA ?_|refine gV (aO (i:=0) aK.ty I I I) ?_)
 by_cases c2:r.1≠0
 ·rw[if_pos c2]at hM
  rw[om _ _ hM c2];have kz:∀gp,I5 gp s r=⟨λ_=>True,λ_=>av az r.1,λ_=>[]⟩:=λgp=>if_neg c2;simp only[kz]at Pl;refine bx [2] [0,1] akh I I (fB aI.en I I I) (λw' rX hb=>Pl g5 w' _ (qx.on (qx.self w) rX (λo ho=>by simp at ho;subst ho;simp)) hb) I I I ?_;intro _ _;refine zL ?_
  repeat(first|refine GC ?_|refine gV (dl (b:=aC) I I (decide_eq_true c2)) ?_|refine gV (bD I C8) ?_|refine GB ?_)
  refine aX (i:=1) (cs':=GO.toArray) I I I hsz C2 hsz ?_;refine zL ?_
  try refine GA ?_
  exact eJ (i:=1) I I I hsz I λw hm=>hm.meets (S:=wS r.1) CC trivial [] akh I
 rw[if_neg c2]at hM;have hr0:r.1=0:=tI c2;obtain⟨hG,Sb⟩:=wT hx hr0;have kz:∀gp,I5 gp s r=Om gp s r.2.1 r.2.2:=λgp=>if_pos hr0;simp only[kz]at Pl;clear hx kz c2;obtain⟨e,R,T⟩:=r;dsimp only at*;subst hr0;generalize AP s 0=M at*;generalize Hc:cH s=g at*;refine bx [2] [0,1] akh I I (fB aI.en I I I) (λw' rX hb=>Pl g5 w' _ (qx.on (qx.self w) rX (λo ho=>by simp at ho;subst ho;simp)) hb) I I I ?_;clear Pl;rintro⟨vo,vp,F,gP,Hi,vT⟩ ⟨k1,k2,k3⟩;dsimp only at k1 k2 k3;unfold Om;rw[Hc];refine zL ?_;have dX:(fc (za R 256) (ap (aj ⟨gP,0,ak⟩) R.length R.length) vT).length=258:=fj _ _ _;have G3:(fc (za R 256) (ap (aj ⟨gP,0,ak⟩) R.length R.length) vT).all eY=true:=by
  have:=zb (za R 256) (vn:=ap (aj ⟨gP,0,ak⟩) R.length R.length) (vt:=vT) I k3
  simpa using this
 have hpx:∀x:Hk,x.gP=gP->x.vT=vT->fc (za R 256) (ap (aj ⟨gP,0,ak⟩) R.length R.length) vT=x.pk R:=λx h1 h2=>by unfold Hk.pk;rw[h1,h2]
 generalize hPK:fc (za R 256) (ap (aj ⟨gP,0,ak⟩) R.length R.length) vT=PK at*;obtain⟨a1,a2,a3,a4,a5,a6⟩:=cV hG;have agl:∀w',(oL F vp g.aF).holds w'->kK (λk=>k<w'.heap.size) w' (dM g.aT g.bC vp) g:=λw' h=>y' (gok ⟨a1,by omega⟩) (gok ⟨by omega,by omega⟩) h
 repeat(first|refine GC ?_|refine gV (dl (b:=aE) I I (decide_eq_false (by simp))) ?_|refine gV (bm (cs:=[av az g.aT,av az g.bC,vp]) aK.ty I I (λj v h=>aH (i:=2) I (tL dX h))) ?_|refine GB ?_)
 have hN:g.bC=(g.bC.toNat:Int):=by omega
 have hT:g.aT=(g.aT.toNat:Int):=by omega
 obtain⟨⟨-,hRl,hMl⟩,-⟩:=yJ.ZR hG hN;have Vc:=λw' h=>ES (dM g.aT g.bC vp) g w' h hG g.bC.toNat hN;have UJ:=λw' h=>KA (dM g.aT g.bC vp) g w' h hG g.aT.toNat g.bC.toNat hT hN;have Pp:=λw' h=>KD (dM g.aT g.bC vp) g w' h;unfold Ry Rw at Pp;refine aV (i_ aI.en I I) (λw' hm=>(Vc w' (agl w' (hm.get (i:=4) I))).mono λe w2 h=>EU h) I I I ?_;intro x5 _
 conv=>arg 8;simp only[zJ,cI,ret,id_eq,ER.val]
 try refine GA ?_
 refine a8 I λg7=>?_;refine ij 13 ?_;refine zL ?_
 repeat(first|refine GA ?_|refine gV (aB aK.ty I (aH (i:=13) I I)) ?_)
 have abl:BU g=(xw g.bC.toNat g.aF).R:=rfl;have abm:BV g=(xw g.bC.toNat g.aF).M:=rfl;generalize (xw g.bC.toNat g.aF).R=Rc at*;generalize (xw g.bC.toNat g.aF).M=Mk at*;rw[abl,abm]at hM;clear abl abm Vc;refine aV (fB aI.en I I I) (λw' hm=>qu _ Rc aE w' (by have:=Sl.dD (hm.get (i:=11) I);rw[hRl];exact this)) I I I ?_;intro _ _;refine zL ?_
 cases FX:Rc.any (· ==aE)with
 |true=>
  rw[if_pos (.inl FX)]at hM;rw[om _ _ hM akh]
  repeat(first|refine GA ?_|refine gV (bD I C8) ?_)
  refine aX (i:=1) (cs':=GO.toArray) I I I hsz C2 hsz ?_;refine zL ?_
  try refine GA ?_
  exact eJ (i:=1) I I I hsz I λw hm=>hm.meets (S:=wS 4) CC trivial [] akh I
 |false=>
 repeat(first|refine GA ?_|refine gV (aB aK.ty I (aH (i:=13) I I)) ?_)
 refine mV (fB aI.en I I I) (λw' hm=>qu _ Mk aE w' (by have:=Sl.dD (hm.get (i:=12) I);rw[hMl];exact this)) I I I I I ?_;intro _ _;refine zL ?_
 cases aeA:Mk.any (· ==aE)with
 |true=>
  rw[if_pos (.inr aeA)]at hM;rw[om _ _ hM akh]
  repeat(first|refine GA ?_|refine gV (bD I C8) ?_)
  refine aX (i:=1) (cs':=GO.toArray) I I I hsz C2 hsz ?_;refine zL ?_
  try refine GA ?_
  exact eJ (i:=1) I I I hsz I λw hm=>hm.meets (S:=wS 4) CC trivial [] akh I
 |false=>
 rw[if_neg (by rw[FX,aeA];decide)]at hM;have jW:zi g=nb g.aF (y9 g.bC.toNat g.aF) g.aT.toNat g.bC.toNat:=rfl
 repeat(first|refine GA ?_|refine gV (bm (cs:=[av az g.aT,av az g.bC,vp]) aK.ty I I (λj v h=>aH (i:=2) I (tL dX h))) ?_)
 refine aV (i_ aI.en I I) (λw' hm=>UJ w' (agl w' (hm.get (i:=4) I))) I I I ?_;rintro⟨gR,WT,vcl⟩ _;unfold aat;rw[<-jW];refine zL ?_
 by_cases c3:(zi g).length=0
 ·rw[if_pos c3]at hM
  rw[hLL hM]
  repeat(first|refine GC ?_|refine gV (fg (i:=16) bM.eq I I) ?_|refine gV (cZ (b:=aC) I I (decide_eq_true J)) ?_|refine GB ?_)
  refine eo 3 (i:=2) I I I I I I dX I ?_;refine zL ?_
  try refine GA ?_
  refine eo 4 (i:=2) I I I I I I dX I ?_;refine zL ?_
  repeat(first|refine GA ?_|refine gV (aO (i:=2) aK.ty I I (kW dX I)) ?_)
  refine aX (i:=1) (cs':=(jE vo PK (fQ g.aT g.bC vp 1 (ap (aj ⟨gR,0,ak⟩) g.bC.toNat g.bC.toNat) (ap ak 0 0) (ap ak 0 0))).toArray) I I I (kW dX I) (rG k1 G3 (by simp only[fQ,cY,c_,k2];rfl)) hsz ?_;refine zL ?_
  try refine GA ?_
  subst hPK;subst Hc;exact eJ (i:=1) I I I (kW dX I) I λw hm=>hm.meets (S:=abi s R T) ⟨vo,vp,F,gP,Hi,vT,gR,WT,⟨ap ak 0 0,[],λ_=>False,ap ak 0 0,[],λ_=>False⟩⟩ ⟨k1,k2,k3⟩ [3,4,5,6,7,14,15] akh I
 rw[if_neg c3]at hM
 repeat(first|refine GC ?_|refine gV (fg (i:=16) bM.eq I I) ?_|refine gV (cZ (b:=aE) I I (decide_eq_false J)) ?_|refine gV (bm (cs:=[av az g.aT,av az g.bC,vp]) aK.ty I I (λj v h=>aH (i:=2) I (tL dX h))) ?_|refine GB ?_)
 refine aV (i_ aI.en I I) (λw' hm=>Pp w' (agl w' (hm.get (i:=4) I))) I I I ?_;rintro⟨⟨vA,BK,FA,vG,CV,FG⟩,vfi⟩ _;have hO:iH g=iH g:=rfl;refine zL ?_;generalize hOT:iH g=O at*;obtain⟨A,G,fi,e⟩:=O;dsimp only at hM⊢;refine aW (i:=17) I λ_ b1=>aW (i:=19) I λ_ b2=>?_
 try refine GA ?_
 refine a8 I λg12=>?_;refine zL ?_;refine aX (i:=22) (cs':=#[vA,vG]) I I I I (by simp only[cY,c_,b1,b2];rfl) I ?_;refine zL ?_
 by_cases c4:e≠0
 ·rw[if_pos c4]at hM
  rw[om _ _ hM c4]
  repeat(first|refine GC ?_|refine gV (dl (b:=aC) I I (decide_eq_true c4)) ?_|refine gV (bD I C8) ?_|refine GB ?_)
  refine aX (i:=1) (cs':=GO.toArray) I I I hsz C2 hsz ?_;refine zL ?_
  try refine GA ?_
  exact eJ (i:=1) I I I hsz I λw hm=>hm.meets (S:=wS e) CC trivial [] akh I
 rw[if_neg c4]at hM
 repeat(first|refine GC ?_|refine gV (dl (b:=aE) I I (decide_eq_false c4)) ?_|refine GB ?_)
 by_cases c5:0<fi.length
 ·rw[if_pos c5]at hM
  rw[om _ _ hM akh]
  repeat(first|refine GC ?_|refine gV (fg (i:=21) bM.eq I I) ?_|refine gV (ea (b:=aC) I I (decide_eq_true J)) ?_|refine gV (bD I C8) ?_|refine GB ?_)
  refine aX (i:=1) (cs':=GO.toArray) I I I hsz C2 hsz ?_;refine zL ?_
  try refine GA ?_
  exact eJ (i:=1) I I I hsz I λw hm=>hm.meets (S:=wS 12) CC trivial [] akh I
 rw[if_neg c5]at hM;rw[hLR hM]
 repeat(first|refine GC ?_|refine gV (fg (i:=21) bM.eq I I) ?_|refine gV (ea (b:=aE) I I (decide_eq_false J)) ?_|refine GB ?_)
 (repeat refine bW ?_)
 refine dT ([aP g12 #[vA,vG] 36]) (.calm 0 (.calm 1 (.one 2 (.calm 3 (.one 4 (.done)))))) (bX [22]) ?_
 repeat(first|refine GW ?_|(refine GN ?_;first|refine QW (aO (i:=0) aK.ty I I I) ?_))
 refine aL I (eo 3 (i:=2) I I I I I I dX I (aM (bX [22]) ?_));refine zL ?_
 try refine GW ?_
 refine aL I (RN (i:=2) I I I b1 b2 I dX (aM (bX [22]) ?_));refine zL ?_
 try refine GW ?_
 repeat(first|refine GA ?_|refine gV (aO (i:=2) aK.ty I I (kW dX I)) ?_)
 refine aX (i:=1) (cs':=(jE vo PK (fQ g.aT g.bC vp 2 (ap ak 0 0) vA vG)).toArray) I I I (kW dX I) (rG k1 G3 (by simp only[fQ,cY,c_,k2,b1,b2];rfl)) hsz ?_;refine zL ?_
 try refine GA ?_
 subst hPK;subst Hc;refine eJ (i:=1) I I I (kW dX I) I λw hm=>hm.meets (S:=abj s R T) ⟨vo,vp,F,gP,Hi,vT,gR,WT,⟨vA,BK,FA,vG,CV,FG⟩⟩ ⟨⟨k1,k2,k3⟩,b1,b2⟩ [3,4,5,6,7,17,18,19,20] akh ?_;show _++Rw _ (iH (cH s)).1 (iH (cH s)).2.1=_
 rw[hOT];rfl
end bZ
namespace bZ
open Go.RowKit cK dS de gd hY aU cD
theorem Gq{s:Sp}{e m:Int}(h:AP s e=(0,m)):e=0/\(BU (cH s)).any (· ==aE)=aE/\(BV (cH s)).any (· ==aE)=aE/\(((zi (cH s)).length=0/\m=1)\/((zi (cH s)).length≠0/\(iH (cH s)).2.2.2=0/\(iH (cH s)).2.2.1.length=0/\m=2)):=by
 unfold AP at h
 by_cases c0:qd s≠0
 rw[if_pos c0]at h;exact absurd (congrArg F8 h) c0;rw[if_neg c0]at h
 by_cases c1:s.words.length=0\/s.rules.length=0
 rw[if_pos c1]at h;cases h;rw[if_neg c1]at h
 by_cases c2:e≠0
 rw[if_pos c2]at h;exact absurd (congrArg F8 h) c2;rw[if_neg c2]at h
 by_cases c3:(BU (cH s)).any (· ==aE)=aC\/(BV (cH s)).any (· ==aE)=aC
 rw[if_pos c3]at h;cases h;rw[if_neg c3]at h;refine⟨tI c2,?_,?_,?_⟩
 ·cases hb:(BU (cH s)).any (· ==aE)with
  |true=>exact absurd (.inl hb) c3
  |false=>rfl
 ·cases hb:(BV (cH s)).any (· ==aE)with
  |true=>exact absurd (.inr hb) c3
  |false=>rfl
 by_cases c4:(zi (cH s)).length=0
 rw[if_pos c4]at h;exact .inl ⟨c4,(congrArg BO h).symm⟩;rw[if_neg c4]at h
 by_cases c5:(iH (cH s)).2.2.2≠0
 rw[if_pos c5]at h;exact absurd (congrArg F8 h) c5;rw[if_neg c5]at h
 by_cases c6:0<(iH (cH s)).2.2.1.length
 rw[if_pos c6]at h;cases h;rw[if_neg c6]at h;exact .inr ⟨c4,tI c5,by omega,(congrArg BO h).symm⟩
theorem K_{x:Hk}(h:x.vT.oneCell'=aC)(R:List Row):(x.pk R).all eY=true:=by
 have:=zb (za R 256) (vn:=ap (aj ⟨x.gP,0,ak⟩) R.length R.length) (vt:=x.vT) I h;rw[Hk.pk,<-this]
end bZ
namespace nu
open de gd eE cD
open bZ (mw fA xD Kq)
variable{m:MS}{R:List Row}{d:DM}
theorem adL(hm:Ke m)(hi:MkI m (fz m.empty 0) (d.S.length+1) R d)(k:Nat):d.tags.getD k 0<m.empty.length:=by
 have h:=hi.tags;unfold rD at h;rw[h];have h0:=hm.some
 cases k with
 | zero=>
  have:=IL (l:=m.empty);have e:(fz m.empty 0::d.S.map (nu.xC m.ps)).getD 0 0=fz m.empty 0:=rfl;rw[e];omega
 | succ k=>
  by_cases hk:k<d.S.length
  ·have e:(fz m.empty 0::d.S.map (nu.xC m.ps)).getD (k+1) 0=nu.xC m.ps d.S[k]:=by
    rw[RF,cB,fe,bK hk];rfl
   rw[e];unfold nu.xC;rcases KQ hm.rules hm.ok.ps.rules d.S[k] m.ps.a_.length (bz _)with⟨h1,_⟩|⟨_,_,_,_,_,h1,h2,_⟩
   rw[h1];omega;omega
  rw[RF,cB,k7 (by rw[dA];omega)];show(0:Int)<_
  omega
end nu
namespace bZ
open Go.RowKit cK dS de gd hY aU cD eE nu
theorem abn{R:List Row}{tags:List Int}{n:Int}(h:∀k,tags.getD k 0<n):∀t∈Av R tags,t<n:=λt ht=>by
 unfold Av at ht;split at ht
 ·obtain⟨k,-,rfl⟩:=eT.1 ht
  exact h k
 cases ht
theorem abo{s:Sp}{r:Int×List Row×List Int}(h:R8 s r)(h0:r.1=0):0<s.words.length/\s.words.length<=20/\∀t∈r.2.2,t<(s.words.length:Int):=by
 rcases h with⟨k,hk,-,rfl⟩|⟨es,m,h1,-,h3,h4,h5,-,⟨h,rfl⟩|⟨-,h,rfl⟩|⟨h,hd,hc,rfl⟩⟩
 exact absurd h0 hk;exact absurd h0 h;exact absurd h0 h;have hlen:s.words.length=es.length:=by
  have:=congrArg yZ h1
  rwa [qt,dA,dA]at this
 obtain⟨-,h7,-,-⟩:=Kf es 0 .zero m J8 rfl (λr hr=>by cases hr) (bH _) h5;refine⟨by omega,by omega,?_⟩;dsimp only
 cases hm:wy m with
 |none=>rw[Rk hm]at hd;cases hd
 |some y=>
  obtain⟨R,d⟩:=y;rw[FF hm];refine abn λk=>?_;have:=adL (Dm h3 h4 h5) (BP hm) k;show d.tags.getD k 0<_
  omega
end bZ
namespace hY
open de gd
theorem aeB(l:List Wd):∀k,k<=l.length->0<=((l.take k).foldl jF ws0).2.1/\∀x∈((l.take k).foldl jF ws0).1,-1<=x/\x<((l.take k).foldl jF ws0).2.1
 |0,_=>⟨lX _,λx hx=>by cases hx⟩
 | k + 1,h=>by
  obtain⟨a1,a2⟩:=aeB l k J;rw[step_take _ _ _ (show k<l.length by omega)];have key:∀(s:WS) (w:Wd),0<=s.2.1->(∀x∈s.1,-1<=x/\x<s.2.1)->0<=(jF s w).2.1/\∀x∈(jF s w).1,-1<=x/\x<(jF s w).2.1:=λs w b1 b2=>by
   unfold jF;split
   ·refine⟨b1,λx hx=>?_⟩
    rcases fx.1 hx with hx|hx
    exact b2 x hx;rw[dO.1 hx];exact⟨lX _,by show(-1:Int)<s.2.1;omega⟩
   refine⟨by show 0<=s.2.1+1;omega,λx hx=>?_⟩;show-1<=x/\x<s.2.1+1
   rcases fx.1 hx with hx|hx
   have:=b2 x hx;omega;rw[dO.1 hx];omega
  exact key _ _ a1 a2
end hY
namespace bZ
open Go.RowKit cK dS de gd hY aU cD
def agm(s:Sp)(R:List Row)(T:List Int):Md:=⟨(KT s.words).1,za R 256,V' R,T,cH s,1,TZ (cH s) (cH s).aT.toNat (cH s).bC.toNat,[],[]⟩
def agn(s:Sp)(R:List Row)(T:List Int):Md:=⟨(KT s.words).1,za R 256,V' R,T,cH s,2,[],(iH (cH s)).1,(iH (cH s)).2.1⟩
theorem abp{l:List Wd}(h:l.length<=60):(KT l).1.length=l.length:=by
 have:=(aa0 l l.length (bz _) h).1;rw[pY]at this;exact this
section
variable{w:World}{B:bL}{L:List b9}{x:Hk}{s:Sp}{R:List Row}{T:List Int}{i0 i1 i2 i3 i4 i5 i6 i7 i8:Nat}
theorem aeC(hl:s.words.length<=60)(h:(aZ 3 1 x.vo s.words.length ((KT s.words).1.map (av .i64))).holds w):Sl w x.vo (KT s.words).1.length ((KT s.words).1.flatMap cK.dQ):=by
 rw[abp hl];have:=Sl.dD h
 rwa [<-Mw]at this
theorem abq(hg:cz (cH s)=0)(h:(oL x.F x.vp (cH s).aF).holds w):kK (λk=>k<w.heap.size) w (dM (cH s).aT (cH s).bC x.vp) (cH s):=by
 obtain⟨a1,a2,a3,a4,a5,a6⟩:=cV hg;exact y' (gok ⟨a1,by omega⟩) (gok ⟨by omega,by omega⟩) h
theorem abr(hm:Mem B L w)(hl:s.words.length<=60)(hc:mw R T=0)(hg:cz (cH s)=0)
 (h0:L[i0]?=aj (aZ 3 1 x.vo s.words.length ((KT s.words).1.map (av .i64)))) (h1:L[i1]?=aj (oL x.F x.vp (cH s).aF)) (h2:L[i2]?=aj (fv 26 ze x.gP R.length x.Hi)) (h3:L[i3]?=aj (Wf R.length (mN R 256) x.Hi)) (h4:L[i4]?=aj (aZ 3 1 x.vT T.length (T.flatMap cK.dQ)))
 (h5:L[i5]?=aj (fv 26 wH x.gR (cH s).bC.toNat x.WT)) (h6:L[i6]?=aj (jB (λj=>j<(cH s).bC.toNat) (mL (cH s).aF (y9 (cH s).bC.toNat (cH s).aF) (cH s).aT.toNat x.WT (cH s).bC.toNat 0))):
 CY w (.agg (x.cLL (cH s) R)) (agm s R T) x.vo (ap (aj ⟨x.gP,0,ak⟩) R.length R.length) x.vT x.vp (ap (aj ⟨x.gR,0,ak⟩) (cH s).bC.toNat (cH s).bC.toNat) (ap ak 0 0) (ap ak 0 0) where
 val:=rfl
 of:=aeC hl (hm.get h0)
 pk:=hm.pkI h2 h3 h4 hc
 BQ:=abq hg (hm.get h1)
 rows:=by
  obtain⟨a1,a2,a3,a4,a5,a6⟩:=cV hg;exact aaw a5 J (hm.get h5) (hm.get h6)
 pM:=⟨_,_,rfl,ky.nil,ky.nil⟩
theorem abt(hm:Mem B L w)(hl:s.words.length<=60)(hc:mw R T=0)(hg:cz (cH s)=0)
 (h0:L[i0]?=aj (aZ 3 1 x.vo s.words.length ((KT s.words).1.map (av .i64)))) (h1:L[i1]?=aj (oL x.F x.vp (cH s).aF)) (h2:L[i2]?=aj (fv 26 ze x.gP R.length x.Hi)) (h3:L[i3]?=aj (Wf R.length (mN R 256) x.Hi)) (h4:L[i4]?=aj (aZ 3 1 x.vT T.length (T.flatMap cK.dQ)))
 (h5:L[i5]?=aj (aZ 92 1 x.tx.vA (iH (cH s)).1.length x.tx.BK)) (h6:L[i6]?=aj (eh y_ x.tx.FA (x.tx.BK.map λv=>[v]) (iH (cH s)).1)) (h7:L[i7]?=aj (aZ 26 1 x.tx.vG (iH (cH s)).2.1.length x.tx.CV)) (h8:L[i8]?=aj (eh (bO fP) x.tx.FG (x.tx.CV.map λv=>[v]) (iH (cH s)).2.1)):
 CY w (.agg (x.cLR (cH s) R)) (agn s R T) x.vo (ap (aj ⟨x.gP,0,ak⟩) R.length R.length) x.vT x.vp (ap ak 0 0) x.tx.vA x.tx.vG where
 val:=rfl
 of:=aeC hl (hm.get h0)
 pk:=hm.pkI h2 h3 h4 hc
 BQ:=abq hg (hm.get h1)
 rows:=ky.nil
 pM:=adi (hm.get h5) (hm.get h6) (hm.get h7) (hm.get h8)
end
theorem Dx{s:Sp}{r:Int×List Row×List Int}(h:R8 s r)(h0:r.1=0):s.words.length<=20/\cz (cH s)=0/\mw r.2.1 r.2.2=0/\0<(KT s.words).1.length/\(KT s.words).1.length<=20/\(∀t∈(KT s.words).1,-1<=t/\t<(cH s).aT)/\∀t∈r.2.2,t<((KT s.words).1.length:Int):=by
 obtain⟨a1,a2⟩:=wT h h0;obtain⟨b1,b2,b3⟩:=abo h h0;have e:=abp (l:=s.words) J;have c:=(aeB s.words s.words.length (bz _)).2;rw[pY]at c;exact⟨b2,a1,a2,by omega,by omega,c,by rw[e];exact b3⟩
theorem adM{s:Sp}{r:Int×List Row×List Int}(h:R8 s r)(h0:r.1=0):MdGood (agm s r.2.1 r.2.2):=by
 obtain⟨a1,a2,a3,a4,a5,a6,a7⟩:=Dx h h0;obtain⟨b1,b2,b3,b4,b5,b6⟩:=cV a2;exact⟨T_ _,RU (Ua a3),a2,a4,a5,a6,a7,.inl ⟨rfl,NR (g:=cH s) (T:=(cH s).aT.toNat) (N:=(cH s).bC.toNat) a2 J J⟩⟩
theorem adN{s:Sp}{r:Int×List Row×List Int}(h:R8 s r)(h0:r.1=0)(hT:(iH (cH s)).2.2.2=0):MdGood (agn s r.2.1 r.2.2):=by
 obtain⟨a1,a2,a3,a4,a5,a6,a7⟩:=Dx h h0;obtain⟨T,N,Nx,S,hM⟩:=ID hT;refine⟨T_ _,RU (Ua a3),a2,a4,a5,a6,a7,.inr ⟨rfl,T,N,?_⟩⟩;show so (cH s) T N (iH (cH s)).1 (iH (cH s)).2.1
 rw[hM.dK,hM.gos];exact hM.pM
end bZ
namespace bZ
open Go.RowKit cK dS
def oC(Ls:List b9):b9 where
 A5:=ak
 more:=λk=>∃o∈Ls,o.e_ k
 holds:=λw=>ez (λ_=>True) w Ls
 lt:=λw h k hk=>by
  rcases hk with hk|⟨o,ho,hk⟩
  cases hk
  obtain⟨i,hi⟩:=uC ho;exact o.lt w (h.all i o hi).1 k hk
 stay:=λw w' h hs hk=>⟨λi o hi=>⟨o.stay w w' (h.all i o hi).1 hs λk hf=>hk k (.inr ⟨o,mh hi,hf⟩),λ_ _=>trivial⟩,h.apart⟩
theorem Oq{Ls:List b9}{k:Nat}(h:(oC Ls).e_ k):∃o∈Ls,o.e_ k:=by
 rcases h with h|h
 cases h
 exact h
theorem xl{Ls:List b9}{w:World}(h:(oC Ls).holds w):Mem (bL.on w Ls) Ls w:=
 ⟨⟨rfl,rfl,rfl,bz _,λ_ _ _=>rfl⟩,⟨λi o hi=>⟨(h.all i o hi).1,λk hk=> .inr ⟨o,mh hi,hk⟩⟩,h.apart⟩⟩
theorem ez.bun{p:Nat->Prop}{w:World}{Ls:List b9}(h:ez p w Ls):ez p w [oC Ls]:=
 ez.one ⟨λi o hi=>⟨(h.all i o hi).1,λ_ _=>trivial⟩,h.apart⟩ λk hk=>by
  obtain⟨o,ho,hk⟩:=Oq hk;obtain⟨i,hi⟩:=uC ho;exact(h.all i o hi).2 k hk
theorem ez.Sc{p:Nat->Prop}{w:World}{Ls R:List b9}(h:ez p w (R++Ls)):ez p w (R++[oC Ls]):=by
 have hR:ez p w R:=⟨λi o hi=>h.all i o (by rw[iq (dg.1 hi).1];exact hi),λi j o o' sE hi hj=>h.apart i j o o' sE (by rw[iq (dg.1 hi).1];exact hi) (by rw[iq (dg.1 hj).1];exact hj)⟩;have hL:∀(j:Nat) (o:b9),Ls[j]?=aj o->(R++Ls)[R.length+j]?=aj o:=λj o hj=>by rw[pv J];simpa using hj
 have hS:ez p w Ls:=⟨λi o hi=>h.all _ o (hL i o hi),λi j o o' sE hi hj=>h.apart _ _ o o' J (hL i o hi) (hL j o' hj)⟩;refine hR.both hS.bun λi j o o' hi hj k hk lO=>?_
 match j,hj with
 |0,hj=>
  simp only[px,dh]at hj;subst hj;obtain⟨q,hq,hqk⟩:=Oq lO;obtain⟨j,hj⟩:=uC hq;exact h.apart i (R.length+j) o q (by have:=(dg.1 hi).1;omega) (by rw[iq (dg.1 hi).1];exact hi) (hL j q hj) k hk hqk
 |j+1,hj=>simp at hj
theorem Mem.Sc{W:bL}{L R Ls:List b9}{w:World}(h:Mem W L w)(is js:List Nat)(hn:(js++is).Nodup)(hl:Ls=is.filterMap λi=>L[i]?)(hr:R=js.filterMap λi=>L[i]?):Mem W (R++[oC Ls]) w:=
 ⟨h.low,ez.Sc (h.owns.pick (js++is) hn (by rw[List.filterMap_append,<-hl,<-hr]))⟩
end bZ
namespace bZ
open Go.RowKit cK dS de gd hY aU cD gZ
structure MkX where
 vo:Value
 vn:Value
 vt:Value
 vp:Value
 vr:Value
 va:Value
 vg:Value
 Ls:List b9
def MkX.cells(x:MkX)(m:Md):List Value:=jE x.vo (fc m.o x.vn x.vt) (fQ m.g.aT m.g.bC x.vp m.mode x.vr x.va x.vg)
structure Wn(m:Md)(x:MkX):Prop where
 mdr:∀w,(oC x.Ls).holds w->CY w (aQ (x.cells m).toArray) m x.vo x.vn x.vt x.vp x.vr x.va x.vg
 one:(x.cells m).toArray.toList.all eY=aC
def abu(m:Md):Spec MkX:=⟨Wn m,λx=> .tuple #[aQ (x.cells m).toArray,av az 0],λx=>[oC x.Ls]⟩
def air(e:Int):Spec Unit:=⟨λ_=>True,λ_=> .tuple #[aQ GO.toArray,av az e],λ_=>[]⟩
def tQ(s:Sp)(r:Int×List Row×List Int):Md:=if(AP s r.1).2=1 then agm s r.2.1 r.2.2 else agn s r.2.1 r.2.2
theorem sB(x:MkX)(m:Md):(x.cells m).toArray.size=266:=kW (fj _ _ _) I
theorem bY.to{ι κ:Type}{S:Spec ι}(S':Spec κ){w:World}{e:Ending}{w':World}(hm:bY S w e w')(h:∀x,S.ok x->∃y,S'.ok y/\S.val x=S'.val y/\∀w',nI w.heap.size w' (S.own x)->nI w.heap.size w' (S'.own y)):bY S' w e w':=by
 obtain⟨x,h1,h2,h3,h4⟩:=hm;obtain⟨y,k1,k2,k3⟩:=h x h1;exact⟨y,k1,by rw[h2,k2],h3,k3 w' h4⟩
theorem Wo{v:Value}{s:Sp}{r:Int×List Row×List Int}(hx:R8 s r){w:World}(hv:TB (qy w) w v s)(hb:∀r∈s.rules,r.2.length<=8796093021952)(h:(AP s r.1).1≠0):
  Calls aD 12 #[v] w (bY (air (AP s r.1).1) w):=
 (tP v s r hx w hv hb).mono λe w' hm=>by
  have hS:nZ s r=wS (AP s r.1).1:=by unfold nZ;rw[if_pos h]
  rw[hS]at hm;exact hm.to _ λx _=>⟨(),trivial,rfl,λw' h=>h⟩
theorem abv{v:Value}{s:Sp}{r:Int×List Row×List Int}(hx:R8 s r){w:World}(hv:TB (qy w) w v s)(hb:∀r∈s.rules,r.2.length<=8796093021952)(h:(AP s r.1).1=0):
  Calls aD 12 #[v] w (bY (abu (tQ s r)) w):=
 (tP v s r hx w hv hb).mono λe w' hm=>by
  obtain⟨h1,-,-,h4⟩:=Gq (s:=s) (e:=r.1) (m:=(AP s r.1).2) (by rw[<-h]);obtain⟨hG,Sb⟩:=wT hx h1;obtain⟨ajw,-⟩:=Dx hx h1;have hS:nZ s r=if(AP s r.1).2=1 then abi s r.2.1 r.2.2 else abj s r.2.1 r.2.2:=by unfold nZ;rw[if_neg (by rw[h];simp)]
  unfold tQ;rcases h4 with⟨_,oD⟩|⟨_,_,_,oD⟩
  ·rw[oD,if_pos I]at hS⊢
   rw[hS]at hm;refine hm.to (abu _) λx lT=>⟨⟨x.vo,ap (aj ⟨x.gP,0,ak⟩) r.2.1.length r.2.1.length,x.vT,x.vp,ap (aj ⟨x.gR,0,ak⟩) (cH s).bC.toNat (cH s).bC.toNat,ap ak 0 0,ap ak 0 0,x.lex s r.2.1 r.2.2++x.rows (cH s)⟩,⟨λw' hb=>abr (x:=x) (i0:=0) (i1:=1) (i2:=2) (i3:=3) (i4:=4) (i5:=5) (i6:=6) (xl hb) J Sb hG I I I I I I I,?_⟩,rfl,λw' h=>h.bun⟩;obtain⟨k1,k2,k3⟩:=lT;exact rG k1 (K_ (x:=x) k3 r.2.1) (by simp only[fQ,cY,c_,k2];rfl)
  rw[oD,if_neg akh]at hS⊢;rw[hS]at hm;refine hm.to (abu _) λx lT=>⟨⟨x.vo,ap (aj ⟨x.gP,0,ak⟩) r.2.1.length r.2.1.length,x.vT,x.vp,ap ak 0 0,x.tx.vA,x.tx.vG,x.lex s r.2.1 r.2.2++Rw x.tx (iH (cH s)).1 (iH (cH s)).2.1⟩,⟨λw' hb=>abt (x:=x) (i0:=0) (i1:=1) (i2:=2) (i3:=3) (i4:=4) (i5:=5) (i6:=6) (i7:=7) (i8:=8) (xl hb) J Sb hG I I I I I I I I I,?_⟩,rfl,λw' h=>h.bun⟩;obtain⟨⟨k1,k2,k3⟩,b1,b2⟩:=lT;exact rG k1 (K_ (x:=x) k3 r.2.1) (by simp only[fQ,cY,c_,k2,b1,b2];rfl)
theorem Gs{s:Sp}{r:Int×List Row×List Int}(hx:R8 s r)(h:(AP s r.1).1=0):∃b T N,iA (tQ s r) b T N:=by
 obtain⟨h1,-,-,h4⟩:=Gq (s:=s) (e:=r.1) (m:=(AP s r.1).2) (by rw[<-h]);obtain⟨hG,Sb⟩:=wT hx h1;obtain⟨b1,b2,b3,b4,b5,b6⟩:=cV hG;unfold tQ;rcases h4 with⟨_,oD⟩|⟨_,h5,_,oD⟩
 ·rw[oD,if_pos I]
  exact⟨aC,(cH s).aT.toNat,(cH s).bC.toNat,adM hx h1,rfl,by show(cH s).aT=_;omega,by show(cH s).bC=_;omega,λ_=>⟨NR (g:=cH s) hG J J,af0 (g:=cH s) J J⟩,(λh=>by cases h)⟩
 rw[oD,if_neg akh];obtain⟨T,N,Nx,S,hM⟩:=ID h5;have hL:so (cH s) T N (iH (cH s)).1 (iH (cH s)).2.1:=by rw[hM.dK,hM.gos];exact hM.pM
 exact⟨aE,T,N,adN hx h1 h5,rfl,hL.aT,hL.bC,(λh=>by cases h),λ_=>hL⟩
end bZ
namespace bZ
open Go.RowKit cK dS aU dL eO hY gZ bJ jG ft
open gK (Ev qG takeN G6 Kn oM yY Iu)
theorem nI.adO{B:Nat}{w:World}(e e':TypeId)(c c':Nat)(h:nI B w []):nI B w [aZ e c (ap ak 0 0) 0 [],aZ e' c' (ap ak 0 0) 0 []]:=by
 refine⟨λi o hi=>?_,λi j o o' sE hi hj k hk=>?_⟩
 ·match i,hi with
  |0,hi=>cases hi;exact⟨⟨by simp,.inl ⟨rfl,rfl⟩⟩,λk hk=>hk.elim (λh=>by cases h) oE⟩
  |1,hi=>cases hi;exact⟨⟨by simp,.inl ⟨rfl,rfl⟩⟩,λk hk=>hk.elim (λh=>by cases h) oE⟩
  |i+2,hi=>cases hi
 match i,hi with
 |0,hi=>cases hi;exact absurd hk λhk=>hk.elim (λh=>by cases h) oE
 |1,hi=>cases hi;exact absurd hk λhk=>hk.elim (λh=>by cases h) oE
 |i+2,hi=>cases hi
theorem I6{l:List aU.Prod}{nx:Int->Int}{st:List TD}{seen:Nat}{t:Int}(h:(kD l nx st seen t).1≠0):(kD l nx st seen t).2=([],[]):=by
 rcases yV (l:=l) (nx:=nx) (st:=st) (seen:=seen) (t:=t) rfl with⟨h1,h2⟩|⟨x,r,o,a1,h1,h2,h3,h4,h5,h6⟩
 exact h2;exact absurd (congrArg F8 h6) h
theorem abw{l:List aU.Prod}{nx:Int->Int}{st:List TD}(h:(iF l nx st).1≠0):(iF l nx st).2=[]:=by
 rcases Io (l:=l) (nx:=nx) (st:=st) rfl with⟨h1,h2⟩|⟨a1,h1,h2⟩
 exact h2;exact absurd h2 h
theorem xo{l:List aU.Prod}{act:Nat->Nat->bJ.Act}{gt:Nat->Int->Int}{col a:Nat}:∀(f:Nat) (σ:List Nat) (o:List dr),(gO l act gt col a f σ o).1≠0->(gO l act gt col a f σ o).2=([],[])
 |0,σ,o,_=>by unfold gO;rfl
 | f + 1,σ,o,h=>by
  unfold gO at h⊢;split at h
  ·rename_i c;rw[if_pos c]
  rename_i c;rw[if_neg c]
  split at h;exact absurd I h
  rename_i c2;rw[if_neg c2]
  split at h
  ·rename_i c3;rw[if_pos c3]
   split at h
   ·rename_i c4;rw[if_pos c4]
   exact absurd I h
  rename_i c3;rw[if_neg c3]
  split at h
  ·rename_i c4;rw[if_pos c4]
   cases hr:CW l gt σ (act (σ.headD 0) col).2 with
   |none=>rfl
   | some σ'=>
    rw[hr]at h;dsimp only at h⊢;split at h
    ·rename_i c5;rw[if_pos c5]
    rename_i c5;rw[if_neg c5];exact xo f _ _ h
  rename_i c4;rw[if_neg c4]
def tkA(b:Bool)(seen:Nat)(e:Int)(p:PS)(o:List dr):Spec (Value×Value):=
 ⟨λ_=>True,λx=> .tuple #[t_ x.1 ((if e=0 then seen+1 else seen:Nat):Int) e aE,x.2,av az e],λx=>[qK b x.1 p,jY x.2 o]⟩
def enA(seen:Int)(e:Int)(o:List dr):Spec Value:=
 ⟨λ_=>True,λx=> .tuple #[t_ (ap ak 0 0) seen e (decide (e=0)),x,av az e],λx=>[jY x o]⟩
theorem Sd(v vr vt:Value)(g:ep)(ll:List (List Int))(T N:Nat)(p:PS)(seen t:Nat)(w:World)(h:kK (λk=>k<w.heap.size) w v g)(hr:Aw w vr ll)(ht:TdR w vt p.1)(h0:FQ g ll=0)(hg:aU.cz g=0)(hT:FY g ll T N)(hs:∀d∈p.1,ry g d)(hl:p.1.length<=60)(h1:seen<=1000000)(h2:t<T):
 Calls aD 138 #[v,vr,t_ vt (seen:Int) 0 aE,av az (t:Int)] w (bY (tkA aC seen (kD g.aF (jb ll t) p.1 seen (t:Int)).1 ((kD g.aF (jb ll t) p.1 seen (t:Int)).2.1,p.2) (kD g.aF (jb ll t) p.1 seen (t:Int)).2.2) w):=by
 have hc:=CX v vr vt g ll T N p.1 seen t w h hr ht h0 hg hT hs hl h1 h2;have hb:=I6 (l:=g.aF) (nx:=jb ll t) (st:=p.1) (seen:=seen) (t:=(t:Int));generalize kD g.aF (jb ll t) p.1 seen (t:Int)=R at*;obtain⟨e,st,o⟩:=R;dsimp only at hb⊢
 by_cases c:e=0
 ·subst c;rw[aaM]at hc;exact hc
 ·rw[V9 _ c]at hc
  have hb:=hb c;simp only[fX]at hb;obtain⟨rfl,rfl⟩:=hb;exact hc.mono λe' w' hm=>hm.to (tkA aC seen e ([],p.2) []) λx _=>⟨(ap ak 0 0,ap ak 0 0),trivial,by simp only[tkA,if_neg c],λw' ho=>nI.adO _ _ _ _ ho⟩
theorem Wp(v vr vt:Value)(g:ep)(ll:List (List Int))(T N:Nat)(st:List TD)(seen:Nat)(w:World)(h:kK (λk=>k<w.heap.size) w v g)(hr:Aw w vr ll)(ht:TdR w vt st)(h0:FQ g ll=0)(hg:aU.cz g=0)(hT:FY g ll T N)(hs:∀d∈st,ry g d)(hl:st.length<=60)(h1:seen<=1000000):
 Calls aD 144 #[v,vr,t_ vt (seen:Int) 0 aE] w (bY (enA (seen:Int) (iF g.aF (jb ll T) st).1 (iF g.aF (jb ll T) st).2) w):=by
 have hc:=F5 v vr vt g ll T N st seen w h hr ht h0 hg hT hs hl h1;have hb:=abw (l:=g.aF) (nx:=jb ll T) (st:=st);generalize iF g.aF (jb ll T) st=R at*;obtain⟨e,o⟩:=R;dsimp only at hb⊢
 by_cases c:e=0
 ·subst c;rw[adq]at hc;exact hc
 ·rw[aaN _ c]at hc
  obtain rfl:=hb c;exact hc.mono λe' w' hm=>hm.to (enA (seen:Int) e []) λx _=>⟨ap ak 0 0,trivial,by simp only[enA,decide_eq_false c],λw' ho=>(nI.adO 55 55 2 2 ho).pick [0] (by simp) I⟩
theorem adP(v t vs:Value)(g:ep)(T N:Nat)(A:List (List bJ.Act))(G:List (List Int))(p:PS)(seen col:Nat)(w:World)(hG:kK (λk=>k<w.heap.size) w v g)(ht:BL w t A G)(hs:skR w vs p.2)(hT:so g T N A G)(hq:∀q∈p.2,q<A.length)(hne:p.2≠[])(hl:p.2.length<=60)(hc:col<T)(hsn:seen<=1000000):
 Calls aD 139 #[v,t,wL vs (seen:Int) 0 aE,av az (col:Int)] w (bY (tkA aE seen (gO g.aF (jj A) (fm G) col seen 2001 p.2 []).1 (p.1,(gO g.aF (jj A) (fm G) col seen 2001 p.2 []).2.1) (gO g.aF (jj A) (fm G) col seen 2001 p.2 []).2.2) w):=by
 have hc:=KP v t vs g T N A G p.2 seen col w hG ht hs hT hq hne hl hc hsn;have hb:=xo (l:=g.aF) (act:=jj A) (gt:=fm G) (col:=col) (a:=seen) 2001 p.2 [];generalize gO g.aF (jj A) (fm G) col seen 2001 p.2 []=R at*;obtain⟨e,st,o⟩:=R;dsimp only at hb⊢
 by_cases c:e=0
 ·subst c;rw[II]at hc;exact hc
 ·rw[IJ c]at hc
  have hb:=hb c;simp only[fX]at hb;obtain⟨rfl,rfl⟩:=hb;exact hc.mono λe' w' hm=>hm.to (tkA aE seen e (p.1,[]) []) λx _=>⟨(ap ak 0 0,ap ak 0 0),trivial,by simp only[tkA,if_neg c];rfl,λw' ho=>nI.adO _ _ _ _ ho⟩
theorem ago(v t vs:Value)(g:ep)(T N:Nat)(A:List (List bJ.Act))(G:List (List Int))(sG:List Nat)(seen:Nat)(w:World)(hG:kK (λk=>k<w.heap.size) w v g)(ht:BL w t A G)(hs:skR w vs sG)(hT:so g T N A G)(hq:∀q∈sG,q<A.length)(hne:sG≠[])(hl:sG.length<=60)(hsn:seen<=1000000):
 Calls aD 145 #[v,t,wL vs (seen:Int) 0 aE] w (bY (enA (seen:Int) (gO g.aF (jj A) (fm G) T seen 2001 sG []).1 (gO g.aF (jj A) (fm G) T seen 2001 sG []).2.2) w):=by
 have hc:=NV v t vs g T N A G sG seen w hG ht hs hT hq hne hl hsn;have hb:=xo (l:=g.aF) (act:=jj A) (gt:=fm G) (col:=T) (a:=seen) 2001 sG [];generalize gO g.aF (jj A) (fm G) T seen 2001 sG []=R at*;obtain⟨e,st,o⟩:=R;dsimp only at hb⊢
 by_cases c:e=0
 ·subst c;rw[NT]at hc;exact hc
 ·rw[NU c]at hc
  have hb:=hb c;simp only[fX]at hb;obtain⟨rfl,rfl⟩:=hb;exact hc.mono λe' w' hm=>hm.to (enA (seen:Int) e []) λx _=>⟨ap ak 0 0,trivial,by simp only[enA,decide_eq_false c];rfl,λw' ho=>(nI.adO 55 55 2 2 ho).pick [0] (by simp) I⟩
end bZ
end Go.Proofs.YtdmgcnggnejnnaaGreat

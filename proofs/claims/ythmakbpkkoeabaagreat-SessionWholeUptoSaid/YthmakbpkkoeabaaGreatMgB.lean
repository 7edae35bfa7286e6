/- Part 2 of what SessionWholeUpto needs: RexI, DfaL, DfaO, Dfa, SmB, MapN, Fam, Sym, SymS, Gram, TreeL, TreeM, CountL, CountN, CountT, CountR, TreeW, CountX, FactsL, FactsM, FactsN, FactsP, FactsQ, Der, CountU, LlL, TreeS, IntO, FactsA, FactsB, FactsC, FactsD, FactsO, Look, GramN, Brk, SymS2, FactsE, FactsF, CountA, ItL, ItM, LrL, IntK, ItB, MapE, ItC, OrdK, OrdJ, ItH, ItN, SortC, SortI, PlacesL, PlU, PlB, PlN, PlS, PlA. -/
import Derived.Test.YthmakbpkkoeabaaGreatMgA
import Derived.Sort.Grow
import Derived.Deep.RegionWith
import Derived.Deep.RegionHeld
import Derived.Shelf.Sort.Plain
import Derived.Ground.Names2Prog
import Derived.Shelf.Slices.CompactI
import Derived.Shelf.Slices.In.SortNone
import Derived.Lib.RowBridge
import Derived.Lib.SlicesCompact
namespace Go.Proofs.YthmakbpkkoeabaaGreat
set_option linter.unusedVariables false
set_option linter.unusedSimpArgs false
open _root_.And renaming intro->cP
open _root_.Array renaming getElem?_eq_some_iff->kC,getElem?_toList->q6,getElem?_eq_getElem->yt,getElem?_modify->Eh,size_push->PR
open _root_.Array.mk renaming injEq->q7
open _root_.BitVec renaming getLsbD_eq_getElem->PT,ofInt->xV,getLsbD_ofNat->PU,ofInt_natCast->Y4
open _root_.Bool renaming false->aF,true->aD,and_eq_true->fc,or_eq_true->nD,or_eq_false_iff->Y5,not_eq_true->Y6
open _root_.Classical renaming choose_spec->DH,choose->I4
open _root_.Go.Addr renaming add->um
open _root_.Go.DataW renaming trod->sw
open _root_.Go.Instr renaming build->dg,mapUpdate->AV,lookup->Jv,entryStore->PV,mapEntry->PW
open _root_.Go.IntKind renaming i64->aB,bits->mf,wrap_u64->ux,u64->uy,wrap_u8->Jw,u8->Jx
open _root_.Go.Lib renaming compact->q8
open _root_.Go.MapKept renaming run_getObj_map->Bc,run_setObj_map->Jy
open _root_.Go.Op renaming shift->iN
open _root_.Go.Oper renaming wp->gi
open _root_.Go.Proofs.Tryz renaming prog->aE
open _root_.Go.Result renaming andThen->ns
open _root_.Go.Sem renaming run_pure->ph
open _root_.Go.Value renaming slice->av,int->az,pointer->aK,agg->aQ,bool->fT
open _root_.Go.Value.agg renaming injEq->lT
open _root_.Go.Value.int renaming injEq->Ei
open _root_.Go.Value.slice renaming injEq->jN
open _root_.Int renaming toNat_natCast->dD,eq_ofNat_of_zero_le->gU,le_refl->lm,toNat_of_nonneg->u_
open _root_.List renaming getElem?_eq_getElem->bM,length_append->bK,getD_eq_getElem?_getD->de,getElem_mem->cH,getElem?_eq_some_iff->dX,length_cons->dj,all_cons->c_,drop_eq_getElem_cons->eH,replicate->dl,all_nil->db,take_succ_eq_append_getElem->gv,mem_singleton->eV,append_nil->dY,mem_cons->dM,length_map->eI,append_assoc->eY,take_of_length_le->gT,map_append->eZ,nil_append->e7,flatMap_append->ir,drop_of_length_le->jx,not_mem_nil->fz,range->eA,mem_append->gj,map_cons->ff,mem_iff_getElem->iC,mem_cons_self->iO,getElem?_map->jy,mem_map->fG,mem_cons_of_mem->kJ,getElem?_append_left->mg,getElem?_cons_zero->pj,length_take->jz,mem_of_getElem?->mL,ext_getElem?->mh,flatMap_cons->oo,getElem_map->q9,any_eq_true->sU,mem_range->qV,map_nil->lL,mem_of_mem_drop->yu,filterMap_cons_some->A0,set_cons_zero->x7,getElem?_take->yv,map_set->Bd,mem_or_eq_of_mem_set->PX,range_succ->yw,eq_of_mem_replicate->PY,filterMap_append->PZ,length_mergeSort->P0,mem_flatMap->vd,length_range->P1,set_cons_succ->DO,pairwise_mergeSort->Y7,length_eq_zero_iff->Y8,pairwise_singleton->Y9,mergeSort_perm->Y_,pairwise_cons->Y',getElem?_set->Za,getElem_set->Zb,mem_filter->Zc,length_set->Zd
open _root_.List.Pairwise renaming and_mem->af_,nil->af'
open _root_.List.cons renaming injEq->jA
open _root_.Nat renaming le_refl->bC,zero_le->bH,zero_add->cX,blt->dq,le_trans->fH,lt_of_lt_of_le->kE,not_lt_zero->ow,add_assoc->kF,mul_one->lP,lt_of_le_of_lt->P2,xor_lt_two_pow->P3,pow_lt_pow_right->Ej,le_add_right->P4,sub_self->Be,div_le_self->Ek,or_lt_two_pow->Ze,min_le_left->Zf
open _root_.Option renaming some->aj,none->ak,isSome->P5,getD->Zg
open _root_.Option.some renaming injEq->dL
open _root_.Prod renaming ext->nw
open _root_.Prod.mk renaming injEq->jX
open _root_.True renaming intro->cV
open _root_.UInt8 renaming ofNat->fV,toNat_ofNat'->Zh
set_option maxHeartbeats 16000000
namespace bZ
open Go.RowKit cL dQ dh gu Go.ChangeShapes Go.WideShapes Go.ChangeAt
set_option maxRecDepth 100000
section
variable{H:Type}{enc0:TypeId×Value->H}{P:Program}{W:World}{M:Msr P H}
def Em(M:Msr P H)(enc0:TypeId×Value->H)(W:World)(fuel:Nat)(t:TypeId){α:Type}(is:List Value->α->Prop):Prop:=
 ∀cs x,sw enc0 P W 0 (λ_=>aD) aD fuel t cs=aj x->M.ok t x.1->∃a,is cs a
theorem lc.at{fuel:Nat}{t:TypeId}{α:Type}{is:List Value->α->Prop}(h:lc M enc0 W t is):Em M enc0 W fuel t is:=λcs x=>h fuel cs x
theorem Jz{fuel:Nat}{t e:TypeId}{c:Nat}(ht:P.underlying t=aj (.slice e))(hc:P.cellsOf e=c)(Gq:0<c){α:Type}{is:List Value->α->Prop}(hd:∀n,fuel=n+1->Em M enc0 W n e is)(_:∀cs a,is cs a->cs.length=c):Em M enc0 W fuel t (λcs l=>ahU W is c cs l/\M.lim e l.length):=λcs x h hm=>by
 rcases DataW.trod_slice ht h with⟨rfl,_⟩|⟨a,len,cap,elems,rest,n,hf,rfl,hx,_,hlc,hmx,tK,zf,_⟩
 exact⟨[],⟨_,rfl,ak,0,rfl,bC _,by decide,λh=>by grind⟩,M.zero e⟩;rw[hx]at hm;obtain⟨Jr,qW⟩:=M.slice ht hm;have each:∀i,i<len->∃y:α,∃cs,W.cells? 0 (a.add (i*c)) c=aj cs/\is cs y:=λi hi=>by
  have h1:=zf i hi;rw[hc,bM J]at h1
  cases hcell:W.cells? 0 (a.add (i*c)) c with
  |none=>simp_all
  | some cs=>
   rw[hcell]at h1;obtain⟨y,hy⟩:=hd n hf cs _ h1 (qW _ (fG.2 ⟨_,cH J,rfl⟩));exact⟨y,cs,rfl,hy⟩
 obtain⟨l,Pt,hp⟩:=zg len each;subst Pt;refine⟨l,⟨_,rfl,aj a,cap,rfl,hlc,hmx,λh0=>?_⟩,by simp_all⟩;obtain⟨cs0,h1,h2⟩:=hp 0 l[0] (bM h0);have h3:=(jB h1).2 0 Gq;have hlen:=(jB h1).1;rw[bM J]at h3;have hsp:=A2 h3;have e0:a.spot=none:=by
  simp_all[um]
 obtain⟨b,off,spot⟩:=a;obtain rfl:spot=none:=e0;refine⟨b,off,rfl,λi hi=>?_⟩;obtain⟨cs,h4,h5⟩:=hp i l[i] (bM hi);refine⟨cs,h5,λj u hj=>?_⟩;have hj2:j<c:=by
  have:=(dX.1 hj).1;rw[(jB h4).1]at this;exact this
 have h6:=(jB h4).2 j hj2;rw[hj]at h6;have e1:∀(o k:Nat),(⟨b,o,ak⟩:Addr).add k=⟨b,o+k,ak⟩:=λo k=>by unfold um;simp
 rw[e1,e1]at h6;rw[<-h6]
theorem HK{t:TypeId}{fs:Array Field}(ht:P.underlying t=aj (.struct fs)){fuel:Nat}{cs:List Value}{x:DataW H×List MemPlace}(h:sw enc0 P W 0 (λ_=>aD) aD fuel t cs=aj x)(hm:M.ok t x.1):
 cs.length=P.cellsOf t/\∃n,fuel=n+1/\∀(i:Nat) (f:Field),fs[i]?=aj f->∀{α:Type} {is:List Value->α->Prop},Em M enc0 W n f.type is->∃a,is ((cs.drop f.offset).take (P.cellsOf f.type)) a:=by
 obtain⟨xs,n,hn,hx,hl,hlen,hf⟩:=DataW.trod_struct ht h;refine⟨hl,n,hn,λi f hi α is ho=>?_⟩;have h1:=hf i f hi;have hlt:i<xs.length:=by grind
 rw[bM hlt]at h1;rw[hx]at hm;exact ho _ _ h1 (M.YG ht hm i f _ hi (by grind))
end
theorem Zi{W:World}{v:Value}{l:List Rx}(h:U4 W (λcs t=>kQ (qo W) W cs t) 6 v l):kw yo (qo W) W v l:=by
 obtain⟨base,cap,h1,h2,h3,h4⟩:=h;refine⟨base,cap,h1,h2,h3,λh0=>?_⟩;obtain⟨b,off,h5,h6⟩:=h4 h0;refine⟨b,off,h5,?_,λi hi=>?_⟩
 ·obtain⟨cs,h7,h8⟩:=h6 0 h0
  have h7':cs.length=6:=kQ.af4 h7;have:=h8 0 _ (bM J);exact World.block_lt_of_cell? W _ this
 obtain⟨cs,h7,h8⟩:=h6 i hi;exact⟨cs,h7,h8⟩
theorem En{H:Type}{M:Msr aE H}{enc0:TypeId×Value->H}{W:World}:∀(F fuel:Nat),fuel<=F->Em M enc0 W fuel 87 (λcs t=>kQ (qo W) W cs t)
 | 0,fuel,hF,cs,x,h,hm=>by
  obtain⟨_,n,hn,_⟩:=HK Tryz.underlying87 h hm;omega
 | F +1,fuel,hF,cs,x,h,hm=>by
  obtain⟨hl,n,hn,S3⟩:=HK Tryz.underlying87 h hm;have hl6:cs.length=6:=hl;obtain⟨p,e0,k1⟩:=S3 0 _ rfl (lc.at (PH Tryz.underlying3));obtain⟨c,e1⟩:=S3 1 _ rfl (lc.at (Hy Vg));obtain⟨l,⟨v,e2,hs⟩,_⟩:=S3 2 _ rfl (Jz (c:=6) Tryz.underlying85 J aln (λm hm=>En F m J) λcs a h=>h.af4)
  replace e0:(cs.drop 0).take 1=[az aB p]:=e0
  replace e1:(cs.drop 1).take 4=ed c:=e1.1
  replace e2:(cs.drop 5).take 1=[v]:=e2
  refine⟨.mk p c l,zt.2 ⟨v,?_,k1,Zi hs⟩⟩;unfold mG;rw[<-e1]
  match cs,hl6 with
  | [x0,x1,x2,x3,x4,x5],_=>
   grind
end bZ
namespace zy
def nE(n:Nat)(tag:Int)(row:List Int):Bool:=decide (tag< -1)||decide (20<=tag)||row.any λt=>decide (t< -1)||decide ((n:Int)<=t)
def Bf(rows:List (List Int))(tags:List Int):Int:=
 if 200<rows.length then 2 else if rows.length=0\/tags.length≠rows.length then 1 else if(eA rows.length).any (λi=>nE rows.length (tags.getD i 0) (rows.getD i []))then 1 else 0
theorem Zj{rows:List (List Int)}{tags:List Int}(h:Bf rows tags=0):rows.length<=200/\0<rows.length/\tags.length=rows.length/\∀i,i<rows.length-> -1<=tags.getD i 0/\tags.getD i 0<20/\∀t∈rows.getD i [],-1<=t/\t<rows.length:=by
 unfold Bf at h;split at h;simp at h;split at h;simp at h;split at h;simp at h
 rename_i c1 c2 c3
 refine⟨by omega,by omega,by omega,λi hi=>?_⟩;simp only[sU,qV,not_exists,not_and]at c3;have:=c3 i hi;simp only[nE,nD,decide_eq_true_eq,sU,not_or,not_exists,not_and]at this;obtain⟨⟨a,b⟩,c⟩:=this;refine⟨by omega,by omega,λt ht=>?_⟩;have:=c t ht;omega
end zy
namespace bZ
open Go.RowKit cL dQ zy
set_option maxRecDepth 100000
def isRow(cs:List Value)(r:List Int):Prop:=r.length=256/\cs=r.map (.int .i16)/\∀x∈r,-32768<=x/\x<=32767
def L_(W:World)(v:Value)(rows:List (List Int))(tags:List Int):Prop:=∃vr vt,v=aQ #[vr,vt]/\U4 W isRow 256 vr rows/\U4 W (isInt .i64 (-9223372036854775808) 9223372036854775807) 1 vt tags/\∀r∈rows,r.length=256
theorem L_.up{W w:World}{L:List b9}{v:Value}{rows:List (List Int)}{tags:List Int}(h:L_ W v rows tags)(hm:Mem W L w):L_ w v rows tags:=
 let ⟨vr,vt,h1,h2,h3,h4⟩:=h;⟨vr,vt,h1,h2.up hm,h3.up hm,h4⟩
end bZ
namespace bZ
open Go.RowKit cL dQ zy
theorem aga{rows:List (List Int)}{i:Nat}(hi:i<rows.length):rows.getD i []=rows[i]:=by rw[de,bM hi];rfl
theorem P6{l:List Int}{i:Nat}(hi:i<l.length):l.getD i 0=l[i]:=by rw[de,bM hi];rfl
theorem Vh{n i:Nat}{p:Nat->Bool}(hi:i<n)(h:p i=aD):(eA n).any p=true:=sU.2 ⟨i,qV.2 hi,h⟩
theorem Eo(v:Value)(rows:List (List Int))(tags:List Int)(w:World)(h:L_ w v rows tags):
 Calls aE 77 #[v] w (bX (ret (az aB (Bf rows tags))) w):=by
 obtain⟨vr,vt,rfl,hr,ht,akS⟩:=h;obtain⟨br,cr,rfl,Vi,tV,Ep⟩:=hr;have ht':=ht.sl (f:= .int .i64) λcs a h=>h.1;obtain⟨bt,ct,rfl,ht1,OR,GI⟩:=ht';have htr:∀i (hi:i<tags.length),-9223372036854775808<=tags[i]/\tags[i]<=9223372036854775807:=λi hi=>by
  obtain⟨_,_,_,_,_,h5⟩:=ht;obtain⟨_,_,_,h6⟩:=h5 J;obtain⟨_,h7,_⟩:=h6 i hi;exact h7.2
 clear ht;unfold maxLen at tV OR;refine enter (args:=[aQ #[av br rows.length cr,av bt tags.length ct]]) (n:=57) Tryz.func77 I I I ?_;refine cB (bD (bL I I I λg=>?_))
 repeat(first|refine GA ?_|refine gV (aC aL.ty I (aI (i:=0) I I)) ?_)
 unfold Bf
 by_cases c1:200<rows.length
 ·rw[if_pos c1]
  try refine GA ?_
  exact eB
 ·rw[if_neg c1]
  by_cases c2:rows.length=0
  ·rw[if_pos (.inl c2)]
   repeat(first|refine GA ?_|refine gV (aC aL.ty I (aI (i:=0) I I)) ?_)
   exact eB
  by_cases c3:tags.length=rows.length
  ·rw[if_neg J]
   repeat(first|refine GA ?_|refine gV (aC aL.ty I (aI (i:=0) I I)) ?_)
   refine mM (ι:=Nat) (λi=>i<=rows.length/\∀j,j<i->nE rows.length (tags.getD j 0) (rows.getD j [])=aF) (λi=>[(1,aK (aj ⟨g,0,ak⟩)),(3,az aB rows.length),(21,az aB rows.length),(22,az aB (i:Int))]) (λ_=>[aR g #[av br rows.length cr,av bt tags.length ct] 137]) (λi=>rows.length-i) 0 ⟨by omega,λj hj=>by omega⟩ ⟨rfl,rfl,rfl,rfl,trivial⟩ I ?_;rintro i ⟨h1,h2⟩
   by_cases c4:i<rows.length
   ·obtain⟨b,off,rfl,hb⟩:=Ep J
    obtain⟨b',zz,rfl,SD⟩:=GI J;have c4':i<tags.length:=by omega
    have dy:=D0 (L:=[aR g #[av (aj ⟨b,off,ak⟩) rows.length cr,av (aj ⟨b',zz,ak⟩) tags.length ct] 137]) SD c4';obtain⟨cs,hcs,gK⟩:=hb i c4;obtain⟨q1,q2,q3⟩:=hcs;have hti:=htr i c4';have Xe:=P6 c4';have hra:=aga c4;have nW:∀(P:Prop),nE rows.length (tags.getD i 0) (rows.getD i [])=aD->(if(eA rows.length).any (λi=>nE rows.length (tags.getD i 0) (rows.getD i []))=aD then(1:Int)else 0)=1:=λ_ h=>if_pos (Vh c4 h);rw[Xe,hra]at nW
    by_cases c5:tags[i]< -1
    ·rw[nW True (by simp[nE,c5])]
     repeat(first|refine GA ?_|refine gV (aC aL.ty I (aI (i:=0) I I)) ?_|refine gV (bY bQ.eq aL.ty I I c4') ?_|refine gV (aC aL.ty I dy) ?_)
     exact eB
    by_cases c6:20<=tags[i]
    ·rw[nW True (by simp[nE,c6])]
     repeat(first|refine GA ?_|refine gV (aC aL.ty I (aI (i:=0) I I)) ?_|refine gV (bY bQ.eq aL.ty I I c4') ?_|refine gV (aC aL.ty I dy) ?_)
     exact eB
    repeat(first|refine GA ?_|refine gV (aC aL.ty I (aI (i:=0) I I)) ?_|refine gV (bY bQ.eq aL.ty I I c4') ?_|refine gV (aC aL.ty I dy) ?_|refine gV (aZ bQ.eq aL.ty I I c4) ?_|refine gV (aY aL.ty I (by rw[q2,eI,q1]) (λj v hj=>iP gK hj)) ?_)
    refine mM (ι:=Nat) (λb=>b<=256/\∀q,q<b-> -1<=rows[i].getD q 0/\rows[i].getD q 0<rows.length) (λb=>[(1,aK (aj ⟨g,0,ak⟩)),(3,az aB rows.length),(21,az aB rows.length),(22,az aB (i:Int)),(43,aQ cs.toArray),(44,az aB (b:Int))]) (λ_=>[aR g #[av (aj ⟨b,off,ak⟩) rows.length cr,av (aj ⟨b',zz,ak⟩) tags.length ct] 137]) (λb=>256-b) 0 ⟨by omega,λq hq=>by omega⟩ ⟨rfl,rfl,rfl,rfl,rfl,rfl,trivial⟩ I ?_;rintro q ⟨k1,k2⟩
    by_cases c7:q<256
    ·have hql:q<rows[i].length:=by omega
     have hqv:=P6 hql;have hcell:cs.toArray[q]?=aj (.int .i16 rows[i][q]):=by rw[q2];simp[hql]
     have hq3:=q3 _ (cH hql);have ahX:rows[i][q]∈rows[i]:=cH hql;generalize rows[i][q]=z at*
     by_cases c8:z< -1
     ·rw[nW True (by simp only[nE,nD,sU];exact .inr ⟨z,ahX,by simp[c8]⟩)]
      clear k2 h2 Ep GI
      repeat(first|refine GA ?_|refine gV (jQ bQ.eq aL.ty I I c7 hcell) ?_|refine gV (jk bQ.eq bQ.eq I (nO J J)) ?_)
      exact eB
     by_cases c9:(rows.length:Int)<=z
     ·rw[nW True (by simp only[nE,nD,sU];exact .inr ⟨z,ahX,by simp[c9]⟩)]
      clear k2 h2 Ep GI
      repeat(first|refine GA ?_|refine gV (jQ bQ.eq aL.ty I I c7 hcell) ?_|refine gV (jk bQ.eq bQ.eq I (nO J J)) ?_)
      exact eB
     repeat(first|refine GA ?_|refine gV (jQ bQ.eq aL.ty I I c7 hcell) ?_|refine gV (jk bQ.eq bQ.eq I (nO J J)) ?_)
     exact iW (q+1) ⟨by omega,λq' DU=>if e:q'<q then k2 q' e else(by obtain rfl:q'=q:=J;rw[hqv];omega)⟩ (by show 256-(q+1)<256-q;omega) ⟨rfl,rfl,rfl,rfl,rfl,rfl,trivial⟩ I
    have vh:nE rows.length (tags.getD i 0) (rows.getD i [])=false:=by
     rw[Xe,hra];simp only[nE,Y5,decide_eq_false_iff_not,List.any_eq_false,Y6];refine⟨⟨c5,c6⟩,λz hz=>?_⟩;obtain⟨q',DU,rfl⟩:=iC.1 hz;have:=k2 q' J;rw[P6 DU]at this;simp;omega
    try refine GA ?_
    exact iW (i+1) ⟨by omega,λj hj=>if e:j<i then h2 j e else(by obtain rfl:j=i:=J;exact vh)⟩ (by show rows.length-(i+1)<rows.length-i;omega) ⟨rfl,rfl,rfl,rfl,trivial⟩ I
   have hno:¬(eA rows.length).any (λi=>nE rows.length (tags.getD i 0) (rows.getD i []))=true:=by
    simp only[sU,qV,not_exists,not_and];intro j hj;rw[h2 j J];simp
   rw[if_neg hno]
   try refine GA ?_
   exact eB
  rw[if_pos (.inr c3)]
  repeat(first|refine GA ?_|refine gV (aC aL.ty I (aI (i:=0) I I)) ?_)
  exact eB
end bZ
namespace cz
structure tX where
 n:Nat
 d:Nat->Nat->Int
 tag:Nat->Int
structure tX.Ok(A:tX):Prop where
 pos:0<A.n
 le:A.n<=200
 step:∀i,i<A.n->∀b,b<256-> -1<=A.d i b/\A.d i b<A.n
 tags:∀i,i<A.n-> -1<=A.tag i/\A.tag i<20
abbrev Row:=Vector Int 256
abbrev Kind:=Int×Row
section
variable(A:tX)
def val(now:Nat->Nat)(q:Int):Nat:=if q<0 then 0 else now q.toNat
def kind(now:Nat->Nat)(i:Nat):Kind:=((now i:Int),Vector.ofFn λb:Fin 256=>(val now (A.d i b):Int))
def dead:Kind:=(0,Vector.replicate 256 0)
def kinds(now:Nat->Nat):List Kind:=(eA A.n).map (kind A now)
def ox(now:Nat->Nat):List Kind:=dU [dead] (kinds A now)
def next(now:Nat->Nat)(i:Nat):Nat:=idx (ox A now) (kind A now i)
def HL:Nat->Nat->(Nat->Nat)->Nat->Nat
 |0,_,now=>now
 |f+1,n,now=>if(ox A now).length=n then next A now else HL f (ox A now).length (next A now)
def zK(i:Nat):Nat:=(A.tag i+1).toNat
def dr:Nat->Nat:=HL A (A.n+2) 0 (zK A)
def tg(q:Int):Int:=if q<0 then-1 else A.tag q.toNat
def dt(q:Int)(b:Nat):Int:=if q<0 then-1 else A.d q.toNat b
def go:Int->List UInt8->Int
 |q,[]=>q
 |q,b::s=>go (dt A q b.toNat) s
def St(q:Int):Prop:= -1<=q/\q<A.n
def same(q r:Int):Prop:=∀s,tg A (go A q s)=tg A (go A r s)
def kd(now:Nat->Nat)(q:Int):Kind:=if q<0 then dead else kind A now q.toNat
end
section
variable{A:tX}
theorem xF(hA:A.Ok){q:Int}(hq:St A q){b:Nat}(hb:b<256):St A (dt A q b):=by
 unfold St dt at*;have:=hA.pos;split;omega;exact hA.step q.toNat J b hb
theorem Zk:∀(s:List UInt8) {q:Int},q<0->go A q s<0
 |[],_,h=>h
 |b::s,q,h=>Zk s (by simp_all[dt])
theorem Vj{q r:Int}(h:same A q r)(b:Nat)(hb:b<256):same A (dt A q b) (dt A r b):=λs=>by
 have:=h (fV b::s);have e:(fV b).toNat=b:=by simp;omega
 simp_all[go]
theorem P7(now:Nat->Nat)(q:Int):(kd A now q).1=(val now q:Int):=by
 unfold kd val dead kind;split<;>rfl
theorem P8(now:Nat->Nat)(q:Int)(b:Nat)(hb:b<256):(kd A now q).2[b]=(val now (dt A q b):Int):=by
 grind[kd,dt,dead,kind,val]
theorem Zl{now:Nat->Nat}{q r:Int}:kd A now q=kd A now r↔val now q=val now r/\∀b,b<256->val now (dt A q b)=val now (dt A r b):=by
 constructor
 ·intro h
  refine⟨?_,λb hb=>?_⟩
  grind[P7]
  have e:(kd A now q).2[b]=(kd A now r).2[b]:=by rw[h]
  grind[P8]
 rintro⟨h1,h2⟩;refine nw ?_ (Vector.ext λb hb=>?_);rw[P7,P7,h1];rw[P8 _ _ _ hb,P8 _ _ _ hb,h2 b hb]
theorem Ma(now:Nat->Nat):dead∈ox A now:=lh.2 (.inl (by simp))
theorem Zm{now:Nat->Nat}{i:Nat}(h:i<A.n):kind A now i∈ox A now:=lh.2 (.inr (fG.2 ⟨i,qV.2 h,rfl⟩))
theorem Zn{now:Nat->Nat}{q:Int}(h:q<A.n):kd A now q∈ox A now:=by
 grind[kd,Ma,Zm]
theorem Vk(now:Nat->Nat):(ox A now).Nodup:=sS _ _ (by simp)
theorem Bg(now:Nat->Nat):(ox A now).length<=A.n+1:=by
 have h:∀(l D:List Kind),(dU D l).length<=D.length+l.length:=by
  intro l
  induction l with
  |nil=>simp[dU]
  |cons k l ih=>
   grind[dU]
 grind[kinds,ox]
theorem S4(now:Nat->Nat):0<(ox A now).length:=List.length_pos_of_mem (Ma now)
theorem zM(now:Nat->Nat){q:Int}:val (next A now) q=idx (ox A now) (kd A now q):=by
 unfold val kd;split
 ·obtain⟨E,h⟩:=sR (kinds A now) [dead]
  simp_all[ox,YW]
 rfl
theorem qH{now:Nat->Nat}{q:Int}(h:q<A.n):val (next A now) q<(ox A now).length:=by
 simp_all[zM,nC,Zn]
theorem JA{now:Nat->Nat}{q r:Int}(hq:q<A.n):val (next A now) q=val (next A now) r↔kd A now q=kd A now r:=by
 grind[zM,acW,Zn]
theorem Er{now:Nat->Nat}{q r:Int}(hq:q<A.n)(h:val (next A now) q=val (next A now) r):val now q=val now r:=(Zl.1 ((JA hq).1 h)).1
theorem Zo{now:Nat->Nat}{v:Nat}(h:v<(ox A now).length):∃q:Int,St A q/\val (next A now) q=v:=by
 have hm:(ox A now)[v]∈ox A now:=cH h;have hi:idx (ox A now) (ox A now)[v]=v:=Ee (Vk now) h;rcases lh.1 hm with hd|hk
 ·refine⟨-1,⟨by omega,by omega⟩,?_⟩
  simp_all[zM,kd]
 obtain⟨i,h1,h2⟩:=fG.1 hk;rw[qV]at h1;refine⟨i,⟨by omega,by omega⟩,?_⟩;have e:kd A now (i:Int)=kind A now i:=by unfold kd;rw[if_neg J,dD]
 rw[zM,e,h2];exact hi
def S5(A:tX)(n:Nat)(now:Nat->Nat):Prop:=∃was,now=next A was/\n=(ox A was).length
def P9(A:tX)(x:Nat):Int:=if x<A.n then(x:Int)else-1
theorem Zp{q:Int}(h:St A q):∃x,x<A.n+1/\P9 A x=q:=by
 unfold St at h
 by_cases c:q<0
 exact⟨A.n,by omega,by unfold P9;rw[if_neg J];omega⟩;exact⟨q.toNat,by omega,by unfold P9;rw[if_pos J];omega⟩
theorem JB(x:Nat):P9 A x<A.n:=by grind[P9]
theorem yx{n:Nat}{now:Nat->Nat}(h:S5 A n now):n<=(ox A now).length/\((ox A now).length=n->∀q r,St A q->St A r->val now q=val now r->val (next A now) q=val (next A now) r):=by
 obtain⟨was,rfl,rfl⟩:=h;have h:=PM (N:=A.n+1) (f:=λx=>val (next A was) (P9 A x)) (g:=λx=>val (next A (next A was)) (P9 A x)) (n:=(ox A was).length) (c:=(ox A (next A was)).length)
  (λv hv=>by
   grind[Zo,Zp])
  (λx _=>qH (JB x)) (λx y _ _ e=>Er (JB x) e)
 refine⟨h.1,λhc q r hq hr e=>?_⟩;obtain⟨x,hx,rfl⟩:=Zp hq;obtain⟨y,hy,rfl⟩:=Zp hr;exact h.2 hc (λx _=>qH (JB x)) x y hx hy e
structure Way(A:tX)(now:Nat->Nat):Prop where
 tags:∀q r,St A q->St A r->val now q=val now r->tg A q=tg A r
 coarse:∀q r,St A q->St A r->same A q r->val now q=val now r
theorem ajO(hA:A.Ok):Way A (zK A) where
 tags q r hq hr h:=by
  unfold St at hq hr;unfold val zK at h;unfold tg;have h1:=λc=>hA.tags q.toNat (c:q.toNat<A.n);have h2:=λc=>hA.tags r.toNat (c:r.toNat<A.n)
  grind
 coarse q r hq hr h:=by
  have:=h [];simp only[go]at this;unfold tg at this;unfold val zK
  grind
theorem Es(hA:A.Ok){now:Nat->Nat}(h:Way A now):Way A (next A now) where
 tags q r hq hr e:=h.tags q r hq hr (Er hq.2 e)
 coarse q r hq hr e:=(JA hq.2).2 (Zl.2 ⟨h.coarse q r hq hr e,λb hb=>h.coarse _ _ (xF hA hq hb) (xF hA hr hb) (Vj e b hb)⟩)
structure Et(A:tX)(bl:Nat->Nat):Prop where
 le:∀i,i<A.n->bl i<=A.n
 tags:∀q r,St A q->St A r->val bl q=val bl r->tg A q=tg A r
 step:∀q r,St A q->St A r->val bl q=val bl r->∀b,b<256->val bl (dt A q b)=val bl (dt A r b)
 coarse:∀q r,St A q->St A r->same A q r->val bl q=val bl r
theorem P_(hA:A.Ok){n:Nat}{now:Nat->Nat}(hr:S5 A n now)(hw:Way A now)(hc:(ox A now).length=n):Et A (next A now) where
 le i hi:=by
  have:=qH (A:=A) (now:=now) (q:=(i:Int)) J;have h2:=Bg (A:=A) now;unfold val at this;rw[if_neg J,dD]at this;omega
 tags:=(Es hA hw).tags
 coarse:=(Es hA hw).coarse
 step q r hq Gy e b hb:=(yx hr).2 hc _ _ (xF hA hq hb) (xF hA Gy hb) ((Zl.1 ((JA hq.2).1 e)).2 b hb)
theorem Zq(hA:A.Ok):∀(f n:Nat) (now:Nat->Nat),(n=0\/S5 A n now)->n<=A.n+1->A.n+2<=f+n->Way A now->Et A (HL A f n now)
 |0,n,now,_,h1,h2,_=>by omega
 | f +1,n,now,hr,h1,h2,hw=>by
  unfold HL;have hp:=S4 (A:=A) now;split
  ·rename_i hc
   rcases hr with rfl|hr
   omega;exact P_ hA hr hw hc
  rename_i hc
  refine Zq hA f _ _ (.inr ⟨now,rfl,rfl⟩) (Bg now) ?_ (Es hA hw);rcases hr with rfl|hr
  omega;have:=(yx hr).1;omega
theorem HM(hA:A.Ok):Et A (dr A):=Zq hA _ _ _ (.inl I) (bH _) J (ajO hA)
theorem Et.same(hA:A.Ok){bl:Nat->Nat}(h:Et A bl){q r:Int}(hq:St A q)(hr:St A r):val bl q=val bl r↔same A q r:=by
 refine⟨λe s=>?_,h.coarse q r hq hr⟩
 induction s generalizing q r with
 |nil=>exact h.tags q r hq hr e
 |cons b s ih=>exact ih (xF hA hq b.toNat_lt) (xF hA hr b.toNat_lt) (h.step q r hq hr e _ b.toNat_lt)
end
end cz
namespace bZ
open Go.RowKit cL dQ cz
def lp{κ:Type}[DecidableEq κ](D:List κ)(x:κ):Option Value:=if x∈D then aj (az aB (idx D x:Int))else ak
theorem HO{κ:Type}[DecidableEq κ]{D:List κ}{x:κ}(hn:x∉D):(λy=>if y=x then aj (az aB (D.length:Int))else lp D y)=lp (D++[x]):=by
 funext y
 unfold lp
 by_cases c:y=x
 ·subst c
  rw[if_pos I,if_pos (by simp)];have:=rJ (D:=D) (k:=y);unfold more at this;rw[if_neg hn,if_neg hn]at this;rw[this]
 simp_all[qE]
section
variable{P:Program}{k:TypeId}{κ:Type}{K:zr P k κ}
variable{W:bP}{fr:Fr}{L:List b9}{Q:Exit->Act->World->Prop}{ops:Array Oper}{rest:List Oper}{n d:Nat}{dst:Option Tmp}{ty:TypeId}{pos:String}{after:Array Edge}{guard:Option (Nat×Bool)}{i g c:Nat}{t e:TypeId}{D:List κ}{x:κ}{z:Value}{xm xk xv:Operand}[DecidableEq κ]
theorem vj(ht:P.underlying t=aj (.map k e))(hz:∀w,(zeroValue e).run P w= .ok z w)(hi:L[i]?=aj (fv K g (lp D) c))(hm:ev fr xm=aj (.map (aj g)))(hk:ev fr xk=aj (K.kv x))(hx:K.ok x)(hn:x∈D):RR P n W ⟨dst,.lookup t xm xk aD,ty,pos,after,guard⟩ fr L (.tuple #[az aB (idx D x:Int),.bool aD]):=by
 have:=o_ (n:=n) (W:=W) (dst:=dst) (ty:=ty) (pos:=pos) (after:=after) (guard:=guard) K ht hz hi hm hk hx;rw[show lp D x=aj (iV (idx D x:Int))from if_pos hn]at this;exact this
theorem vm(ht:P.underlying t=aj (.map k e))(hz:∀w,(zeroValue e).run P w= .ok z w)(hi:L[i]?=aj (fv K g (lp D) c))(hm:ev fr xm=aj (.map (aj g)))(hk:ev fr xk=aj (K.kv x))(hx:K.ok x)(hn:x∉D):RR P n W ⟨dst,.lookup t xm xk aD,ty,pos,after,guard⟩ fr L (.tuple #[z,.bool aF]):=by
 have:=o_ (n:=n) (W:=W) (dst:=dst) (ty:=ty) (pos:=pos) (after:=after) (guard:=guard) K ht hz hi hm hk hx;rw[show lp D x=ak from if_neg hn]at this;exact this
theorem Bh(hn:dq d n=aD)(h:∀g,TL P n W ops Q rest ((d,.map (aj g))::fr) (L++[fv K g (lp []) 0])):
 TL P n W ops Q (⟨aj d,.makeMap t ak,ty,pos,after,ak⟩::rest) fr L:=by
 refine ym K hn λg=>?_;have e:(λ(_:κ)=>(none:Option Value))=lp []:=by rfl
 simp_all
theorem Bi(ht:P.underlying t=aj (.map k e))(hi:L[i]?=aj (fv K g (lp D) D.length))(hm:ev fr xm=aj (.map (aj g)))(hk:ev fr xk=aj (K.kv x))(hv:ev fr xv=aj (az aB (D.length:Int)))(hx:K.ok x)(hn:x∉D)(hc:D.length<=1152921504606846976)
 (h:TL P n W ops Q rest fr (L.set i (fv K g (lp (D++[x])) (D++[x]).length))):
 TL P n W ops Q (⟨ak,.mapUpdate t xm xk xv,ty,pos,after,ak⟩::rest) fr L:=by
 refine mB K ht hi hm hk hv hx hc ?_;rw[HO hn,show lp D x=ak from if_neg hn];rw[show(D++[x]).length=D.length+1 by simp]at h;exact h
end
end bZ
namespace bZ
open Go.RowKit cL dQ
def jK(D:Nat->Prop)(f:Nat->b9):b9 where
 CM:=ak
 more:=λk=>∃i,D i/\(f i).fy k
 holds:=λw=>(∀i,D i->(f i).holds w)/\∀i j,D i->D j->i≠j->∀k,(f i).fy k->¬(f j).fy k
 lt:=λw h k hk=>by
  rcases hk with hk|⟨i,hi,hk⟩
  cases hk
  exact(f i).lt w (h.1 i hi) k hk
 stay:=λw w' h hs hb=>⟨λi hi=>(f i).stay w w' (h.1 i hi) hs λk hk=>hb k (.inr ⟨i,hi,hk⟩),h.2⟩
theorem Bj{D D':Nat->Prop}{f f':Nat->b9}(h1:∀k,D' k->D k)(h2:∀k,D' k->f' k=f k)(w:World)(h:(jK D f).holds w):(jK D' f').holds w:=
 ⟨λi hi=>by rw[h2 i hi];exact h.1 i (h1 i hi),λi j hi hj tL=>by rw[h2 i hi,h2 j hj];exact h.2 i j (h1 i hi) (h1 j hj) tL⟩
theorem Eu{D D':Nat->Prop}{f f':Nat->b9}(h1:∀k,D' k->D k)(h2:∀k,D' k->f' k=f k)(k:Nat)(h:(jK D' f').fy k):(jK D f).fy k:=by
 rcases h with h|⟨i,hi,hk⟩
 cases h
 exact .inr ⟨i,h1 i hi,by simp_all⟩
def Vl(f:Nat->b9)(i:Nat)(o:b9):Nat->b9:=λk=>if k=i then o else f k
theorem Bk{f:Nat->b9}{i j:Nat}{o:b9}(h:j≠i):Vl f i o j=f j:=by simp_all[Vl]
theorem Bl{f:Nat->b9}{i:Nat}{o:b9}:Vl f i o i=o:=by simp[Vl]
theorem ac0{D:Nat->Prop}{f:Nat->b9}{i:Nat}{o:b9}{w:World}(hi:¬D i)(h:(jK D f).holds w)(ho:o.holds w)(ha:∀k,(jK D f).fy k->¬o.fy k):(jK (λk=>D k\/k=i) (Vl f i o)).holds w:=by
 have hf:∀j,D j->Vl f i o j=f j:=λj hj=>Bk λe=>hi (by simp_all);have hg:Vl f i o i=o:=Bl;refine⟨λj hj=>?_,λj k hj hk hjk q hq DU=>?_⟩
 ·rcases hj with hj|rfl
  rw[hf j hj];exact h.1 j hj;rw[hg];exact ho
 rcases hj with hj|rfl<;>rcases hk with hk|rfl
 rw[hf j hj]at hq;rw[hf k hk]at DU;exact h.2 j k hj hk hjk q hq DU;rw[hf j hj]at hq;rw[hg]at DU;exact ha q (.inr ⟨j,hj,hq⟩) DU;rw[hg]at hq;rw[hf k hk]at DU;exact ha q (.inr ⟨k,hk,DU⟩) hq;exact hjk I
theorem Zr{D:Nat->Prop}{f:Nat->b9}{i:Nat}{o:b9}(hi:¬D i)(k:Nat)(h:(jK (λk=>D k\/k=i) (Vl f i o)).fy k):(jK D f).fy k\/o.fy k:=by
 rcases h with h|⟨j,hj,hk⟩
 cases h
 rcases hj with hj|rfl
 exact .inl (.inr ⟨j,hj,by grind[Bk]⟩);exact .inr (by rw[Bl]at hk;exact hk)
section
variable{P:Program}{n:Nat}{W:bP}{fr:Fr}{L:List b9}{Q:Exit->Act->World->Prop}{ops:Array Oper}{rest:List Oper}{d:Nat}
theorem Mem.split{w:World}{q:Nat}{o:b9}(o1 o2:b9)(h:Mem W L w)(hq:L[q]?=aj o)(h1:∀w,o.holds w->o1.holds w)(h2:∀w,o.holds w->o2.holds w)(f1:∀k,o1.fy k->o.fy k)(f2:∀k,o2.fy k->o.fy k)(ha:∀w,o.holds w->∀k,o1.fy k->¬o2.fy k):Mem W (L.set q o1++[o2]) w:=by
 have hr:=h.SU o1 hq h1 f1;have hoq:=h.owns.all q o hq;have hlen:q<L.length:=(dX.1 hq).1;refine⟨h.low,eP.both hr.owns (eP.one (h2 w hoq.1) λk hk=>hoq.2 k (f2 k hk)) λi j a b hi hj k hk o8=>?_⟩
 match j,hj with
 |0,hj=>
  simp only[pj,dL]at hj;subst hj
  by_cases e:q=i
  grind
  rw[List.getElem?_set_ne e]at hi;exact h.owns.apart i q a o (Ne.symm e) hi hq k hk (f2 k o8)
 |j+1,hj=>grind
theorem Mem.ac1{w:World}(o:b9)(i j:Nat)(js:List Nat){o1 o2:b9}{R:List b9}(h:Mem W L w)(hn:([i,j]++js).Nodup)(h1:L[i]?=aj o1)(h2:L[j]?=aj o2)(hR:R=js.filterMap λi=>L[i]?)(hf:∀k,o.fy k->o1.fy k\/o2.fy k)(hh:∀w,o1.holds w->o2.holds w->(∀k,o1.fy k->¬o2.fy k)->o.holds w):Mem W (R++[o]) w:=by
 have tL:i≠j:=λe=>by simp_all
 have ha:=h.owns.apart i j o1 o2 tL h1 h2;refine Mem.merge o (h.pick ([i,j]++js) hn ?_) hf (λa b=>hh w a b ha);rw[PZ,<-hR]
 congr 1
 rw[A0 (by exact h1),A0 (by exact h2)];rfl
theorem Mem.take{w:World}{q:Nat}{D:Nat->Prop}{f:Nat->b9}(i:Nat)(h:Mem W L w)(hq:L[q]?=aj (jK D f))(hi:D i):Mem W (L.set q (jK (λk=>D k/\k≠i) f)++[f i]) w:=
 h.split _ _ hq (λw h=>Bj (λk h=>h.1) (λ_ _=>rfl) w h) (λw h=>h.1 i hi) (λk h=>Eu (λk h=>h.1) (λ_ _=>rfl) k h) (λk h=> .inr ⟨i,hi,h⟩) λw h k hk o8=>by
  rcases hk with hk|⟨j,⟨hj,hne⟩,hk⟩
  cases hk
  exact h.2 j i hj hi hne k hk o8
theorem P'{c:Code}{q:Nat}{D:Nat->Prop}{f:Nat->b9}(i:Nat)(hq:L[q]?=aj (jK D f))(hi:D i)(h:T P n W c Q fr (L.set q (jK (λk=>D k/\k≠i) f)++[f i])):T P n W c Q fr L:=⟨λa w hr hm=>h.go a w hr (hm.take i hq hi)⟩
theorem S6{q:Nat}{D:Nat->Prop}{f:Nat->b9}(i:Nat)(hq:L[q]?=aj (jK D f))(hi:D i)(h:TL P n W ops Q rest fr (L.set q (jK (λk=>D k/\k≠i) f)++[f i])):TL P n W ops Q rest fr L:=⟨λa w hr hm=>h.go a w hr (hm.take i hq hi)⟩
theorem Mem.put{w:World}{D D':Nat->Prop}{f f':Nat->b9}{o:b9}{R:List b9}(x q j:Nat)(js:List Nat)(h:Mem W L w)(hn:([q,j]++js).Nodup)(hq:L[q]?=aj (jK D f))(hj:L[j]?=aj o)(hR:R=js.filterMap λi=>L[i]?)(hx:¬D x)(hD:∀k,D' k->D k\/k=x)(hf:∀k,D' k->f' k=Vl f x o k):Mem W (R++[jK D' f']) w:=
 h.ac1 _ q j js hn hq hj hR (λk hk=>Zr hx k (Eu hD hf k hk)) λw h1 h2 h3=>Bj hD hf w (ac0 hx h1 h2 h3)
theorem Zs{D D':Nat->Prop}{f f':Nat->b9}{o:b9}{R:List b9}(x q j:Nat)(js:List Nat)(hn:([q,j]++js).Nodup)(hq:L[q]?=aj (jK D f))(hj:L[j]?=aj o)(hR:R=js.filterMap λi=>L[i]?)(hx:¬D x)(hD:∀k,D' k->D k\/k=x)(hf:∀k,D' k->f' k=Vl f x o k)(h:TL P n W ops Q rest fr (R++[jK D' f'])):TL P n W ops Q rest fr L:=⟨λa w hr hm=>h.go a w hr (hm.put x q j js hn hq hj hR hx hD hf)⟩
theorem S7{e:Exit}{D D':Nat->Prop}{f f':Nat->b9}{o:b9}{R:List b9}(x q j:Nat)(js:List Nat)(hn:([q,j]++js).Nodup)(hq:L[q]?=aj (jK D f))(hj:L[j]?=aj o)(hR:R=js.filterMap λi=>L[i]?)(hx:¬D x)(hD:∀k,D' k->D k\/k=x)(hf:∀k,D' k->f' k=Vl f x o k)(h:E n W e Q fr (R++[jK D' f'])):E n W e Q fr L:=⟨λa w hr hm=>h.go a w hr (hm.put x q j js hn hq hj hR hx hD hf)⟩
theorem ac2{q:Nat}{o:b9}{p:Addr}{v:Value}(hq:L[q]?=aj o)(h:∀w,o.holds w->w.cell? p=aj v):At W L p v:=λw hm=>h w (hm.get hq)
theorem zN{g off size cap m k:Nat}{e:TypeId}{xs:List Value}{v:Value}{w:World}(h:(a_ e size (av (aj ⟨g,0,ak⟩) m cap) k xs).holds w)(hv:xs[off]?=aj v):w.cell? ⟨g,off,ak⟩=aj v:=by
 have h:w.ownsRow 0 e size (sV g m cap) k xs:=h;have:=h.cells (g:=g) I off v hv
 simp_all[eS]
def mq{α:Type}(len:Nat)(f:Nat->α):List α:=(eA len).map f
section
variable{α:Type}
theorem jl(len:Nat)(f:Nat->α):(mq len f).length=len:=by simp[mq]
theorem vv{len:Nat}(f:Nat->α){k:Nat}(h:k<len):(mq len f)[k]?=aj (f k):=by simp[mq,h]
theorem Zt{len:Nat}(f g:Nat->α)(k:Nat)(v:α)(h:∀i,i<len->g i=if i=k then v else f i):(mq len f).set k v=mq len g:=by
 apply mh;intro i;rw[Za]
 by_cases hi:i<len
 ·rw[vv g hi,h i hi]
  by_cases e:k=i
  simp_all[jl];rw[if_neg e,if_neg (λe'=>e e'.symm),vv f hi]
 simp_all[jl]
theorem Qa{len:Nat}{f g:Nat->α}(h:∀i,i<len->f i=g i):mq len f=mq len g:=by
 simp_all[mq]
theorem Qb(val:α->Value)(a:α)(len:Nat):(mq len λ_=>a).map val=dl len (val a):=by
 unfold mq;rw[List.map_map];apply mh;intro i
 by_cases h:i<len<;>simp[h]
def fE(e:TypeId)(val:α->Value)(g len:Nat)(f:Nat->α):b9:=a_ e 1 (av (aj ⟨g,0,ak⟩) len len) len ((mq len f).map val)
theorem pD{e:TypeId}{val:α->Value}{g len:Nat}{f f':Nat->α}(h:∀i,i<len->f i=f' i):fE e val g len f=fE e val g len f':=by grind[fE,Qa]
theorem gI{e:TypeId}{val:α->Value}{i g len k:Nat}{f:Nat->α}(hi:L[i]?=aj (fE e val g len f))(hk:k<len):At W L ⟨g,0+k,ak⟩ (val (f k)):=jP hi (by rw[cX,jy,vv f hk];rfl)
theorem Bm{e:TypeId}{val:α->Value}{g len k:Nat}{f:Nat->α}{w:World}(h:(fE e val g len f).holds w)(hk:k<len):w.cell? ⟨g,0+k,ak⟩=aj (val (f k)):=zN h (by rw[cX,jy,vv f hk];rfl)
theorem Zu{e:TypeId}{val:α->Value}{g len k:Nat}{v:α}{f f':Nat->α}(h:∀i,i<len->f' i=if i=k then v else f i):a_ e 1 (av (aj ⟨g,0,ak⟩) len len) len (((mq len f).map val).set k (val v))=fE e val g len f':=by
 unfold fE;rw[<-Bd,Zt f f' k v h]
theorem ji{e:TypeId}{val:α->Value}{ty:TypeId}{pos:String}{after:Array Edge}{t:TypeId}{p x:Operand}{i g off len:Nat}{v:α}{f:Nat->α}(f':Nat->α)(hT:Ty P t aF 1)(hi:L[i]?=aj (fE e val g len f))(hp:ev fr p=aj (aK (aj ⟨g,0+off,ak⟩)))(hx:ev fr x=aj (val v))(h1:(val v).cells=#[val v])(h2:(val v).oneCell'=aD)(hk:off<len)(hf:∀i,i<len->f' i=if i=off then v else f i)
 (h:TL P n W ops Q rest fr (L.set i (fE e val g len f'))):TL P n W ops Q (⟨ak,.store t p x,ty,pos,after,ak⟩::rest) fr L:=
 mA hT hi hp hx h1 I h2 (by simp_all[jl]) (by rw[cX,Zu hf];exact h)
theorem pE{t e:TypeId}{x y:Operand}{bytes m:Nat}{k k':IntKind}{ty:TypeId}{pos:String}{after:Array Edge}(val:α->Value)(z:α)[rC P t e 1 bytes][eU P e #[val z]](hx:ev fr x=aj (.int k (m:Int)))(hy:ev fr y=aj (.int k' (m:Int)))(hb:bytes*m<=281474976710656)(qX:m<=9223372036854775807)(hn:dq d n=aD)
 (h:∀g,TL P n W ops Q rest ((d,av (aj ⟨g,0,ak⟩) m m)::fr) (L++[fE e val g m λ_=>z])):TL P n W ops Q (⟨aj d,.makeSlice t x y,ty,pos,after,ak⟩::rest) fr L:=
 PJ hx hy hb qX hn λg=>by
  simp_all[fE,Qb]
end
end
open aV
def eu(x:dw):List Value:=[az aB x.1,az aB x.2]
def Zv(x:dw):Prop:=cL.dV x.1/\cL.dV x.2
theorem JC(l:List dw):∀u∈l.flatMap eu,u.oneCell'=true:=by
 intro u hu;obtain⟨f,_,h⟩:=vd.1 hu;simp only[eu,dM,fz,or_false]at h;rcases h with rfl|rfl<;>rfl
theorem Zw(f f':dw)(w:World):(Op.equalIn 10000 182 (aQ (eu f).toArray) (aQ (eu f').toArray)).run aE w= .ok (decide (f=f')) w:=by
 obtain⟨k,q⟩:=f;obtain⟨k',q'⟩:=f';unfold eu
 go_simp
 grind
def ac3:wY dw:=zq eu 2 (λ_=>rfl) Zv
def oL:wY aV.Prod:=YL fP (bR ac3)
def dP(t n:Int)(vp:Value):Value:=aQ #[az aB t,az aB n,vp]
def kK(F:Nat->Prop)(w:World)(v:Value)(g:ep):Prop:=∃vp,v=dP g.aT g.bx vp/\kw oL F w vp g.aH/\cL.dV g.aT/\cL.dV g.bx
theorem kK.stay{F:Nat->Prop}{w w':World}{v:Value}{g:ep}(h:kK F w v g)(hk:∀k,F k->w'.heap[k]?=w.heap[k]?):kK F w' v g:=
 let ⟨vp,h1,h2,h3⟩:=h;⟨vp,h1,h2.stay hk,h3⟩
theorem kw.gr{α:Type}{s:wY α}{w w':World}{v:Value}{l:List α}(h:kw s (λk=>k<w.heap.size) w v l)(hg:Gr w w'):kw s (λk=>k<w'.heap.size) w' v l:=
 (h.stay λk hk=>hg.block k hk).mono λ_ hk=>kE hk hg.size
theorem kK.gr{w w':World}{v:Value}{g:ep}(h:kK (λk=>k<w.heap.size) w v g)(hg:Gr w w'):kK (λk=>k<w'.heap.size) w' v g:=
 let ⟨vp,h1,h2,h3⟩:=h;⟨vp,h1,h2.gr hg,h3⟩
theorem l7{F:Nat->Prop}{w:World}{b off:Nat}{l:List aV.Prod}(h:∀i (h:i<l.length),∃cs,oL.is F w cs l[i]/\Rd w b (off+i*oL.c) cs){k:Nat}(hk:k<l.length):
 ∃base cap,Rd w b (off+k*2) [az aB l[k].1,.slice base l[k].2.length cap]/\cL.dV l[k].1/\kw ac3 F w (.slice base l[k].2.length cap) l[k].2:=by
 obtain⟨cs,⟨c1,c2,rfl,⟨rfl,kV⟩,⟨vb,rfl,AN⟩⟩,hr⟩:=h k hk;have ajP:=AN;obtain⟨base,cap,rfl,_⟩:=ajP;exact⟨base,cap,hr,kV,AN⟩
theorem nX(a:dw):(eu a).length=2:=rfl
theorem xl(v:Value)(l:List dw)(w:World)(hs:Sl w v l.length (l.flatMap eu))(pF:FuncId)(first cp:Array Value)(p:dw->Bool)(Bn:Enters aE pF)
 (hp:∀a∈l,∀w',Gr w w'->Calls aE pF (first++#[(aQ (eu a).toArray)]++cp) w' (bX (ret (.bool (p a))) w')):
 Calls aE 115 #[v,.func (.func pF) first cp] w (bX (ret (az aB (rF p l))) w):=by
 obtain⟨base,cap,rfl,lf,jL,eR⟩:=hs;unfold maxLen at jL;refine enter (args:=[av base l.length cap,.func (.func pF) first cp]) (n:=19) Tryz.func115 I I I ?_
 try refine GA ?_
 refine d_ (ι:=Nat) (λk=>k<=l.length/\∀j (hj:j<l.length),j<k->p l[j]=aF) (λk=>[(0,av base l.length cap),(1,.func (.func pF) first cp),(7,az aB l.length),(8,az aB (k:Int))]) (λ_=>[]) (λk=>l.length-k) 0 ⟨by omega,λj hj h=>by omega⟩ ?_;rintro k ⟨h1,h2⟩
 by_cases c2:k<l.length
 ·obtain⟨b,off,rfl,hr⟩:=eR J
  have dy:=gd (L:=([]:List b9)) nX hr c2;have jU:=hp l[k] (cH c2)
  by_cases c3:p l[k]=aD
  ·rw[rG c2 c3 h2]
   rw[c3]at jU;clear hp h2 eR
   repeat(first|refine GA ?_|refine gV (aZ bQ.eq aL.ty I I c2) ?_|refine gV (aY aL.ty I I dy) ?_)
   refine aU (CO Bn I I) (λw hm=>jU w hm.below) I I I ?_;intro _ _
   try refine GA ?_
   exact eB
  have OQ:p l[k]=false:=by simpa using c3
  rw[OQ]at jU;clear hp eR c3
  repeat(first|refine GA ?_|refine gV (aZ bQ.eq aL.ty I I c2) ?_|refine gV (aY aL.ty I I dy) ?_)
  refine aU (CO Bn I I) (λw hm=>jU w hm.below) I I I ?_;intro _ _
  try refine GA ?_
  exact bW (k+1) ⟨by omega,λj hj h=>if e:j<k then h2 j hj e else(by obtain rfl:j=k:=J;exact OQ)⟩ (by show l.length-(k+1)<l.length-k;omega)
 ·rw[rH λj hj=>h2 j hj J]
  clear hp h2 eR
  try refine GA ?_
  exact eB
theorem sX(v:Value)(l:List dw)(w:World)(hs:Sl w v l.length (l.flatMap eu))(pF:FuncId)(first cp:Array Value)(p:dw->Bool)(Bn:Enters aE pF)
 (hp:∀a∈l,∀w',Gr w w'->Calls aE pF (first++#[(aQ (eu a).toArray)]++cp) w' (bX (ret (.bool (p a))) w')):
 Calls aE 80 #[v,.func (.func pF) first cp] w (bX (ret (.bool (l.any p))) w):=by
 refine enter (args:=[v,.func (.func pF) first cp]) (n:=9) Tryz.func80 I I I ?_;have hh:=λw' (hg:Gr w w')=>xl v l w' (hs.gr hg) pF first cp p Bn λa ha Gs yy=>hp a ha Gs (hg.trans yy);have hr:=pA p l;rw[<-uS p l];generalize rF p l=r at*
 try refine GA ?_
 refine aU (fC aJ.en I I I) (λw hm=>hh _ hm.below) I I I ?_;intro _ _
 repeat(first|refine GC ?_|refine gV (fu I I I) ?_|refine GB ?_)
 exact eB
theorem Mb(t n:Int)(vp:Value)(x:dw)(w:World):Calls aE 82 #[dP t n vp,aQ (eu x).toArray] w (bX (ret (.bool (right t n x))) w):=by
 obtain⟨k,q⟩:=x;refine enter (args:=[dP t n vp,aQ (eu (k,q)).toArray]) (n:=31) Tryz.func82 I I I ?_;refine cB (bD (bL I I I λg0=>bL I I I λg1=>?_))
 repeat' (first
  |refine QV QP ?_
  |refine QZ ?_
  |refine qcT I ?_
  |refine qcF I ?_
  |refine qs I I I I I I ?_
  |(((try refine qg I I I ?_);first|refine QV QP ?_|refine QV (aC aL.ty I (aI (i:=0) I I)) ?_|refine QV (aC aL.ty I (aI (i:=1) I I)) ?_|refine QV QA ?_|refine QV QhT ?_|refine QV QhF ?_|refine QV QeT ?_|refine QV QeF ?_|refine QV QlT ?_|refine QV QlF ?_))
  |refine pw (ez I I I) I I I I I (λh=>?_) (λh=>?_)
  |refine uI (fu I I I) I I I (λh=>?_) (λh=>?_)
  |refine uI (cY I I I) I I I (λh=>?_) (λh=>?_)
  |((fail_if_success (refine Jf I ?_));(fail_if_success (refine Jg I ?_));refine SF I (λh=>?_) (λh=>?_))
  |((fail_if_success (refine Pw I I I ?_));(fail_if_success (refine Px I I I ?_));refine A6 I I I (λh=>?_) (λh=>?_)))
 all_goals (refine dG I I ?_;congr 1;unfold right;dsimp only at*;repeat (first|rw[if_pos J]|rw[if_neg J]|rw[decide_eq_true (by assumption)]|rw[decide_eq_false (by assumption)]);try rfl)
theorem JD(t n:Int)(vp:Value)(x:dw)(g:Nat)(w:World)(hg:w.heap[g]?=aj (.cells (dP t n vp).cells 33 (0,0))):
 Calls aE 81 #[aQ (eu x).toArray,aK (aj ⟨g,0,ak⟩)] w (bX (ret (.bool (!right t n x))) w):=by
 have hcell:∀(L:List b9) (j:Nat) (v:Value),([az aB t,az aB n,vp]:List Value)[j]?=aj v->At w L ⟨g,0+j,ak⟩ v:=λL j v hj=>kH (by
  rw[cell_of_row w g (0+j) _ _ _ hg,cX];show(#[az aB t,az aB n,vp]:Array Value)[j]?=aj v
  simpa using hj)
 have hr:=Mb t n vp x;refine enter (args:=[aQ (eu x).toArray,aK (aj ⟨g,0,ak⟩)]) (n:=8) Tryz.func81 I I I ?_;refine cB (bD (bL I I I λg0=>?_))
 repeat(first|refine GA ?_|refine gV (aY aL.ty I I (hcell _)) ?_|refine gV (aP (i:=0) aL.ty I I I) ?_)
 refine aU (fC aJ.en I I I) (λw hm=>hr w) I I I ?_;intro _ _
 try refine GA ?_
 exact eB
theorem Mc{t n:Int}{l:List aV.Prod}{k:Nat}(h:k<l.length)(h0:zx t n l[k]=0):pC t n (l.drop k)=pC t n (l.drop (k+1)):=by
 rw[eH h,pC,if_neg (by simp[h0])]
theorem Me{t n:Int}{l:List aV.Prod}{k:Nat}(h:k<l.length)(h0:zx t n l[k]≠0):pC t n (l.drop k)=zx t n l[k]:=by
 rw[eH h,pC,if_pos h0]
theorem ke(v:Value)(g:ep)(w:World)(h:kK (λk=>k<w.heap.size) w v g):
 Calls aE 44 #[v] w (bX (ret (az aB (cC g))) w):=by
 obtain⟨vp,rfl,h1,_⟩:=h;obtain⟨bp,cp,rfl,JE,Gv,oM⟩:=h1;unfold maxLen at Gv;obtain⟨t,n,aH⟩:=g;dsimp only at*;refine enter (args:=[dP t n (av bp aH.length cp)]) (n:=57) Tryz.func44 I I I ?_;refine cB (bD (bL I I I λg0=>?_));unfold cC;dsimp only
 by_cases c1:t<0
 ·rw[if_pos c1]
  repeat(first|refine GA ?_|refine gV (aC aL.ty I (aI (i:=0) I I)) ?_)
  exact eB
 rw[if_neg c1]
 by_cases c2:30<t
 ·rw[if_pos c2]
  repeat(first|refine GA ?_|refine gV (aC aL.ty I (aI (i:=0) I I)) ?_)
  exact eB
 rw[if_neg c2]
 by_cases c3:n<1
 ·rw[if_pos c3]
  repeat(first|refine GA ?_|refine gV (aC aL.ty I (aI (i:=0) I I)) ?_)
  exact eB
 rw[if_neg c3]
 by_cases c4:20<n
 ·rw[if_pos c4]
  repeat(first|refine GA ?_|refine gV (aC aL.ty I (aI (i:=0) I I)) ?_)
  exact eB
 rw[if_neg c4]
 by_cases c5:40<aH.length
 ·rw[if_pos c5]
  repeat(first|refine GA ?_|refine gV (aC aL.ty I (aI (i:=0) I I)) ?_)
  exact eB
 rw[if_neg c5]
 repeat(first|refine GA ?_|refine gV (aC aL.ty I (aI (i:=0) I I)) ?_)
 refine d_ (ι:=Nat) (λk=>k<=aH.length/\pC t n aH=pC t n (aH.drop k)) (λk=>[(1,aK (aj ⟨g0,0,ak⟩)),(30,av bp aH.length cp),(31,az aB aH.length),(32,az aB (k:Int))]) (λ_=>[aR g0 (dP t n (av bp aH.length cp)).cells 33]) (λk=>aH.length-k) 0 ⟨bH _,rfl⟩ ?_;rintro k ⟨i1,i2⟩;rw[i2];clear i2
 by_cases c6:k<aH.length
 ·obtain⟨b,off,rfl,_,hr⟩:=oM J
  obtain⟨bb,cb,q1,q2,q3⟩:=l7 hr c6;have qG:=Me (t:=t) (n:=n) c6;have zO:=Mc (t:=t) (n:=n) c6;have dy:∀(L:List b9) (j:Nat) (v:Value),([az aB aH[k].1,.slice bb aH[k].2.length cb]:List Value)[j]?=aj v->At w L ⟨b,off+k*2+j,ak⟩ v:=λL j v hj=>iP q1 hj;clear hr oM q1;generalize aH[k]=p at*;obtain⟨hd,body⟩:=p;have Lp:=λw' (hg:Gr w w') (hb:w'.heap[g0]?=aj (.cells (dP t n (av (aj ⟨b,off,ak⟩) aH.length cp)).cells 33 (0,0)))=>sX (av bb body.length cb) body w' ((q3.flat aln).gr hg) 81 #[] #[aK (aj ⟨g0,0,ak⟩)] (λx=>!right t n x) aJ.en (λa _ Gs yy=>JD t n _ a g0 Gs (by rw[yy.block g0 (kC.1 hb).1];exact hb));dsimp only at*
  repeat(first|refine GA ?_|refine gV (aZ bQ.eq aL.ty I I c6) ?_|refine gV (aY aL.ty I I (dy _)) ?_)
  clear dy;refine a8 I λg4=>?_;refine gG 1 ?_;refine zL ?_;unfold zx at qG zO;dsimp only at qG zO
  by_cases c7:8<body.length
  ·rw[if_pos c7]at qG
   rw[qG aln]
   repeat(first|refine GA ?_|refine gV (aC aL.ty I (aI (i:=1) I I)) ?_)
   exact eB
  rw[if_neg c7]at qG zO
  by_cases c8:hd<0
  ·rw[if_pos c8]at qG
   rw[qG aln]
   repeat(first|refine GA ?_|refine gV (aC aL.ty I (aI (i:=1) I I)) ?_)
   exact eB
  rw[if_neg c8]at qG zO
  by_cases c9:n<=hd
  ·rw[if_pos c9]at qG
   rw[qG aln]
   repeat(first|refine GA ?_|refine gV (aC aL.ty I (aI (i:=1) I I)) ?_|refine gV (aC aL.ty I (aI (i:=0) I I)) ?_)
   exact eB
  rw[if_neg c9]at qG zO
  by_cases c10:body.any (λx=>!right t n x)=aD
  ·rw[if_pos c10]at qG
   rw[qG aln];rw[c10]at Lp
   repeat(first|refine GA ?_|refine gV (aC aL.ty I (aI (i:=1) I I)) ?_|refine gV (aC aL.ty I (aI (i:=0) I I)) ?_|refine gV (sO I I) ?_)
   refine k7 (fC aJ.en I I I) (λw hm=>Lp _ hm.below (hm.get (i:=0) I)) I I I I I ?_;intro _ _
   try refine GA ?_
   exact eB
  have ajQ:body.any (λx=>!right t n x)=false:=by simpa using c10
  rw[if_neg c10]at zO;rw[ajQ]at Lp
  repeat(first|refine GA ?_|refine gV (aC aL.ty I (aI (i:=1) I I)) ?_|refine gV (aC aL.ty I (aI (i:=0) I I)) ?_|refine gV (sO I I) ?_)
  refine k7 (fC aJ.en I I I) (λw hm=>Lp _ hm.below (hm.get (i:=0) I)) I I I I I ?_;intro _ _
  try refine GA ?_
  refine dv [0] ?_;exact bW (k+1) ⟨by omega,zO I⟩ (by show aH.length-(k+1)<aH.length-k;omega)
 ·rw[jx J]
  try refine GA ?_
  exact eB
end bZ
namespace dO
open aV
inductive Tree where
 |mk (prod tok:Int) (kids:List Tree)
def Tree.prod:Tree->Int| .mk p _ _=>p
def Tree.tok:Tree->Int| .mk _ t _=>t
def Tree.kids:Tree->List Tree| .mk _ _ k=>k
def df(l:List aV.Prod)(p:Int):aV.Prod:=l.getD p.toNat (0,[])
mutual
def size:Tree->Nat
 | .mk _ _ kids=>ae_ kids+1
def ae_:List Tree->Nat
 |[]=>0
 |k::r=>size k+ae_ r
end
mutual
def leaves:Tree->Nat
 | .mk p _ kids=>if p<0 then 1 else Dd kids
def Dd:List Tree->Nat
 |[]=>0
 |k::r=>leaves k+Dd r
end
mutual
def HP(l:List aV.Prod):Tree->dw->Nat->Prop
 | .mk p k kids,x,v=>
  (x.1=1/\p= -1/\k=(v:Int)/\kids=[])\/(x.1≠1/\0<=p/\p<(l.length:Int)/\(df l p).1=x.2/\k=0/\Ew l kids (df l p).2 v)
def Ew(l:List aV.Prod):List Tree->List dw->Nat->Prop
 |[],[],_=>True
 |[],_::_,_=>False
 |_::_,[],_=>False
 |k::r,y::b,v=>HP l k y v/\Ew l r b (v+leaves k)
end
inductive agb where
 |ahead (p:Int)
 |behind (p:Int)
 |leaf (Ex tok:Int)
mutual
def dN(l:List aV.Prod):Tree->List agb
 | .mk p _ kids=> .ahead p::(S8 l kids (df l p).2++[.behind p])
def S8(l:List aV.Prod):List Tree->List dw->List agb
 |[],_=>[]
 |_::_,[]=>[]
 | .mk p k ks::r,y::b=>(if p<0 then [.leaf y.2 k]else dN l (.mk p k ks))++S8 l r b
end
def Qc:agb->Option Int
 | .leaf t _=>aj t
 |_=>ak
def Bo(l:List aV.Prod)(t:Tree):List Int:=(dN l t).filterMap Qc
def Bp(l:List aV.Prod)(ks:List Tree)(b:List dw):List Int:=(S8 l ks b).filterMap Qc
theorem Vm(l:List aV.Prod)(p k:Int)(kids:List Tree):Bo l (.mk p k kids)=Bp l kids (df l p).2:=by
 unfold Bo Bp;rw[dN,List.filterMap_cons_none I,PZ];simp[Qc]
theorem Mf(l:List aV.Prod)(p k:Int)(ks r:List Tree)(y:dw)(b:List dw):Bp l (.mk p k ks::r) (y::b)=(if p<0 then [y.2]else Bo l (.mk p k ks))++Bp l r b:=by
 unfold Bp Bo;rw[S8,PZ]
 congr 1
 split<;>rfl
mutual
theorem HQ{l:List aV.Prod}:∀{t:Tree} {x:dw} {u:Nat},HP l t x u->0<=t.prod->(Bo l t).length=leaves t
 | .mk p k kids,x,u,h,hp=>by
  rw[HP]at h;have hp:0<=p:=hp;rw[Vm,leaves,if_neg J];rcases h with⟨_,h,_⟩|⟨_,_,_,_,_,h⟩
  omega;exact Ey h
theorem Ey{l:List aV.Prod}:∀{ks:List Tree} {b:List dw} {u:Nat},Ew l ks b u->(Bp l ks b).length=Dd ks
 |[],[],_,_=>by rfl
 | .mk p k kk::r,y::b,u,h=>by
  rw[Ew]at h;rw[Mf,bK,Ey h.2,Dd]
  congr 1
  split;rw[leaves,if_pos (by assumption)];rfl;exact HQ h.1 (by show(0:Int)<=p;omega)
 |[],_::_,_,h=>by rfl
 |_::_,[],_,h=>by grind[Ew]
end
end dO
namespace fX
open aV
abbrev Span:=Int×Int×Int
abbrev vz:=Span->Nat
def kx(c:vz)(w:List Int)(x:dw)(a b:Nat):Nat:=if x.1=2 then c (x.2,(a:Int),(b:Int))else if b=a+1/\w[a]?=aj x.2 then 1 else 0
def fe(f:Nat->Nat):Nat->Nat
 |0=>0
 |k+1=>fe f k+f k
def ni(o:Nat->Nat->Nat)(f:Nat->Nat)(b:Nat):Nat:=min 2 (fe (λj=>f j*o j b) (b+1))
def Mg(o:dw->Nat->Nat->Nat)(a:Nat):List dw->(Nat->Nat)->Nat->Nat
 |[],f=>f
 |x::r,f=>Mg o a r (ni (λi j=>o x (a+i) (a+j)) f)
def ae'(b:Nat):Nat:=if b=0 then 1 else 0
def Mh(o:dw->Nat->Nat->Nat)(l:List dw)(a b:Nat):Nat:=Mg o a l ae' (b-a)
def Vn(o:dw->Nat->Nat->Nat)(a b:Nat)(n:Nat):List aV.Prod->Nat
 |[]=>0
 |p::r=>(if p.1=(n:Int)then Mh o p.2 a b else 0)+Vn o a b n r
def Zx(o:dw->Nat->Nat->Nat)(l:List aV.Prod)(a b n:Nat):Nat:=min 2 (Vn o a b n l)
def ox(len:Nat)(f:Nat->Nat):List Nat:=(eA len).map f
theorem pe(f:Nat->Nat):∀k,(∀j,j<k->f j=0)->fe f k=0
 |0,_=>rfl
 |k+1,h=>by rw[fe,pe f k λj hj=>h j J,h k J]
theorem Zy(o:Nat->Nat->Nat)(f:Nat->Nat)(b:Nat):ni o f b<=2:=Zf ..
theorem ac4(o:dw->Nat->Nat->Nat)(l:List aV.Prod)(a b n:Nat):Zx o l a b n<=2:=Zf ..
theorem Bq{f f':Nat->Nat}:∀k,(∀j,j<k->f j<=f' j)->fe f k<=fe f' k
 |0,_=>bC _
 |k+1,h=>by
  rw[fe,fe];exact Nat.add_le_add (Bq k λj hj=>h j J) (h k J)
def Zz(n:Nat)(l:List aV.Prod):Prop:=∀p∈l,∀x∈p.2,x.1=2->0<=x.2/\x.2<(n:Int)
def ZA(w:List Int)(l:List aV.Prod)(n:Nat)(S:vz):Prop:=∀k a b,k<n->a<=b->b<=w.length->Zx (kx S w) l a b k<=S ((k:Int),(a:Int),(b:Int))
def ac5(w:List Int)(l:List aV.Prod)(n:Nat)(c:vz)(a b:Nat):Prop:=∀k,k<n->c ((k:Int),(a:Int),(b:Int))=Zx (kx c w) l a b k
structure Lfp(w:List Int)(l:List aV.Prod)(n:Nat)(c:vz):Prop where
 le2:∀x,c x<=2
 fixed:∀a b,a<=b->b<=w.length->ac5 w l n c a b
 least:∀S,ZA w l n S->∀k a b,k<n->a<=b->b<=w.length->c ((k:Int),(a:Int),(b:Int))<=S ((k:Int),(a:Int),(b:Int))
structure ac6(w:List Int)(l:List aV.Prod)(n:Nat)(D:Nat->Nat->Prop)(c:vz):Prop where
 le2:∀x,c x<=2
 fixed:∀a b,a<=b->b<=w.length->D a b->ac5 w l n c a b
 least:∀S,ZA w l n S->∀k a b,k<n->a<=b->b<=w.length->c ((k:Int),(a:Int),(b:Int))<=S ((k:Int),(a:Int),(b:Int))
 zero:∀k a b,k<n->a<=b->b<=w.length->¬D a b->c ((k:Int),(a:Int),(b:Int))=0
structure ahY(w:List Int)(l:List aV.Prod)(n:Nat)(D:Nat->Nat->Prop)(a b:Nat)(c:vz):Prop where
 le2:∀x,c x<=2
 fixed:∀i j,i<=j->j<=w.length->D i j->ac5 w l n c i j
 least:∀S,ZA w l n S->∀k i j,k<n->i<=j->j<=w.length->c ((k:Int),(i:Int),(j:Int))<=S ((k:Int),(i:Int),(j:Int))
 zero:∀k i j,k<n->i<=j->j<=w.length->¬D i j->¬(i=a/\j=b)->c ((k:Int),(i:Int),(j:Int))=0
 grow:∀k,k<n->c ((k:Int),(a:Int),(b:Int))<=Zx (kx c w) l a b k
section
variable{w:List Int}{l:List aV.Prod}{n:Nat}{D D':Nat->Nat->Prop}{a b:Nat}{c:vz}
theorem ahY.done(h:ahY w l n D a b c)(hf:ac5 w l n c a b)(hD:∀i j,i<=j->j<=w.length->(D' i j↔D i j\/(i=a/\j=b))):ac6 w l n D' c:=
 ⟨h.le2,λi j h1 h2 h3=>((hD i j h1 h2).1 h3).elim (h.fixed i j h1 h2) λ⟨e1,e2⟩=>by simp_all,h.least,λk i j hk h1 h2 h3=>by
  have:¬(D i j\/(i=a/\j=b)):=λh=>h3 ((hD i j h1 h2).2 h);exact h.zero k i j hk h1 h2 (λh=>this (.inl h)) λh=>this (.inr h)⟩
theorem ac6.same(h:ac6 w l n D c)(hD:∀i j,i<=j->j<=w.length->(D' i j↔D i j)):ac6 w l n D' c:=
 ⟨h.le2,λi j h1 h2 h3=>h.fixed i j h1 h2 ((hD i j h1 h2).1 h3),h.least,λk i j hk h1 h2 h3=>h.zero k i j hk h1 h2 λh=>h3 ((hD i j h1 h2).2 h)⟩
end
theorem Lfp.pre{w:List Int}{l:List aV.Prod}{n:Nat}{c:vz}(h:Lfp w l n c):ZA w l n c:=λk a b hk h1 h2=>by rw[<-h.fixed a b h1 h2 k hk];exact bC _
theorem mu{f g:Nat->Nat}:∀k,(∀j,j<k->f j=g j)->fe f k=fe g k
 |0,_=>rfl
 |k+1,h=>by rw[fe,fe,mu k λj hj=>h j J,h k J]
theorem Mi(f g:Nat->Nat):∀k,fe (λj=>f j+g j) k=fe f k+fe g k
 |0=>rfl
 |k+1=>by rw[fe,fe,fe,Mi f g k];omega
theorem Mj(v:Nat)(f:Nat->Nat):∀k,fe (λj=>v*f j) k=v*fe f k
 |0=>rfl
 |k+1=>by rw[fe,fe,Mj v f k,Nat.mul_add]
theorem HR(v:Nat)(f:Nat->Nat):∀k,fe (λj=>f j*v) k=fe f k*v
 |0=>by simp[fe]
 |k+1=>by rw[fe,fe,HR v f k,Nat.add_mul]
theorem HT(f:Nat->Nat->Nat)(m:Nat):∀k,fe (λi=>fe (λj=>f i j) m) k=fe (λj=>fe (λi=>f i j) k) m
 |0=>by simp[pe]
 |k+1=>by rw[fe,HT f m k,<-Mi];rfl
theorem Ez(f:Nat->Nat):∀k,fe f (k+1)=f 0+fe (λj=>f (j+1)) k
 |0=>by simp[fe]
 |k+1=>by rw[fe,Ez f k,fe];omega
theorem yz(f:Nat->Nat)(a:Nat):∀k,fe f (a+k)=fe f a+fe (λj=>f (a+j)) k
 |0=>by rfl
 |k+1=>by rw[<-kF,fe,yz f a k,fe];omega
theorem ZB(f:Nat->Nat){i k:Nat}(hi:i<k)(h:∀j,j<k->j≠i->f j=0):fe f k=f i:=by
 induction k with
 |zero=>omega
 | succ k ih=>
  rw[fe]
  by_cases e:i=k
  ·subst e
   rw[pe f i λj hj=>h j J J,cX]
  grind
theorem ZC(f:Nat->Nat->Nat)(d:Nat):fe (λj=>fe (λi=>f i j) (j+1)) (d+1)=fe (λi=>fe (λk=>f i (i+k)) (d-i+1)) (d+1):=by
 have h1:fe (λj=>fe (λi=>f i j) (j+1)) (d+1)=fe (λj=>fe (λi=>if i<=j then f i j else 0) (d+1)) (d+1):=by
  refine mu _ λj hj=>?_;rw[show d+1=(j+1)+(d-j)by omega,yz (λi=>if i<=j then f i j else 0),pe (λq=>if j+1+q<=j then f (j+1+q) j else 0) _ λq _=>if_neg J,Nat.add_zero];exact mu _ λi hi=>(if_pos J).symm
 rw[h1,HT];refine mu _ λi hi=>?_;rw[show d+1=i+(d-i+1)by omega,yz,pe _ i λj hj=>if_neg J,cX];exact mu _ λk _=>if_pos J
def Br(o:dw->Nat->Nat->Nat):List dw->Nat->Nat->Nat
 |[],a,b=>if a=b then 1 else 0
 |x::r,a,b=>fe (λi=>o x a (a+i)*Br o r (a+i) b) (b-a+1)
theorem S9(f g:Nat->Nat):∀k,(∀j,j<k->min 2 (f j)=min 2 (g j))->min 2 (fe f k)=min 2 (fe g k)
 |0,_=>rfl
 |k+1,h=>by
  have h1:=S9 f g k λj hj=>h j J;have h2:=h k J;rw[fe,fe];omega
theorem ac7(u v:Nat):min 2 (min 2 u*v)=min 2 (u*v):=by
 by_cases h:u<=2
 simp_all
 have e:min 2 u=2:=by omega
 rw[e]
 by_cases hv:v=0
 simp_all;have:2<=2*v:=by omega
 have h2:2*v<=u*v:=Nat.mul_le_mul_right v J;omega
theorem S_(o:dw->Nat->Nat->Nat)(a:Nat):∀(l:List dw) (f:Nat->Nat) (d:Nat),(∀j,f j<=2)->Mg o a l f d=min 2 (fe (λi=>f i*Br o l (a+i) (a+d)) (d+1))
 | [],f,d,h=>by
  rw[Mg,ZB _ (show d<d+1 by omega) λj _ hj=>by simp_all[Br],Br,if_pos I,lP];have:=h d;omega
 | x ::r,f,d,h=>by
  rw[Mg,S_ o a r _ d (Zy _ _)];have h1:min 2 (fe (λi=>ni (λi j=>o x (a+i) (a+j)) f i*Br o r (a+i) (a+d)) (d+1))=min 2 (fe (λj=>fe (λi=>f i*o x (a+i) (a+j)*Br o r (a+j) (a+d)) (j+1)) (d+1)):=S9 _ _ _ λj _=>by
   rw[HR];exact ac7 _ _
  rw[h1,ZC (λi j=>f i*o x (a+i) (a+j)*Br o r (a+j) (a+d))]
  congr 1
  refine mu _ λi hi=>?_;rw[Br,<-Mj,show a+d-(a+i)=d-i by omega];refine mu _ λk _=>?_;rw[Nat.mul_assoc,kF]
theorem Qd(o:dw->Nat->Nat->Nat)(l:List dw){a b:Nat}(h:a<=b):Mh o l a b=min 2 (Br o l a b):=by
 grind[Mh,S_,ae',Ez,pe]
open dO
def pG(n:Nat)(l:List aV.Prod):Prop:=∀p∈l,0<=p.1/\p.1<(n:Int)/\∀x∈p.2,x.1=1\/(x.1=2/\0<=x.2/\x.2<(n:Int))
theorem Vo{g:ep}{n:Nat}(h:cC g=0)(hn:g.bx=n):pG n g.aH:=λp hp=>by
 obtain⟨_,_,_,_,_,a6⟩:=cU h;obtain⟨b1,b2,b3,b4⟩:=a6 p hp;refine⟨b2,by omega,λx hx=>?_⟩;have:=b4 x hx;unfold right at this;split at this;exact .inl (by assumption);split at this;simp at this;exact .inr ⟨by assumption,by omega,by omega⟩;simp at this
theorem pG.bx{n:Nat}{l:List aV.Prod}(h:pG n l):Zz n l:=λp hp x hx h2=>by
 rcases(h p hp).2.2 x hx with h|h
 omega;exact h.2
theorem yA{l:List aV.Prod}{p:Int}(h0:0<=p)(h:p<(l.length:Int)):df l p∈l:=by
 simp_all[df]
def Qf(l:List aV.Prod)(t:Tree)(x:dw):List Int:=if t.prod<0 then [x.2]else Bo l t
theorem Qg{l:List aV.Prod}{t:Tree}{x:dw}{u:Nat}(h:HP l t x u):(Qf l t x).length=leaves t:=by
 unfold Qf;split
 ·obtain⟨p,k,ks⟩:=t
  rw[leaves,if_pos (by assumption)];rfl
 grind[HQ]
section
end
def agc(o:dw->Nat->Nat->Nat)(y:dw)(r:List dw)(a b m:Nat):Bool:=decide (0<o y a m)&&decide (0<Mh o r m b)
section
variable{o:dw->Nat->Nat->Nat}{l:List aV.Prod}{x:dw}{a b:Nat}
theorem Ml{f:Nat->Nat}:∀{k:Nat},0<fe f k->∃i,i<k/\0<f i
 |0,h=>by grind[fe]
 | k+1,h=>by
  rw[fe]at h
  by_cases c:0<f k
  grind;obtain⟨i,h1,h2⟩:=Ml (f:=f) (k:=k) J;exact⟨i,by omega,h2⟩
theorem ac8{y:dw}{r:List dw}(HU:a<=b)(h:0<Mh o (y::r) a b):∃m,a<=m/\m<=b/\agc o y r a b m=true:=by
 rw[Qd _ _ HU,Br]at h;obtain⟨i,h1,h2⟩:=Ml (f:=λi=>o y a (a+i)*Br o r (a+i) b) (k:=b-a+1) J;have h2:0<o y a (a+i)*Br o r (a+i) b:=h2;refine⟨a+i,by omega,by omega,?_⟩;unfold agc;rw[Qd _ _ (by omega:a+i<=b),fc,decide_eq_true_iff,decide_eq_true_iff];exact⟨Nat.pos_of_mul_pos_right h2,by have:=Nat.pos_of_mul_pos_left h2;omega⟩
theorem Mm{n:Nat}:∀{l:List aV.Prod},0<Vn o a b n l->∃k,k<l.length/\(df l (k:Int)).1=(n:Int)/\0<Mh o (df l (k:Int)).2 a b
 |[],h=>by grind[Vn]
 | p ::r,h=>by
  rw[Vn]at h
  by_cases c:p.1=(n:Int)/\0<Mh o p.2 a b
  exact⟨0,by simp,c.1,c.2⟩;have:0<Vn o a b n r:=by
   simp_all
  obtain⟨k,h1,h2,h3⟩:=Mm this;exact⟨k+1,by simp_all,h2,h3⟩
theorem yB{k:Nat}(h:k<l.length):df l (k:Int)=l[k]:=by
 simp_all[df]
end
section
end
end fX
namespace dR
open aV
def gh(l:List Bool)(i:Nat)(b:Bool):List Bool×Bool:=if b=aD/\l.getD i aF=aF then(l.set i aD,aD)else(l,aF)
def pH(l:List Bool)(body:List dw)(aT:Bool):Bool:=body.all λx=>if x.1=1 then aT else if x.1=2 then l.getD x.2.toNat aF else aD
def oy(l:List Nat)(i:Nat)(b:Nat):List Nat×Bool:=(l.set i (l.getD i 0|||b),!decide ((l.getD i 0|||b)=l.getD i 0))
def mQ(E:List Bool)(F:List Nat)(behind:Nat):List dw->Nat->Nat
 |[],out=>out|||behind
 |x::r,out=>if x.1=1 then out|||2^x.2.toNat else if E.getD x.2.toNat aF=aD then mQ E F behind r (out|||F.getD x.2.toNat 0)else out|||F.getD x.2.toNat 0
def gB(E:List Bool)(F:List Nat)(body:List dw)(behind:Nat):Nat:=mQ E F behind body 0
theorem nF(l:List Bool)(i:Nat)(b:Bool):(gh l i b).1.length=l.length:=by
 grind[gh]
theorem ZD(l:List Nat)(i:Nat)(b:Nat):(oy l i b).1.length=l.length:=by
 simp[oy]
structure FS where
 E:List Bool
 R:List Bool
 M:List Bool
 more:Bool
def Cb(h:Nat)(x:dw)(R:List Bool)(more:Bool):List Bool×Bool:=if x.1=2 then((gh R x.2.toNat (R.getD h aF)).1,(gh R x.2.toNat (R.getD h aF)).2||more)else(R,more)
def nG(h:Nat):List dw->List Bool->Bool->List Bool×Bool
 |[],R,more=>(R,more)
 |x::r,R,more=>nG h r (Cb h x R more).1 (Cb h x R more).2
def pI(p:aV.Prod)(s:FS):FS:=
 let h:=p.1.toNat
 let a:=gh s.E h (pH s.E p.2 aF)
 let b:=gh s.M h (pH s.M p.2 aD)
 let c:=nG h p.2 s.R (b.2||(a.2||s.more))
 ⟨a.1,c.1,b.1,c.2⟩
def h_:List aV.Prod->FS->FS
 |[],s=>s
 |p::r,s=>h_ r (pI p s)
theorem Vp(h:Nat)(x:dw)(R:List Bool)(more:Bool):(Cb h x R more).1.length=R.length:=by
 unfold Cb;split;exact nF _ _ _;rfl
theorem EA(h:Nat):∀(body:List dw) (R:List Bool) (more:Bool),(nG h body R more).1.length=R.length
 |[],_,_=>rfl
 |x::r,R,more=>by rw[nG,EA h r,Vp]
def pJ(l:List Bool):Nat:=l.countP id
theorem Mn{l:List Bool}{i:Nat}{b:Bool}(hi:i<l.length):pJ (gh l i b).1=pJ l+(if(gh l i b).2=aD then 1 else 0):=by
 grind[gh,pJ]
def Qh{σ:Type}(step:σ->σ×Bool):Nat->σ->σ
 |0,s=>s
 |f+1,s=>if(step s).2=aD then Qh step f (step s).1 else(step s).1
structure EB{σ:Type}(step:σ->σ×Bool)(ok:σ->Prop)(μ:σ->Nat):Prop where
 keep:∀s,ok s->ok (step s).1
 dec:∀s,ok s->(step s).2=aD->μ (step s).1<μ s
def fix{σ:Type}(step:σ->σ×Bool)(μ:σ->Nat)(s:σ):σ:=Qh step (μ s+1) s
section
variable{σ:Type}{step:σ->σ×Bool}{ok:σ->Prop}{μ:σ->Nat}
theorem HV(h:EB step ok μ):∀(f g:Nat) (s:σ),ok s->μ s<f->μ s<g->Qh step f s=Qh step g s
 |0,_,_,_,h1,_=>by omega
 |_,0,_,_,_,h2=>by omega
 | f +1,g+1,s,hs,h1,h2=>by
  unfold Qh
  by_cases c:(step s).2=aD
  ·rw[if_pos c,if_pos c]
   have:=h.dec s hs c;exact HV h f g _ (h.keep s hs) J J
  simp_all
theorem JF(h:EB step ok μ){s:σ}(hs:ok s)(c:(step s).2=aD):fix step μ s=fix step μ (step s).1:=by
 have:=h.dec s hs c;unfold fix;rw[Qh,if_pos c];exact HV h _ _ _ (h.keep s hs) J J
theorem zP{s:σ}(c:(step s).2=aF):fix step μ s=(step s).1:=by
 simp_all[fix,Qh]
theorem zQ(h:EB step ok μ):∀(k:Nat) (s:σ),ok s->μ s<=k->∃s',ok s'/\(step s').2=aF/\fix step μ s=(step s').1
 | k,s,hs,hk=>by
  by_cases c:(step s).2=aD
  ·have hd:=h.dec s hs c
   match k with
   |0=>omega
   | k+1=>
    obtain⟨s',h1,h2,h3⟩:=zQ h k (step s).1 (h.keep s hs) J;exact⟨s',h1,h2,by rw[JF h hs c,h3]⟩
  grind[zP]
end
def HW(E:List Bool)(M:List Bool)(p:aV.Prod)(F:List Nat)(more:Bool):List Nat×Bool:=
 if pH M p.2 aD=aD then((oy F p.1.toNat (gB E F p.2 0)).1,(oy F p.1.toNat (gB E F p.2 0)).2||more)else(F,more)
def rK(E M:List Bool):List aV.Prod->List Nat->Bool->List Nat×Bool
 |[],F,more=>(F,more)
 |p::r,F,more=>rK E M r (HW E M p F more).1 (HW E M p F more).2
def jI(E:List Bool)(F:List Nat)(h:Nat)(x:dw)(r:List dw)(W:List Nat)(more:Bool):List Nat×Bool:=
 if x.1=2 then((oy W x.2.toNat (gB E F r (W.getD h 0))).1,(oy W x.2.toNat (gB E F r (W.getD h 0))).2||more)else(W,more)
def kf(E:List Bool)(F:List Nat)(h:Nat):List dw->List Nat->Bool->List Nat×Bool
 |[],W,more=>(W,more)
 |x::r,W,more=>kf E F h r (jI E F h x r W more).1 (jI E F h x r W more).2
def nY(E:List Bool)(F:List Nat):List aV.Prod->List Nat->Bool->List Nat×Bool
 |[],W,more=>(W,more)
 |p::r,W,more=>nY E F r (kf E F p.1.toNat p.2 W more).1 (kf E F p.1.toNat p.2 W more).2
def nH(l:List Nat):Nat:=(l.map λx=>18446744073709551616-x).sum
def AO(n:Nat)(l:List Nat):Prop:=l.length=n/\∀x∈l,x<18446744073709551616
theorem qI{n:Nat}{l:List Nat}(h:AO n l)(i:Nat):l.getD i 0<18446744073709551616:=by
 rw[de]
 cases e:l[i]? with
 |none=>decide
 |some y=>exact h.2 y (mL e)
theorem De{x y:Nat}(hx:x<18446744073709551616)(hy:y<18446744073709551616):x|||y<18446744073709551616:=Ze (n:=64) hx hy
theorem Df{n:Nat}{l:List Nat}{i b:Nat}(h:AO n l)(hb:b<18446744073709551616):AO n (oy l i b).1:=by
 refine⟨by rw[ZD];exact h.1,λx hx=>?_⟩;rcases PX hx with h1|rfl
 exact h.2 x h1;exact De (qI h i) hb
theorem Ta:∀(l:List Nat) (i:Nat) (y:Nat) (h:i<l.length),((l.set i y).map λx=>18446744073709551616-x).sum+(18446744073709551616-l[i])=(l.map λx=>18446744073709551616-x).sum+(18446744073709551616-y)
 |a::r,0,y,h=>by grind
 |a::r,i+1,y,h=>by
  have:=Ta r i y (by simp_all);simp at this⊢;omega
theorem HX{n:Nat}{l:List Nat}{i b:Nat}(h:AO n l)(hi:i<n)(hb:b<18446744073709551616):nH (oy l i b).1<=nH l/\((oy l i b).2=aD->nH (oy l i b).1<nH l):=by
 have hil:i<l.length:=by rw[h.1];exact hi
 have hs:=Ta l i (l.getD i 0|||b) hil;have e:l.getD i 0=l[i]:=by simp_all
 grind[Nat.left_le_or,qI,nH,oy]
theorem pf{E:List Bool}{F:List Nat}{n:Nat}{body:List dw}{behind:Nat}(hF:AO n F)(hb:behind<18446744073709551616)(hx:∀x∈body,x.1=1->x.2.toNat<64):gB E F body behind<18446744073709551616:=by
 have key:∀(body:List dw) (out:Nat),out<18446744073709551616->(∀x∈body,x.1=1->x.2.toNat<64)->mQ E F behind body out<18446744073709551616:=by
  intro body
  induction body with
  |nil=>intro out h _;exact De h hb
  | cons x r ih=>
   intro out h hx;unfold mQ;split
   ·rename_i c
    have hp:(2:Nat)^x.2.toNat<2^64:=Ej aln (hx x (by simp) c);exact De h (by simpa using hp)
   grind[De,qI]
 exact key body 0 aln hx
structure EC(n:Nat)(l:List aV.Prod):Prop where
 head:∀p∈l,0<=p.1/\p.1.toNat<n
 Ex:∀p∈l,∀x∈p.2,x.1=1->0<=x.2/\x.2.toNat<64
 non:∀p∈l,∀x∈p.2,x.1≠1->x.1=2/\0<=x.2/\x.2.toNat<n
theorem zR{g:ep}{n:Nat}(h:cC g=0)(hn:g.bx=n):EC n g.aH:=by
 obtain⟨a,b,c,d,e,f⟩:=cU h;refine⟨λp hp=>?_,λp hp x hx kr=>?_,λp hp x hx kr=>?_⟩;have:=f p hp;omega
 ·have:=(f p hp).2.2.2 x hx
  unfold right at this;rw[if_pos kr]at this;simp at this;omega
 have:=(f p hp).2.2.2 x hx;unfold right at this;rw[if_neg kr]at this;split at this
 ·rename_i h2
  simp at this;exact⟨h2,by omega,by omega⟩
 simp at this
theorem EC.tail{n:Nat}{p:aV.Prod}{l:List aV.Prod}(h:EC n (p::l)):EC n l:=
 ⟨λq hq=>h.head q (by grind),λq hq=>h.Ex q (by grind),λq hq=>h.non q (by grind)⟩
theorem vB{E M:List Bool}{n:Nat}:∀(l:List aV.Prod) (F:List Nat) (more:Bool),EC n l->AO n F->AO n (rK E M l F more).1/\nH (rK E M l F more).1<=nH F/\((rK E M l F more).2=aD->more=aD\/nH (rK E M l F more).1<nH F)
 |[],F,more,_,h=>⟨h,bC _,λc=> .inl c⟩
 | p ::r,F,more,hf,h=>by
  have hb:gB E F p.2 0<18446744073709551616:=pf h aln λx hx kr=>(hf.Ex p (by simp) x hx kr).2;have hh:=hf.head p (by simp);rw[rK];unfold HW;split
  ·have h1:=Df (i:=p.1.toNat) h hb
   have h2:=HX h hh.2 hb;obtain⟨k1,k2,k3⟩:=vB r (oy F p.1.toNat (gB E F p.2 0)).1 ((oy F p.1.toNat (gB E F p.2 0)).2||more) hf.tail h1;refine⟨k1,fH k2 h2.1,λc=>?_⟩;rcases k3 c with c2|c2
   ·rw[nD]at c2
    rcases c2 with c2|c2
    exact .inr (P2 k2 (h2.2 c2));exact .inl c2
   exact .inr (kE c2 h2.1)
  exact vB r F more hf.tail h
theorem HY{E:List Bool}{F:List Nat}{n h:Nat}(hF:AO n F)(hh:h<n):∀(body:List dw) (W:List Nat) (more:Bool),(∀x∈body,x.1=1->x.2.toNat<64)->(∀x∈body,x.1=2->x.2.toNat<n)->AO n W->AO n (kf E F h body W more).1/\nH (kf E F h body W more).1<=nH W/\((kf E F h body W more).2=aD->more=aD\/nH (kf E F h body W more).1<nH W)
 |[],W,more,_,_,hW=>⟨hW,bC _,λc=> .inl c⟩
 | x ::r,W,more,ht,hx,hW=>by
  have hb:gB E F r (W.getD h 0)<18446744073709551616:=pf hF (qI hW h) λy hy=>ht y (by grind);have tl:=λW more=>HY (E:=E) hF hh r W more (λy hy=>ht y (by grind)) (λy hy=>hx y (by grind));rw[kf];unfold jI;split
  ·rename_i c0
   have h1:=Df (i:=x.2.toNat) hW hb;have h2:=HX hW (hx x (by simp) c0) hb;obtain⟨k1,k2,k3⟩:=tl (oy W x.2.toNat (gB E F r (W.getD h 0))).1 ((oy W x.2.toNat (gB E F r (W.getD h 0))).2||more) h1;refine⟨k1,fH k2 h2.1,λc=>?_⟩;rcases k3 c with c2|c2
   ·rw[nD]at c2
    rcases c2 with c2|c2
    exact .inr (P2 k2 (h2.2 c2));exact .inl c2
   exact .inr (kE c2 h2.1)
  grind
theorem zS{E:List Bool}{F:List Nat}{n:Nat}(hF:AO n F):∀(l:List aV.Prod) (W:List Nat) (more:Bool),EC n l->AO n W->AO n (nY E F l W more).1/\nH (nY E F l W more).1<=nH W/\((nY E F l W more).2=aD->more=aD\/nH (nY E F l W more).1<nH W)
 |[],W,more,_,h=>⟨h,bC _,λc=> .inl c⟩
 | p ::r,W,more,hf,h=>by
  rw[nY];obtain⟨a1,a2,a3⟩:=HY (E:=E) hF (hf.head p (by simp)).2 p.2 W more (λx hx h1=>(hf.Ex p (by simp) x hx h1).2) (λx hx h2=>(hf.non p (by simp) x hx J).2.2) h;obtain⟨k1,k2,k3⟩:=zS hF r (kf E F p.1.toNat p.2 W more).1 (kf E F p.1.toNat p.2 W more).2 hf.tail a1;refine⟨k1,fH k2 a2,λc=>?_⟩;rcases k3 c with c2|c2
  ·rcases a3 c2 with c3|c3
   exact .inl c3;exact .inr (P2 k2 c3)
  exact .inr (kE c2 a2)
theorem Qi{E M:List Bool}{n:Nat}{l:List aV.Prod}(hf:EC n l):EB (λF=>rK E M l F aF) (AO n) nH:=
 ⟨λs hs=>(vB l s aF hf hs).1,λs hs c=>by
  rcases(vB (E:=E) (M:=M) l s aF hf hs).2.2 c with h|h
  cases h
  exact h⟩
theorem ZE{E:List Bool}{F:List Nat}{n:Nat}{l:List aV.Prod}(hF:AO n F)(hf:EC n l):EB (λW=>nY E F l W aF) (AO n) nH:=
 ⟨λs hs=>(zS hF l s aF hf hs).1,λs hs c=>by
  rcases(zS (E:=E) hF l s aF hf hs).2.2 c with h|h
  cases h
  exact h⟩
def ZF(n:Nat)(s:FS):Prop:=s.E.length=n/\s.R.length=n/\s.M.length=n
def had(s:FS):Nat:=pJ s.E+pJ s.R+pJ s.M
def Mo(l:List aV.Prod)(s:FS):FS×Bool:=(h_ l ⟨s.E,s.R,s.M,aF⟩,(h_ l ⟨s.E,s.R,s.M,aF⟩).more)
theorem ED(l:List Bool):pJ l<=l.length:=List.countP_le_length
theorem yC{l:List Bool}{i:Nat}{b:Bool}(hi:i<l.length):pJ l<=pJ (gh l i b).1/\((gh l i b).2=aD->pJ l<pJ (gh l i b).1):=by
 simp_all[Mn]
theorem Cc{h n:Nat}:∀(body:List dw) (R:List Bool) (more:Bool),(∀x∈body,x.1=2->x.2.toNat<n)->R.length=n->pJ R<=pJ (nG h body R more).1/\((nG h body R more).2=aD->more=aD\/pJ R<pJ (nG h body R more).1)
 |[],R,more,_,_=>⟨bC _,λc=> .inl c⟩
 | x ::r,R,more,hx,hR=>by
  rw[nG];have ih:=λR more=>Cc (h:=h) r R more λy hy=>hx y (by grind);unfold Cb;split
  ·rename_i c0
   have hg:=yC (b:=R.getD h aF) (show x.2.toNat<R.length by simp_all);have hl:=nF R x.2.toNat (R.getD h aF);generalize gh R x.2.toNat (R.getD h aF)=a at*;obtain⟨R2,m2⟩:=a;dsimp only at*;obtain⟨k1,k2⟩:=ih R2 (m2||more) J;refine⟨by omega,λc=>?_⟩;rcases k2 c with c2|c2
   ·rw[nD]at c2
    rcases c2 with c2|c2
    ·have:=hg.2 c2
     exact .inr J
    exact .inl c2
   exact .inr J
  grind
theorem Mp{n:Nat}{p:aV.Prod}{s:FS}(hp:p.1.toNat<n)(hx:∀x∈p.2,x.1=2->x.2.toNat<n)(h:ZF n s):ZF n (pI p s)/\had s<=had (pI p s)/\((pI p s).more=aD->s.more=aD\/had s<had (pI p s)):=by
 obtain⟨E,R,M,more⟩:=s;obtain⟨h1,h2,h3⟩:=h;unfold pI ZF had;dsimp only at*;have e1:=yC (b:=pH E p.2 aF) (show p.1.toNat<E.length by omega);have e2:=nF E p.1.toNat (pH E p.2 aF);have m1:=yC (b:=pH M p.2 aD) (show p.1.toNat<M.length by omega);have m2:=nF M p.1.toNat (pH M p.2 aD);generalize gh E p.1.toNat (pH E p.2 aF)=a at*;generalize gh M p.1.toNat (pH M p.2 aD)=b at*;obtain⟨E2,ce⟩:=a;obtain⟨M2,cm⟩:=b;have r1:=Cc (h:=p.1.toNat) p.2 R (cm||(ce||more)) hx h2;have r2:=EA p.1.toNat p.2 R (cm||(ce||more));generalize nG p.1.toNat p.2 R (cm||(ce||more))=c at*;obtain⟨R2,cr⟩:=c;dsimp only at*;refine⟨⟨by omega,by omega,by omega⟩,by omega,λhc=>?_⟩;rcases r1.2 hc with h4|h4
 ·rw[nD,nD]at h4
  rcases h4 with h4|h4|h4
  ·have:=m1.2 h4
   exact .inr J
  ·have:=e1.2 h4
   exact .inr J
  exact .inl h4
 exact .inr J
theorem qJ{n:Nat}:∀(l:List aV.Prod) (s:FS),EC n l->ZF n s->ZF n (h_ l s)/\had s<=had (h_ l s)/\((h_ l s).more=aD->s.more=aD\/had s<had (h_ l s))
 |[],s,_,h=>⟨h,bC _,λc=> .inl c⟩
 | p ::r,s,hf,h=>by
  rw[h_];obtain⟨a1,a2,a3⟩:=Mp (s:=s) (hf.head p (by simp)).2 (λx hx h2=>(hf.non p (by simp) x hx J).2.2) h;obtain⟨k1,k2,k3⟩:=qJ r (pI p s) hf.tail a1;refine⟨k1,by omega,λc=>?_⟩;rcases k3 c with c2|c2
  ·rcases a3 c2 with c3|c3
   exact .inl c3;exact .inr J
  exact .inr J
theorem agd{n:Nat}{s:FS}(h:ZF n s):had s<=3*n:=by
 have a:=ED s.E;have b:=ED s.R;have c:=ED s.M;obtain⟨h1,h2,h3⟩:=h;unfold had;omega
def Ce(n:Nat)(s:FS):Nat:=3*n-had s
theorem EE{n:Nat}{l:List aV.Prod}(hf:EC n l):EB (Mo l) (ZF n) (Ce n):=
 ⟨λs hs=>(qJ l ⟨s.E,s.R,s.M,aF⟩ hf hs).1,λs hs c=>by
  have h:=qJ l ⟨s.E,s.R,s.M,aF⟩ hf hs;have h2:=agd h.1;rcases h.2.2 c with h3|h3
  grind
  have e:had ⟨s.E,s.R,s.M,aF⟩=had s:=rfl;show 3*n-had (h_ l ⟨s.E,s.R,s.M,aF⟩)<3*n-had s
  omega⟩
theorem ZG(l:List Nat)(i:Nat):l.set i (l.getD i 0)=l:=by
 by_cases h:i<l.length
 simp_all
 simp_all[List.set_eq_of_length_le]
open dO
theorem sY{E:List Bool}{F:List Nat}{h:Nat}:∀(body:List dw) (W:List Nat) (more:Bool),(kf E F h body W more).2=aF->more=aF/\(kf E F h body W more).1=W/\∀pre x post,body=pre++x::post->x.1=2->W.getD x.2.toNat 0|||gB E F post (W.getD h 0)=W.getD x.2.toNat 0
 |[],W,more,hm=>⟨hm,rfl,λpre x post e=>by simp at e⟩
 | y ::r,W,more,hm=>by
  rw[kf]at hm⊢;unfold jI at hm⊢
  by_cases c:y.1=2
  ·rw[if_pos c]at hm⊢
   obtain⟨h1,h2,h3⟩:=sY r _ _ hm;rw[Y5]at h1;have h4:W.getD y.2.toNat 0|||gB E F r (W.getD h 0)=W.getD y.2.toNat 0:=by
    simp_all[oy]
   have h5:(oy W y.2.toNat (gB E F r (W.getD h 0))).1=W:=by
    grind[oy,ZG]
   rw[h2];rw[h5]at h3⊢;refine⟨h1.2,rfl,λpre x post e hx=>?_⟩
   match pre,e with
   | [],e=>
    simp_all
   | z::pre,e=>
    grind
  rw[if_neg c]at hm⊢;obtain⟨h1,h2,h3⟩:=sY r _ _ hm;refine⟨h1,h2,λpre x post e hx=>?_⟩
  match pre,e with
  | [],e=>
   simp_all
  | z::pre,e=>
   grind
theorem Cf{E:List Bool}{F:List Nat}:∀(l:List aV.Prod) (W:List Nat) (more:Bool),(nY E F l W more).2=aF->more=aF/\(nY E F l W more).1=W/\∀p∈l,∀pre x post,p.2=pre++x::post->x.1=2->W.getD x.2.toNat 0|||gB E F post (W.getD p.1.toNat 0)=W.getD x.2.toNat 0
 |[],W,more,hm=>⟨hm,rfl,λp hp=>by grind⟩
 |p::r,W,more,hm=>by
  rw[nY]at hm⊢;obtain⟨h1,h2,h3⟩:=Cf r _ _ hm;obtain⟨k1,k2,k3⟩:=sY p.2 W more h1;rw[k2]at h2 h3⊢;refine⟨k1,h2,λq hq=>?_⟩;rcases dM.1 hq with rfl|hq
  exact k3;exact h3 q hq
end dR
namespace yD
open aV dO fX dR
mutual
inductive GJ(l:List aV.Prod):dw->List Int->Prop
 |Ex {x:dw} (h:x.1=1):GJ l x [x.2]
 |non {x:dw} {p:aV.Prod} {ws:List Int} (h:x.1≠1) (hp:p∈l) (hx:p.1=x.2) (hd:rL l p.2 ws):GJ l x ws
inductive rL(l:List aV.Prod):List dw->List Int->Prop
 |nil:rL l [] []
 |cons {y:dw} {r:List dw} {a b:List Int} (h1:GJ l y a) (h2:rL l r b):rL l (y::r) (a++b)
end
theorem rL.OS{l:List aV.Prod}:∀{r r':List dw} {a b:List Int},rL l r a->rL l r' b->rL l (r++r') (a++b)
 |[],_,_,_,.nil,h=>h
 |_::_,_,_,_,.cons h1 h2,h=>by rw[eY];exact .cons h1 (rL.OS h2 h)
theorem ZH{l:List aV.Prod}{x:dw}{a:List Int}(h:GJ l x a):rL l [x] a:=by
 have:=rL.cons h rL.nil
 simp_all
def cut(w:List Int)(a b:Nat):List Int:=(w.drop a).take (b-a)
theorem zT{w:List Int}{a m b:Nat}(h1:a<=m)(h2:m<=b):cut w a m++cut w m b=cut w a b:=by
 unfold cut;have e3:w.drop m=(w.drop a).drop (m-a):=by simp_all
 rw[e3,show b-a=(m-a)+(b-m)by omega,List.take_add]
theorem Mq(w:List Int)(a:Nat):cut w a a=[]:=by simp[cut]
theorem Tb{w:List Int}{a n:Nat}(h:n=w.length):cut w a n=w.drop a:=by
 simp_all[cut,gT]
theorem Tc{w:List Int}{a b:Nat}(h1:a<=b)(h2:b<=w.length):(cut w a b).length=b-a:=by
 grind[cut]
theorem Mr{l:List aV.Prod}{w:List Int}{o:dw->Nat->Nat->Nat}:∀(body:List dw) (a b:Nat),a<=b->(∀y∈body,∀i j,a<=i->i<=j->j<=b->0<o y i j->GJ l y (cut w i j))->0<Mh o body a b->rL l body (cut w a b)
 | [],a,b,HU,_,h=>by
  rw[Qd _ _ HU,Br]at h;have hE:a=b:=by
   grind
  subst hE;rw[Mq];exact .nil
 |y::r,a,b,HU,ho,h=>by
  obtain⟨m,m1,m2,m3⟩:=ac8 HU h;unfold agc at m3;rw[fc,decide_eq_true_iff,decide_eq_true_iff]at m3;rw[<-zT m1 m2];exact .cons (ho y (by simp) a m (bC _) m1 m2 m3.1) (Mr r m b m2 (λz hz i j h1 h2 h3=>ho z (by grind) i j J h2 h3) m3.2)
section
variable{w:List Int}{l:List aV.Prod}{n:Nat}{c:vz}
open Classical in
theorem JG(hc:Lfp w l n c)(hs:pG n l){k a b:Nat}(hk:k<n)(HU:a<=b)(hb:b<=w.length)(h:0<c ((k:Int),(a:Int),(b:Int))):GJ l (2,(k:Int)) (cut w a b):=by
 have hp:ZA w l n (λx=>if GJ l (2,x.1) (cut w x.2.1.toNat x.2.2.toNat)then 2 else 0):=λq i j hq tL hj=>by
  dsimp only;rw[dD,dD]
  by_cases cd:GJ l (2,(q:Int)) (cut w i j)
  simp_all[ac4];rw[if_neg cd];apply Nat.le_of_not_lt;intro h0;unfold Zx at h0;obtain⟨r,r1,r2,r3⟩:=Mm (Nat.lt_min.1 h0).2;have hm:=yA (l:=l) (p:=(r:Int)) J J;refine cd (.non J hm r2 (Mr _ i j tL (λy hy i' j' h1 h2 h3 h4=>?_) r3));unfold kx at h4
  by_cases e:y.1=2
  grind
  rw[if_neg e]at h4;split at h4
  ·rename_i h5
   obtain⟨h6,h7⟩:=h5;have e1:y.1=1:=((hs _ hm).2.2 y hy).resolve_right λh=>e h.1;obtain⟨h8,h9⟩:=dX.1 h7;have:cut w i' j'=[y.2]:=by
    simp_all[cut,eH]
   rw[this];exact .Ex e1
  omega
 have:=hc.least _ hp k a b hk HU hb;rw[dD,dD]at this
 by_cases cd:GJ l (2,(k:Int)) (cut w a b)
 exact cd;rw[if_neg cd]at this;omega
theorem Qj(hc:Lfp w l n c)(hs:pG n l){x:dw}{a b:Nat}(hx:x.1=1\/(x.1=2/\0<=x.2/\x.2<(n:Int)))(HU:a<=b)(hb:b<=w.length)(h:0<kx c w x a b):GJ l x (cut w a b):=by
 unfold kx at h;rcases hx with hx|⟨h2,h3,h4⟩
 ·rw[if_neg J]at h
  split at h
  ·rename_i h5
   obtain⟨h6,h7⟩:=h5;obtain⟨h8,h9⟩:=dX.1 h7;have:cut w a b=[x.2]:=by
    simp_all[cut,eH]
   rw[this];exact .Ex hx
  omega
 rw[if_pos h2]at h;obtain⟨x1,x2⟩:=x;subst h2;have e:x2=((x2.toNat:Nat):Int):=by omega
 grind[JG]
end
section
end
def yE(l:List aV.Prod)(s:FS):Prop:=(∀i:Nat,s.E.getD i aF=aD->GJ l (2,(i:Int)) [])/\∀i:Nat,s.M.getD i aF=aD->∃ws,GJ l (2,(i:Int)) ws
theorem EF{l:List aV.Prod}{E:List Bool}(h:∀i:Nat,E.getD i aF=aD->GJ l (2,(i:Int)) []):∀(b:List dw),(∀x∈b,x.1=1\/(x.1=2/\0<=x.2))->pH E b aF=aD->rL l b []
 |[],_,_=> .nil
 | y::r,hx,ha=>by
  unfold pH at ha;rw[c_,fc]at ha;have ih:=EF h r (λz hz=>hx z (by grind)) ha.2;rcases hx y (by simp)with c|⟨c1,c2⟩
  simp_all;rw[if_neg J,if_pos c1]at ha;have hd:=h _ ha.1;obtain⟨y1,y2⟩:=y;subst c1;rw[u_ c2]at hd;exact .cons hd ih
theorem EG{l:List aV.Prod}{M:List Bool}(h:∀i:Nat,M.getD i aF=aD->∃ws,GJ l (2,(i:Int)) ws):∀(b:List dw),(∀x∈b,x.1=1\/(x.1=2/\0<=x.2))->pH M b aD=aD->∃ws,rL l b ws
 |[],_,_=>⟨[],.nil⟩
 | y::r,hx,ha=>by
  unfold pH at ha;rw[c_,fc]at ha;obtain⟨ws,ih⟩:=EG h r (λz hz=>hx z (by grind)) ha.2;rcases hx y (by simp)with c|⟨c1,c2⟩
  exact⟨_,.cons (.Ex c) ih⟩;rw[if_neg J,if_pos c1]at ha;obtain⟨us,hd⟩:=h _ ha.1;obtain⟨y1,y2⟩:=y;subst c1;rw[u_ c2]at hd;exact⟨_,.cons hd ih⟩
theorem Ms{l:List Bool}{i k:Nat}{b:Bool}(h:(gh l i b).1.getD k aF=aD):l.getD k aF=aD\/(k=i/\b=aD):=by
 unfold gh at h;split at h
 ·rename_i c
  rw[de,Za]at h
  by_cases e:i=k
  exact .inr ⟨e.symm,c.1⟩;rw[if_neg e,<-de]at h;exact .inl h
 exact .inl h
theorem JH{n:Nat}{l:List aV.Prod}(hs:pG n l){p:aV.Prod}(hp:p∈l){s:FS}(h:yE l s):yE l (pI p s):=by
 obtain⟨s1,s2,s3⟩:=hs p hp;have hx:∀x∈p.2,x.1=1\/(x.1=2/\0<=x.2):=λx hx=>(s3 x hx).imp id λh=>⟨h.1,h.2.1⟩;unfold pI;refine⟨λi hi=>?_,λi hi=>?_⟩
 ·rcases Ms hi with h1|⟨h1,h2⟩
  exact h.1 i h1;subst h1;exact .non J hp J (EF h.1 _ hx h2)
 rcases Ms hi with h1|⟨h1,h2⟩
 exact h.2 i h1;subst h1;obtain⟨ws,hw⟩:=EG h.2 _ hx h2;exact⟨ws,.non J hp J hw⟩
theorem zU{n:Nat}{l:List aV.Prod}(hs:pG n l):∀(r:List aV.Prod),(∀p∈r,p∈l)->∀(s:FS),yE l s->yE l (h_ r s)
 |[],_,s,h=>h
 |p::r,hr,s,h=>by
  rw[h_];exact zU hs r (λq hq=>hr q (by grind)) _ (JH hs (hr p (by simp)) h)
def afa(l:List aV.Prod)(w:List Int)(x:dw)(a b:Nat)(t:Tree):Prop:=HP l t x a/\Qf l t x=cut w a b
theorem afa.leaves{l:List aV.Prod}{w:List Int}{x:dw}{a b:Nat}{t:Tree}(h:afa l w x a b t)(HU:a<=b)(hb:b<=w.length):leaves t=b-a:=by
 rw[<-Qg h.1,h.2,Tc HU hb]
section
end
section
end
end yD
namespace CR
open aV dO fX dR yD
abbrev Cl:=Int×Int×Int×Int
def Ql(T col:Nat):Nat:=if col=T then 9223372036854775808 else 2^col
section
variable(l:List aV.Prod)(may:Nat->Nat)(T:Nat)
def EH(n col i:Nat):Bool:=decide ((df l (i:Int)).1=(n:Int))&&!decide ((may i&&&Ql T col)=0)
def iE(n col:Nat):Nat->Int
 |0=> -1
 |k+1=>if iE n col k<0 then(if EH l may T n col k=aD then(k:Int)else iE n col k)else iE n col k
def yF(n col:Nat):Nat->List Cl->List Cl
 |0,out=>out
 |k+1,out=>if EH l may T n col k=aD then(if iE l may T n col k<0 then yF n col k out else yF n col k out++[((n:Int),(col:Int),iE l may T n col k,(k:Int))])else yF n col k out
def CS(n:Nat):Nat->List Cl->List Cl
 |0,out=>out
 |c+1,out=>yF l may T n c l.length (CS n c out)
def mR:Nat->List Cl
 |0=>[]
 |n+1=>CS l may T n (T+1) (mR n)
def rowAt(n col:Nat):Int:=iE l may T n col l.length
end
section
variable{l:List aV.Prod}{may:Nat->Nat}{T:Nat}
theorem vC(n col:Nat):∀k,-1<=iE l may T n col k/\iE l may T n col k<(k:Int)
 |0=>⟨by simp[iE],by simp[iE]⟩
 |k+1=>by
  have:=vC n col k;rw[iE];split;split<;>omega;omega
theorem yG(n col:Nat):∀k,k<=l.length->0<=iE l may T n col k->(df l (iE l may T n col k)).1=(n:Int)
 |0,_,h=>by simp_all[iE]
 | k +1,hk,h=>by
  have ih:=yG n col k J;rw[iE]at h⊢;split at h
  ·split at h
   simp_all[EH]
   omega
  grind
end
def EI(T:Nat)(w:List Int)(a:Nat):Nat:=if a<w.length then(w.getD a 0).toNat else T
section
end
section
end
section
end
end CR
namespace bZ
open Go.RowKit cL dQ aV dO
inductive pK(F:Nat->Prop)(w:World):List Value->Tree->Prop
 |mk {p k:Int} {kids:List Tree} {base:Option Addr} {cap:Nat} (gH:List (List Value)):cL.dV p->cL.dV k->kids.length<=cap->cap<=maxLen->gH.length=kids.length->
  (∀i (h:i<kids.length) (h':i<gH.length),pK F w gH[i] kids[i])->(0<kids.length->∃b off,base=aj ⟨b,off,ak⟩/\F b/\∀i (_:i<kids.length) (h':i<gH.length),Rd w b (off+i*3) gH[i])->
  pK F w [az aB p,az aB k,av base kids.length cap] (.mk p k kids)
theorem pK.ajR{F:Nat->Prop}{w:World}{cs:List Value}{t:Tree}(h:pK F w cs t):cs.length=3:=by
 cases h;rfl
theorem pK.Jt{F:Nat->Prop}{w w':World}{cs:List Value}{t:Tree}(h:pK F w cs t)(hk:∀k,F k->w'.heap[k]?=w.heap[k]?):pK F w' cs t:=by
 induction h with
 |mk gH h1 h2 h3 h4 h5 h6 h7 ih=>
  refine .mk gH h1 h2 h3 h4 h5 ih λhl=>?_;obtain⟨b,off,e,hF,hr⟩:=h7 hl;exact⟨b,off,e,hF,λi hi qB=>rd_stay (hr i hi qB) (hk b hF)⟩
theorem pK.mono{F F':Nat->Prop}{w:World}{cs:List Value}{t:Tree}(h:pK F w cs t)(hk:∀k,F k->F' k):pK F' w cs t:=by
 induction h with
 |mk gH h1 h2 h3 h4 h5 h6 h7 ih=>
  refine .mk gH h1 h2 h3 h4 h5 ih λhl=>?_;obtain⟨b,off,e,hF,hr⟩:=h7 hl;exact⟨b,off,e,hk b hF,hr⟩
def ahZ:wY Tree:=⟨3,pK,λh=>h.ajR,λh hk=>h.Jt hk,λh hk=>h.mono hk⟩
def ah0(p k:Int)(v:Value):Value:=aQ #[az aB p,az aB k,v]
def ZI(F:Nat->Prop)(w:World)(v:Value)(t:Tree):Prop:=∃vk,v=ah0 t.prod t.tok vk/\cL.dV t.prod/\cL.dV t.tok/\kw ahZ F w vk t.kids
theorem ZI.gr{w w':World}{v:Value}{t:Tree}(h:ZI (λk=>k<w.heap.size) w v t)(hg:Gr w w'):ZI (λk=>k<w'.heap.size) w' v t:=
 let ⟨vk,h1,h2,h3,h4⟩:=h;⟨vk,h1,h2,h3,h4.gr hg⟩
section
end
theorem Td(l:List Int):∀u∈l.flatMap cL.eJ,u.oneCell'=true:=by
 intro u hu;obtain⟨f,_,h⟩:=vd.1 hu;simp only[cL.eJ,dM,fz,or_false]at h;subst h;rfl
theorem Mt(l:List Int):l.flatMap cL.eJ=l.map (.int .i64):=cL.X_ l
open dR
def ie(n:Nat):Value:= .int .u64 (n:Int)
theorem Dg{l:List Bool}{i:Nat}(hi:i<l.length):(l.map fT)[i]?=aj (.bool (l.getD i aF)):=by
 simp[hi]
theorem JI{l:List Nat}{i:Nat}(hi:i<l.length):(l.map ie)[i]?=aj (ie (l.getD i 0)):=by
 simp[hi]
theorem Qm(g cap:Nat)(l:List Bool)(i:Nat)(b:Bool)(w:World)(B:bP)(hi:i<l.length)(hm:Mem B [a_ 4 1 (av (aj ⟨g,0,ak⟩) l.length cap) l.length (l.map .bool)] w):
 Calls aE 83 #[av (aj ⟨g,0,ak⟩) l.length cap,az aB (i:Int),.bool b] w (cZ ⟨λ(_:Unit)=>True,λ_=> .bool (gh l i b).2,λ_=>[a_ 4 1 (av (aj ⟨g,0,ak⟩) l.length cap) l.length ((gh l i b).1.map .bool)]⟩ B):=by
 have hb:=Dg hi;refine du hm (args:=[av (aj ⟨g,0,ak⟩) l.length cap,az aB (i:Int),.bool b]) (n:=18) Tryz.func83 I I I ?_;unfold gh
 cases b
 ·rw[if_neg (by simp)]
  try refine GA ?_
  exact cJ I I λw hm=>hm.b_ (S:=⟨λ(_:Unit)=>True,λ_=> .bool aF,λ_=>[a_ 4 1 (av (aj ⟨g,0,ak⟩) l.length cap) l.length (l.map .bool)]⟩) () trivial [0] aln I
 ·generalize hx:l.getD i aF=x at*
  cases x
  ·rw[if_pos ⟨rfl,rfl⟩]
   repeat(first|refine GA ?_|refine gV (bY bQ.eq aL.ty I I hi) ?_|refine gV (aC aL.ty I (jP (i:=0) I (by rw[cX];exact hb))) ?_)
   refine mA (i:=0) aL.ty I I I I I I (by simpa using hi) ?_
   try refine GA ?_
   exact cJ I I λw hm=>hm.b_ (S:=⟨λ(_:Unit)=>True,λ_=> .bool aD,λ_=>[a_ 4 1 (av (aj ⟨g,0,ak⟩) l.length cap) l.length ((l.set i aD).map .bool)]⟩) () trivial [0] aln (by simp[Bd])
  rw[if_neg (by simp)]
  repeat(first|refine GA ?_|refine gV (bY bQ.eq aL.ty I I hi) ?_|refine gV (aC aL.ty I (jP (i:=0) I (by rw[cX];exact hb))) ?_)
  exact cJ I I λw hm=>hm.b_ (S:=⟨λ(_:Unit)=>True,λ_=> .bool aF,λ_=>[a_ 4 1 (av (aj ⟨g,0,ak⟩) l.length cap) l.length (l.map .bool)]⟩) () trivial [0] aln I
theorem yH(v vb:Value)(l:List Bool)(body:List dw)(aT:Bool)(w:World)(hs:Sl w v l.length (l.map .bool))(Xd:Sl w vb body.length (body.flatMap eu))(kV:∀x∈body,x.1=2->0<=x.2/\x.2<l.length):
 Calls aE 84 #[v,vb,.bool aT] w (bX (ret (.bool (pH l body aT))) w):=by
 obtain⟨bv,cv,rfl,h1,h2,h3⟩:=hs;obtain⟨bb,cb,rfl,h4,h5,h6⟩:=Xd;unfold maxLen at h2 h5;refine enter (args:=[av bv l.length cv,av bb body.length cb,.bool aT]) (n:=36) Tryz.func84 I I I ?_
 try refine GA ?_
 refine d_ (ι:=Nat) (λk=>k<=body.length/\pH l body aT=pH l (body.drop k) aT) (λk=>[(0,av bv l.length cv),(2,.bool aT),(9,av bb body.length cb),(10,az aB body.length),(11,az aB (k:Int))]) (λ_=>[]) (λk=>body.length-k) 0 ⟨bH _,rfl⟩ ?_;rintro k ⟨i1,i2⟩;rw[i2];clear i2
 by_cases c6:k<body.length
 ·obtain⟨b,off,rfl,hr⟩:=h6 J
  have dy:=gd (L:=([]:List b9)) nX hr c6;have ac9:=kV body[k] (cH c6);have hd:pH l (body.drop k) aT=((if body[k].1=1 then aT else if body[k].1=2 then l.getD body[k].2.toNat aF else aD)&&pH l (body.drop (k+1)) aT):=by
   rw[eH c6];rfl
  rw[hd];clear hd h6 kV hr;generalize body[k]=x at*;obtain⟨q,m⟩:=x;dsimp only at*
  by_cases c1:q=1
  ·rw[if_pos c1]
   cases aT
   ·repeat(first|refine GA ?_|refine gV (aZ bQ.eq aL.ty I I c6) ?_|refine gV (aY aL.ty I I dy) ?_)
    refine a8 I λg8=>?_;refine gG 0 ?_
    repeat(first|refine GA ?_|refine gV (aC aL.ty I (aI (i:=0) I I)) ?_)
    exact eB
   repeat(first|refine GA ?_|refine gV (aZ bQ.eq aL.ty I I c6) ?_|refine gV (aY aL.ty I I dy) ?_)
   refine a8 I λg8=>?_;refine gG 0 ?_
   repeat(first|refine GA ?_|refine gV (aC aL.ty I (aI (i:=0) I I)) ?_)
   refine dv [] ?_;exact bW (k+1) ⟨by omega,by simp⟩ (by show body.length-(k+1)<body.length-k;omega)
  rw[if_neg c1]
  by_cases c2:q=2
  ·rw[if_pos c2]
   obtain⟨o1,o2⟩:=ac9 c2;obtain⟨mm,rfl⟩:∃mm:Nat,m=mm:=⟨m.toNat,by omega⟩;have sG:mm<l.length:=by omega
   obtain⟨b',zz,rfl,Gy⟩:=h3 J;rw[dD];have hcell:=Dg sG;generalize l.getD mm aF=y at*
   cases y
   ·repeat(first|refine GA ?_|refine gV (aZ bQ.eq aL.ty I I c6) ?_|refine gV (aY aL.ty I I dy) ?_)
    refine a8 I λg8=>?_;refine gG 0 ?_
    repeat(first|refine GA ?_|refine gV (aC aL.ty I (aI (i:=0) I I)) ?_|refine gV (bY bQ.eq aL.ty I I sG) ?_|refine gV (aC aL.ty I (iP Gy hcell)) ?_)
    exact eB
   repeat(first|refine GA ?_|refine gV (aZ bQ.eq aL.ty I I c6) ?_|refine gV (aY aL.ty I I dy) ?_)
   refine a8 I λg8=>?_;refine gG 0 ?_
   repeat(first|refine GA ?_|refine gV (aC aL.ty I (aI (i:=0) I I)) ?_|refine gV (bY bQ.eq aL.ty I I sG) ?_|refine gV (aC aL.ty I (iP Gy hcell)) ?_)
   refine dv [] ?_;exact bW (k+1) ⟨by omega,by simp⟩ (by show body.length-(k+1)<body.length-k;omega)
  rw[if_neg c2]
  repeat(first|refine GA ?_|refine gV (aZ bQ.eq aL.ty I I c6) ?_|refine gV (aY aL.ty I I dy) ?_)
  refine a8 I λg8=>?_;refine gG 0 ?_
  repeat(first|refine GA ?_|refine gV (aC aL.ty I (aI (i:=0) I I)) ?_)
  refine dv [] ?_;exact bW (k+1) ⟨by omega,by simp⟩ (by show body.length-(k+1)<body.length-k;omega)
 ·rw[jx J]
  try refine GA ?_
  exact eB
theorem rM{x y:Nat}(hx:x<18446744073709551616)(hy:y<18446744073709551616):bits .or .u64 (x:Int) (y:Int)=((x|||y:Nat):Int):=by
 have h:=bits_nat .u64 64 aln (λn h0 h1=>by rw[ux];omega) x y (by simpa using hx) (by simpa using hy);exact h.2
theorem ah1{x y:Nat}(hx:x<18446744073709551616)(hy:y<18446744073709551616):x|||y<18446744073709551616:=Ze (n:=64) hx hy
theorem zV{m:Nat}(h:m<64):2^m<18446744073709551616:=by
 have:(2:Nat)^m<2^64:=Ej aln h
 simpa using this
theorem ac_{P:Program}(m:Nat)(hm:m<64)(w:World):(iN .shl .u64 1 .i64 (m:Int)).run P w= .ok (.int .u64 ((2^m:Nat):Int)) w:=by
 have e:min m 64=m:=by omega
 have hp:=zV hm;have e2:(2:Int)^m=((2^m:Nat):Int):=by rw[Int.natCast_pow];rfl
 have e3:uy.wrap ((1:Int)*2^m)=((2^m:Nat):Int):=by
  rw[e2,ux,Int.one_mul];generalize 2^m=q at hp;omega
 have h0:¬((m:Int)<0):=by omega
 simp only[iN,if_neg h0,mf,dD,e,e3,ph]
attribute [local irreducible] Op.shift Go.bits in
theorem Vq(g cap:Nat)(l:List Nat)(i b:Nat)(w:World)(B:bP)(hi:i<l.length)(h64:∀x∈l,x<18446744073709551616)(hb:b<18446744073709551616)(hm:Mem B [a_ 82 1 (av (aj ⟨g,0,ak⟩) l.length cap) l.length (l.map ie)] w):
 Calls aE 85 #[av (aj ⟨g,0,ak⟩) l.length cap,az aB (i:Int),ie b] w (cZ ⟨λ(_:Unit)=>True,λ_=> .bool (oy l i b).2,λ_=>[a_ 82 1 (av (aj ⟨g,0,ak⟩) l.length cap) l.length ((oy l i b).1.map ie)]⟩ B):=by
 have hc:=JI hi;have ac':l.getD i 0<18446744073709551616:=by
  have e:l.getD i 0=l[i]:=by rw[de,bM hi];rfl
  rw[e];exact h64 _ (cH hi)
 refine du hm (args:=[av (aj ⟨g,0,ak⟩) l.length cap,az aB (i:Int),ie b]) (n:=25) Tryz.func85 I I I ?_;unfold oy;generalize l.getD i 0=x at*;have Lr:=rM ac' hb;have rB:((l.map ie).set i (.int .u64 ((x|||b:Nat):Int)))[0+i]?=aj (.int .u64 ((x|||b:Nat):Int)):=by
  rw[cX,List.getElem?_set_self (by simpa using hi)]
 generalize x|||b=y at*
 by_cases c:y=x
 ·rw[show(!decide (y=x))=aF by simp[c]]
  repeat(first|refine GA ?_|refine gV (bY bQ.eq aL.ty I I hi) ?_|refine gV (aC aL.ty I (jP (i:=0) I (by rw[cX];exact hc))) ?_|refine gV (zi I I Lr) ?_)
  refine mA (i:=0) aL.ty I I I I I I (by simpa using hi) ?_
  conv=>arg 8;simp only[x7,cX]
  repeat(first|refine GA ?_|refine gV (bY bQ.eq aL.ty I I hi) ?_|refine gV (aC aL.ty I (jP (i:=0) I rB)) ?_)
  exact cJ I I λw hm=>hm.b_ (S:=⟨λ(_:Unit)=>True,λ_=> .bool aF,λ_=>[a_ 82 1 (av (aj ⟨g,0,ak⟩) l.length cap) l.length ((l.set i y).map ie)]⟩) () trivial [0] aln (by simp[Bd];rfl)
 ·rw[show(!decide (y=x))=aD by simp[c]]
  repeat(first|refine GA ?_|refine gV (bY bQ.eq aL.ty I I hi) ?_|refine gV (aC aL.ty I (jP (i:=0) I (by rw[cX];exact hc))) ?_|refine gV (zi I I Lr) ?_)
  refine mA (i:=0) aL.ty I I I I I I (by simpa using hi) ?_
  conv=>arg 8;simp only[x7,cX]
  repeat(first|refine GA ?_|refine gV (bY bQ.eq aL.ty I I hi) ?_|refine gV (aC aL.ty I (jP (i:=0) I rB)) ?_)
  exact cJ I I λw hm=>hm.b_ (S:=⟨λ(_:Unit)=>True,λ_=> .bool aD,λ_=>[a_ 82 1 (av (aj ⟨g,0,ak⟩) l.length cap) l.length ((l.set i y).map ie)]⟩) () trivial [0] aln (by simp[Bd];rfl)
theorem JJ(E:List Bool)(F:List Nat)(behind:Nat)(x:dw)(r:List dw)(out:Nat):mQ E F behind (x::r) out=if x.1=1 then out|||2^x.2.toNat else if E.getD x.2.toNat aF=aD then mQ E F behind r (out|||F.getD x.2.toNat 0)else out|||F.getD x.2.toNat 0:=rfl
theorem Mu(E:List Bool)(F:List Nat)(behind out:Nat):mQ E F behind [] out=out|||behind:=rfl
def mH(vE vF vL vR vM:Value):Value:=aQ #[vE,vF,vL,vR,vM]
attribute [local irreducible] Op.shift Go.bits in
theorem vD(vE vF vL vR vM vb:Value)(E:List Bool)(F:List Nat)(body:List dw)(behind:Nat)(w:World)(hE:Sl w vE E.length (E.map .bool))(hF:Sl w vF F.length (F.map ie))(hs:Sl w vb body.length (body.flatMap eu))(hEF:E.length=F.length)
 (kV:∀x∈body,(x.1=1->0<=x.2/\x.2<64)/\(x.1≠1->0<=x.2/\x.2<F.length)) (h64:∀x∈F,x<18446744073709551616) (hb:behind<18446744073709551616):
 Calls aE 86 #[mH vE vF vL vR vM,vb,ie behind] w (bX (ret (ie (gB E F body behind))) w):=by
 obtain⟨bE,cE,rfl,e1,e2,e3⟩:=hE;obtain⟨bF,cF,rfl,f1,f2,f3⟩:=hF;obtain⟨bb,cb,rfl,h4,h5,h6⟩:=hs;unfold maxLen at e2 f2 h5;refine enter (args:=[mH (av bE E.length cE) (av bF F.length cF) vL vR vM,av bb body.length cb,ie behind]) (n:=44) Tryz.func86 I I I ?_;refine cB (bD (bL I I I λg3=>?_))
 try refine GA ?_
 unfold gB;refine d_ (ι:=Nat×Nat) (λ(k,out)=>k<=body.length/\out<18446744073709551616/\mQ E F behind body 0=mQ E F behind (body.drop k) out) (λ(k,out)=>[(2,ie behind),(3,aK (aj ⟨g3,0,ak⟩)),(7,ie out),(10,av bb body.length cb),(11,az aB body.length),(12,az aB (k:Int))]) (λ_=>[aR g3 (mH (av bE E.length cE) (av bF F.length cF) vL vR vM).cells 72]) (λ(k,_)=>body.length-k) (0,0) ⟨bH _,by decide,rfl⟩ ?_;rintro⟨k,out⟩ ⟨i1,i3,i2⟩;dsimp only at i1 i3 i2⊢;rw[i2];clear i2
 by_cases c6:k<body.length
 ·obtain⟨b,off,rfl,hr⟩:=h6 J
  have dy:=gd (L:=[aR g3 (mH (av bE E.length cE) (av bF F.length cF) vL vR vM).cells 72]) nX hr c6;have ac9:=kV body[k] (cH c6);have hd:mQ E F behind (body.drop k) out=mQ E F behind (body[k]::body.drop (k+1)) out:=by
   rw[eH c6]
  rw[hd];clear hd h6 kV hr;generalize body[k]=x at*;obtain⟨q,m⟩:=x;dsimp only at*;rw[JJ];dsimp only
  by_cases c1:q=1
  ·rw[if_pos c1]
   obtain⟨o1,o2⟩:=ac9.1 c1;obtain⟨mm,rfl⟩:∃mm:Nat,m=mm:=⟨m.toNat,by omega⟩;rw[dD];have YU:=λw=>ac_ (P:=aE) mm J w;have Lr:=rM i3 (zV (m:=mm) J)
   repeat(first|refine GA ?_|refine gV (aZ bQ.eq aL.ty I I c6) ?_|refine gV (aY aL.ty I I dy) ?_)
   refine a8 I λg8=>?_;refine gG 1 ?_
   repeat(first|refine GA ?_|refine gV (aC aL.ty I (aI (i:=1) I I)) ?_|refine gV (DX I I YU) ?_|refine gV (zi I I Lr) ?_)
   exact eB
  rw[if_neg c1];obtain⟨o1,o2⟩:=ac9.2 c1;obtain⟨mm,rfl⟩:∃mm:Nat,m=mm:=⟨m.toNat,by omega⟩;rw[dD];have sG:mm<F.length:=by omega
  have hmE:mm<E.length:=by omega
  obtain⟨b1,akT,rfl,Vi⟩:=e3 J;obtain⟨b2,ZJ,rfl,tV⟩:=f3 J;have hcE:=Dg hmE;have hcF:=JI sG;have ac':F.getD mm 0<18446744073709551616:=by
   have e:F.getD mm 0=F[mm]:=by rw[de,bM sG];rfl
   rw[e];exact h64 _ (cH sG)
  have Lr:=rM i3 ac';have hlt:=ah1 i3 ac';generalize E.getD mm aF=y at*;generalize F.getD mm 0=z at*;generalize out|||z=o2 at*
  cases y
  ·rw[if_neg aln]
   repeat(first|refine GA ?_|refine gV (aZ bQ.eq aL.ty I I c6) ?_|refine gV (aY aL.ty I I dy) ?_)
   refine a8 I λg8=>?_;refine gG 1 ?_
   repeat(first|refine GA ?_|refine gV (aC aL.ty I (aI (i:=1) I I)) ?_|refine gV (aC aL.ty I (aI (i:=0) I I)) ?_|refine gV (bY bQ.eq aL.ty I I sG) ?_|refine gV (bY bQ.eq aL.ty I I hmE) ?_|refine gV (aC aL.ty I (iP Vi hcE)) ?_|refine gV (aC aL.ty I (iP tV hcF)) ?_|refine gV (zi I I Lr) ?_)
   exact eB
  rw[if_pos I]
  repeat(first|refine GA ?_|refine gV (aZ bQ.eq aL.ty I I c6) ?_|refine gV (aY aL.ty I I dy) ?_)
  refine a8 I λg8=>?_;refine gG 1 ?_
  repeat(first|refine GA ?_|refine gV (aC aL.ty I (aI (i:=1) I I)) ?_|refine gV (aC aL.ty I (aI (i:=0) I I)) ?_|refine gV (bY bQ.eq aL.ty I I sG) ?_|refine gV (bY bQ.eq aL.ty I I hmE) ?_|refine gV (aC aL.ty I (iP Vi hcE)) ?_|refine gV (aC aL.ty I (iP tV hcF)) ?_|refine gV (zi I I Lr) ?_)
  refine dv [0] ?_;exact bW (k+1,o2) ⟨by omega,hlt,rfl⟩ (by show body.length-(k+1)<body.length-k;omega)
 ·rw[jx J]
  have Lr:=rM i3 hb;rw[Mu]
  repeat(first|refine GA ?_|refine gV (zi I I Lr) ?_)
  exact eB
end bZ
namespace bZ
open Go.RowKit cL dQ aV dR
def eG(n g c:Nat)(l:List Bool):b9:=a_ 4 1 (av (aj ⟨g,0,ak⟩) n c) n (l.map .bool)
theorem vH(n g cap:Nat)(l:List Bool)(i:Nat)(b:Bool)(w:World)(B:bP)(hl:l.length=n)(hi:i<n)(hm:Mem B [eG n g cap l] w):
 Calls aE 83 #[av (aj ⟨g,0,ak⟩) n cap,az aB (i:Int),.bool b] w (cZ ⟨λ(_:Unit)=>True,λ_=> .bool (gh l i b).2,λ_=>[eG n g cap (gh l i b).1]⟩ B):=by
 subst hl;exact Qm g cap l i b w B hi hm
structure ah2 where
 gE:Nat
 cE:Nat
 gR:Nat
 cR:Nat
 gM:Nat
 cM:Nat
def dz(n g c:Nat):Value:=av (aj ⟨g,0,ak⟩) n c
theorem Mv(h:Nat)(x:dw)(r:List dw)(R:List Bool)(more:Bool):nG h (x::r) R more=nG h r (Cb h x R more).1 (Cb h x R more).2:=rfl
theorem Mw(p:aV.Prod)(r:List aV.Prod)(s:FS):h_ (p::r) s=h_ r (pI p s):=rfl
theorem Mx(w0:World)(v:Value)(g:ep)(h:kK (λk=>k<w0.heap.size) w0 v g)(iH:cC g=0)(n:Nat)(hn:g.bx=n)(x:ah2)(vF vL:Value)(E R M:List Bool)(hE:E.length=n)(hR:R.length=n)(hM:M.length=n)(w:World)(B:bP)(ho:mI w0 B)(hm:Mem B [eG n x.gE x.cE E,eG n x.gR x.cR R,eG n x.gM x.cM M] w):
 Calls aE 45 #[v,mH (dz n x.gE x.cE) vF vL (dz n x.gR x.cR) (dz n x.gM x.cM)] w (cZ ⟨λ(_:Unit)=>True,λ_=> .bool (h_ g.aH ⟨E,R,M,aF⟩).more,λ_=>[eG n x.gE x.cE (h_ g.aH ⟨E,R,M,aF⟩).E,eG n x.gR x.cR (h_ g.aH ⟨E,R,M,aF⟩).R,eG n x.gM x.cM (h_ g.aH ⟨E,R,M,aF⟩).M]⟩ B):=by
 obtain⟨gE,cE,gR,cR,gM,cM⟩:=x;dsimp only at*;obtain⟨_,_,_,_,hlen,hps⟩:=cU iH;obtain⟨vp,rfl,h1,_⟩:=h;obtain⟨bp,cp,rfl,JE,Gv,oM⟩:=h1;unfold maxLen at Gv;obtain⟨t,nn,aH⟩:=g;dsimp only at*;subst hn;refine du hm (args:=[dP t (n:Int) (av bp aH.length cp),mH (dz n gE cE) vF vL (dz n gR cR) (dz n gM cM)]) (n:=70) Tryz.func45 I I I<|cB (bD (bL I I I λg2=>bL I I I λg3=>?_));refine zL ?_
 refine GM ?_
 refine tW [0,1,2,4] ?_;generalize jb:h_ aH ⟨E,R,M,aF⟩=fin;refine d_ (ι:=Nat×FS) (λ(k,s)=>k<=aH.length/\s.E.length=n/\s.R.length=n/\s.M.length=n/\h_ (aH.drop k) s=fin) (λ(k,s)=>[(3,aK (aj ⟨g3,0,ak⟩)),(5,.bool s.more),(11,av bp aH.length cp),(12,az aB aH.length),(13,az aB (k:Int))])
  (λ(_,s)=>[eG n gE cE s.E,eG n gR cR s.R,eG n gM cM s.M,aR g3 (mH (dz n gE cE) vF vL (dz n gR cR) (dz n gM cM)).cells 72]) (λ(k,_)=>aH.length-k) (0,⟨E,R,M,aF⟩) ⟨bH _,hE,hR,hM,jb⟩ ?_
 clear hm hE hR hM jb;rintro⟨k,E,R,M,more⟩ ⟨i1,i2,i3,i4,i5⟩;dsimp only at i1 i2 i3 i4 i5⊢
 by_cases c6:k<aH.length
 ·obtain⟨b,off,rfl,_,hr⟩:=oM J
  obtain⟨bb,cb,q1,q2,q3⟩:=l7 hr c6;have dE:=hps aH[k] (cH c6);rw[eH c6,Mw]at i5;have dy:∀(L:List b9) (j:Nat) (v:Value),([az aB aH[k].1,.slice bb aH[k].2.length cb]:List Value)[j]?=aj v->At B L ⟨b,off+k*2+j,ak⟩ v:=λL j v hj=>iX ho (q1 j v hj);have ue:=q3.flat aln;clear hr oM q1 hps q3;generalize aH[k]=p at*;obtain⟨hd,body⟩:=p;obtain⟨p1,p2,p3,p4⟩:=dE;dsimp only at*;obtain⟨hn,rfl⟩:∃hn:Nat,hd=hn:=⟨hd.toNat,by omega⟩;have hhn:hn<n:=by omega
  have Te:∀x∈body,x.1=2->0<=x.2/\x.2<(n:Int):=λx hx fK=>by
   have:=p4 x hx;unfold right at this;rw[if_neg J,if_pos fK]at this
   simpa using this
  have hsb:∀w' L,Mem B L w'->Sl w' (av bb body.length cb) body.length (body.flatMap eu):=λw' L hm=>ue.gr (ho.mem hm);unfold pI at i5;dsimp only at i5;rw[dD]at i5;have ZK:=λw' L (hm:Mem B L w') (hx:Sl w' (dz n gE cE) E.length (E.map .bool))=>yH (dz n gE cE) (av bb body.length cb) E body aF w' hx (hsb w' L hm) (λx hx fK=>by rw[i2];exact Te x hx fK);have pL:=λw' L (hm:Mem B L w') (hx:Sl w' (dz n gM cM) M.length (M.map .bool))=>yH (dz n gM cM) (av bb body.length cb) M body aD w' hx (hsb w' L hm) (λx hx fK=>by rw[i4];exact Te x hx fK);generalize pH E body aF=a1 at*;generalize pH M body aD=a2 at*;have ah3:=λw' B' hm=>vH n gE cE E hn a1 w' B' i2 hhn hm;have ah4:=λw' B' hm=>vH n gM cM M hn a2 w' B' i4 hhn hm;have Lo:=nF E hn a1;have GH:=nF M hn a2;rw[i2]at Lo ZK;rw[i4]at GH pL;generalize gh E hn a1=m1 at*;generalize gh M hn a2=m2 at*;obtain⟨E1,b1⟩:=m1;obtain⟨M1,b2⟩:=m2;dsimp only at*
  repeat(first|refine GA ?_|refine gV (aZ bQ.eq aL.ty I I c6) ?_|refine gV (aY aL.ty I I (dy _)) ?_)
  clear dy;refine a8 I λg7=>?_;refine gG 4 ?_;refine zL ?_
  repeat(first|refine QV QP ?_|refine yc ?_|refine DW ?_|refine qs I I I I I I ?_|((try refine qg I I I ?_);first|refine QV QP ?_|refine QV QL ?_|refine QV QA ?_|refine QV QlT ?_|refine QV QlF ?_|refine QV QeT ?_|refine QV QeF ?_|refine QV QaA ?_))
  (repeat refine cB ?_)
  refine ml (ι:=Unit) (λ_=>True) (λ_=>[(3,aK (aj ⟨g3,0,ak⟩)),(5,.bool (b1||more)),(7,aK (aj ⟨g7,0,ak⟩)),(11,av (aj ⟨b,off,ak⟩) aH.length cp),(12,az aB aH.length),(13,az aB (k:Int))])
   (λ_=>[eG n gE cE E1,eG n gR cR R,eG n gM cM M,aR g3 (mH (dz n gE cE) vF vL (dz n gR cR) (dz n gM cM)).cells 72,aR g7 #[az aB (hn:Int),av bb body.length cb] 149]) ?_ ?_
  ·refine dH ([aR g3 (mH (dz n gE cE) vF vL (dz n gR cR) (dz n gM cM)).cells 72,aR g7 #[az aB (hn:Int),av bb body.length cb] 149]) (.calm 0 (.calm 1 (.calm 2 (.calm 3 (.calm 4 (.calm 5 (.calm 6 (.calm 7 (.one 8 (.one 9 (.calm 10 (.calm 11 (.calm 12 (.calm 13 (.done))))))))))))))) (bV [3,4]) ?_
   repeat(first|refine GW ?_|(refine GN ?_;first|refine QW (aC aL.ty I (aI (i:=0) I I)) ?_|refine QW (aC aL.ty I (aI (i:=1) I I)) ?_))
   refine aM I<|aU (qq aJ.en I I I I) (λw hm=>ZK _ _ hm (iQ (i:=0) I w hm)) I I I ?_;intro _ _;refine zL ?_;refine aO (bV [3,4])<|aM I<|bz [0] [1,2,3,4] aln I I (qq aJ.en I I I I) (λw hm hb=>ah3 w _ hb) I I I ?_;intro _ _;refine zL ?_;refine aO (bV [2,3]) ?_
   cases b1
   ·refine GW ?_
    refine dv [4,0,1,2,3] ?_;exact eh () trivial (by repeat' (first|exact cV|refine cP I ?_)) I
   refine GW ?_
   refine dv [4,0,1,2,3] ?_;exact eh () trivial (by repeat' (first|exact cV|refine cP I ?_)) I
  intro _ _
  (repeat refine cB ?_)
  refine ml (ι:=Unit) (λ_=>True) (λ_=>[(3,aK (aj ⟨g3,0,ak⟩)),(5,.bool (b2||(b1||more))),(7,aK (aj ⟨g7,0,ak⟩)),(11,(av (aj ⟨b,off,ak⟩) aH.length cp)),(12,az aB aH.length),(13,az aB (k:Int))])
   (λ_=>[eG n gE cE E1,eG n gR cR R,eG n gM cM M1,aR g3 (mH (dz n gE cE) vF vL (dz n gR cR) (dz n gM cM)).cells 72,aR g7 #[az aB (hn:Int),av bb body.length cb] 149]) ?_ ?_
  ·refine dH ([aR g3 (mH (dz n gE cE) vF vL (dz n gR cR) (dz n gM cM)).cells 72,aR g7 #[az aB (hn:Int),av bb body.length cb] 149]) (.calm 0 (.calm 1 (.calm 2 (.calm 3 (.calm 4 (.calm 5 (.calm 6 (.calm 7 (.one 8 (.one 9 (.calm 10 (.calm 11 (.calm 12 (.calm 13 (.done))))))))))))))) (bV [3,4]) ?_
   repeat(first|refine GW ?_|(refine GN ?_;first|refine QW (aC aL.ty I (aI (i:=0) I I)) ?_|refine QW (aC aL.ty I (aI (i:=1) I I)) ?_))
   refine aM I<|aU (qq aJ.en I I I I) (λw hm=>pL _ _ hm (iQ (i:=2) I w hm)) I I I ?_;intro _ _;refine zL ?_;refine aO (bV [3,4])<|aM I<|bz [2] [0,1,3,4] aln I I (qq aJ.en I I I I) (λw hm hb=>ah4 w _ hb) I I I ?_;intro _ _;refine zL ?_;refine aO (bV [2,3]) ?_;generalize (b1||more)=mo
   cases b2
   ·refine GW ?_
    refine dv [0,1,4,2,3] ?_;exact eh () trivial (by repeat' (first|exact cV|refine cP I ?_)) I
   refine GW ?_
   refine dv [0,1,4,2,3] ?_;exact eh () trivial (by repeat' (first|exact cV|refine cP I ?_)) I
  intro _ _;generalize (b2||(b1||more))=mo at*;clear ah3 ah4 ZK pL
  refine GM ?_
  generalize hfr:nG hn body R mo=fr at*;obtain⟨R2,mo2⟩:=fr;dsimp only at i5;refine d_ (ι:=Nat×List Bool×Bool) (λ(j,R',m')=>j<=body.length/\R'.length=n/\nG hn (body.drop j) R' m'=(R2,mo2)) (λ(j,_,m')=>[(3,aK (aj ⟨g3,0,ak⟩)),(5,.bool m'),(7,aK (aj ⟨g7,0,ak⟩)),(11,(av (aj ⟨b,off,ak⟩) aH.length cp)),(12,az aB aH.length),(13,az aB (k:Int)),(44,av bb body.length cb),(45,az aB body.length),(46,az aB (j:Int))])
   (λ(_,R',_)=>[eG n gE cE E1,eG n gR cR R',eG n gM cM M1,aR g3 (mH (dz n gE cE) vF vL (dz n gR cR) (dz n gM cM)).cells 72,aR g7 #[az aB (hn:Int),av bb body.length cb] 149]) (λ(j,_,_)=>body.length-j) (0,R,mo) ⟨bH _,i3,hfr⟩ ?_
  clear hfr;rintro⟨j,R',m'⟩ ⟨j1,j2,j3⟩;dsimp only at j1 j2 j3⊢
  by_cases c7:j<body.length
  ·obtain⟨b',zz,rfl,hrb⟩:=(by
    obtain⟨bs,cs,hv,_,_,eR⟩:=ue;simp only[jN,true_and]at hv;obtain⟨rfl,rfl⟩:=hv;exact eR J:∃b' zz,bb=aj ⟨b',zz,ak⟩/\Rd w0 b' zz (body.flatMap eu))
   have Vr:∀(L:List b9) (q:Nat) (u:Value),(eu body[j])[q]?=aj u->At B L ⟨b',zz+j*2+q,ak⟩ u:=λL=>uR nX (λq u hq=>iX ho (hrb q u hq)) c7;have fK:=Te body[j] (cH c7);rw[eH c7,Mv]at j3;clear Te hrb ue hsb p4;generalize body[j]=x at*;obtain⟨q,m⟩:=x;dsimp only at fK;unfold Cb at j3;dsimp only at j3
   by_cases c8:q=2
   ·subst c8
    rw[if_pos I]at j3;obtain⟨y1,y2⟩:=fK rfl;obtain⟨mm,rfl⟩:∃mm:Nat,m=mm:=⟨m.toNat,by omega⟩;rw[dD]at j3;have hcell:=Dg (l:=R') (i:=hn) J;generalize R'.getD hn aF=bh at*;have L4:=λw' B' hm=>vH n gR cR R' mm bh w' B' j2 J hm;have ZL:=nF R' mm bh;rw[j2]at ZL;generalize gh R' mm bh=m3 at*;obtain⟨R3,b3⟩:=m3;dsimp only at*
    repeat(first|refine GA ?_|refine gV (aZ bQ.eq aL.ty I I c7) ?_|refine gV (aY aL.ty I I (Vr _)) ?_)
    clear Vr;refine a8 I λg9=>?_;refine gG 5 ?_;refine zL ?_
    refine GM ?_
    refine dH ([aR g3 (mH (dz n gE cE) vF vL (dz n gR cR) (dz n gM cM)).cells 72,aR g7 #[az aB (hn:Int),av (aj ⟨b',zz,ak⟩) body.length cb] 149,aR g9 #[az aB 2,az aB (mm:Int)] 182]) (.calm 0 (.calm 1 (.calm 2 (.calm 3 (.calm 4 (.calm 5 (.calm 6 (.calm 7 (.calm 8 (.one 9 (.one 10 (.calm 11 (.calm 12 (.calm 13 (.calm 14 (.done)))))))))))))))) (bV [3,4,5]) ?_
    repeat(first|refine GW ?_|(refine GN ?_;first|refine QW (aC aL.ty I (aI (i:=0) I I)) ?_|refine QW (aC aL.ty I (aI (i:=1) I I)) ?_|refine QW (aC aL.ty I (aI (i:=2) I I)) ?_|refine QW (bY bQ.eq aL.ty I I (show hn<n by omega)) ?_))
    refine aM I (dm (aC aL.ty I (jP (i:=1) I (by rw[cX];exact hcell))) I I I (aO (bV [3,4,5]) ?_));refine aM I<|bz [1] [0,2,3,4,5] aln I I (qq aJ.en I I I I) (λw hm hb=>L4 w _ hb) I I I ?_;intro _ _;refine zL ?_;refine aO (bV [2,3,4]) ?_
    cases b3
    ·refine GW ?_
     refine GA ?_
     refine dv [0,5,1,2,3] ?_;exact bW (j+1,R3,aF||m') ⟨by omega,ZL,j3⟩ J
    refine GW ?_
    refine GA ?_
    refine dv [0,5,1,2,3] ?_;exact bW (j+1,R3,aD||m') ⟨by omega,ZL,j3⟩ J
   rw[if_neg c8]at j3;dsimp only at j3
   repeat(first|refine GA ?_|refine gV (aZ bQ.eq aL.ty I I c7) ?_|refine gV (aY aL.ty I I (Vr _)) ?_)
   clear Vr;refine a8 I λg9=>?_;refine gG 5 ?_;refine zL ?_
   refine GM ?_
   refine dv [0,1,2,3,4] ?_;exact bW (j+1,R',m') ⟨by omega,j2,j3⟩ J
  rw[jx J]at j3;have j3:(R',m')=(R2,mo2):=j3;simp only[jX]at j3;obtain⟨rfl,rfl⟩:=j3
  refine GA ?_
  refine dv [0,1,2,3] ?_;exact bW (k+1,⟨E1,R',M1,m'⟩) ⟨by omega,Lo,j2,GH,i5⟩ J
 ·rw[jx J]at i5
  have i5:(⟨E,R,M,more⟩:FS)=fin:=i5;subst i5
  refine GA ?_
  exact cJ I I λw hm=>hm.b_ (S:=⟨λ(_:Unit)=>True,λ_=> .bool more,λ_=>[eG n gE cE E,eG n gR cR R,eG n gM cM M]⟩) () trivial [0,1,2] aln I
def iS(n g c:Nat)(l:List Nat):b9:=a_ 82 1 (av (aj ⟨g,0,ak⟩) n c) n (l.map ie)
theorem EJ(n g cap:Nat)(l:List Nat)(i b:Nat)(w:World)(B:bP)(hl:AO n l)(hi:i<n)(hb:b<18446744073709551616)(hm:Mem B [iS n g cap l] w):
 Calls aE 85 #[av (aj ⟨g,0,ak⟩) n cap,az aB (i:Int),ie b] w (cZ ⟨λ(_:Unit)=>True,λ_=> .bool (oy l i b).2,λ_=>[iS n g cap (oy l i b).1]⟩ B):=by
 obtain⟨rfl,h64⟩:=hl;exact Vq g cap l i b w B hi h64 hb hm
structure Rows4 where
 gE:Nat
 cE:Nat
 gF:Nat
 cF:Nat
 gW:Nat
 cW:Nat
 gM:Nat
 cM:Nat
theorem Qn(E M:List Bool)(p:aV.Prod)(r:List aV.Prod)(F:List Nat)(more:Bool):rK E M (p::r) F more=rK E M r (HW E M p F more).1 (HW E M p F more).2:=rfl
theorem Qo(E:List Bool)(F:List Nat)(p:aV.Prod)(r:List aV.Prod)(W:List Nat)(more:Bool):nY E F (p::r) W more=nY E F r (kf E F p.1.toNat p.2 W more).1 (kf E F p.1.toNat p.2 W more).2:=rfl
theorem My(E:List Bool)(F:List Nat)(h:Nat)(x:dw)(r:List dw)(W:List Nat)(more:Bool):kf E F h (x::r) W more=kf E F h r (jI E F h x r W more).1 (jI E F h x r W more).2:=rfl
def rN(E M:List Bool)(l:List aV.Prod)(F:List Nat):List Nat:=dR.fix (λF=>rK E M l F aF) nH F
def xG(E:List Bool)(F:List Nat)(l:List aV.Prod)(W:List Nat):List Nat:=dR.fix (λW=>nY E F l W aF) nH W
theorem Qp(w0:World)(v:Value)(g:ep)(h:kK (λk=>k<w0.heap.size) w0 v g)(iH:cC g=0)(n:Nat)(hn:g.bx=n)(x:Rows4)(vR:Value)(E:List Bool)(F W:List Nat)(M:List Bool)(hE:E.length=n)(hF:AO n F)(hW:AO n W)(hM:M.length=n)(w:World)(B:bP)(ho:mI w0 B)(hm:Mem B [eG n x.gE x.cE E,iS n x.gF x.cF F,iS n x.gW x.cW W,eG n x.gM x.cM M] w):
 Calls aE 46 #[v,mH (dz n x.gE x.cE) (dz n x.gF x.cF) (dz n x.gW x.cW) vR (dz n x.gM x.cM)] w (cZ ⟨λ(_:Unit)=>True,λ_=> .tuple #[],λ_=>[eG n x.gE x.cE E,iS n x.gF x.cF (rN E M g.aH F),iS n x.gW x.cW (xG E (rN E M g.aH F) g.aH W),eG n x.gM x.cM M]⟩ B):=by
 obtain⟨gE,cE,gF,cF,gW,cW,gM,cM⟩:=x;dsimp only at*;have rO:=zR iH hn;obtain⟨_,_,_,_,hlen,_⟩:=cU iH;obtain⟨vp,rfl,h1,_⟩:=h;obtain⟨bp,cp,rfl,JE,Gv,oM⟩:=h1;unfold maxLen at Gv;obtain⟨t,nn,aH⟩:=g;dsimp only at*;subst hn;have yI:=Qi (E:=E) (M:=M) rO;refine du hm (args:=[dP t (n:Int) (av bp aH.length cp),mH (dz n gE cE) (dz n gF cF) (dz n gW cW) vR (dz n gM cM)]) (n:=80) Tryz.func46 I I I<|cB (bD (bL I I I λg2=>bL I I I λg3=>?_));refine zL ?_
 refine GA ?_
 generalize jb:rN E M aH F=fin;refine d_ (ι:=List Nat×Bool) (λ(F,more)=>AO n F/\(more=aD->rN E M aH F=fin)/\(more=aF->F=fin)) (λ(_,more)=>[(2,aK (aj ⟨g2,0,ak⟩)),(3,aK (aj ⟨g3,0,ak⟩)),(4,.bool more)])
  (λ(F,_)=>[eG n gE cE E,iS n gF cF F,iS n gW cW W,eG n gM cM M,aR g2 (dP t (n:Int) (av bp aH.length cp)).cells 33,aR g3 (mH (dz n gE cE) (dz n gF cF) (dz n gW cW) vR (dz n gM cM)).cells 72]) (λ(F,more)=>2*nH F+(if more=aD then 1 else 0)) (F,aD) ⟨hF,λ_=>jb,λh=>by cases h⟩ ?_
 clear hm hF jb;rintro⟨F,more⟩ ⟨i1,i2,i3⟩;dsimp only at i1 i2 i3⊢
 cases more
 ·have i3 :=i3 I
  subst i3;clear i2 yI;have yI:=ZE (E:=E) i1 rO
  refine GA ?_
  generalize jb:xG E F aH W=fin;refine d_ (ι:=List Nat×Bool) (λ(W,more)=>AO n W/\(more=aD->xG E F aH W=fin)/\(more=aF->W=fin)) (λ(_,more)=>[(2,aK (aj ⟨g2,0,ak⟩)),(3,aK (aj ⟨g3,0,ak⟩)),(7,.bool more)])
   (λ(W,_)=>[eG n gE cE E,iS n gF cF F,iS n gW cW W,eG n gM cM M,aR g2 (dP t (n:Int) (av bp aH.length cp)).cells 33,aR g3 (mH (dz n gE cE) (dz n gF cF) (dz n gW cW) vR (dz n gM cM)).cells 72]) (λ(W,more)=>2*nH W+(if more=aD then 1 else 0)) (W,aD) ⟨hW,λ_=>jb,λh=>by cases h⟩ ?_
  clear jb hW;clear W;rintro⟨W,more⟩ ⟨j1,j2,j3⟩;dsimp only at j1 j2 j3⊢
  cases more
  ·have j3:=j3 I
   subst j3
   refine GA ?_
   exact lR I λw hm=>hm.b_ (S:=⟨λ(_:Unit)=>True,λ_=> .tuple #[],λ_=>[eG n gE cE E,iS n gF cF F,iS n gW cW W,eG n gM cM M]⟩) () trivial [0,1,2,3] aln I
  have j2:=j2 I;clear j3;have hdone:∀W' m',nY E F aH W aF=(W',m')->AO n W'/\(m'=aD->xG E F aH W'=fin)/\(m'=aF->W'=fin)/\2*nH W'+(if m'=aD then 1 else 0)<2*nH W+1:=λW' m' hp=>by
   have hk:=zS (E:=E) i1 aH W aF rO j1;rw[hp]at hk;dsimp only at hk;refine⟨hk.1,λc=>?_,λc=>?_,?_⟩
   ·rw[<-j2]
    unfold xG;rw[JF yI j1 (by grind),hp]
   ·rw[<-j2]
    unfold xG;rw[zP (by grind),hp]
   grind
  refine GM ?_
  generalize hfp:nY E F aH W aF=fp at*;obtain⟨Wx,mx⟩:=fp;have hdone:=hdone Wx mx I;refine d_ (ι:=Nat×List Nat×Bool) (λ(k,W,m)=>k<=aH.length/\AO n W/\nY E F (aH.drop k) W m=(Wx,mx)) (λ(k,_,m)=>[(2,aK (aj ⟨g2,0,ak⟩)),(3,aK (aj ⟨g3,0,ak⟩)),(7,.bool m),(40,av bp aH.length cp),(41,az aB aH.length),(42,az aB (k:Int))])
   (λ(_,W,_)=>[eG n gE cE E,iS n gF cF F,iS n gW cW W,eG n gM cM M,aR g2 (dP t (n:Int) (av bp aH.length cp)).cells 33,aR g3 (mH (dz n gE cE) (dz n gF cF) (dz n gW cW) vR (dz n gM cM)).cells 72]) (λ(k,_,_)=>aH.length-k) (0,W,aF) ⟨bH _,j1,hfp⟩ ?_
  clear hfp j2;rintro⟨k,W',m⟩ ⟨k1,k2,k3⟩;dsimp only at k1 k2 k3⊢
  by_cases c6:k<aH.length
  ·obtain⟨b,off,rfl,_,hr⟩:=oM J
   obtain⟨bb,cb,q1,q2,q3⟩:=l7 hr c6;have Gw:=rO.head aH[k] (cH c6);have Xf:=rO.Ex aH[k] (cH c6);have hp3:=rO.non aH[k] (cH c6);rw[eH c6,Qo]at k3;have dy:∀(L:List b9) (j:Nat) (v:Value),([az aB aH[k].1,.slice bb aH[k].2.length cb]:List Value)[j]?=aj v->At B L ⟨b,off+k*2+j,ak⟩ v:=λL j v hj=>iX ho (q1 j v hj);have ue:=q3.flat aln;clear hr oM q1 q3;generalize aH[k]=p at*;obtain⟨hd,body⟩:=p;dsimp only at*;obtain⟨hn,rfl⟩:∃hn:Nat,hd=hn:=⟨hd.toNat,by omega⟩;rw[dD]at Gw k3;have hsb:∀w' L,Mem B L w'->Sl w' (av bb body.length cb) body.length (body.flatMap eu):=λw' L hm=>ue.gr (ho.mem hm);obtain⟨bb2,cb2,he,h4,h5,h6⟩:=ue;simp only[jN,true_and]at he;obtain⟨rfl,rfl⟩:=he;unfold maxLen at h5
   repeat(first|refine GA ?_|refine gV (aZ bQ.eq aL.ty I I c6) ?_|refine gV (aY aL.ty I I (dy _)) ?_)
   clear dy;refine a8 I λg9=>?_;refine gG 6 ?_;refine zL ?_
   refine GM ?_
   refine d_ (ι:=Nat×List Nat×Bool) (λ(j,W,m)=>j<=body.length/\AO n W/\nY E F (aH.drop (k+1)) (kf E F hn (body.drop j) W m).1 (kf E F hn (body.drop j) W m).2=(Wx,mx)) (λ(j,_,m)=>[(2,aK (aj ⟨g2,0,ak⟩)),(3,aK (aj ⟨g3,0,ak⟩)),(7,.bool m),(9,aK (aj ⟨g9,0,ak⟩)),(40,av (aj ⟨b,off,ak⟩) aH.length cp),(41,az aB aH.length),(42,az aB (k:Int)),(47,av bb body.length cb),(48,az aB body.length),(49,az aB (j:Int))])
    (λ(_,W,_)=>[eG n gE cE E,iS n gF cF F,iS n gW cW W,eG n gM cM M,aR g2 (dP t (n:Int) (av (aj ⟨b,off,ak⟩) aH.length cp)).cells 33,aR g3 (mH (dz n gE cE) (dz n gF cF) (dz n gW cW) vR (dz n gM cM)).cells 72,aR g9 #[az aB (hn:Int),av bb body.length cb] 149]) (λ(j,_,_)=>body.length-j) (0,W',m) ⟨bH _,k2,k3⟩ ?_
   clear k2 k3;rintro⟨j,W2,m2⟩ ⟨k2,k3,k4⟩;dsimp only at k2 k3 k4⊢
   by_cases c7:j<body.length
   ·obtain⟨b2,ZJ,rfl,tV⟩:=h6 J
    have q_:=uR (W:=B) (L:=[eG n gE cE E,iS n gF cF F,iS n gW cW W2,eG n gM cM M,aR g2 (dP t (n:Int) (av (aj ⟨b,off,ak⟩) aH.length cp)).cells 33,aR g3 (mH (dz n gE cE) (dz n gF cF) (dz n gW cW) vR (dz n gM cM)).cells 72,aR g9 #[az aB (hn:Int),av (aj ⟨b2,ZJ,ak⟩) body.length cb] 149]) nX (λq x hq=>iX ho (tV q x hq)) c7;have ZM:=hp3 body[j] (cH c7);have kY:∀w' L,Mem B L w'->Sl w' (sN (aj ⟨b2,ZJ,ak⟩) cb 2 (j+1) body.length) (body.drop (j+1)).length ((body.drop (j+1)).flatMap eu):=λw' L hm=>by
     have:=A9 nX (hsb w' L hm) (i:=j+1) (j:=body.length) J (bC _)
     grind
    have PO:gB E F (body.drop (j+1)) (W2.getD hn 0)<18446744073709551616:=pf i1 (qI k3 _) λx hx h=>(Xf x (yu hx) h).2;have A7:=λw' L (hm:Mem B L w') (hx:Sl w' (dz n gE cE) E.length (E.map .bool)) (hy:Sl w' (dz n gF cF) F.length (F.map ie))=>vD (dz n gE cE) (dz n gF cF) (dz n gW cW) vR (dz n gM cM) _ E F (body.drop (j+1)) (W2.getD hn 0) w' hx hy (kY w' L hm) (by rw[hE,i1.1]) (λx hx=>⟨λh=>by grind,λh=>by have:=hp3 x (yu hx) h;rw[i1.1];omega⟩) i1.2 (qI k3 _);rw[hE,i1.1]at A7;have hcW:(W2.map ie)[hn]?=aj (ie (W2.getD hn 0)):=JI (by rw[k3.1];exact Gw.2);rw[eH c7,My]at k4;generalize body[j]=x at*;obtain⟨q,mn⟩:=x;dsimp only at ZM;unfold jI at k4;dsimp only at k4;generalize W2.getD hn 0=bh at*;generalize gB E F (body.drop (j+1)) bh=bg at*
    repeat(first|refine GA ?_|refine gV (aZ bQ.eq aL.ty I I c7) ?_|refine gV (aY aL.ty I I q_) ?_)
    clear q_ tV;refine a8 I λg11=>?_;refine zL ?_
    refine GA ?_
    refine gG 7 ?_;refine zL ?_
    by_cases c1:q=2
    ·rw[if_pos c1]at k4
     obtain⟨_,o1,o2⟩:=ZM J;subst c1;obtain⟨mm,rfl⟩:∃mm:Nat,mn=mm:=⟨mn.toNat,by omega⟩;rw[dD]at k4 o2;have Vs:=Df (i:=mm) k3 PO;have GK:=λw' B' hm=>EJ n gW cW W2 mm bg w' B' k3 o2 PO hm;generalize oy W2 mm bg=ad at*;obtain⟨W3,ch⟩:=ad;dsimp only at k4 Vs GK
     refine GM ?_
     refine dH ([aR g3 (mH (dz n gE cE) (dz n gF cF) (dz n gW cW) vR (dz n gM cM)).cells 72,aR g9 #[az aB (hn:Int),av (aj ⟨b2,ZJ,ak⟩) body.length cb] 149,aR g11 #[az aB 2,az aB (mm:Int)] 182]) (.calm 0 (.calm 1 (.calm 2 (.calm 3 (.calm 4 (.calm 5 (.calm 6 (.calm 7 (.calm 8 (.calm 9 (.calm 10 (.calm 11 (.calm 12 (.calm 13 (.calm 14 (.one 15 (.one 16 (.one 17 (.calm 18 (.calm 19 (.calm 20 (.calm 21 (.done))))))))))))))))))))))) (bV [5,6,7]) ?_
     repeat(first|(refine GN ?_;first|refine QW QP ?_|refine QW (aC aL.ty I (aI (i:=0) I I)) ?_|refine QW (aC aL.ty I (aI (i:=1) I I)) ?_|refine QW (aC aL.ty I (aI (i:=2) I I)) ?_|refine QW (aP (i:=0) aL.ty I I I) ?_|refine QW (rI (i:=j+1) bQ.eq aL.ty I I c7 h4) ?_|refine QW (bY bQ.eq aL.ty I I Gw.2) ?_|refine GX ?_)|refine GW ?_)
     refine aM I<|dm (aC aL.ty I (jP (i:=2) I (by grind))) I I I<|aO (bV [5,6,7])<|aM I<|aU (qq aJ.en I I I I) (λw hm=>A7 _ _ hm (iQ (i:=0) I w hm) (iQ (i:=1) I w hm)) I I I ?_;intro _ _;refine zL ?_;refine aO (bV [5,6,7])<|aM I<|bz [2] [0,1,3,4,5,6,7] aln I I (qq aJ.en I I I I) (λw hm hb=>GK w _ hb) I I I ?_;intro _ _;refine zL ?_;refine aO (bV [4,5,6]) ?_
     cases ch
     ·refine GW ?_
      refine GA ?_
      refine dv [0,1,7,2,3,4,5] ?_;exact bW (j+1,W3,aF||m2) ⟨by omega,Vs,k4⟩ J
     refine GW ?_
     refine GA ?_
     refine dv [0,1,7,2,3,4,5] ?_;exact bW (j+1,W3,aD||m2) ⟨by omega,Vs,k4⟩ J
    rw[if_neg c1]at k4
    refine GM ?_
    refine dv [0,1,2,3,4,5,6] ?_;exact bW (j+1,W2,m2) ⟨c7,k3,k4⟩ J
   rw[show body.drop j=[]from jx J]at k4
   refine GA ?_
   refine dv [0,1,2,3,4,5] ?_;exact bW (k+1,W2,m2) ⟨by omega,k3,k4⟩ J
  rw[jx J]at k3;have k3:(W',m)=(Wx,mx):=k3;simp only[jX]at k3;obtain⟨rfl,rfl⟩:=k3;obtain⟨d1,d2,d3,d4⟩:=hdone
  refine GA ?_
  exact bW (W',m) ⟨d1,d2,d3⟩ d4
 ·have i2:=i2 I
  clear i3;have hdone:∀F' m',rK E M aH F aF=(F',m')->AO n F'/\(m'=aD->rN E M aH F'=fin)/\(m'=aF->F'=fin)/\2*nH F'+(if m'=aD then 1 else 0)<2*nH F+1:=λF' m' hp=>by
   have hk:=vB (E:=E) (M:=M) aH F aF rO i1;rw[hp]at hk;dsimp only at hk;refine⟨hk.1,λc=>?_,λc=>?_,?_⟩
   ·rw[<-i2]
    unfold rN;rw[JF yI i1 (by grind),hp]
   ·rw[<-i2]
    unfold rN;rw[zP (by grind),hp]
   grind
  refine GM ?_
  generalize hfp:rK E M aH F aF=fp at*;obtain⟨Fx,mx⟩:=fp;have hdone:=hdone Fx mx I;refine d_ (ι:=Nat×List Nat×Bool) (λ(k,F,m)=>k<=aH.length/\AO n F/\rK E M (aH.drop k) F m=(Fx,mx)) (λ(k,_,m)=>[(2,aK (aj ⟨g2,0,ak⟩)),(3,aK (aj ⟨g3,0,ak⟩)),(4,.bool m),(14,av bp aH.length cp),(15,az aB aH.length),(16,az aB (k:Int))])
   (λ(_,F,_)=>[eG n gE cE E,iS n gF cF F,iS n gW cW W,eG n gM cM M,aR g2 (dP t (n:Int) (av bp aH.length cp)).cells 33,aR g3 (mH (dz n gE cE) (dz n gF cF) (dz n gW cW) vR (dz n gM cM)).cells 72]) (λ(k,_,_)=>aH.length-k) (0,F,aF) ⟨bH _,i1,hfp⟩ ?_
  clear hfp i2;rintro⟨k,F',m⟩ ⟨j1,j2,j3⟩;dsimp only at j1 j2 j3⊢
  by_cases c6:k<aH.length
  ·obtain⟨b,off,rfl,_,hr⟩:=oM J
   obtain⟨bb,cb,q1,q2,q3⟩:=l7 hr c6;have Gw:=rO.head aH[k] (cH c6);have Xf:=rO.Ex aH[k] (cH c6);have hp3:=rO.non aH[k] (cH c6);rw[eH c6,Qn]at j3;have dy:∀(L:List b9) (j:Nat) (v:Value),([az aB aH[k].1,.slice bb aH[k].2.length cb]:List Value)[j]?=aj v->At B L ⟨b,off+k*2+j,ak⟩ v:=λL j v hj=>iX ho (q1 j v hj);have ue:=q3.flat aln;clear hr oM q1 q3;generalize aH[k]=p at*;obtain⟨hd,body⟩:=p;dsimp only at*;obtain⟨hn,rfl⟩:∃hn:Nat,hd=hn:=⟨hd.toNat,by omega⟩;rw[dD]at Gw;have hsb:∀w' L,Mem B L w'->Sl w' (av bb body.length cb) body.length (body.flatMap eu):=λw' L hm=>ue.gr (ho.mem hm);have qW:=λw' L (hm:Mem B L w') (hx:Sl w' (dz n gM cM) M.length (M.map .bool))=>yH (dz n gM cM) (av bb body.length cb) M body aD w' hx (hsb w' L hm) (λx hx fK=>by grind);rw[hM]at qW;have A7:=λw' L (hm:Mem B L w') (hx:Sl w' (dz n gE cE) E.length (E.map .bool)) (hy:Sl w' (dz n gF cF) F'.length (F'.map ie))=>vD (dz n gE cE) (dz n gF cF) (dz n gW cW) vR (dz n gM cM) (av bb body.length cb) E F' body 0 w' hx hy (hsb w' L hm) (by rw[hE,j2.1]) (λx hx=>⟨λh=>by grind,λh=>by have:=hp3 x hx h;rw[j2.1];omega⟩) j2.2 aln;rw[hE,j2.1]at A7;unfold HW at j3;dsimp only at j3;rw[dD]at j3;generalize pH M body aD=a1 at*;have PO:gB E F' body 0<18446744073709551616:=pf j2 aln λx hx h=>(Xf x hx h).2;generalize gB E F' body 0=bg at*
   repeat(first|refine GA ?_|refine gV (aZ bQ.eq aL.ty I I c6) ?_|refine gV (aY aL.ty I I (dy _)) ?_)
   clear dy;refine a8 I λg6=>?_;refine gG 6 ?_;refine zL ?_
   refine GM ?_
   refine aU (qq aJ.en I I I I) (λw hm=>qW _ _ hm (iQ (i:=3) I w hm)) I I I ?_;intro _ _;refine zL ?_
   cases a1
   ·rw[if_neg aln]at j3
    refine GA ?_
    refine dv [0,1,2,3,4,5] ?_;exact bW (k+1,F',m) ⟨by omega,j2,j3⟩ J
   rw[if_pos I]at j3;have Vs:=Df (i:=hn) j2 PO;have GK:=λw' B' hm=>EJ n gF cF F' hn bg w' B' j2 Gw.2 PO hm;generalize oy F' hn bg=ad at*;obtain⟨F2,ch⟩:=ad;dsimp only at*
   refine GA ?_
   refine dH ([aR g3 (mH (dz n gE cE) (dz n gF cF) (dz n gW cW) vR (dz n gM cM)).cells 72,aR g6 #[az aB (hn:Int),av bb body.length cb] 149]) (.calm 0 (.calm 1 (.calm 2 (.calm 3 (.calm 4 (.calm 5 (.calm 6 (.one 7 (.one 8 (.calm 9 (.calm 10 (.calm 11 (.calm 12 (.done)))))))))))))) (bV [5,6]) ?_
   repeat(first|refine GW ?_|(refine GN ?_;first|refine QW (aC aL.ty I (aI (i:=0) I I)) ?_|refine QW (aC aL.ty I (aI (i:=1) I I)) ?_|refine QW (aP (i:=0) aL.ty I I I) ?_))
   refine aM I<|aU (qq aJ.en I I I I) (λw hm=>A7 _ _ hm (iQ (i:=0) I w hm) (iQ (i:=1) I w hm)) I I I ?_;intro _ _;refine zL ?_;refine aO (bV [5,6])<|aM I<|bz [1] [0,2,3,4,5,6] aln I I (qq aJ.en I I I I) (λw hm hb=>GK w _ hb) I I I ?_;intro _ _;refine zL ?_;refine aO (bV [4,5]) ?_
   cases ch
   ·refine GW ?_
    refine GA ?_
    refine dv [0,6,1,2,3,4] ?_;exact bW (k+1,F2,aF||m) ⟨by omega,Vs,j3⟩ J
   refine GW ?_
   refine GA ?_
   refine dv [0,6,1,2,3,4] ?_;exact bW (k+1,F2,aD||m) ⟨by omega,Vs,j3⟩ J
  rw[jx J]at j3;have j3:(F',m)=(Fx,mx):=j3;simp only[jX]at j3;obtain⟨rfl,rfl⟩:=j3;obtain⟨d1,d2,d3,d4⟩:=hdone
  refine GA ?_
  exact bW (F',m) ⟨d1,d2,d3⟩ d4
def xo(n:Nat)(l:List aV.Prod):FS:=dR.fix (Mo l) (Ce n) ⟨dl n aF,(dl n aF).set 0 aD,dl n aF,aF⟩
def OT(n:Nat)(l:List aV.Prod):List Nat:=rN (xo n l).E (xo n l).M l (dl n 0)
def OU(n:Nat)(l:List aV.Prod):List Nat:=xG (xo n l).E (OT n l) l ((dl n 0).set 0 9223372036854775808)
structure EK extends Rows4 where
 gR:Nat
 cR:Nat
def EK.val(n:Nat)(x:EK):Value:=mH (dz n x.gE x.cE) (dz n x.gF x.cF) (dz n x.gW x.cW) (dz n x.gR x.cR) (dz n x.gM x.cM)
theorem HZ(a b c d e:Option Addr)(n1 n2 n3 n4 n5 c1 c2 c3 c4 c5:Nat)(w:World):(dg 72 #[(0,av a n1 c1),(1,av b n2 c2),(2,av c n3 c3),(3,av d n4 c4),(4,av e n5 c5)]).run aE w= .ok (aQ #[av a n1 c1,av b n2 c2,av c n3 c3,av d n4 c4,av e n5 c5]) w:=by
 go_simp
def ZN(i d n:Nat):Mk:=⟨i,d,λg=>av (aj ⟨g,0,ak⟩) n n,λg=>aR g (madeCells #[.bool aF] (n*1)) 4⟩
def mkN(i d n:Nat):Mk:=⟨i,d,λg=>av (aj ⟨g,0,ak⟩) n n,λg=>aR g (madeCells #[.int .u64 0] (n*1)) 82⟩
def mkF(i d:Nat):Mk:=⟨i,d,λg=>aK (aj ⟨g,0,ak⟩),λg=>aR g #[av ak 0 0,av ak 0 0,av ak 0 0,av ak 0 0,av ak 0 0] 72⟩
theorem rP{P:Program}{k:Nat}{W:bP}{Q:Exit->Act->World->Prop}{fr:Fr}{L:List b9}{c:Code}{i g m:Nat}{e:TypeId}{z:Value}(hi:L[i]?=aj (aR g (madeCells #[z] (m*1)) e))(hm:m<=9223372036854775807)(h:T P k W c Q fr (L.set i (a_ e 1 (av (aj ⟨g,0,ak⟩) m m) m (dl m z)))):T P k W c Q fr L:=
 YJ 1 hi (by rw[size_madeCells]) (bC _) hm (by
  have:(madeCells #[z] (m*1)).toList.take (m*1)=dl m z:=by
   rw[aeY,Nat.mul_one,List.take_of_length_le (by simp)]
  rw[this];exact h)
theorem EL(v:Value)(g:ep)(w:World)(h:kK (λk=>k<w.heap.size) w v g)(iH:cC g=0)(n:Nat)(hn:g.bx=n):
 Calls aE 19 #[v] w (cZ ⟨λ(_:EK)=>True,λx=> .tuple #[x.val n,az aB 0],λx=>[eG n x.gE x.cE (xo n g.aH).E,iS n x.gF x.cF (OT n g.aH),iS n x.gW x.cW (OU n g.aH),eG n x.gR x.cR (xo n g.aH).R,eG n x.gM x.cM (xo n g.aH).M]⟩ w):=by
 obtain⟨n1,n2,_,_,hlen,_⟩:=cU iH;have hcc:=λw' L (hm:Mem w L w')=>ke v g w' (h.gr ((mI.self w).mem hm));rw[iH]at hcc;have h0:=h;obtain⟨vp,rfl,h1,_⟩:=h;obtain⟨bp,cp,rfl,JE,Gv,oM⟩:=h1;unfold maxLen at Gv;obtain⟨t,nn,aH⟩:=g;dsimp only at*;subst hn;refine enter (args:=[dP t (n:Int) (av bp aH.length cp)]) (n:=39) Tryz.func19 I I I ?_;refine cB (bD (bL I I I λg1=>a8 I λg2=>?_));refine zL ?_
 repeat(first|refine GA ?_|refine gV (aP (i:=0) aL.ty I I I) ?_)
 refine aU (ja aJ.en I I) (λw hm=>hcc _ _ hm) I I I ?_;intro _ _;refine zL ?_
 repeat(first|refine GA ?_|refine gV (aC aL.ty I (aI (i:=0) I I)) ?_)
 refine ml (ι:=Nat×Nat×Nat×Nat×Nat×Nat) (λ_=>True) (λ(_,_,_,_,_,g6)=>[(1,aK (aj ⟨g1,0,ak⟩)),(2,aK (aj ⟨g2,0,ak⟩)),(6,aK (aj ⟨g6,0,ak⟩))])
  (λ(gE,gF,gW,gR,gM,g6)=>[aR g1 (dP t (n:Int) (av bp aH.length cp)).cells 33,aR g2 #[av ak 0 0,av ak 0 0,av ak 0 0,av ak 0 0,av ak 0 0] 72,aR gE (madeCells #[.bool aF] (n*1)) 4,aR gF (madeCells #[.int .u64 0] (n*1)) 82,aR gW (madeCells #[.int .u64 0] (n*1)) 82,aR gR (madeCells #[.bool aF] (n*1)) 4,aR gM (madeCells #[.bool aF] (n*1)) 4,aR g6 (mH (dz n gE n) (dz n gF n) (dz n gW n) (dz n gR n) (dz n gM n)).cells 72]) ?_ ?_
 rotate_left
 ·rintro⟨gE,gF,gW,gR,gM,g6⟩ _
  dsimp only;refine rP (i:=2) I J ?_;refine rP (i:=3) I J ?_;refine rP (i:=4) I J ?_;refine rP (i:=5) I J ?_;refine rP (i:=6) I J ?_
  conv=>arg 7;simp only[DO,x7]
  rw[show dl n (fT aF)=(dl n aF).map .bool by simp,show dl n (az .u64 0)=(dl n 0).map ie by simp[ie]];have hn0:0<n:=by omega
  repeat(first|refine GA ?_|refine gV (aC aL.ty I (aI (i:=7) I I)) ?_|refine gV (bY (j:=0) bQ.eq aL.ty I I hn0) ?_)
  refine mA (i:=5) aL.ty I I I I I I (by simpa using hn0) ?_
  repeat(first|refine GA ?_|refine gV (aC aL.ty I (aI (i:=7) I I)) ?_|refine gV (bY (j:=0) bQ.eq aL.ty I I hn0) ?_)
  refine mA (i:=4) aL.ty I I I I I I (by simpa using hn0) ?_
  conv=>arg 8;simp only[DO,x7,cX]
  try refine GA ?_
  generalize jb:xo n aH=fin;have rO:=zR (g:=⟨t,n,aH⟩) iH I;have yI:=EE rO;refine mM (ι:=FS) (λs=>ZF n s/\dR.fix (Mo aH) (Ce n) s=fin) (λ_=>[(1,aK (aj ⟨g1,0,ak⟩)),(2,aK (aj ⟨g2,0,ak⟩)),(6,aK (aj ⟨g6,0,ak⟩))])
   (λs=>[aR g1 (dP t (n:Int) (av bp aH.length cp)).cells 33,aR g2 #[av ak 0 0,av ak 0 0,av ak 0 0,av ak 0 0,av ak 0 0] 72,eG n gE n s.E,iS n gF n (dl n 0),iS n gW n ((dl n 0).set 0 9223372036854775808),eG n gR n s.R,eG n gM n s.M,aR g6 (mH (dz n gE n) (dz n gF n) (dz n gW n) (dz n gR n) (dz n gM n)).cells 72])
   (λs=>Ce n s) ⟨dl n aF,(dl n aF).set 0 aD,dl n aF,aF⟩ ⟨⟨by simp,by simp,by simp⟩,jb⟩ (by repeat' (first|exact cV|refine cP I ?_)) (by simp[eG,iS,ie,Bd]) ?_
  rintro⟨E,R,M,mo⟩ ⟨i1,i2⟩;dsimp only at i2⊢;have eR:=λw' B' (ho:mI w B') hm=>Mx w _ ⟨t,n,aH⟩ h0 iH n I ⟨gE,n,gR,n,gM,n⟩ (dz n gF n) (dz n gW n) E R M i1.1 i1.2.1 i1.2.2 w' B' ho hm;dsimp only at eR
  repeat(first|refine GA ?_|refine gV (aP (i:=0) aL.ty I I I) ?_|refine gV (aP (i:=7) aL.ty I I I) ?_)
  refine bz [2,5,6] [0,1,3,4,7] aln I I (fC aJ.en I I I) (λw' hm hb=>eR w' _ ((mI.self w).on hm (by intro o ho;simp at ho⊢;rcases ho with h|h|h<;>simp[h])) hb) I I I ?_;intro _ _;refine zL ?_;clear eR;have hk:=qJ aH ⟨E,R,M,aF⟩ rO i1;have hgo:(h_ aH ⟨E,R,M,aF⟩).more=aD->dR.fix (Mo aH) (Ce n) (h_ aH ⟨E,R,M,aF⟩)=fin/\Ce n (h_ aH ⟨E,R,M,aF⟩)<Ce n ⟨E,R,M,mo⟩:=λc=>⟨by rw[<-i2,JF yI i1 c];rfl,yI.dec _ i1 c⟩;have hst:(h_ aH ⟨E,R,M,aF⟩).more=aF->h_ aH ⟨E,R,M,aF⟩=fin:=λc=>by rw[<-i2,zP (s:=(⟨E,R,M,mo⟩:FS)) c];rfl
  generalize h_ aH ⟨E,R,M,aF⟩=r at*;obtain⟨E',R',M',m'⟩:=r;dsimp only at hgo hst⊢
  cases m'
  ·have hst:=hst I
   have afb:=λw' B' (ho:mI w B') hm=>Qp w _ ⟨t,n,aH⟩ h0 iH n I ⟨gE,n,gF,n,gW,n,gM,n⟩ (dz n gR n) E' (dl n 0) ((dl n 0).set 0 9223372036854775808) M' hk.1.1 ⟨by simp,λx hx=>by rw[PY hx];decide⟩ ⟨by simp,λx hx=>by
    rcases PX hx with h|h
    rw[PY h];decide;rw[h];decide⟩ hk.1.2.2 w' B' ho hm
   dsimp only at afb
   repeat(first|refine GA ?_|refine gV (aP (i:=0) aL.ty I I I) ?_|refine gV (aP (i:=4) aL.ty I I I) ?_)
   refine bz [5,2,3,7] [0,1,6,4] aln I I (fC aJ.en I I I) (λw' hm hb=>afb w' _ ((mI.self w).on hm (by intro o ho;simp at ho⊢;rcases ho with h|h|h|h<;>simp[h])) hb) I I I ?_;intro _ _;refine zL ?_
   repeat(first|refine GA ?_|refine gV (aP (i:=3) aL.ty I I I) ?_)
   refine gG 1 ?_;refine zL ?_
   try refine GA ?_
   subst hst;have eF:OT n aH=rN E' M' aH (dl n 0):=by unfold OT;rw[jb]
   have eW:OU n aH=xG E' (rN E' M' aH (dl n 0)) aH ((dl n 0).set 0 9223372036854775808):=by unfold OU;rw[eF,jb]
   rw[eF,eW];refine dT (i:=1) I I I I (z:=az aB 0) ?_ λw' hm=>?_;rfl;exact hm.b_ (S:=⟨λ(_:EK)=>True,λx=> .tuple #[x.val n,az aB 0],λx=>[eG n x.gE x.cE E',iS n x.gF x.cF (rN E' M' aH (dl n 0)),iS n x.gW x.cW (xG E' (rN E' M' aH (dl n 0)) aH ((dl n 0).set 0 9223372036854775808)),eG n x.gR x.cR R',eG n x.gM x.cM M']⟩) ⟨⟨gE,n,gF,n,gW,n,gM,n⟩,gR,n⟩ trivial [4,5,6,2,7] aln I
  try refine GA ?_
  refine dv [0,1,5,2,3,6,7,4] ?_;exact bW ⟨E',R',M',aD⟩ ⟨hk.1,(hgo I).1⟩ (hgo I).2
 refine Y1 [] zm (by kernel_rfl) (by kernel_rfl) (by intro c a d v w h;cases d<;>exact h) ?_;refine qZ 0 (by kernel_rfl) I (wW I) I I I ?_;refine qZ 2 (by kernel_rfl) I (wW I) I I I ?_;refine qZ 4 (by kernel_rfl) I (wW I) I I I ?_;refine qZ 6 (by kernel_rfl) I (wW I) I I I ?_;refine qZ 8 (by kernel_rfl) I (wW I) I I I ?_;refine L9 [ZN 1 16 n,mkN 3 18 n,mkN 5 20 n,ZN 7 22 n,ZN 9 24 n,mkF 11 6] (λm=>!Nat.beq m.i 11) 2 (by kernel_rfl) (by kernel_rfl) ?_ (λq=>?_) λq=>?_
 ·intro m hm
  simp only[dM,fz,or_false]at hm;rcases hm with rfl|rfl|rfl|rfl|rfl|rfl
  exact nV I I I (bC _) J J I;exact nV I I I (bC _) J J I;exact nV I I I (bC _) J J I;exact nV I I I (bC _) J J I;exact nV I I I (bC _) J J I;exact HH I I
 ·simp only[ZN,mkN,mkF,ff,lL]
  generalize q 1=gE;generalize q 3=gF;generalize q 5=gW;generalize q 7=gR;generalize q 9=gM;generalize q 11=g6;clear q;refine Dc (.calm 10 (.one 12 .done)) (by kernel_rfl) I ?_
  repeat(first|refine GW ?_|(refine GN ?_;first|refine QW (bB I (HZ _ _ _ _ _ _ _ _ _ _ _ _ _ _ _)) ?_))
  refine aM I ?_;refine gG 7 ?_;refine aO zm ?_
  try refine GW ?_
  exact eh (gE,gF,gW,gR,gM,g6) trivial (by repeat' (first|exact cV|refine cP I ?_)) I
 ·rw[show List.filter (λm:Mk=>!Nat.beq m.i 11) [ZN 1 16 n,mkN 3 18 n,mkN 5 20 n,ZN 7 22 n,ZN 9 24 n,mkF 11 6]=[ZN 1 16 n,mkN 3 18 n,mkN 5 20 n,ZN 7 22 n,ZN 9 24 n]from I]
  simp only[ZN,mkN,mkF,ff,lL];generalize q 1=gE;generalize q 3=gF;generalize q 5=gW;generalize q 7=gR;generalize q 9=gM;clear q;refine Dc (.calm 10 (.one 11 (.one 12 .done))) (by kernel_rfl) (by kernel_rfl) ?_
  repeat(first|refine GW ?_|(refine GN ?_;first|refine QW (bB I (HZ _ _ _ _ _ _ _ _ _ _ _ _ _ _ _)) ?_))
  refine aM I ?_;refine a8 I λg6=>?_;refine aO zm ?_;refine aM I ?_;refine gG 7 ?_;refine aO zm ?_
  try refine GW ?_
  exact eh (gE,gF,gW,gR,gM,g6) trivial (by repeat' (first|exact cV|refine cP I ?_)) I
open dO fX
theorem Vt{x y:Nat}(hx:x<18446744073709551616)(hy:y<18446744073709551616):bits .and .u64 (x:Int) (y:Int)=((x&&&y:Nat):Int):=bits_and_u64_nat x y hx hy
theorem pM{L:List b9}{R:List Nat}{o:b9}(h:o∈R.filterMap λi=>L[i]?):o∈L:=by
 grind
theorem Qq(h:Int)(b:Option Addr)(m c:Nat)(w:World):(dg 149 #[(0,az aB h),(1,av b m c)]).run aE w= .ok (aQ #[az aB h,av b m c]) w:=by
 go_simp
def oz(F:Nat->Prop)(vp:Value)(l:List aV.Prod):b9:=GG (bR oL) F [vp] l
theorem Cg{w:World}{hd:Int}{vb:Value}{body:List dw}(kV:cL.dV hd)(hp:∀x∈body,Zv x)(h:(a_ 182 2 vb body.length (body.flatMap eu)).holds w):oL.is (λk=>vb.ownBlock=aj k) w [az aB hd,vb] (hd,body):=
 ⟨[az aB hd],[vb],rfl,⟨rfl,kV⟩,vb,rfl,kw.of_flat (Sl.dx h) hp (λ_ h=>h) (λa n cp hv=>by rw[hv];rfl)⟩
theorem ada{α:Type}{s:wY α}{F:Nat->Prop}{w:World}{v:Value}{l:List α}(h:kw s F w v l):v.oneCell'=true:=by
 obtain⟨b,c,rfl,_⟩:=h;rfl
theorem H0(k q:Int)(w:World):(dg 182 #[(0,az aB k),(1,az aB q)]).run aE w= .ok (aQ #[az aB k,az aB q]) w:=by
 go_simp
theorem ok2:cL.dV 2:=⟨by decide,by decide⟩
theorem CT(v:Value)(l:List dw)(w:World)(hs:Sl w v l.length (l.flatMap eu))(hl:l.length*16<=140737488355328):
 Calls aE 61 #[v] w (bX (cD 182 2 l.length (l.flatMap eu) id) w):=by
 obtain⟨base,cap,rfl,lf,jL,eR⟩:=hs;unfold maxLen at jL;refine enter (args:=[av base l.length cap]) (n:=8) Tryz.func61 I I I ?_;have rQ:∀w',Gr w w'->Sl w' (av base l.length cap) l.length (l.flatMap eu):=λw' hg=>Sl.gr ⟨base,cap,rfl,lf,jL,eR⟩ hg;clear eR
 cases base with
 | none=>
  repeat(first|refine GC ?_|refine gV (ku bQ.eq I I I) ?_|refine GB ?_)
  have h0:l=[]:=by
   cases l with
   |nil=>rfl
   |cons x l=>obtain⟨_,_,h,_,_,h2⟩:=rQ w (Gr.refl w);simp only[jN]at h;obtain⟨rfl,_⟩:=h;obtain⟨b,off,h,_⟩:=h2 (by simp);cases h
  subst h0;refine dJ 182 2 ?_;exact cJ I I λw hm=>hm.meets (S:=cD 182 2 0 [] id) _ trivial [0] aln I
 |some p=>
  repeat(first|refine GC ?_|refine gV (ku bQ.eq I I I) ?_|refine GB ?_)
  refine wX I λg=>?_
  try refine GA ?_
  refine ee (i:=0) I (λw' hm=>rQ w' hm.below) I I (k_ nX l) (JC l) J J I λv'=>?_;rw[e7]
  try refine GA ?_
  refine cJ I I λw hm=>?_;exact hm.meets (S:=cD 182 2 l.length (l.flatMap eu) id) v' trivial [0] aln (by simp[cD])
end bZ
namespace bZ
open Go.RowKit cL dQ aV dR
section
variable{P:Program}{n:Nat}{W:bP}{fr:Fr}{L:List b9}{dst:Option Tmp}{ty:TypeId}{pos:String}{after:Array Edge}{guard:Option (Nat×Bool)}{t u:TypeId}{x y:Operand}{k:IntKind}{m m' r:Int}
theorem Tf(hx:ev fr x=aj (.int k m))(hy:ev fr y=aj (.int k m'))(h:bits .andNot k m m'=r):RR P n W ⟨dst,.binOp .andNot t x y u,ty,pos,after,guard⟩ fr L (.int k r):=Ji (.inr (.inr (.inr I))) hx hy h
end
theorem EM{ι:Type}{S:Spec ι}{w w':World}{e:Ending}(h:cZ S w e w'):bX S w e w':=let ⟨x,h1,h2,h3⟩:=h;⟨x,h1,h2,h3.below,h3.ae2⟩
theorem Qr(w:World):(dg 72 (#[]:Array (Nat×Value))).run aE w= .ok (aQ #[av ak 0 0,av ak 0 0,av ak 0 0,av ak 0 0,av ak 0 0]) w:=by
 go_simp
theorem Vu(v:Value)(g:ep)(w:World)(h:kK (λk=>k<w.heap.size) w v g)(h0:cC g≠0):
 Calls aE 19 #[v] w (bX (ret (.tuple #[mH (av ak 0 0) (av ak 0 0) (av ak 0 0) (av ak 0 0) (av ak 0 0),az aB (cC g)])) w):=by
 have iH:=λw' (hg:Gr w w')=>ke v g w' (h.gr hg);obtain⟨vp,rfl,h1,_⟩:=h;obtain⟨bp,cp,rfl,JE,Gv,oM⟩:=h1;generalize cC g=e at*;obtain⟨t,n,aH⟩:=g;dsimp only at*;refine enter (args:=[dP t n (av bp aH.length cp)]) (n:=39) Tryz.func19 I I I ?_;refine cB (bD (bL I I I λg1=>a8 I λg2=>?_))
 repeat(first|refine GA ?_|refine gV (aP (i:=0) aL.ty I I I) ?_)
 refine aU (ja aJ.en I I) (λw hm=>iH _ hm.below) I I I ?_;intro _ _;refine zL ?_
 repeat(first|refine GA ?_|refine gV (bB I Qr) ?_)
 refine gG 1 ?_
 try refine GA ?_
 exact dT (i:=1) I I I I I λw hm=>hm.ret
def GO(t n:Int):List dw->Int
 |[]=>0
 |x::r=>if right t n x=aD then GO t n r else 1
theorem JK{t n:Int}:∀{l:List dw},GO t n l=0->∀x∈l,right t n x=aD
 |[],_,_,h=>by cases h
 | y ::r,h,x,hx=>by
  unfold GO at h;split at h
  ·rename_i c
   rcases dM.1 hx with rfl|hx
   exact c;exact JK h x hx
  cases h
theorem JL{t n:Int}:∀{l:List dw},(∀x∈l,right t n x=aD)->GO t n l=0
 |[],_=>rfl
 |y::r,h=>by unfold GO;rw[if_pos (h y (by simp))];exact JL λx hx=>h x (by simp[hx])
def vJ(g:ep)(body:List dw):Int:=if cC g≠0 then cC g else if 60<body.length then 1 else GO g.aT g.bx body
def CU(g:ep)(body:List dw)(behind:Nat):Nat:=if vJ g body=0 then gB (xo g.bx.toNat g.aH).E (OT g.bx.toNat g.aH) body behind else 0
theorem Mz{t n:Int}{x:dw}(h:right t n x=aF):(x.1≠1/\x.1≠2)\/(x.1=1/\x.2<0)\/(x.1=1/\0<=x.2/\t<=x.2)\/(x.1=2/\x.2<0)\/(x.1=2/\0<=x.2/\n<=x.2):=by
 unfold right at h;split at h;simp at h;omega;split at h;simp at h;omega;omega
theorem vO{t n:Int}{x:dw}(h:right t n x=aD):(x.1=1/\0<=x.2/\x.2<t)\/(x.1=2/\0<=x.2/\x.2<n):=by
 unfold right at h;split at h;simp at h;omega;split at h;simp at h;omega;simp at h
theorem JM{g:ep}{n:Nat}(iH:cC g=0)(hn:g.bx=n):ZF n (xo n g.aH)/\AO n (OT n g.aH):=by
 have hf:=zR iH hn
 constructor
 ·obtain⟨s',h1,h2,h3⟩:=zQ (EE hf) _ ⟨dl n aF,(dl n aF).set 0 aD,dl n aF,aF⟩ ⟨by simp,by simp,by simp⟩ (bC _)
  unfold xo;rw[h3];exact(EE hf).keep _ h1
 obtain⟨s',h1,h2,h3⟩:=zQ (Qi (E:=(xo n g.aH).E) (M:=(xo n g.aH).M) hf) _ (dl n 0) ⟨by simp,λx hx=>by rw[PY hx];decide⟩ (bC _);unfold OT rN;rw[h3];exact(Qi hf).keep _ h1
theorem rR(v vb:Value)(g:ep)(body:List dw)(behind:Nat)(w:World)(h:kK (λk=>k<w.heap.size) w v g)(hs:Sl w vb body.length (body.flatMap eu))(hb:behind<18446744073709551616):
 Calls aE 48 #[v,vb,ie behind] w (bX (ret (.tuple #[ie (CU g body behind),az aB (vJ g body)])) w):=by
 by_cases c0:cC g=0
 ·obtain⟨_,_,k1,k2,k3,k4⟩:=cU c0
  obtain⟨n,hn⟩:∃n:Nat,g.bx=n:=⟨g.bx.toNat,by omega⟩;have MA:=λw' (hg:Gr w w')=>EL v g w' (h.gr hg) c0 n hn;obtain⟨hS,hF⟩:=JM c0 hn;obtain⟨vp,rfl,h1,_⟩:=h;obtain⟨bp,cp,rfl,JE,Gv,oM⟩:=h1;clear oM;have W_:=hs;obtain⟨bb,cb,rfl,h4,h5,h6⟩:=hs;unfold maxLen at h5;obtain⟨t,nn,aH⟩:=g;dsimp only at*;subst hn;have A7:=λ(vE vF vL vR vM:Value) w' (hg:Gr w w') (hE:Sl w' vE n ((xo n aH).E.map .bool)) (hF2:Sl w' vF n ((OT n aH).map ie)) kV=>vD vE vF vL vR vM _ (xo n aH).E (OT n aH) body behind w' (by rw[hS.1];exact hE) (by rw[hF.1];exact hF2) (W_.gr hg) (by rw[hS.1,hF.1]) kV hF.2 hb;rw[hF.1]at A7;have hV:CU ⟨t,n,aH⟩ body behind=if vJ ⟨t,n,aH⟩ body=0 then gB (xo n aH).E (OT n aH) body behind else 0:=rfl
  have hE:vJ ⟨t,n,aH⟩ body=if 60<body.length then 1 else GO t n body:=by
   unfold vJ;rw[if_neg (by rw[c0];simp)]
  generalize CU ⟨t,n,aH⟩ body behind=rV at*;generalize vJ ⟨t,n,aH⟩ body=rE at*;refine enter (args:=[dP t (n:Int) (av bp aH.length cp),av bb body.length cb,ie behind]) (n:=71) Tryz.func48 I I I ?_;refine cB (bD (bL I I I λg3=>?_))
  repeat(first|refine GA ?_|refine gV (aP (i:=0) aL.ty I I I) ?_)
  refine aU (ja aJ.en I I) (λw' hm=>(MA w' hm.below).mono λe w2 h=>EM h) I I I ?_;intro x _
  conv=>arg 8;simp only[zJ,cD,ret,id_eq,EK.val]
  try refine GA ?_
  refine a8 I λg8=>?_;refine gG 6 ?_;refine zL ?_
  by_cases c1:60<body.length
  ·rw[if_pos c1]at hE
   subst hE;rw[if_neg aln]at hV;subst hV
   try refine GA ?_
   exact kZ I I I λw hm=>hm.ret
  rw[if_neg c1]at hE
  try refine GA ?_
  refine d_ (ι:=Nat) (λk=>k<=body.length/\rE=GO t n (body.drop k)) (λk=>[(1,av bb body.length cb),(2,ie behind),(3,aK (aj ⟨g3,0,ak⟩)),(8,aK (aj ⟨g8,0,ak⟩)),(23,av bb body.length cb),(24,az aB body.length),(25,az aB (k:Int))])
   (λ_=>[aR g3 (dP t (n:Int) (av bp aH.length cp)).cells 33,eG n x.gE x.cE (xo n aH).E,iS n x.gF x.cF (OT n aH),iS n x.gW x.cW (OU n aH),eG n x.gR x.cR (xo n aH).R,eG n x.gM x.cM (xo n aH).M,aR g8 (mH (dz n x.gE x.cE) (dz n x.gF x.cF) (dz n x.gW x.cW) (dz n x.gR x.cR) (dz n x.gM x.cM)).cells 72]) (λk=>body.length-k) 0 ⟨bH _,hE⟩ ?_
  rintro k ⟨i1,i2⟩
  by_cases c6:k<body.length
  ·obtain⟨b,off,rfl,hr⟩:=h6 J
   have dy:=λL=>gd (L:=L) nX hr c6;rw[eH c6,GO]at i2;clear h6 hr W_ A7;generalize body[k]=y at*
   cases r:right t n y
   ·rw[if_neg (by rw[r];decide)]at i2
    clear hE;subst i2;rw[if_neg aln]at hV;subst hV;have r':=Mz r;obtain⟨q,m⟩:=y;dsimp only at r';rcases r' with r'|r'|r'|r'|r'
    all_goals
     repeat(first|refine GA ?_|refine gV (aZ bQ.eq aL.ty I I c6) ?_|refine gV (aY aL.ty I I (dy _)) ?_)
     refine a8 I λg11=>?_;refine gG 7 ?_;refine zL ?_
     repeat(first|refine GA ?_|refine gV (aC aL.ty I (aI (i:=7) I I)) ?_|refine gV (aC aL.ty I (aI (i:=0) I I)) ?_)
     exact kZ I I I λw hm=>hm.ret
   rw[if_pos r]at i2;have r':=vO r;obtain⟨q,m⟩:=y;dsimp only at r';rcases r' with r'|r'
   all_goals
    repeat(first|refine GA ?_|refine gV (aZ bQ.eq aL.ty I I c6) ?_|refine gV (aY aL.ty I I (dy _)) ?_)
    refine a8 I λg11=>?_;refine gG 7 ?_;refine zL ?_
    repeat(first|refine GA ?_|refine gV (aC aL.ty I (aI (i:=7) I I)) ?_|refine gV (aC aL.ty I (aI (i:=0) I I)) ?_)
    refine dv [0,1,2,3,4,5,6] ?_;exact bW (k+1) ⟨by omega,i2⟩ (by show body.length-(k+1)<body.length-k;omega)
  rw[jx J]at i2;have i2:rE=0:=by rw[i2];rfl
  have qW:∀x∈body,right t n x=true:=JK (hE.symm.trans i2);clear hE;rw[if_pos i2]at hV;subst i2 hV
  repeat(first|refine GA ?_|refine gV (aP (i:=6) aL.ty I I I) ?_)
  refine aU (qq aJ.en I I I I) (λw hm=>A7 _ _ _ _ _ w hm.below (iQ (i:=1) I w hm) (iQ (i:=2) I w hm) (λx hx=>by have:=vO (qW x hx);omega)) I I I ?_;intro _ _
  try refine GA ?_
  exact kZ I I I λw hm=>hm.ret
 ·have MA:=λw' (hg:Gr w w')=>Vu v g w' (h.gr hg) c0
  have hE:vJ g body=cC g:=by unfold vJ;rw[if_pos c0]
  have hV:CU g body behind=0:=by unfold CU;rw[hE,if_neg c0]
  rw[hE,hV];obtain⟨vp,rfl,h1,_⟩:=h;obtain⟨bb,cb,rfl,_⟩:=hs;generalize cC g=e at*;obtain⟨t,n,aH⟩:=g;dsimp only at*;refine enter (args:=[dP t n vp,av bb body.length cb,ie behind]) (n:=71) Tryz.func48 I I I ?_;refine cB (bD (bL I I I λg3=>?_))
  repeat(first|refine GA ?_|refine gV (aP (i:=0) aL.ty I I I) ?_)
  refine aU (ja aJ.en I I) (λw hm=>MA _ hm.below) I I I ?_;intro _ _
  try refine GA ?_
  refine a8 I λg8=>?_;refine gG 1 ?_
  try refine GA ?_
  exact kZ I I I λw hm=>hm.ret
open fX
theorem age{W:World}{L:List b9}{b off:Nat}{l:List Int}(h:Rd W b off (l.map (.int .i64))){k:Nat}(hk:k<l.length):At W L ⟨b,off+k,ak⟩ (az aB l[k]):=iP h (by simp[hk])
end bZ
namespace bI
open aV dO cz
abbrev Item:=Int×Int×Int
def vP(a b:Int):Int:=if a<b then-1 else if b<a then 1 else 0
def MB(a b:Item):Int:=if vP a.1 b.1≠0 then vP a.1 b.1 else if vP a.2.1 b.2.1≠0 then vP a.2.1 b.2.1 else vP a.2.2 b.2.2
def Qs(a b:Item):Bool:=decide (MB a b<0)
theorem Tg(a b:Item):Qs a b=aD↔a.1<b.1\/(a.1=b.1/\(a.2.1<b.2.1\/(a.2.1=b.2.1/\a.2.2<b.2.2))):=by
 unfold Qs MB vP;rw[decide_eq_true_eq]
 repeat' split
 all_goals omega
theorem Qt(a b:Item):Qs a b=aF↔¬(a.1<b.1\/(a.1=b.1/\(a.2.1<b.2.1\/(a.2.1=b.2.1/\a.2.2<b.2.2)))):=by
 rw[<-Tg,Y6]
def OV(a b:Item):Bool:=!Qs b a
theorem Dh(a b:Item):OV a b=aD↔¬(b.1<a.1\/(b.1=a.1/\(b.2.1<a.2.1\/(b.2.1=a.2.1/\b.2.2<a.2.2)))):=by
 simp[OV,Qt]
theorem Vv(a b c:Item)(h1:OV a b=aD)(h2:OV b c=aD):OV a c=true:=by
 grind[Dh]
theorem Vw(a b:Item):(OV a b||OV b a)=true:=by
 rw[nD,Dh,Dh];omega
theorem MC{a b:Item}(h1:OV a b=aD)(h2:OV b a=aD):a=b:=by
 grind[Dh]
theorem Vx(x y:Item)(h1:Qs x y=aF)(h2:Qs y x=aF):x=y:=MC (by simp_all[OV]) (by simp_all[OV])
def agf(l:List Item):Prop:=l.Pairwise λa b=>Qs a b=aD
theorem Th(a:Item):Qs a a=false:=by simp[Qt]
theorem agh{a b c:Item}(h1:Qs a b=aD)(h2:Qs b c=aD):Qs a c=true:=by
 grind[Tg]
theorem Vy{l:List Item}(h:agf l):l.Nodup:=h.imp λ{a b} HU e=>by simp_all[Th]
def vU(l:List Item):List Item:=l.mergeSort OV
theorem ZO{l:List Item}{x:Item}:x∈vU l↔x∈l:=(Y_ l OV).mem_iff
theorem MD(l:List Item):(vU l).length=l.length:=P0 _
theorem ZP{l:List Item}(h:l.Nodup):agf (vU l):=by
 have h1:(vU l).Pairwise λa b=>OV a b=true:=Y7 Vv Vw l;have h2:(vU l).Nodup:=(Y_ l OV).nodup_iff.2 h;refine(h1.and h2).imp λ{a b} HU=>?_
 cases e:Qs a b with
 |true=>rfl
 |false=>exact absurd (MC HU.1 (by simp_all[OV])) HU.2
section
variable(l:List aV.Prod)(T:Nat)(lk:Int->Int->Nat)
def fQ(p:Int):List dw:=if p=(l.length:Int)then [(2,0)]else(df l p).2
def qK(it:Item):Option dw:=(fQ l it.1)[it.2.1.toNat]?
def vV(it:Item):Nat:=if(lk it.1 it.2.1).testBit 62=aD then(lk it.1 it.2.1^^^2^62)|||2^it.2.2.toNat else lk it.1 it.2.1
def fL(i:Nat)(bits:Nat)(out:List Item):Nat->List Item
 |0=>out
 |k+1=>if bits.testBit k=aD then more (fL i bits out k) ((i:Int),0,(k:Int))else fL i bits out k
def fM(N:Int)(bits:Nat)(out:List Item):Nat->List Item
 |0=>out
 |i+1=>if(df l (i:Int)).1=N then fL i bits (fM N bits out i) (T+1)else fM N bits out i
def vW(it:Item)(out:List Item):List Item:=match qK l it with
 |some x=>if x.1=2 then fM l T x.2 (vV lk it) out l.length else out
 |none=>out
def tN:Nat->Nat->List Item->List Item
 |0,_,out=>out
 |f+1,n,out=>if n<out.length then tN f (n+1) (vW l T lk (out.getD n (0,0,0)) out)else out
def kg(l0:List Item):List Item:=vU (tN l T lk 12000 0 (dU [] l0))
def JN(it x:Item):Prop:=∃N:Int,∃i k:Nat,qK l it=aj (2,N)/\i<l.length/\(df l (i:Int)).1=N/\k<=T/\(vV lk it).testBit k=aD/\x=((i:Int),0,(k:Int))
inductive Cl(l0:List Item):Item->Prop
 |base {x:Item} (h:x∈l0):Cl l0 x
 |step {it x:Item} (h:Cl l0 it) (hx:JN l T lk it x):Cl l0 x
def eK(it:Item):Prop:=0<=it.1/\it.1<=(l.length:Int)/\0<=it.2.1/\it.2.1<=((fQ l it.1).length:Int)/\0<=it.2.2/\it.2.2<=(T:Int)
end
section
variable{l:List aV.Prod}{T:Nat}{lk:Int->Int->Nat}
theorem vX{i bits:Nat}{out:List Item}{x:Item}:∀k,x∈fL i bits out k↔x∈out\/∃j,j<k/\bits.testBit j=aD/\x=((i:Int),0,(j:Int))
 |0=>⟨.inl,λh=>h.elim id λ⟨j,hj,_⟩=>absurd hj (ow j)⟩
 | k +1=>by
  rw[fL]
  by_cases c:bits.testBit k=aD
  ·rw[if_pos c,uY,vX k]
   constructor
   grind
   grind
  rw[if_neg c,vX k]
  grind
theorem Ch(i bits:Nat)(out:List Item):∀k,∃E,fL i bits out k=out++E
 |0=>⟨[],(dY _).symm⟩
 | k +1=>by
  rw[fL];obtain⟨E,h⟩:=Ch i bits out k;split
  ·obtain⟨E2,h2⟩:=Ec (fL i bits out k) (((i:Int),0,(k:Int)):Item)
   simp_all
  simp_all
theorem ra{i bits:Nat}{out:List Item}(h:out.Nodup):∀k,(fL i bits out k).Nodup
 |0=>h
 |k+1=>by
  rw[fL];split;exact Ed (ra h k);exact ra h k
theorem vY{N:Int}{bits:Nat}{out:List Item}{x:Item}:∀n,x∈fM l T N bits out n↔x∈out\/∃i k:Nat,i<n/\(df l (i:Int)).1=N/\k<=T/\bits.testBit k=aD/\x=((i:Int),0,(k:Int))
 |0=>⟨.inl,λh=>h.elim id λ⟨j,_,hj,_⟩=>absurd hj (ow j)⟩
 | n +1=>by
  rw[fM]
  by_cases c:(df l (n:Int)).1=N
  ·rw[if_pos c,vX,vY n]
   grind
  rw[if_neg c,vY n]
  grind
theorem vZ(N:Int)(bits:Nat)(out:List Item):∀n,∃E,fM l T N bits out n=out++E
 |0=>⟨[],(dY _).symm⟩
 | n +1=>by
  rw[fM];obtain⟨E,h⟩:=vZ N bits out n;split
  ·obtain⟨E2,h2⟩:=Ch n bits (fM l T N bits out n) (T+1)
   simp_all
  simp_all
theorem rb{N:Int}{bits:Nat}{out:List Item}(h:out.Nodup):∀n,(fM l T N bits out n).Nodup
 |0=>h
 |n+1=>by
  rw[fM];split;exact ra (rb h n) _;exact rb h n
theorem Di{it:Item}{out:List Item}{x:Item}:x∈vW l T lk it out↔x∈out\/JN l T lk it x:=by
 unfold vW JN
 cases e:qK l it with
 |none=>simp
 | some s=>
  obtain⟨k,N⟩:=s;dsimp only
  by_cases c:k=2
  simp_all[vY]
  simp_all
theorem adb(it:Item)(out:List Item):∃E,vW l T lk it out=out++E:=by
 unfold vW;split
 ·split
  simp[vZ];exact⟨[],(dY _).symm⟩
 simp
theorem Vz{it:Item}{out:List Item}(h:out.Nodup):(vW l T lk it out).Nodup:=by
 grind[vW,rb]
theorem mS{p:Int}(hw:∀q∈l,q.2.length<=8):(fQ l p).length<=8:=by
 unfold fQ;split
 decide
 unfold df;rw[de]
 cases e:l[p.toNat]? with
 |none=>exact bH _
 |some q=>exact hw q (mL e)
theorem VA{it x:Item}(h:JN l T lk it x):eK l T x:=by
 obtain⟨N,i,k,_,h2,_,h4,_,rfl⟩:=h;exact⟨by omega,by omega,lm _,by simp,by simp,by simp_all⟩
theorem zW{l0:List Item}(h0:∀x∈l0,eK l T x){x:Item}(h:Cl l T lk l0 x):eK l T x:=by
 cases h with
 |base h=>simp_all
 |step _ hx=>exact VA hx
theorem Bt{out:List Item}(hw:∀q∈l,q.2.length<=8)(hl:l.length<=40)(hT:T<=30)(hn:out.Nodup)(hr:∀x∈out,eK l T x):out.length<=11439:=by
 have:=nU (l:=out.map λx:Item=>x.1.toNat*279+x.2.1.toNat*31+x.2.2.toNat) (m:=11439) ?_ ?_
 simp_all
 ·rw[List.nodup_iff_pairwise_ne,List.pairwise_map]
  refine(af_.1 hn).imp λ{a b} HU e=>HU.2.2 ?_;have ha:=hr a HU.1;have hb:=hr b HU.2.1;have ha8:=mS (p:=a.1) hw;have hb8:=mS (p:=b.1) hw;unfold eK at ha hb;obtain⟨a1,a2,a3⟩:=a;obtain⟨b1,b2,b3⟩:=b;dsimp only at*;rw[jX,jX];omega
 intro x hx;obtain⟨a,ha,rfl⟩:=fG.1 hx;have h1:=hr a ha;have h8:=mS (p:=a.1) hw;unfold eK at h1;omega
structure WkI(l:List aV.Prod)(T:Nat)(lk:Int->Int->Nat)(l0:List Item)(n:Nat)(out:List Item):Prop where
 nd:out.Nodup
 le:n<=out.length
 has:∀x∈l0,x∈out
 cl:∀x∈out,Cl l T lk l0 x
 shut:∀j (h:j<out.length),j<n->∀x,JN l T lk out[j] x->x∈out
theorem Ti{l0:List Item}{n:Nat}{out:List Item}(h:WkI l T lk l0 n out)(hn:n<out.length):WkI l T lk l0 (n+1) (vW l T lk out[n] out):=by
 obtain⟨E,hE⟩:=adb (l:=l) (T:=T) (lk:=lk) out[n] out;have hlen:out.length<=(vW l T lk out[n] out).length:=by simp_all
 have Bu:∀j (h:j<out.length),(vW l T lk out[n] out)[j]' J=out[j]:=λj hj=>by
  simp_all
 refine⟨Vz h.nd,by omega,λx hx=>Di.2 (.inl (h.has x hx)),λx hx=>?_,λj hj hjn x hx=>?_⟩
 ·rcases Di.1 hx with h1|h1
  exact h.cl x h1;exact .step (h.cl _ (cH hn)) h1
 have sq:j<out.length:=by omega
 rw[Bu j sq]at hx
 by_cases e:j=n
 subst e;exact Di.2 (.inr hx);exact Di.2 (.inl (h.shut j sq J x hx))
theorem EN{l0:List Item}(hw:∀q∈l,q.2.length<=8)(hl:l.length<=40)(hT:T<=30)(h0:∀x∈l0,eK l T x):∀(f n:Nat) (out:List Item),11440<=f+n->WkI l T lk l0 n out->WkI l T lk l0 (tN l T lk f n out).length (tN l T lk f n out)
 | 0,n,out,hf,h=>by
  have:=Bt hw hl hT h.nd λx hx=>zW h0 (h.cl x hx);have:=h.le;omega
 | f +1,n,out,hf,h=>by
  rw[tN]
  by_cases c:n<out.length
  ·rw[if_pos c,de,bM c,Option.getD_some]
   exact EN hw hl hT h0 f (n+1) _ J (Ti h c)
  rw[if_neg c];have:=h.le;rw[show out.length=n by omega];exact h
theorem EO(l0:List Item):WkI l T lk l0 0 (dU [] l0):=
 ⟨sS l0 [] List.nodup_nil,bH _,λx hx=>lh.2 (.inr hx),λx hx=> .base ((lh.1 hx).resolve_left (by simp)),λj _ h=>absurd h (ow j)⟩
section
variable(hw:∀q∈l,q.2.length<=8)(hl:l.length<=40)(hT:T<=30)
include hw hl hT
theorem iq{l0:List Item}(h0:∀x∈l0,eK l T x){x:Item}:x∈kg l T lk l0↔Cl l T lk l0 x:=by
 unfold kg;rw[ZO];have h:=EN (lk:=lk) hw hl hT h0 12000 0 _ J (EO l0);refine⟨h.cl x,λhx=>?_⟩
 induction hx with
 |base hb=>exact h.has _ hb
 |step _ hx ih=>
  obtain⟨j,hj,rfl⟩:=iC.1 ih;exact h.shut j hj hj _ hx
theorem Qu{l0:List Item}(h0:∀x∈l0,eK l T x):agf (kg l T lk l0):=
 ZP (EN (lk:=lk) hw hl hT h0 12000 0 _ J (EO l0)).nd
theorem jm{l0:List Item}(h0:∀x∈l0,eK l T x):∀x∈kg l T lk l0,eK l T x:=λ_ hx=>zW h0 ((iq hw hl hT h0).1 hx)
theorem sZ{l0:List Item}(h0:∀x∈l0,eK l T x):(kg l T lk l0).length<=11439:=
 Bt hw hl hT (Vy (Qu hw hl hT h0)) (jm hw hl hT h0)
end
end
def ade(it:Item):Item:=(it.1,it.2.1+1,it.2.2)
section
variable(l:List aV.Prod)(T N:Nat)(lk:Int->Int->Nat)
def mT(s:List Item)(x:dw):List Item:=(s.filter λit=>decide (qK l it=aj x)).map ade
def jn(s:List Item)(x:dw):List Item:=kg l T lk (mT l s x)
def mU:List dw:=(eA T).map (λn:Nat=>((1:Int),(n:Int)))++(eA N).map (λn:Nat=>((2:Int),(n:Int)))
def jC(S:List (List Item))(s:List Item):Nat×List (List Item):=if s∈S then(idx S s,S)else(S.length,S++[s])
def qL(s:List Item)(x:dw)(S:List (List Item)):Int×List (List Item):=if jn l T lk s x=[]then(-1,S)else(((jC S (jn l T lk s x)).1:Int),(jC S (jn l T lk s x)).2)
def zX(s:List Item):List dw->List Int->List (List Item)->Option (List Int×List (List Item))
 |[],nx,S=>aj (nx,S)
 |x::r,nx,S=>if 200<(qL l T lk s x S).2.length then ak else zX s r (nx++[(qL l T lk s x S).1]) (qL l T lk s x S).2
def xH:Nat->Nat->List (List Int)->List (List Item)->Option (List (List Int)×List (List Item))
 |0,_,_,_=>ak
 | f +1,n,Nx,S=>if n<S.length then(match zX l T lk (S.getD n []) (mU T N) [] S with
  |none=>ak
  |some (nx,S')=>xH f (n+1) (Nx++[nx]) S')else aj (Nx,S)
def nI:List Item:=kg l T lk [((l.length:Int),0,(T:Int))]
def allI:Option (List (List Int)×List (List Item)):=xH l T N lk 202 0 [] [nI l T lk]
end
theorem zY(T N:Nat):(mU T N).length=T+N:=by simp[mU]
theorem VB{T N k:Nat}(h:k<T):(mU T N)[k]?=aj (1,(k:Int)):=by
 simp_all[mU,mg]
theorem ZQ{T N k:Nat}(h:k<N):(mU T N)[T+k]?=aj (2,(k:Int)):=by
 simp_all[mU]
section
variable{l:List aV.Prod}{T N:Nat}{lk:Int->Int->Nat}
theorem ME{s:List Item}{x:dw}{y:Item}:y∈mT l s x↔∃it∈s,qK l it=aj x/\y=ade it:=by
 unfold mT;rw[fG]
 constructor
 ·rintro⟨it,h,rfl⟩
  rw[Zc,decide_eq_true_eq]at h;exact⟨it,h.1,h.2,rfl⟩
 rintro⟨it,h1,h2,rfl⟩;exact⟨it,Zc.2 ⟨h1,decide_eq_true h2⟩,rfl⟩
theorem lq{s:List Item}{x:dw}(hs:∀it∈s,eK l T it):∀y∈mT l s x,eK l T y:=by
 intro y hy;obtain⟨it,h1,h2,rfl⟩:=ME.1 hy;have hr:=hs it h1;have hd:=(dX.1 h2).1;unfold eK ade at*;dsimp only;omega
structure JO(l:List aV.Prod)(T:Nat)(lk:Int->Int->Nat)(S:List (List Item)):Prop where
 nd:S.Nodup
 right:∀s∈S,∀it∈s,eK l T it
 shut:∀s∈S,∀it∈s,∀x,JN l T lk it x->x∈s
def EP(l:List aV.Prod)(T:Nat)(lk:Int->Int->Nat)(S:List (List Item))(s:List Item)(x:dw)(c:Int):Prop:=
 (jn l T lk s x=[]/\c= -1)\/(jn l T lk s x≠[]/\jn l T lk s x∈S/\c=(idx S (jn l T lk s x):Int))
theorem EP.OS{S:List (List Item)}{s:List Item}{x:dw}{c:Int}(h:EP l T lk S s x c)(E:List (List Item)):EP l T lk (S++E) s x c:=by
 rcases h with h|⟨h1,h2,h3⟩
 exact .inl h;exact .inr ⟨h1,List.mem_append_left _ h2,by grind[qE]⟩
section
variable(hw:∀q∈l,q.2.length<=8)(hl:l.length<=40)(hT:T<=30)
include hw hl hT
omit hw hl hT in
theorem Qv{S:List (List Item)}(hS:JO l T lk S){s:List Item}(hs:∀it∈s,eK l T it)(YU:∀it∈s,∀x,JN l T lk it x->x∈s):(∃E,(jC S s).2=S++E)/\s∈(jC S s).2/\(jC S s).1=idx (jC S s).2 s/\JO l T lk (jC S s).2:=by
 unfold jC
 by_cases c:s∈S
 simp_all
 rw[if_neg c];refine⟨⟨[s],rfl⟩,List.mem_append_right _ (eV.2 I),?_,?_,?_,?_⟩
 ·show S.length=idx (S++[s]) s
  have:=rJ (D:=S) (k:=s);unfold more at this;rw[if_neg c,if_neg c]at this;exact this.symm
 ·rw[List.nodup_append]
  exact⟨hS.nd,by simp,λa ha b hb e=>by simp_all⟩
 ·intro s' xE it hit
  rcases gj.1 xE with h|h
  exact hS.right s' h it hit;rw[eV.1 h]at hit;exact hs it hit
 intro s' xE it hit x hx;rcases gj.1 xE with h|h
 exact hS.shut s' h it hit x hx;rw[eV.1 h]at hit⊢;exact YU it hit x hx
theorem v7{l0:List Item}(h0:∀x∈l0,eK l T x):∀it∈kg l T lk l0,∀x,JN l T lk it x->x∈kg l T lk l0:=λ_ hit _ hx=>
 (iq hw hl hT h0).2 (.step ((iq hw hl hT h0).1 hit) hx)
theorem H2{S:List (List Item)}(hS:JO l T lk S){s:List Item}(hs:∀it∈s,eK l T it)(x:dw):(∃E,(qL l T lk s x S).2=S++E)/\EP l T lk (qL l T lk s x S).2 s x (qL l T lk s x S).1/\JO l T lk (qL l T lk s x S).2:=by
 unfold qL
 by_cases c:jn l T lk s x=[]
 ·rw[if_pos c]
  exact⟨⟨[],(dY _).symm⟩,.inl ⟨c,rfl⟩,hS⟩
 rw[if_neg c];obtain⟨h1,h2,h3,h4⟩:=Qv hS (jm (lk:=lk) hw hl hT (lq (x:=x) hs)) (v7 hw hl hT (lq (x:=x) hs));exact⟨h1,.inr ⟨c,h2,congrArg _ h3⟩,h4⟩
theorem MF{s:List Item}(hs:∀it∈s,eK l T it):∀(xs:List dw) (nx:List Int) (S:List (List Item)) (done:List dw) (Tj:List Int) (S':List (List Item)),JO l T lk S->zX l T lk s xs nx S=aj (Tj,S')->S.length<=200->nx.length=done.length->(∀k x,done[k]?=aj x->EP l T lk S s x (nx.getD k 0))->
 (∃E,S'=S++E)/\JO l T lk S'/\S'.length<=200/\Tj.length=(done++xs).length/\∀k x,(done++xs)[k]?=aj x->EP l T lk S' s x (Tj.getD k 0)
 | [],nx,S,done,Tj,S',hS,h,ajS,hlen,hd=>by
  simp_all[zX]
 | x ::xs,nx,S,done,Tj,S',hS,h,ajS,hlen,hd=>by
  rw[zX]at h
  by_cases c:200<(qL l T lk s x S).2.length
  simp_all;rw[if_neg c]at h;obtain⟨⟨E,h1⟩,h2,h3⟩:=H2 (lk:=lk) hw hl hT hS hs x;obtain⟨⟨E2,q1⟩,q2,q3,q4,q5⟩:=MF hs xs (nx++[(qL l T lk s x S).1]) _ (done++[x]) Tj S' h3 h J (by simp_all) (λk y hk=>by
   by_cases ek:k<done.length
   ·rw[mg ek]at hk
    rw[lC J,h1];exact(hd k y hk).OS E
   grind)
  simp_all
structure VC(l:List aV.Prod)(T N:Nat)(lk:Int->Int->Nat)(n:Nat)(Nx:List (List Int))(S:List (List Item)):Prop where
 ss:JO l T lk S
 tY:S.length<=200
 le:n<=S.length
 len:Nx.length=n
 start:S[0]?=aj (nI l T lk)
 wide:∀q,q<n->(Nx.getD q []).length=T+N
 cell:∀q,q<n->∀k x,(mU T N)[k]?=aj x->EP l T lk S (S.getD q []) x ((Nx.getD q []).getD k 0)
theorem MG:∀(f n:Nat) (Nx:List (List Int)) (S:List (List Item)) (Nx':List (List Int)) (S':List (List Item)),xH l T N lk f n Nx S=aj (Nx',S')->VC l T N lk n Nx S->VC l T N lk S'.length Nx' S'
  |0,_,_,_,_,_,h,_=>by cases h
  | f + 1,n,Nx,S,Nx',S',h,hi=>by
    rw[xH]at h
    by_cases c:n<S.length
    · rw[if_pos c]at h
      have Bu:S.getD n []=S[n]:=by simp_all
      have hs:∀it∈S.getD n [],eK l T it:=by rw[Bu];exact hi.ss.right _ (cH c)
      cases e:zX l T lk (S.getD n []) (mU T N) [] S with
      |none=>simp_all
      | some r=>
        obtain⟨nx,S1⟩:=r;rw[e]at h;obtain⟨⟨E,q1⟩,q2,q3,q4,q5⟩:=MF (lk:=lk) hw hl hT hs (mU T N) [] S [] nx S1 hi.ss e hi.tY rfl (λk x hk=>by grind);rw[e7]at q4 q5;have hlen:=congrArg List.length q1;rw[bK]at hlen;refine MG f (n+1) _ S1 Nx' S' h ⟨q2,q3,by omega,by rw[bK,hi.len];rfl,?_,λq hq=>?_,λq hq k x hk=>?_⟩;rw[q1,mg J];exact hi.start
        · by_cases eq:q=n
          · subst eq
            rw[sT (by rw[hi.len];exact bC _),hi.len,Be];show nx.length=T+N
            rw[q4,zY]
          rw[lC (by rw[hi.len];omega)];exact hi.wide q J
        by_cases eq:q=n
        · subst eq
          rw[sT (by rw[hi.len];exact bC _),hi.len,Be];have e1:S1.getD q []=S.getD q []:=by rw[q1,lC c]
          rw[e1];exact q5 k x hk
        rw[lC (by rw[hi.len];omega)];have e1:S1.getD q []=S.getD q []:=by grind
        rw[e1,q1];exact(hi.cell q J k x hk).OS E
    rw[if_neg c]at h;simp only[dL,jX]at h;obtain⟨rfl,rfl⟩:=h;have:n=S.length:=by have:=hi.le;omega
    simp_all
omit hw in
theorem iI:∀x∈[(((l.length:Int),0,(T:Int)):Item)],eK l T x:=by
 intro x hx;rw[eV.1 hx];exact⟨by dsimp only;omega,lm _,lm _,by dsimp only;omega,by dsimp only;omega,lm _⟩
theorem MH{Nx:List (List Int)}{S:List (List Item)}(h:allI l T N lk=aj (Nx,S)):VC l T N lk S.length Nx S:=
 MG hw hl hT 202 0 [] [nI l T lk] Nx S h
  ⟨⟨by simp,λs hs it hit=>by rw[eV.1 hs]at hit;exact jm (lk:=lk) hw hl hT (iI hl hT) it hit,λs hs it hit x hx=>by rw[eV.1 hs]at hit⊢;exact v7 hw hl hT (iI hl hT) it hit x hx⟩,by simp,bH _,rfl,rfl,λq hq=>absurd hq (ow q),λq hq=>absurd hq (ow q)⟩
end
end
def iJ(s:List Item):List UInt8:=s.flatMap λit=>[fV it.1.toNat,fV it.2.1.toNat,fV it.2.2.toNat]
theorem Qw{a b:Int}(ha:0<=a/\a<256)(hb:0<=b/\b<256)(h:fV a.toNat=fV b.toNat):a=b:=by
 have:=congrArg UInt8.toNat h;rw[Zh,Zh]at this;omega
theorem EQ:∀{s s':List Item},(∀it∈s,0<=it.1/\it.1<256/\0<=it.2.1/\it.2.1<256/\0<=it.2.2/\it.2.2<256)->(∀it∈s',0<=it.1/\it.1<256/\0<=it.2.1/\it.2.1<256/\0<=it.2.2/\it.2.2<256)->iJ s=iJ s'->s=s'
 |[],[],_,_,_=>rfl
 |[],b::s',_,_,h=>by grind[iJ]
 |a::s,[],_,_,h=>by grind[iJ]
 | a ::s,b::s',h1,h2,h=>by
  have ha:=h1 a (iO ..);have hb:=h2 b (iO ..);unfold iJ at h;rw[oo,oo]at h;simp only[List.cons_append,e7,jA]at h;obtain⟨e1,e2,e3,e4⟩:=h;have e1:=Qw ⟨ha.1,ha.2.1⟩ ⟨hb.1,hb.2.1⟩ e1;have e2:=Qw ⟨ha.2.2.1,ha.2.2.2.1⟩ ⟨hb.2.2.1,hb.2.2.2.1⟩ e2;have e3:=Qw ⟨ha.2.2.2.2.1,ha.2.2.2.2.2⟩ ⟨hb.2.2.2.2.1,hb.2.2.2.2.2⟩ e3;have e:a=b:=by
   grind
  rw[e,EQ (λit hit=>h1 it (kJ _ hit)) (λit hit=>h2 it (kJ _ hit)) e4]
open fX dR
open CR (EI)
abbrev Act:=Int×Int
section
variable(l:List aV.Prod)(T:Nat)
def zZ(c:Nat)(it:Item):Option Act:=if it.2.2≠(c:Int)then ak else if it.1=(l.length:Int)/\it.2.1=1 then aj (3,0)else if it.1<(l.length:Int)/\it.2.1=((df l it.1).2.length:Int)then aj (2,it.1)else ak
def kR(s:List Item)(nx:List Int)(c:Nat):List Act:=(if c<T/\0<=nx.getD c 0 then [(1,nx.getD c 0)]else [])++s.filterMap (zZ l c)
end
section
variable(l:List aV.Prod)(T:Nat)(Nx:List (List Int))(S:List (List Item))
def pN(q c:Nat):Act:=(kR l T (S.getD q []) (Nx.getD q []) c).headD (0,0)
def ah5(q:Nat)(n:Int):Int:=(Nx.getD q []).getD (T+n.toNat) 0
def ah6:Prop:=∀q,q<S.length->∀c,c<=T->(kR l T (S.getD q []) (Nx.getD q []) c).length<=1
inductive JP(w:List Int):List Nat->Nat->List dw->List Nat->Nat->Prop
 |nil {σ:List Nat} {a:Nat}:JP w σ a [] σ a
 |shift {q s:Nat} {σ σ':List Nat} {a a':Nat} {E:List dw} (ha:a<w.length) (h:pN l T Nx S q (EI T w a)=(1,(s:Int))) (hr:JP w (s::q::σ) (a+1) E σ' a'):JP w (q::σ) a ((2,(a:Int))::E) σ' a'
 |reduce {q r tq:Nat} {p:Int} {σ ρ σ':List Nat} {a a':Nat} {E:List dw} (h:pN l T Nx S q (EI T w a)=(2,p)) (hd:(q::σ).drop (df l p).2.length=r::ρ) (hg:ah5 T Nx r (df l p).1=(tq:Int)) (hr:JP w (tq::r::ρ) a E σ' a'):JP w (q::σ) a ((4,p)::E) σ' a'
end
section
variable{l:List aV.Prod}{T N:Nat}{lk:Int->Int->Nat}{Nx:List (List Int)}{S:List (List Item)}{w:List Int}
theorem JP.OS{σ σ1 σ2:List Nat}{a a1 a2:Nat}{E E2:List dw}(h:JP l T Nx S w σ a E σ1 a1)(h2:JP l T Nx S w σ1 a1 E2 σ2 a2):JP l T Nx S w σ a (E++E2) σ2 a2:=by
 induction h with
 |nil=>grind
 |shift ha h _ ih=>exact .shift ha h (ih h2)
 |reduce h hd hg _ ih=>exact .reduce h hd hg (ih h2)
section
end
section
end
end
end bI
namespace bZ
open Go.RowKit cL dQ
theorem MI(a:Int):(cL.eJ a).length=1:=rfl
theorem ky(v:Value)(l:List Int)(w:World)(hs:Sl w v l.length (l.flatMap cL.eJ))(hl:l.length*8<=140737488355328):
 Calls aE 59 #[v] w (bX (cD 3 1 l.length (l.flatMap cL.eJ) id) w):=by
 obtain⟨base,cap,rfl,lf,jL,eR⟩:=hs;unfold maxLen at jL;refine enter (args:=[av base l.length cap]) (n:=8) Tryz.func59 I I I ?_;have rQ:∀w',Gr w w'->Sl w' (av base l.length cap) l.length (l.flatMap cL.eJ):=λw' hg=>Sl.gr ⟨base,cap,rfl,lf,jL,eR⟩ hg;clear eR
 cases base with
 | none=>
  repeat(first|refine GC ?_|refine gV (ku bQ.eq I I I) ?_|refine GB ?_)
  have h0:l=[]:=by
   cases l with
   |nil=>rfl
   |cons x l=>obtain⟨_,_,h,_,_,h2⟩:=rQ w (Gr.refl w);simp only[jN]at h;obtain⟨rfl,_⟩:=h;obtain⟨b,off,h,_⟩:=h2 (by simp);cases h
  subst h0;refine dJ 3 1 ?_;exact cJ I I λw hm=>hm.meets (S:=cD 3 1 0 [] id) _ trivial [0] aln I
 |some p=>
  repeat(first|refine GC ?_|refine gV (ku bQ.eq I I I) ?_|refine GB ?_)
  refine wX I λg=>?_
  try refine GA ?_
  refine ee (i:=0) I (λw' hm=>rQ w' hm.below) I I (k_ MI l) (Td l) J J I λv'=>?_;rw[e7]
  try refine GA ?_
  refine cJ I I λw hm=>?_;exact hm.meets (S:=cD 3 1 l.length (l.flatMap cL.eJ) id) v' trivial [0] aln (by simp[cD])
open aV dO dR bI
def jj(x:bI.Item):List Value:=[az aB x.1,az aB x.2.1,az aB x.2.2]
theorem l8(x:bI.Item):(jj x).length=3:=rfl
def Bv(x:Option Nat):b9:=match x with
 |some g=>aR g #[az aB 2,az aB 0] 182
 |none=>⟨ak,λ_=>False,λ_=>True,λ_ _ k h=>by rcases h with h|h;cases h;exact h.elim,λ_ _ _ _ _=>trivial⟩
def adf(vb:Nat->Value)(n:Nat)(x:Option Nat):Value:=match x with
 |some g=>av (aj ⟨g,0,ak⟩) 1 1
 |none=>vb n
def VD(F:Nat->Prop)(w:World)(vb:Nat->Value)(l:List aV.Prod):Prop:=∀i,i<l.length->kw ac3 F w (vb i) (df l (i:Int)).2
def z8(vb:Nat->Value)(n P:Nat):Spec (Option Nat):=⟨λx=>x.isSome=decide (n=P),λx=>adf vb n x,λx=>[Bv x]⟩
theorem ZR{F:Nat->Prop}{w:World}{vp:Value}{l:List aV.Prod}(h:kw oL F w vp l):∃(vb:Nat->Value) (bp:Option Addr) (cp:Nat),vp=av bp l.length cp/\l.length<=cp/\cp<=maxLen/\VD F w vb l/\(0<l.length->∃b off,bp=aj ⟨b,off,ak⟩/\F b/\∀i,i<l.length->Rd w b (off+i*2) [az aB (df l (i:Int)).1,vb i]/\cL.dV (df l (i:Int)).1):=by
 obtain⟨bp,cp,rfl,h1,h2,h3⟩:=h
 by_cases h0:0<l.length
 ·obtain⟨b,off,rfl,hF,hr⟩:=h3 h0
  have key:∀i:Nat,∃v:Value,i<l.length->kw ac3 F w v (df l (i:Int)).2/\Rd w b (off+i*2) [az aB (df l (i:Int)).1,v]/\cL.dV (df l (i:Int)).1:=λi=>by
   by_cases hi:i<l.length
   ·obtain⟨base,cap,q1,q2,q3⟩:=l7 hr hi
    have e:df l (i:Int)=l[i]:=by unfold df;rw[dD,de,bM hi];rfl
    exact⟨_,λ_=>by rw[e];exact⟨q3,q1,q2⟩⟩
   exact⟨undef,λh=>absurd h hi⟩
  refine⟨λi=>I4 (key i),aj ⟨b,off,ak⟩,cp,rfl,h1,h2,λi hi=>(DH (key i) hi).1,λ_=>⟨b,off,rfl,hF,λi hi=>(DH (key i) hi).2⟩⟩
 exact⟨λ_=>undef,bp,cp,rfl,h1,h2,λi hi=>absurd hi J,λh=>absurd h h0⟩
theorem agi{n:Nat}{W:bP}{e:Exit}{Q:Exit->Act->World->Prop}{fr:Fr}{L:List b9}(h:E n W e Q fr (L++[Bv ak])):E n W e Q fr L:=⟨λa w hr hm=>h.go a w hr ⟨hm.low,eP.both hm.owns (eP.one trivial λk hk=>by rcases hk with hk|hk;cases hk;exact hk.elim) λi j o o' _ hj k _ hk=>by
 match j,hj with
 |0,hj=>
  simp only[pj,dL]at hj;subst hj;rcases hk with hk|hk
  cases hk
  exact hk.elim
 |j+1,hj=>simp at hj⟩⟩
theorem Qx(w:World):(dg 182 #[(0,az aB 2),(1,az aB 0)]).run aE w= .ok (aQ #[az aB 2,az aB 0]) w:=by kernel_rfl
theorem s7(t n:Int)(bp:Option Addr)(cp:Nat)(l:List aV.Prod)(vb:Nat->Value)(w0 w:World)(B:bP)(k:Nat)(hk:k<=l.length)(ho:mI w0 B)(hm:Mem B [] w)(AN:∀i,i<l.length->∃bb m cc,vb i=av bb m cc)
 (hr:0<l.length->∃b off,bp=aj ⟨b,off,ak⟩/\∀i,i<l.length->Rd w0 b (off+i*2) [az aB (df l (i:Int)).1,vb i]):
 Calls aE 117 #[dP t n (av bp l.length cp),az aB (k:Int)] w (bX (z8 vb k l.length) w):=by
 have hb:=Qx;have hr:∀i,i<l.length->∃b off,bp=aj ⟨b,off,ak⟩/\Rd w b (off+i*2) [az aB (df l (i:Int)).1,vb i]:=λi hi=>by
  obtain⟨b,off,q1,q2⟩:=hr J;exact⟨b,off,q1,λj u hj=>ho.cell hm (q2 i hi j u hj)⟩
 clear hm ho;refine enter (args:=[dP t n (av bp l.length cp),az aB (k:Int)]) (n:=18) Tryz.func117 I I I ?_;refine cB (bD (bL I I I λg2=>?_));refine zL ?_
 by_cases c:k=l.length
 ·subst c
  repeat(first|refine GC ?_|refine gV (aC (v:=av bp l.length cp) aL.ty I (aI (i:=0) I I)) ?_|refine gV (cY (b:=aD) I I (decide_eq_true I)) ?_|refine gV (bB I hb) ?_|refine GB ?_)
  refine fw (cs:=#[az aB 2,az aB 0]) [aQ #[az aB 2,az aB 0]] I I I (by intro v hv;simp at hv;subst hv;rfl) I I I λg11=>?_;refine zL ?_
  try refine GA ?_
  exact cJ I I λw hm=>hm.meets (S:=z8 vb l.length l.length) (aj g11) (by show aD=decide (l.length=l.length);rw[decide_eq_true I]) [1] aln I
 ·obtain⟨b,off,rfl,eR⟩:=hr k J
  obtain⟨bb,m,cc,hv⟩:=AN k J;have dy:∀(L:List b9),At w L ⟨b,off+k*2+1,ak⟩ (vb k):=λL=>iP eR (j:=1) I;have hlt:k<l.length:=by omega
  repeat(first|refine GC ?_|refine gV (aC (v:=av (aj ⟨b,off,ak⟩) l.length cp) aL.ty I (aI (i:=0) I I)) ?_|refine gV (cY (b:=aF) I I (decide_eq_false J)) ?_|refine gV (aZ (j:=k) bQ.eq aL.ty I I hlt) ?_|refine gV (aC (v:=vb k) aL.ty I (dy _)) ?_|refine GB ?_)
  refine agi ?_;exact cJ I I λw hm=>hm.meets (S:=z8 vb k l.length) ak (by show aF=decide (k=l.length);rw[decide_eq_false c]) [1] aln I
open Go.WideElems (Fit findIdx_arr findIdx_born modify_last)
open Go.ChangeMaps Go.MapKept Go.WideShapes
section
variable{P:Program}{k:TypeId}{κ:Type}(K:zr P k κ)
theorem Ci{α:Type}(f:α->α):∀(l:List α) (j:Nat) (a:α),l[j]?=aj a->f a=a->l.modify j f=l
 |[],_,_,h,_=>by simp
 |b::r,0,a,h,hf=>by simp_all
 |b::r,j+1,a,h,hf=>by simp at h;simp[List.modify_succ_cons,Ci f r j a h hf]
def ZS(g:Nat)(x:κ)(st:Nat)(z:Value)(f:κ->Value)(b:Nat):b9:=
 ⟨aj g,λ_=>False,λw=>(qt K g z f b).holds w/\∃es clock e0,w.heap[g]?=aj (.map es clock)/\e0∈es.toList/\e0.key=K.kv x/\e0.born=st,
  λw h q hq=>(qt K g z f b).lt w h.1 q hq,
  λw w' ⟨h1,es,clock,e0,h2,h3⟩ hs hk=>⟨(qt K g z f b).stay w w' h1 hs hk,es,clock,e0,(hk g (.inl I)).trans h2,h3⟩⟩
theorem ES{w:World}{g:Nat}{es:Array MapEntry}{c:Nat}(h:w.heap[g]?=aj (.map es c)):setBlock w g (.map es c)=w:=by
 have e:w.heap.setIfInBounds g (.map es c)=w.heap:=by
  grind
 simp_all[setBlock]
variable[DecidableEq κ]
theorem VE{w:World}{t e:TypeId}{g b:Nat}{f:κ->Value}{x:κ}{z:Value}(ht:P.underlying t=aj (.map k e))(hz:∀u:World,(zeroValue e).run P u= .ok z u)(h:(qt K g z f b).holds w)(hx:K.ok x)(hc:b<=1152921504606846976):
 ∃st w1,(PW t (.map (aj g)) (K.kv x)).run P w= .ok (.tuple #[f x,goInt (st:Nat)]) w1/\w.grownBy w1 (aj g)/\(ZS K g x st z f (b+1)).holds w1:=by
 have H3:=HC K (f:=f) ht hz h hx;obtain⟨l,ET⟩:=K.key x hx;obtain⟨m,n,h1,⟨D,⟨es,clock,hb,F,hs,hD⟩,hi⟩,h3⟩:=id h;rcases K.law.find w ET es.toList F.keys with⟨k1,k2⟩|⟨j,e0,k1,k2,k3⟩
 ·have hfx:f x=z:=by
   have:(Jv t (.map (aj g)) (K.kv x) aF).run P w= .ok z w:=by
    simp[Jv,run_underlying ht,Bc hb,K.law.check w _ ET,k1,hz,ns]
   simp_all
  obtain⟨w',r1,r2,r3⟩:=LY K (f':=f) (v:=z) ht h hx hc (λy _=>by simp_all);have r1':(AV t (.map (aj g)) (K.kv x) z).run P w= .ok () (setBlock w g (.map (es.push ⟨K.kv x,z,clock⟩) (clock+1))):=by
   simp[AV,run_underlying ht,Bc hb,K.law.check w aF ET,k1,Jy _ hb,ns,setBlock]
  have ew:w'=setBlock w g (.map (es.push ⟨K.kv x,z,clock⟩) (clock+1)):=by
   simp_all
  refine⟨clock,w',?_,r3,r2,es.push ⟨K.kv x,z,clock⟩,clock+1,⟨K.kv x,z,clock⟩,?_,by simp,rfl,rfl⟩
  ·rw[ew,hfx]
   simp[PW,run_underlying ht,Bc hb,K.law.check w aF ET,k1,hz,Jy _ hb,ns,setBlock]
  grind[heap_setBlock_same]
 ·have hj:es[j]?=aj e0:=by simp_all
  have hfx:f x=e0.val:=by
   have:(Jv t (.map (aj g)) (K.kv x) aF).run P w= .ok e0.val w:=by
    simp[Jv,run_underlying ht,Bc hb,K.law.check w _ ET,k1,ns]
   simp_all
  have uZ:es.modify j (λe=>{e with key:=K.kv x})=es:=by
   apply Array.ext';rw[Array.toList_modify];exact Ci _ _ _ _ k2 (by rw[<-k3])
  refine⟨e0.born,w,?_,⟨rfl,rfl,rfl,bC _,λ_ _ _=>rfl⟩,U9 J (λ_ _=>rfl) w h,es,clock,e0,hb,mL k2,k3,rfl⟩;rw[hfx];have:=ES hb;simp[PW,run_underlying ht,Bc hb,K.law.check w aF ET,k1,hj,k3,K.law.stays w ET,uZ,Jy _ hb,ns];exact this
theorem VF{w:World}{t e:TypeId}{g b st:Nat}{f f':κ->Value}{x:κ}{z v:Value}(ht:P.underlying t=aj (.map k e))(h:(ZS K g x st z f b).holds w)(hx:K.ok x)(hc:b<=1152921504606846976)(hf:∀y,K.ok y->f' y=if y=x then v else f y):
 ∃w',(PV t (.map (aj g)) (goInt (st:Nat)) v).run P w= .ok () w'/\(qt K g z f' (b+1)).holds w'/\w.grownBy w' (aj g):=by
 obtain⟨h,es',ajT,e1,SD,ja,hk1,zu⟩:=h;obtain⟨w',r1,r2,r3⟩:=LY K (f':=f') (v:=v) ht h hx hc hf;refine⟨w',?_,r2,r3⟩;rw[<-r1];obtain⟨l,ET⟩:=K.key x hx;obtain⟨m,n,h1,⟨D,⟨es,clock,hb,F,hs,hD⟩,hi⟩,h3⟩:=h;rw[hb]at SD;simp only[dL,Obj.map.injEq]at SD;obtain⟨rfl,rfl⟩:=SD;obtain⟨s1,s2,s3⟩:=F.stamped;rcases K.law.find w ET es.toList F.keys with⟨k1,k2⟩|⟨j,e0,k1,k2,k3⟩
 simp_all
 ·have hj:es[j]?=aj e0:=by simp_all
  obtain⟨i,qB⟩:=List.getElem?_of_mem ja;have tL:i=j:=by
   have Xc:=(dX.1 qB);have hj2:=(dX.1 k2);obtain⟨li,ei⟩:=Xc;obtain⟨lj,ej⟩:=hj2;refine(List.getElem_inj (h₀:=by grind) (h₁:=by grind) s3).1 ?_;simp only[q9,ei,ej,hk1,k3]
  subst tL;have e01:e1=e0:=by simp_all
  subst e01;subst zu;have agj:es.findIdx? (λe=>((e.born:Nat):Int)==((e1.born:Nat):Int))=aj i:=by
   rw[findIdx_arr];exact findIdx_born s2 k2
  have UJ:es.modify i (λe=>{e with val:=v})=es.modify i (λe'=>{e' with key:=K.kv x,val:=v}):=by
   grind
  simp[PV,AV,run_underlying ht,Bc hb,asInt,asIntOf,goInt,agj,UJ,K.law.check w aF ET,k1,hj,k3,K.law.stays w ET,Jy _ hb,ns]
section
variable{W:bP}{fr:Fr}{L:List b9}{Q:Exit->Act->World->Prop}{ops:Array Oper}{rest:List Oper}{n d:Nat}{dst:Option Tmp}{ty:TypeId}{pos:String}{after:Array Edge}{guard:Option (Nat×Bool)}{i g b:Nat}{t e:TypeId}{f:κ->Value}{x:κ}{z:Value}{xm xk xv xs:Operand}
theorem MJ(ht:P.underlying t=aj (.map k e))(hz:∀u:World,(zeroValue e).run P u= .ok z u)(hi:L[i]?=aj (qt K g z f b))(hm:ev fr xm=aj (.map (aj g)))(hk:ev fr xk=aj (K.kv x))(hx:K.ok x)(hc:b<=1152921504606846976)(hn:dq d n=aD)
 (h:∀st:Nat,TL P n W ops Q rest ((d,.tuple #[f x,az aB (st:Int)])::fr) (L.set i (ZS K g x st z f (b+1)))):
 TL P n W ops Q (⟨aj d,.mapEntry t xm xk,ty,pos,after,ak⟩::rest) fr L:=k8 I λa w hr hw KK hK=>by
 obtain⟨st,w1,h1,h2,h3⟩:=VE K ht hz (hw.get hi) hx hc;have e1:(execOp a.eval ⟨aj d,.mapEntry t xm xk,ty,pos,after,ak⟩).run P w= .ok (.value (.tuple #[f x,az aB (st:Int)])) w1:=by
  simp[execOp,hr.ev hm,hr.ev hk,h1,goInt,ns]
 unfold gi;rw[e1];exact hK _ _ ((h st).go _ _ (hr.put hn _) (hw.CN hi h2 h3 λq hq=> .inl hq))
theorem H4{st:Nat}{v:Value}(f':κ->Value)(ht:P.underlying t=aj (.map k e))(hi:L[i]?=aj (ZS K g x st z f b))(hm:ev fr xm=aj (.map (aj g)))(hs:ev fr xs=aj (az aB (st:Int)))(hv:ev fr xv=aj v)(hx:K.ok x)(hc:b<=1152921504606846976)(hf:∀y,K.ok y->f' y=if y=x then v else f y)
 (h:TL P n W ops Q rest fr (L.set i (qt K g z f' (b+1)))):
 TL P n W ops Q (⟨ak,.entryStore t xm xs xv,ty,pos,after,ak⟩::rest) fr L:=k8 I λa w hr hw KK hK=>by
 obtain⟨w1,h1,h2,h3⟩:=VF K ht (hw.get hi) hx hc hf;have e1:(execOp a.eval ⟨ak,.entryStore t xm xs xv,ty,pos,after,ak⟩).run P w= .ok .skip w1:=by
  have h1':(PV t (.map (aj g)) (iV st) v).run P w= .ok () w1:=h1;simp[execOp,hr.ev hm,hr.ev hs,hr.ev hv,h1',ns]
 unfold gi;rw[e1];exact hK _ _ (h.go _ _ (hr.uH undef) (hw.CN hi h3 h2 λq hq=> .inl hq))
omit [DecidableEq κ]in
theorem ZT{st:Nat}{v:Value}(ht:P.underlying t=aj (.map k e))(hz:∀w,(zeroValue e).run P w= .ok z w)(hi:L[i]?=aj (ZS K g x st z f b))(hm:ev fr xm=aj (.map (aj g)))(hk:ev fr xk=aj (K.kv x))(hx:K.ok x)(hv:f x=v):RR P n W ⟨dst,.lookup t xm xk aF,ty,pos,after,guard⟩ fr L v:=
 LX K ht hz (λ_ hw=>(hw.get hi).1) hm hk hx hv
end
end
end bZ
namespace bZ
open Go.RowKit cL dQ aV dO dR bI
abbrev RK:=Int×Int
def rkV(x:RK):Value:=aQ #[az aB x.1,az aB x.2]
set_option maxRecDepth 100000 in
theorem agk(p:RK)(h:cL.dV p.1/\cL.dV p.2):∃l,keyOf aE 295 (rkV p)=aj l:=by
 have e1:aE.cellsOf 295=2:=by kernel_rfl
 have e3:aE.cellsOf 3=1:=by kernel_rfl
 refine Ju (cs:=[az aB p.1,az aB p.2]) (m:=2) (by kernel_rfl) (by kernel_rfl) (by rw[e1];rfl) (Db 2 (by kernel_rfl)) λd=>?_;refine Bb (d:=d+1) Tryz.underlying295 (by rw[e1];rfl) (by kernel_rfl) λf hf=>?_;simp only[dM,fz,or_false]at hf;rcases hf with rfl|rfl
 ·rw[e3]
  exact uX Tryz.underlying3 h.1.1 h.1.2
 rw[e3];exact uX Tryz.underlying3 h.2.1 h.2.2
theorem ah7:(295:TypeId)<aE.types.size:=of_decide_eq_true (by kernel_rfl)
set_option maxRecDepth 100000 in
def jo:zr aE 295 RK where
 kv:=rkV
 ok p:=cL.dV p.1/\cL.dV p.2
 law:=deep_law_laid Da (m:=2) J ah7 (by kernel_rfl) (by kernel_rfl)
 key x h:=agk x h
 inj x y h:=by
  simp only[rkV,lT,q7,jA,Ei,true_and,and_true]at h;exact nw h.1 h.2
set_option maxRecDepth 100000 in
theorem agl(p:bI.Item)(h:cL.dV p.1/\cL.dV p.2.1/\cL.dV p.2.2):∃l,keyOf aE 231 (aQ (jj p).toArray)=aj l:=by
 have e1:aE.cellsOf 231=3:=by kernel_rfl
 have e3:aE.cellsOf 3=1:=by kernel_rfl
 refine Ju (cs:=jj p) (m:=2) (by kernel_rfl) (by kernel_rfl) (by rw[e1];rfl) (Db 2 (by kernel_rfl)) λd=>?_;refine Bb (d:=d+1) Tryz.underlying231 (by rw[e1];rfl) (by kernel_rfl) λf hf=>?_;simp only[dM,fz,or_false]at hf;rcases hf with rfl|rfl|rfl
 ·rw[e3]
  exact uX Tryz.underlying3 h.1.1 h.1.2
 ·rw[e3]
  exact uX Tryz.underlying3 h.2.1.1 h.2.1.2
 rw[e3];exact uX Tryz.underlying3 h.2.2.1 h.2.2.2
theorem ah8:(231:TypeId)<aE.types.size:=of_decide_eq_true (by kernel_rfl)
set_option maxRecDepth 100000 in
def JQ:zr aE 231 bI.Item where
 kv x:=aQ (jj x).toArray
 ok p:=cL.dV p.1/\cL.dV p.2.1/\cL.dV p.2.2
 law:=deep_law_laid Da (m:=2) J ah8 (by kernel_rfl) (by kernel_rfl)
 key x h:=agl x h
 inj x y h:=by
  simp only[jj,lT,q7,jA,Ei,true_and,and_true]at h;exact nw h.1 (nw h.2.1 h.2.2)
theorem Tk{a b:Nat}(ha:a<=9223372036854775807)(hb:b<=9223372036854775807):jo.ok ((a:Int),(b:Int)):=by
 show cL.dV (a:Int)/\cL.dV (b:Int)
 exact⟨⟨by omega,by omega⟩,⟨by omega,by omega⟩⟩
theorem MK(w:World):(zeroValue 82).run aE w= .ok (.int .u64 0) w:=by kernel_rfl
theorem nZ(w:World):(zeroValue 3).run aE w= .ok (az aB 0) w:=by kernel_rfl
theorem EU{x:Nat}(hx:x<18446744073709551616)(h:x.testBit 62=aD):bits .andNot .u64 (x:Int) 4611686018427387904=((x^^^2^62:Nat):Int):=by
 have e0:(4611686018427387904:Int)=((2^62:Nat):Int):=by decide
 rw[e0];show uy.wrap ((xV 64 (x:Int)&&& ~~~ xV 64 ((2^62:Nat):Int)).toNat:Int)=_
 have hlt:x^^^2^62<2^64:=P3 hx aln;have e:xV 64 (x:Int)&&& ~~~ xV 64 ((2^62:Nat):Int)=BitVec.ofNat 64 (x^^^2^62):=by
  rw[Y4,Y4]
  ext i hi
  simp only[BitVec.getElem_and,BitVec.getElem_not];rw[<-PT,<-PT,<-PT,PU,PU,PU];simp only[hi,decide_true,Bool.true_and,Nat.testBit_xor,Nat.testBit_two_pow]
  by_cases e:62=i
  subst e;rw[h];decide;rw[decide_eq_false e];simp
 rw[e,BitVec.toNat_ofNat,Nat.mod_eq_of_lt hlt,ux];omega
theorem ZU{P:Program}(x j b:Nat)(k k':IntKind)(hb:k.bits=b)(hj:j<=b)(w:World):(iN .shr k (x:Int) k' (j:Int)).run P w= .ok (.int k ((x/2^j:Nat):Int)) w:=by
 have e:min j b=j:=by omega
 have h0:¬((j:Int)<0):=by omega
 have e2:(x:Int).fdiv (2^j)=((x/2^j:Nat):Int):=by
  rw[Int.fdiv_eq_ediv_of_nonneg _ (by have:(0:Int)<2^j:=Int.pow_pos aln;omega)];simp
 simp only[iN,if_neg h0,hb,dD,e,e2,ph]
theorem agm{y:Nat}(hy:y<18446744073709551616):bits .and .u64 (y:Int) 1=((y %2:Nat):Int):=by
 have h:=bits_nat .u64 64 aln (λn h0 h1=>by rw[ux];omega) y 1 (by simpa using hy) aln;rw[Nat.and_one_is_mod]at h;exact h.1
theorem z_(x k:Nat):x.testBit k=decide (x/2^k %2=1):=Nat.testBit_eq_decide_div_mod_eq ..
def kS(g:ep)(p d:Int):Nat:=CU g ((fQ g.aH p).drop (d.toNat+1)) 4611686018427387904
theorem Tl{g:ep}{body:List dw}{behind:Nat}(hb:behind<18446744073709551616):CU g body behind<18446744073709551616:=by
 unfold CU
 by_cases c:vJ g body=0
 ·rw[if_pos c]
  have hg:cC g=0:=by
   unfold vJ at c
   by_cases c2:cC g=0
   exact c2;rw[if_pos c2]at c;exact c
  have h60:¬60<body.length:=λh=>by
   unfold vJ at c;rw[if_neg (by simpa using hg),if_pos h]at c;cases c
  have nW:GO g.aT g.bx body=0:=by
   unfold vJ at c;rw[if_neg (by simpa using hg),if_neg h60]at c;exact c
  have hn:=(cU hg).2.2.1;have ht:=(cU hg).2.1;refine pf (JM hg (n:=g.bx.toNat) J).2 hb λx hx h1=>?_;rcases vO (JK nW x hx)with h|h
  omega;omega
 rw[if_neg c];decide
def Cj(t n:Int)(vp:Value)(gm:Nat):List Value:=[az aB t,az aB n,vp,.map (aj gm)]
def kh(lk:Int->Int->Nat)(f:RK->Option Value):Prop:=∀x v,f x=aj v->v=ie (lk x.1 x.2)
theorem Qy(a b:Int)(w:World):(dg 295 #[(0,az aB a),(1,az aB b)]).run aE w= .ok (aQ #[az aB a,az aB b]) w:=by go_simp
theorem kh.put{lk:Int->Int->Nat}{f:RK->Option Value}(h:kh lk f)(x:RK):kh lk (λy=>if y=x then aj (ie (lk x.1 x.2))else f y):=by
 intro y v hv;dsimp only at hv
 by_cases c:y=x
 ·rw[if_pos c]at hv
  cases hv;rw[c]
 rw[if_neg c]at hv;exact h y v hv
theorem EV(a:dw):(eu a).length=2:=rfl
theorem JR{t n:Int}{vp v:Value}{gm j:Nat}(h:[az aB t,az aB n,vp][j]?=aj v):(Cj t n vp gm).toArray[0+j]?=aj v:=by
 rw[cX]
 match j,h with
 |0,h=>exact h
 |1,h=>exact h
 |2,h=>exact h
theorem Aa{l:List aV.Prod}{w0:World}{W:bP}{L:List b9}{vb:Nat->Value}{k i:Nat}{x:Option Nat}(ho:mI w0 W)(hv:VD (λq=>q<w0.heap.size) w0 vb l)(hk:k<=l.length)(hx:x.isSome=decide (k=l.length))(hi:L[i]?=aj (Bv x)):∃b c,adf vb k x=av b (fQ l (k:Int)).length c/\(fQ l (k:Int)).length<=c/\SlL W L (adf vb k x) (fQ l (k:Int)).length ((fQ l (k:Int)).flatMap eu):=by
 cases x with
 |some g=>
  have hk:k=l.length:=by simpa using hx
  subst hk;have e:fQ l (l.length:Int)=[(2,0)]:=by unfold fQ;rw[if_pos I]
  rw[e];exact⟨_,_,rfl,bC _,kI hi (λj u h=>by simpa[eu]using h) (bC _) aln⟩
 | none=>
  have o8:k<l.length:=by
   have:¬k=l.length:=by simpa using hx
   omega
  have e:fQ l (k:Int)=(df l (k:Int)).2:=by unfold fQ;rw[if_neg J]
  rw[e];have h:=hv k o8;have hs:=h.flat (f:=eu) aln;obtain⟨b,c,e2,e3,_⟩:=id h;exact⟨b,c,e2,e3,λw hm=>hs.gr (ho.mem hm)⟩
attribute [local irreducible] Op.shift Go.bits in
theorem ML(g:ep)(hg:cC g=0)(bp:Option Addr)(cp:Nat)(vb:Nat->Value)(w0:World)(hG:kK (λq=>q<w0.heap.size) w0 (dP g.aT g.bx (av bp g.aH.length cp)) g)(AN:VD (λq=>q<w0.heap.size) w0 vb g.aH)(oM:0<g.aH.length->∃b off,bp=aj ⟨b,off,ak⟩/\∀i,i<g.aH.length->Rd w0 b (off+i*2) [az aB (df g.aH (i:Int)).1,vb i])
 (go gm c:Nat) (f:RK->Option Value) (it:bI.Item) (T:Nat) (hT:T<=30) (hr:eK g.aH T it) (hd:it.2.1.toNat<(fQ g.aH it.1).length) (hc:kh (kS g) f) (hcc:c<=1000000000000000) (w:World) (B:bP) (ho:mI w0 B)
 (hm:Mem B [aR go (Cj g.aT g.bx (av bp g.aH.length cp) gm).toArray 268,fv jo gm f c] w):
 Calls aE 118 #[aK (aj ⟨go,0,ak⟩),aQ (jj it).toArray] w (cZ ⟨λ(x:(RK->Option Value)×Nat)=>kh (kS g) x.1/\x.2<=c+1,λ_=>ie (vV (kS g) it),λx=>[aR go (Cj g.aT g.bx (av bp g.aH.length cp) gm).toArray 268,fv jo gm x.1 x.2]⟩ B):=by
 obtain⟨p,d,lo⟩:=it;obtain⟨r1,r2,r3,r4,r5,r6⟩:=hr;dsimp only at r1 r2 r3 r4 r5 r6 hd;obtain⟨k,rfl⟩:=gU r1;obtain⟨dn,rfl⟩:=gU r3;obtain⟨ln,rfl⟩:=gU r5;rw[dD]at hd;have hk:k<=g.aH.length:=by omega
 have H5:=λw' (qu:Mem B [] w')=>s7 g.aT g.bx bp cp g.aH vb w0 w' B k hk ho qu (λi hi=>let ⟨b,c,h,_⟩:=AN i hi;⟨b,_,c,h⟩) oM;have A7:=λvs body w' (qu:Gr w0 w') hs=>rR _ vs g body 4611686018427387904 w' (hG.gr qu) hs aln;have hbr:=Qy (k:Int) (dn:Int);have hlt:kS g (k:Int) (dn:Int)<18446744073709551616:=Tl aln;have hb8:=mS (l:=g.aH) (p:=(k:Int)) (λq hq=>((cU hg).2.2.2.2.2 q hq).1);refine du hm (args:=[aK (aj ⟨go,0,ak⟩),aQ (jj ((k:Int),(dn:Int),(ln:Int))).toArray]) (n:=61) Tryz.func118 I I I ?_;refine cB (bD (bL I I I λg3=>?_));refine zL ?_
 repeat(first|refine GA ?_|refine gV (aC (v:=az aB (k:Int)) aL.ty I (aI (i:=2) I I)) ?_|refine gV (aC (v:=az aB (dn:Int)) aL.ty I (aI (i:=2) I I)) ?_|refine gV (bB I hbr) ?_)
 refine a8 I λg5=>?_;refine zL ?_;refine gG 3 (cs':=#[az aB (k:Int),az aB (dn:Int)]) ?_;refine zL ?_;have YR:jo.ok ((k:Int),(dn:Int)):=Tk (by have:=(cU hg).2.2.2.2.1;omega) J;have YR:jo.ok ((k:Int),(dn:Int)):=Tk (by have:=(cU hg).2.2.2.2.1;omega) J;have YR:jo.ok ((k:Int),(dn:Int)):=Tk (by have:=(cU hg).2.2.2.2.1;omega) J;have YR:jo.ok ((k:Int),(dn:Int)):=Tk (by have:=(cU hg).2.2.2.2.1;omega) J;have JE:=hc.put ((k:Int),(dn:Int));have Lt:kS g (k:Int) (dn:Int)=CU g ((fQ g.aH (k:Int)).drop (dn+1)) 4611686018427387904:=by unfold kS;rw[dD]
 have o9:=hc ((k:Int),(dn:Int));dsimp only at JE o9;unfold vV;dsimp only;rw[dD];generalize hB0:kS g (k:Int) (dn:Int)=B0 at*
 try refine GA ?_
 cases hf:f ((k:Int),(dn:Int))with
 | some v=>
  have hv:=o9 v hf;subst hv;clear H5 A7 JE o9;refine dH ([aR go (Cj g.aT g.bx (av bp g.aH.length cp) gm).toArray 268,fv jo gm f c,aR g3 (aQ (jj ((k:Int),(dn:Int),(ln:Int))).toArray).cells 231,aR g5 #[az aB (k:Int),az aB (dn:Int)] 295]) (.calm 0 (.calm 1 (.calm 2 (.calm 3 (.calm 4 (.calm 5 (.calm 6 (.calm 7 (.calm 8 (.calm 9 (.calm 10 (.done)))))))))))) (λ_ h=>h) ?_
  repeat(first|refine GW ?_|(refine GN ?_;first|refine QW (aC (v:= .map (aj gm)) aL.ty I (aI (i:=0) I I)) ?_|refine QW (aP (i:=3) aL.ty I I I) ?_|refine QW (o_ (x:=((k:Int),(dn:Int))) jo bQ.eq MK (i:=1) I I I YR) ?_))
  rw[hf];dsimp only[Zg,P5]
  try refine GA ?_
  have hdv:B0/2^62<=B0:=Ek _ _;have ha1:=agm (y:=B0/2^62) J;have zu:∀w,(iN .shr .u64 (B0:Int) .u64 62).run aE w= .ok (.int .u64 ((B0/2^62:Nat):Int)) w:=λw=>ZU B0 62 64 .u64 .u64 I aln w;have rQ:∀w,(iN .shl .u64 1 .i64 (ln:Int)).run aE w= .ok (.int .u64 ((2^ln:Nat):Int)) w:=λw=>ac_ ln J w
  by_cases cb:B0.testBit 62=aD
  ·rw[if_pos cb]
   have hn:=EU hlt cb;have fK:B0^^^2^62<18446744073709551616:=P3 (n:=64) hlt aln;have Lr:=rM fK (zV (m:=ln) J);have GP:B0/2^62 %2=1:=by rw[z_]at cb;exact of_decide_eq_true cb
   generalize B0/2^62=D1 at*;generalize B0^^^2^62=D2 at*;generalize 2^ln=D3 at*
   repeat(first|refine GC ?_|refine gV (px I I zu) ?_|refine gV (nB I I ha1) ?_|refine gV (cY (b:=aF) I I (decide_eq_false J)) ?_|refine gV (Tf I I hn) ?_|refine gV (aC (v:=az aB (ln:Int)) aL.ty I (aI (i:=2) I I)) ?_|refine gV (DX I I rQ) ?_|refine gV (zi I I Lr) ?_|refine GB ?_)
   exact cJ I I λw hm=>hm.b_ (S:=⟨λ(x:(RK->Option Value)×Nat)=>kh (kS g) x.1/\x.2<=c+1,λ_=>ie (D2|||D3),λx=>[aR go (Cj g.aT g.bx (av bp g.aH.length cp) gm).toArray 268,fv jo gm x.1 x.2]⟩) (f,c) ⟨hc,by omega⟩ [0,1] aln I
  rw[if_neg cb];have A5:B0/2^62 %2=0:=by
   rw[z_,decide_eq_true_eq]at cb;omega
  generalize B0/2^62=D1 at*
  repeat(first|refine GC ?_|refine gV (px I I zu) ?_|refine gV (nB I I ha1) ?_|refine gV (cY (b:=aD) I I (decide_eq_true J)) ?_|refine GB ?_)
  exact cJ I I λw hm=>hm.b_ (S:=⟨λ(x:(RK->Option Value)×Nat)=>kh (kS g) x.1/\x.2<=c+1,λ_=>ie B0,λx=>[aR go (Cj g.aT g.bx (av bp g.aH.length cp) gm).toArray 268,fv jo gm x.1 x.2]⟩) (f,c) ⟨hc,by omega⟩ [0,1] aln I
 | none=>
  clear o9;refine dH ([aR go (Cj g.aT g.bx (av bp g.aH.length cp) gm).toArray 268,fv jo gm f c,aR g3 (aQ (jj ((k:Int),(dn:Int),(ln:Int))).toArray).cells 231,aR g5 #[az aB (k:Int),az aB (dn:Int)] 295]) (.calm 0 (.calm 1 (.calm 2 (.calm 3 (.calm 4 (.calm 5 (.calm 6 (.calm 7 (.calm 8 (.calm 9 (.calm 10 (.done)))))))))))) (λ_ h=>h) ?_
  repeat(first|refine GW ?_|(refine GN ?_;first|refine QW (aC (v:= .map (aj gm)) aL.ty I (aI (i:=0) I I)) ?_|refine QW (aP (i:=3) aL.ty I I I) ?_|refine QW (o_ (x:=((k:Int),(dn:Int))) jo bQ.eq MK (i:=1) I I I YR) ?_))
  rw[hf];dsimp only[Zg,P5]
  try refine GA ?_
  refine dH ([aR go (Cj g.aT g.bx (av bp g.aH.length cp) gm).toArray 268,aR g3 (aQ (jj ((k:Int),(dn:Int),(ln:Int))).toArray).cells 231]) (.calm 0 (.calm 1 (.calm 2 (.calm 3 (.calm 4 (.calm 5 (.calm 6 (.calm 7 (.calm 8 (.calm 9 (.calm 11 (.calm 12 (.calm 13 (.one 10 (.calm 14 (.one 15 (.calm 16 (.calm 17 (.calm 18 (.calm 19 (.done))))))))))))))))))))) (bV [0,2]) ?_
  repeat(first|(refine GN ?_;first|refine QW QP ?_|refine QW (aY aL.ty I (cs:=[az aB g.aT,az aB g.bx,av bp g.aH.length cp]) I (λj v h=>aI (i:=0) I (JR h))) ?_|refine QW (aC (v:=az aB (k:Int)) aL.ty I (aI (i:=1) I I)) ?_|refine QW (aC (v:=az aB (dn:Int)) aL.ty I (aI (i:=1) I I)) ?_|refine QW (fl (r:=((dn+1:Nat):Int)) I I J J J) ?_|refine GX ?_)|refine GW ?_)
  refine aM I ?_;refine aU (fC aJ.en I I I) (λw hm=>H5 _ (hm.pick [] aln I)) I I I ?_;rintro x hx
  conv=>arg 8;simp only[zJ,cD,ret,id_eq,z8]
  conv=>arg 7;simp only[z8]
  obtain⟨bb,cc,hv,hlc,rQ⟩:=Aa (W:=B) (i:=4) (L:=[aR go (Cj g.aT g.bx (av bp g.aH.length cp) gm).toArray 268,fv jo gm f c,aR g3 (aQ (jj ((k:Int),(dn:Int),(ln:Int))).toArray).cells 231,aR g5 #[az aB (k:Int),az aB (dn:Int)] 295,Bv x]) ho AN hk hx rfl;rw[hv]at rQ⊢;have oB:((fQ g.aH (k:Int)).drop (dn+1)).take ((fQ g.aH (k:Int)).length-(dn+1))=(fQ g.aH (k:Int)).drop (dn+1):=gT (by rw[List.length_drop];exact bC _);have kY:=λw hm=>A9 (i:=dn+1) (j:=(fQ g.aH (k:Int)).length) EV (rQ w hm) J (bC _);rw[oB]at kY;generalize PO:(fQ g.aH (k:Int)).length=m at*;refine aO (bV [0,2]) ?_
  repeat(first|(refine GN ?_;first|refine QW QP ?_|refine QW (rI (i:=dn+1) bQ.eq aL.ty I I J hlc) ?_|refine GX ?_)|refine GW ?_)
  refine aM I ?_;refine aU (qq aJ.en I I I I) (λw hm=>A7 _ _ _ (ho.mem hm) (kY w hm)) I I I ?_;intro _ _;refine zL ?_;rw[<-Lt];refine aO (bV [0,2]) ?_
  try refine GW ?_
  try refine GA ?_
  refine dH ([aR go (Cj g.aT g.bx (av bp g.aH.length cp) gm).toArray 268,aR g5 #[az aB (k:Int),az aB (dn:Int)] 295]) (.calm 0 (.calm 1 (.calm 2 (.calm 3 (.calm 4 (.calm 5 (.one 6 (.done)))))))) (bV [0,3]) ?_
  repeat(first|refine GW ?_|(refine GN ?_;first|refine QW (aC (v:= .map (aj gm)) aL.ty I (aI (i:=0) I I)) ?_|refine QW (aP (i:=1) aL.ty I I I) ?_))
  refine aM I ?_;refine mB (i:=1) (x:=((k:Int),(dn:Int))) (v:=ie B0) jo bQ.eq I I I I YR J ?_;refine zL ?_;rw[hf];dsimp only[P5];refine aO (bV [0,3]) ?_
  try refine GW ?_
  try refine GA ?_
  have hdv:B0/2^62<=B0:=Ek _ _;have ha1:=agm (y:=B0/2^62) J;have zu:∀w,(iN .shr .u64 (B0:Int) .u64 62).run aE w= .ok (.int .u64 ((B0/2^62:Nat):Int)) w:=λw=>ZU B0 62 64 .u64 .u64 I aln w;have rQ:∀w,(iN .shl .u64 1 .i64 (ln:Int)).run aE w= .ok (.int .u64 ((2^ln:Nat):Int)) w:=λw=>ac_ ln J w
  by_cases cb:B0.testBit 62=aD
  ·rw[if_pos cb]
   have hn:=EU hlt cb;have fK:B0^^^2^62<18446744073709551616:=P3 (n:=64) hlt aln;have Lr:=rM fK (zV (m:=ln) J);have GP:B0/2^62 %2=1:=by rw[z_]at cb;exact of_decide_eq_true cb
   generalize B0/2^62=D1 at*;generalize B0^^^2^62=D2 at*;generalize 2^ln=D3 at*
   repeat(first|refine GC ?_|refine gV (px I I zu) ?_|refine gV (nB I I ha1) ?_|refine gV (cY (b:=aF) I I (decide_eq_false J)) ?_|refine gV (Tf I I hn) ?_|refine gV (aC (v:=az aB (ln:Int)) aL.ty I (aI (i:=2) I I)) ?_|refine gV (DX I I rQ) ?_|refine gV (zi I I Lr) ?_|refine GB ?_)
   exact cJ I I λw hm=>hm.b_ (S:=⟨λ(x:(RK->Option Value)×Nat)=>kh (kS g) x.1/\x.2<=c+1,λ_=>ie (D2|||D3),λx=>[aR go (Cj g.aT g.bx (av bp g.aH.length cp) gm).toArray 268,fv jo gm x.1 x.2]⟩) (_,c+1) ⟨JE,bC _⟩ [0,1] aln I
  rw[if_neg cb];have A5:B0/2^62 %2=0:=by
   rw[z_,decide_eq_true_eq]at cb;omega
  generalize B0/2^62=D1 at*
  repeat(first|refine GC ?_|refine gV (px I I zu) ?_|refine gV (nB I I ha1) ?_|refine gV (cY (b:=aD) I I (decide_eq_true J)) ?_|refine GB ?_)
  exact cJ I I λw hm=>hm.b_ (S:=⟨λ(x:(RK->Option Value)×Nat)=>kh (kS g) x.1/\x.2<=c+1,λ_=>ie B0,λx=>[aR go (Cj g.aT g.bx (av bp g.aH.length cp) gm).toArray 268,fv jo gm x.1 x.2]⟩) (_,c+1) ⟨JE,bC _⟩ [0,1] aln I
end bZ
namespace bZ
open Go.RowKit cL dQ bI Go.Lib Go.Sort
theorem adg(x:Int)(w:World):Calls aE 166 #[az aB x] w λe w'=>e= .returned (.bool aF)/\w'=w:=by
 go_enter Tryz.func166,Tryz.ntmps166
 go_wp2
 go_ret
 exact⟨by simp,rfl⟩
theorem VG(x y:Int)(w:World):Calls aE 138 #[az aB x,az aB y] w λe w'=>e= .returned (az aB (vP x y))/\w'=w:=by
 go_enter Tryz.func138,Tryz.ntmps138
 go_wp2_with (go_at_call 166;refine(adg _ _).mono ?_;rintro e w' ⟨rfl,hw⟩;rw[hw])
 all_goals (go_ret;refine⟨?_,rfl⟩;unfold vP;(repeat' split)<;>first|rfl|(exfalso;omega))
def orI(a b c:Int):Int:=if a≠0 then a else if b≠0 then b else c
theorem ah9{a b c:Int}(h:¬a=0):orI a b c=a:=if_pos h
theorem ah_{b c:Int}(h:¬b=0):orI 0 b c=b:=by unfold orI;rw[if_neg (by simp),if_pos h]
theorem afc{c:Int}:orI 0 0 c=c:=by unfold orI;rw[if_neg (by simp),if_neg (by simp)]
theorem ajU(g:Nat)(a b c:Int)(w:World)(h0:w.cell? ⟨g,0,ak⟩=aj (az aB a))(h1:w.cell? ⟨g,1,ak⟩=aj (az aB b))(h2:w.cell? ⟨g,2,ak⟩=aj (az aB c)):
 Calls aE 137 #[av (aj ⟨g,0,ak⟩) 3 3] w λe w'=>e= .returned (az aB (orI a b c))/\w'=w:=by
 go_enter Tryz.func137,Tryz.ntmps137
 go_wp2
 by_cases ha:a=0
 ·subst ha
  refine wp_loop_rounds 4 ?_;rw[rounds_succ]
  go_wp2
  by_cases hb:b=0
  ·subst hb
   rw[rounds_succ]
   go_wp2
   by_cases hc:c=0
   ·subst hc
    rw[rounds_succ]
    go_wp2
    rw[rounds_succ]
    go_wp2
    go_ret
    exact⟨by rw[afc];rfl,rfl⟩
   rw[rounds_succ]
   go_wp2
   go_ret
   exact⟨by rw[afc];rfl,rfl⟩
  rw[rounds_succ]
  go_wp2
  go_ret
  exact⟨by rw[ah_ hb];rfl,rfl⟩
 ·refine wp_loop_rounds 1 ?_
  rw[rounds_succ]
  go_wp2
  go_ret
  exact⟨by rw[ah9 ha];rfl,rfl⟩
theorem ah'(o1 o2:Obj)(a b c:Int)(T:TypeId)(w:World):
 Calls aE 137 #[av (aj ⟨w.heap.size+1+1,0,ak⟩) 3 3] (((w.alloc o1).alloc o2).alloc (.cells #[az aB a,az aB b,az aB c] T)).drew λe w'=>e= .returned (az aB (orI a b c))/\w'=(((w.alloc o1).alloc o2).alloc (.cells #[az aB a,az aB b,az aB c] T)).drew:=by
 have hg:(((w.alloc o1).alloc o2).alloc (.cells #[az aB a,az aB b,az aB c] T)).drew.heap[w.heap.size+1+1]?=aj (.cells #[az aB a,az aB b,az aB c] T (0,0)):=by
  have h:=heap_alloc_new ((w.alloc o1).alloc o2) (.cells #[az aB a,az aB b,az aB c] T);have e:((w.alloc o1).alloc o2).heap.size=w.heap.size+1+1:=by
   show((w.heap.push o1).push o2).size=_
   rw[PR,PR]
  rw[e]at h;exact h
 exact ajU _ a b c _ (cell_of_row _ _ 0 _ T (0,0) hg) (cell_of_row _ _ 1 _ T (0,0) hg) (cell_of_row _ _ 2 _ T (0,0) hg)
theorem ZV(a b:Obj)(w:World):((w.alloc a).alloc b).heap[w.heap.size]?=aj a/\((w.alloc a).alloc b).heap[w.heap.size+1]?=aj b:=by
 have e:(w.alloc a).heap.size=w.heap.size+1:=by
  show(w.heap.push a).size=_
  rw[PR]
 constructor
 ·rw[heap_alloc_old (w.alloc a) b J]
  exact heap_alloc_new w a
 have h:=heap_alloc_new (w.alloc a) b;rw[e]at h;exact h
theorem Qz(a b c:Obj)(w:World):(((w.alloc a).alloc b).alloc c).drew=grow (w.drewN 1) #[a,b,c]:=by
 rw[alloc_eq_grow,alloc_eq_grow,alloc_eq_grow,grow_grow,grow_grow];rfl
theorem adh(x y:bI.Item)(w:World):Calls aE 120 #[aQ (jj x).toArray,aQ (jj y).toArray] w λe w'=>e= .returned (az aB (MB x y))/\∃q os',w'=grow (w.drewN q) os':=by
 obtain⟨x1,x2,x3⟩:=x;obtain⟨y1,y2,y3⟩:=y;have ho:MB (x1,x2,x3) (y1,y2,y3)=orI (vP x1 y1) (vP x2 y2) (vP x3 y3):=rfl;rw[ho];clear ho;unfold jj;dsimp only;obtain⟨t1,t2⟩:=ZV (.cells #[az aB x1,az aB x2,az aB x3] 231) (.cells #[az aB y1,az aB y2,az aB y3] 231) w;have k1:=cell_of_row _ _ 0 _ _ (0,0) t1;have k2:=cell_of_row _ _ 1 _ _ (0,0) t1;have k3:=cell_of_row _ _ 2 _ _ (0,0) t1;have k4:=cell_of_row _ _ 0 _ _ (0,0) t2;have k5:=cell_of_row _ _ 1 _ _ (0,0) t2;have k6:=cell_of_row _ _ 2 _ _ (0,0) t2;clear t1 t2
 go_enter Tryz.func120,Tryz.ntmps120
 go_wp2
 go_region_held (λw'=>w'.cell? ⟨w.heap.size,0,ak⟩=aj (az aB x1)/\w'.cell? ⟨w.heap.size,1,ak⟩=aj (az aB x2)/\w'.cell? ⟨w.heap.size,2,ak⟩=aj (az aB x3)/\w'.cell? ⟨w.heap.size+1,0,ak⟩=aj (az aB y1)/\w'.cell? ⟨w.heap.size+1,1,ak⟩=aj (az aB y2)/\w'.cell? ⟨w.heap.size+1,2,ak⟩=aj (az aB y3)) (go_keep) (first|(go_at_call 138;refine(VG _ _ _).mono ?_;rintro e w' ⟨rfl,rfl⟩)|(go_at_call 137;have hzz:=(ah' (.cells #[az aB x1,az aB x2,az aB x3] 231) (.cells #[az aB y1,az aB y2,az aB y3] 231) (vP x1 y1) (vP x2 y2) (vP x3 y3) 3 w);refine hzz.mono ?_;clear hzz;rintro e w' ⟨rfl,rfl⟩))
 go_wp2
 go_ret
 refine⟨rfl,1,#[.cells #[az aB x1,az aB x2,az aB x3] 231,.cells #[az aB y1,az aB y2,az aB y3] 231,.cells #[az aB (vP x1 y1),az aB (vP x2 y2),az aB (vP x3 y3)] 3],?_⟩;exact Qz _ _ _ w
end bZ
namespace bZ
open Go.RowKit cL dQ aV dO dR bI
theorem QB(t n:Int)(vp:Value)(gm:Nat)(w:World):(dg 268 #[(0,dP t n vp),(1,.map (aj gm))]).run aE w= .ok (aQ (Cj t n vp gm).toArray) w:=by kernel_rfl
def adi(t n:Int)(vp:Value):Spec (Nat×Nat):=⟨λ_=>True,λx=>aK (aj ⟨x.1,0,ak⟩),λx=>[fv jo x.2 (λ_=>ak) 0,aR x.1 (Cj t n vp x.2).toArray 268]⟩
theorem JS(t n:Int)(vp:Value)(w:World):Calls aE 87 #[dP t n vp] w (bX (adi t n vp) w):=by
 have hb:=QB t n vp;refine enter (args:=[dP t n vp]) (n:=7) Tryz.func87 I I I ?_;refine cB (bD (bL I I I λg1=>?_));refine zL ?_
 repeat(first|refine GA ?_|refine gV (aP (i:=0) aL.ty I I I) ?_)
 refine ym jo I λgm=>?_;refine zL ?_
 repeat(first|refine GA ?_|refine gV (bB I (hb _)) ?_)
 refine bL I I I λgo=>?_;refine zL ?_
 try refine GA ?_
 exact cJ I I λw hm=>hm.meets (S:=adi t n vp) (go,gm) trivial [1,2] aln I
theorem JT{x:Int}(h0:0<=x)(h1:x<256):Jx.wrap x=(((fV x.toNat).toNat:Nat):Int):=by
 obtain⟨n,rfl⟩:=gU h0;rw[dD,Jw];simp
theorem H6(l:List bI.Item):(iJ l).length=3*l.length:=by
 induction l with
 |nil=>rfl
 |cons x r ih=>
  have:iJ (x::r)=[fV x.1.toNat,fV x.2.1.toNat,fV x.2.2.toNat]++iJ r:=rfl;rw[this,bK,ih,dj];show 3+3*r.length=3*(r.length+1)
  omega
theorem QC{l:List bI.Item}{k:Nat}(h:k<l.length):iJ (l.take (k+1))=iJ (l.take k)++[fV l[k].1.toNat,fV l[k].2.1.toNat,fV l[k].2.2.toNat]:=by
 unfold iJ;rw[gv h,ir];rfl
theorem EW(vl:Value)(l:List bI.Item)(w:World)(hl:Sl w vl l.length (l.flatMap jj))(hb:∀it∈l,0<=it.1/\it.1<256/\0<=it.2.1/\it.2.1<256/\0<=it.2.2/\it.2.2<256)(hn:l.length<=20000):
 Calls aE 89 #[vl] w (bX (ret (str (iJ l))) w):=by
 obtain⟨bl,cl,rfl,o9,zo,JU⟩:=hl;unfold maxLen at zo;refine enter (args:=[av bl l.length cl]) (n:=27) Tryz.func89 I I I ?_
 try refine GA ?_
 refine iz 5 1 ?_
 conv=>arg 7;simp only[zA,zB,zC,zD,zE,zF,zG,zH,zI,cD,ret,id_eq]
 refine d_ (ι:=Nat×Value) (λ(k,_)=>k<=l.length) (λ(k,v)=>[(3,v),(6,av bl l.length cl),(7,az aB l.length),(8,az aB (k:Int))])
  (λ(k,v)=>[a_ 5 1 v (iJ (l.take k)).length ((iJ (l.take k)).map X9)]) (λ(k,_)=>l.length-k) (0,av ak 0 0) (bH _) ?_
 rintro⟨k,v⟩ i1;dsimp only at i1⊢
 by_cases c1:k<l.length
 ·obtain⟨b,off,rfl,eR⟩:=JU J
  have dy:=λL=>gd (L:=L) l8 eR c1;have EX:∀(L:List b9) (j:Nat) (u:Value),(jj l[k])[j]?=aj u->At (w:bP) L ⟨b,off+k*3+j,ak⟩ u:=dy;clear dy JU eR;obtain⟨b1,b2,b3,b4,b5,b6⟩:=hb l[k] (cH c1);have tZ:=QC c1;have xI:(iJ (l.take k)).length<=60000:=by rw[H6,jz];omega
  generalize l[k]=x at*;obtain⟨p,d,lo⟩:=x;dsimp only at b1 b2 b3 b4 b5 b6 tZ;have e1:=JT b1 b2;have e2:=JT b3 b4;have e3:=JT b5 b6;generalize fV p.toNat=y1 at*;generalize fV d.toNat=y2 at*;generalize fV lo.toNat=y3 at*;generalize hN:iJ (l.take k)=N at*
  repeat(first|refine GA ?_|refine gV (aZ bQ.eq aL.ty I I c1) ?_|refine gV (aY (cs:=jj (p,d,lo)) aL.ty I I (EX _)) ?_)
  refine a8 I λg5=>?_;refine zL ?_;refine gG 1 (cs':=(jj (p,d,lo)).toArray) ?_;refine zL ?_
  repeat(first|refine GA ?_|refine gV (aC (v:=az aB p) aL.ty I (aI (i:=1) I I)) ?_|refine gV (aC (v:=az aB d) aL.ty I (aI (i:=1) I I)) ?_|refine gV (aC (v:=az aB lo) aL.ty I (aI (i:=1) I I)) ?_|refine gV (jk bQ.eq bQ.eq I e1) ?_|refine gV (jk bQ.eq bQ.eq I e2) ?_|refine gV (jk bQ.eq bQ.eq I e3) ?_)
  refine SJ [X9 y1,X9 y2,X9 y3] I I I (by intro v hv;simp at hv;rcases hv with rfl|rfl|rfl<;>rfl) I I λg22=>?_;refine zL ?_;refine ee (i:=0) (e:=5) (size:=1) (bytes:=1) (m:=N.length) (xs:=N.map X9) (k:=3) (ys:=[X9 y1,X9 y2,X9 y3]) I (kI (i:=2) I (λj u h=>by simpa using h) (bC 3) aln) I I I (by intro u hu;simp at hu;rcases hu with rfl|rfl|rfl<;>rfl) J J I λv'=>?_;refine zL ?_
  try refine GA ?_
  refine dv [0] ?_;exact bW (k+1,v') (by show k+1<=l.length;omega) (by show l.length-(k+1)<l.length-k;omega) (hl:=by dsimp only;rw[tZ,bK,eZ];rfl)
 ·obtain rfl:k=l.length:=by omega
  rw[List.take_length]
  repeat(first|refine GA ?_|refine gV (UX bQ.eq bQ.eq bQ.eq I I (iQ (i:=0) I)) ?_)
  exact eB
theorem GQ(T N:Nat)(hT:T<=1000)(hN:N<=1000)(vp:Value)(w:World):
 Calls aE 91 #[dP (T:Int) (N:Int) vp] w (bX (cD 182 2 (mU T N).length ((mU T N).flatMap eu) id) w):=by
 have GP:=λ(q:Int)=>H0 1 q;have OP:=λ(q:Int)=>H0 2 q;refine enter (args:=[dP (T:Int) (N:Int) vp]) (n:=29) Tryz.func91 I I I ?_;refine cB (bD (bL I I I λg1=>?_));refine zL ?_
 repeat(first|refine GA ?_|refine gV (aC (v:=az aB (T:Int)) aL.ty I (aI (i:=0) I I)) ?_)
 refine iz 182 2 ?_
 conv=>arg 7;simp only[zA,zB,zC,zD,zE,zF,zG,zH,zI,cD,ret,id_eq]
 refine d_ (ι:=Nat×Value) (λ(k,_)=>k<=T) (λ(k,v)=>[(1,aK (aj ⟨g1,0,ak⟩)),(3,v),(7,az aB (T:Int)),(8,az aB (k:Int))])
  (λ(k,v)=>[aR g1 (dP (T:Int) (N:Int) vp).cells 33,a_ 182 2 v ((eA k).map (λn:Nat=>((1:Int),(n:Int)))).length (((eA k).map (λn:Nat=>((1:Int),(n:Int)))).flatMap eu)]) (λ(k,_)=>T-k) (0,av ak 0 0) (bH _) ?_
 rintro⟨k,v⟩ i1;dsimp only at i1⊢
 by_cases c1:k<T
 ·have tZ:(eA (k+1)).map (λn:Nat=>((1:Int),(n:Int)))=(eA k).map (λn:Nat=>((1:Int),(n:Int)))++[((1:Int),(k:Int))]:=by rw[yw,eZ];rfl
  have xI:((eA k).map (λn:Nat=>((1:Int),(n:Int)))).length=k:=by rw[eI,P1]
  generalize hA:(eA k).map (λn:Nat=>((1:Int),(n:Int)))=A at*
  repeat(first|refine GA ?_|refine gV (bB I (GP _)) ?_)
  refine jR (i:=1) I I I I I I I (λz h=>by cases h;rfl) J J I λz v'=>?_;refine zL ?_
  try refine GA ?_
  exact bW (k+1,v') (by show k+1<=T;omega) (by show T-(k+1)<T-k;omega) (hl:=by dsimp only;rw[tZ,bK,ir];rfl)
 obtain rfl:k=T:=by omega
 have xI:((eA k).map (λn:Nat=>((1:Int),(n:Int)))).length=k:=by rw[eI,P1]
 have hS:mU k N=(eA k).map (λn:Nat=>((1:Int),(n:Int)))++(eA N).map (λn:Nat=>((2:Int),(n:Int))):=rfl;generalize mU k N=S at*;generalize hA:(eA k).map (λn:Nat=>((1:Int),(n:Int)))=A at*
 repeat(first|refine GA ?_|refine gV (aC (v:=az aB (N:Int)) aL.ty I (aI (i:=0) I I)) ?_)
 refine mM (ι:=Nat×Value) (λ(j,_)=>j<=N) (λ(j,v)=>[(3,v),(18,az aB (N:Int)),(19,az aB (j:Int))])
  (λ(j,v)=>[aR g1 (dP (k:Int) (N:Int) vp).cells 33,a_ 182 2 v (A++(eA j).map (λn:Nat=>((2:Int),(n:Int)))).length ((A++(eA j).map (λn:Nat=>((2:Int),(n:Int)))).flatMap eu)]) (λ(j,_)=>N-j) (0,v) (bH _) (by repeat' (first|exact cV|refine cP I ?_)) (by simp only[List.range_zero,lL,dY]) ?_
 rintro⟨j,v⟩ j1;dsimp only at j1⊢
 by_cases c2:j<N
 ·have tZ:A++(eA (j+1)).map (λn:Nat=>((2:Int),(n:Int)))=(A++(eA j).map (λn:Nat=>((2:Int),(n:Int))))++[((2:Int),(j:Int))]:=by rw[yw,eZ,eY];rfl
  have akU:(A++(eA j).map (λn:Nat=>((2:Int),(n:Int)))).length<=2000:=by rw[bK,eI,P1];omega
  generalize hD:A++(eA j).map (λn:Nat=>((2:Int),(n:Int)))=D at*
  repeat(first|refine GA ?_|refine gV (bB I (OP _)) ?_)
  refine jR (i:=1) I I I I I I I (λz h=>by cases h;rfl) J J I λz v'=>?_;refine zL ?_
  try refine GA ?_
  exact bW (j+1,v') (by show j+1<=N;omega) (by show N-(j+1)<N-j;omega) (hl:=by dsimp only;rw[tZ,bK,ir];rfl)
 obtain rfl:j=N:=by omega
 rw[<-hS]
 try refine GA ?_
 exact cJ I I λw hm=>hm.meets (S:=cD 182 2 S.length (S.flatMap eu) id) v trivial [1] aln I
end bZ
namespace bZ
open Go.Shelf
def MM:Go.Shelf.Ren:=⟨λ|189=>107|125=>135|257=>134|128=>156|129=>157|294=>147|295=>148|296=>149|297=>150|298=>151|299=>152|216=>153|300=>154|301=>155|328=>169|329=>170|330=>171|331=>172|332=>173|215=>166|343=>177|n=>n,λ|28=>26|3=>3|46=>234|0=>0|51=>315|53=>82|4=>4|183=>309|182=>308|131=>129|5=>5|9=>9|218=>324|222=>252|228=>331|229=>332|n=>n,λ|n=>n⟩
theorem Tm:Go.Proofs.Lays.n189 aE MM:={
 mixed:=by kernel_rfl
 f125:=Tryz.func135.trans (congrArg aj (by kernel_rfl))
 f128:=Tryz.func156.trans (congrArg aj (by kernel_rfl))
 f129:=Tryz.func157.trans (congrArg aj (by kernel_rfl))
 f189:=Tryz.func107.trans (congrArg aj (by kernel_rfl))
 f215:=Tryz.func166.trans (congrArg aj (by kernel_rfl))
 f216:=Tryz.func153.trans (congrArg aj (by kernel_rfl))
 f257:=Tryz.func134.trans (congrArg aj (by kernel_rfl))
 f294:=Tryz.func147.trans (congrArg aj (by kernel_rfl))
 f295:=Tryz.func148.trans (congrArg aj (by kernel_rfl))
 f296:=Tryz.func149.trans (congrArg aj (by kernel_rfl))
 f297:=Tryz.func150.trans (congrArg aj (by kernel_rfl))
 f298:=Tryz.func151.trans (congrArg aj (by kernel_rfl))
 f299:=Tryz.func152.trans (congrArg aj (by kernel_rfl))
 f300:=Tryz.func154.trans (congrArg aj (by kernel_rfl))
 f301:=Tryz.func155.trans (congrArg aj (by kernel_rfl))
 f328:=Tryz.func169.trans (congrArg aj (by kernel_rfl))
 f329:=Tryz.func170.trans (congrArg aj (by kernel_rfl))
 f330:=Tryz.func171.trans (congrArg aj (by kernel_rfl))
 f331:=Tryz.func172.trans (congrArg aj (by kernel_rfl))
 f332:=Tryz.func173.trans (congrArg aj (by kernel_rfl))
 f343:=Tryz.func177.trans (congrArg aj (by kernel_rfl))
 t0:=Tryz.underlying0
 a0:=Tryz.isAgg0
 z0:=Tryz.sizeOf0
 v0:=Tryz.zeroValue0
 t3:=Tryz.underlying3
 a3:=Tryz.isAgg3
 z3:=Tryz.sizeOf3
 v3:=Tryz.zeroValue3
 t4:=Tryz.underlying4
 a4:=Tryz.isAgg4
 z4:=Tryz.sizeOf4
 v4:=Tryz.zeroValue4
 t5:=Tryz.underlying5
 a5:=Tryz.isAgg5
 z5:=Tryz.sizeOf5
 v5:=Tryz.zeroValue5
 t9:=Tryz.underlying9
 a9:=Tryz.isAgg9
 z9:=Tryz.sizeOf9
 v9:=Tryz.zeroValue9
 t28:=Tryz.underlying26
 a28:=Tryz.isAgg26
 z28:=Tryz.sizeOf26
 v28:=Tryz.zeroValue26
 t46:=Tryz.underlying234
 a46:=Tryz.isAgg234
 z46:=Tryz.sizeOf234
 v46:=Tryz.zeroValue234
 t51:=Tryz.underlying315
 a51:=Tryz.isAgg315
 z51:=Tryz.sizeOf315
 v51:=Tryz.zeroValue315
 t53:=Tryz.underlying82
 a53:=Tryz.isAgg82
 z53:=Tryz.sizeOf82
 v53:=Tryz.zeroValue82
 t131:=Tryz.underlying129
 a131:=Tryz.isAgg129
 z131:=Tryz.sizeOf129
 v131:=Tryz.zeroValue129
 t182:=Tryz.underlying308
 a182:=Tryz.isAgg308
 z182:=Tryz.sizeOf308
 v182:=Tryz.zeroValue308
 t183:=Tryz.underlying309
 a183:=Tryz.isAgg309
 z183:=Tryz.sizeOf309
 v183:=Tryz.zeroValue309
 t218:=Tryz.underlying324
 a218:=Tryz.isAgg324
 z218:=Tryz.sizeOf324
 v218:=Tryz.zeroValue324
 t222:=Tryz.underlying252
 a222:=Tryz.isAgg252
 z222:=Tryz.sizeOf252
 v222:=Tryz.zeroValue252
 t228:=Tryz.underlying331
 a228:=Tryz.isAgg331
 z228:=Tryz.sizeOf331
 v228:=Tryz.zeroValue331
 t229:=Tryz.underlying332
 a229:=Tryz.isAgg332
 z229:=Tryz.sizeOf332
 v229:=Tryz.zeroValue332}
open Go.Sort Go.RowKit in
theorem slices_Sort_int(CM off cap:Nat)(zs:List Int)(w:World)(hH:Holds (az .i64) w CM off zs.toArray)(hblk:CM<w.heap.size)(hsz:zs.length<4611686018427387904):
 Calls aE 107 #[av (aj ⟨CM,off,ak⟩) zs.length cap] w λe w'=>
  e= .returned (.tuple #[])/\∃n os,w'=grow (putRow (az .i64) (Sort.ahead w n) CM off (zs.mergeSort λx y=>decide (x<=y)).toArray) os:=Any.slices_Sort_int Tm CM off cap zs w hH hblk hsz
def GR:Go.Shelf.Ren:=⟨λ|20=>108|n=>n,λ|22=>26|3=>3|4=>4|0=>0|n=>n,λ|n=>n⟩
theorem H7:Go.Proofs.Lays2.n20 aE GR:={
 mixed:=by kernel_rfl
 f20:=Tryz.func108.trans (congrArg aj (by kernel_rfl))
 t0:=Tryz.underlying0
 a0:=Tryz.isAgg0
 z0:=Tryz.sizeOf0
 v0:=Tryz.zeroValue0
 t3:=Tryz.underlying3
 a3:=Tryz.isAgg3
 z3:=Tryz.sizeOf3
 v3:=Tryz.zeroValue3
 t4:=Tryz.underlying4
 a4:=Tryz.isAgg4
 z4:=Tryz.sizeOf4
 v4:=Tryz.zeroValue4
 t22:=Tryz.underlying26
 a22:=Tryz.isAgg26
 z22:=Tryz.sizeOf26
 v22:=Tryz.zeroValue26
 i3:=by kernel_rfl}
open Go.RowKit Go.Lib Go.Sort in
theorem slices_Compact_int(CM off cap:Nat)(zs:List Int)(w:World)(hH:Holds (az .i64) w CM off zs.toArray)(hsz:zs.length<=9223372036854775807)(lf:zs.length<=cap):
 Calls aE 108 #[av (aj ⟨CM,off,ak⟩) zs.length cap] w λe w'=>e= .returned (av (aj ⟨CM,off,ak⟩) (q8 zs).length cap)/\∃q,w'=putRow (az .i64) (Sort.ahead w q) CM off (q8 zs++dl (zs.length-(q8 zs).length) 0).toArray:=Any.slices_Compact_int H7 CM off cap zs w hH hsz lf
open Go.RowKit Go.Lib Go.Sort in
theorem slices_Compact_int_empty(a:Option Addr)(cap:Nat)(w:World):
 Calls aE 108 #[av a 0 cap] w λe w'=>e= .returned (av a 0 cap)/\w'=w:=Any.slices_Compact_int_empty H7 a cap w
open Go.RowKit Go.Sort in
theorem slices_Sort_int_none(p:Option Addr)(cap:Nat)(w:World):
 Calls aE 107 #[av p 0 cap] w λe w'=>e= .returned (.tuple #[])/\w'=w:=Any.slices_Sort_int_none Tm p cap w
end bZ
namespace bZ
open Go.RowKit cL dQ Go.Sort
theorem VH(w:World)(n g:Nat)(d:Array Int)(os:Array Obj){k:Nat}(hk:k<w.heap.size)(hg:k≠g):(grow (putRow (az .i64) (Go.Sort.ahead w n) g 0 d) os).heap[k]?=w.heap[k]?:=by
 rw[heap_grow_old _ _ (by rw[size_putRow];exact hk)];show(w.heap.modify g _)[k]?=w.heap[k]?
 rw[Eh,if_neg (λh=>hg h.symm)]
theorem Tn{B:bP}{w:World}{e:TypeId}{g cap m:Nat}{zs:List Int}(hm:Mem B [a_ e 1 (av (aj ⟨g,0,ak⟩) m cap) m (zs.map (az .i64))] w)(d:Array Int)(hd:d.size=m)(m':Nat)(h':m'<=m)(n:Nat)(os:Array Obj):
 Mem B [a_ e 1 (av (aj ⟨g,0,ak⟩) m' cap) m' ((d.toList.take m').map (az .i64))] (grow (putRow (az .i64) (Go.Sort.ahead w n) g 0 d) os):=by
 have ho:w.ownsRow 0 e 1 (av (aj ⟨g,0,ak⟩) m cap) m (zs.map (az .i64)):=hm.get (i:=0) I;obtain⟨hl,hr⟩:=ho;rcases hr with⟨h,_⟩|⟨g2,QD,kU,hv,_,hg,hc,hx,hs,ht⟩
 ·cases h
 cases hv
 have MN:B.may g:=(hm.owns.all 0 _ I).2 g (.inl I);have hgw:g<w.heap.size:=(kC.1 hg).1;have ZW:(grow (putRow (az .i64) (Go.Sort.ahead w n) g 0 d) os).heap[g]?=aj (.cells (putCells (az .i64) 0 d kU) e (0,0)):=by
  rw[heap_grow_old _ _ (by rw[size_putRow];exact hgw)];show(w.heap.modify g (onCells (putCells (az .i64) 0 d)))[g]?=_
  rw[Eh,if_pos I,hg];rfl
 refine⟨⟨hm.low.os,hm.low.tape,hm.low.output,?_,λk hk hx=>?_⟩,eP.one ⟨?_,.inr ⟨g,cap,_,rfl,bH _,ZW,by omega,hx,?_,?_⟩⟩ λk hk=>?_⟩
 ·rw[size_grow,size_putRow];exact fH hm.low.size (P4 _ _)
 ·have hkg:k≠g:=λe=>by
   subst e;rcases MN with h|h
   omega;exact hx h
  rw[VH w n g d os (kE hk hm.low.size) hkg];exact hm.low.block k hk hx
 ·rw[eI,jz,Array.length_toList,hd];omega
 ·unfold putCells;rw[Array.size_mapIdx];exact hs
 ·apply mh
  intro j;rw[lP,yv]
  by_cases hj:j<m'
  ·have hjc:j<kU.size:=by omega
   rw[if_pos hj,jy,yv,if_pos hj,q6,q6];unfold putCells;rw[Array.getElem?_mapIdx,yt hjc,Option.map_some,if_pos ⟨bH _,by omega⟩,Nat.sub_zero,getElem!_pos d j J,yt (by omega:j<d.size)];rfl
  rw[if_neg hj,jy,yv,if_neg hj];rfl
 ·rcases hk with h|h
  simp only[a_,Value.ownBlock,dL]at h;subst h;exact MN;exact h.elim
theorem H8{w:World}{e:TypeId}{g cap m:Nat}{zs:List Int}(ho:w.ownsRow 0 e 1 (av (aj ⟨g,0,ak⟩) m cap) m (zs.map (az .i64))):Holds (az .i64) w g 0 zs.toArray/\g<w.heap.size/\m=zs.length/\m<=cap:=by
 obtain⟨hl,hr⟩:=ho;rcases hr with⟨h,_⟩|⟨g2,QD,kU,hv,_,hg,hc,hx,hs,ht⟩
 cases h
 cases hv
 rw[eI]at hl;refine⟨λj hj=>?_,(kC.1 hg).1,by omega,hc⟩;have sq:j<zs.length:=by simpa using hj
 have hcj:kU[j]?=aj (az aB zs[j]):=by
  have:=congrArg (λl=>l[j]?) ht;rw[lP,yv,if_pos J,q6,jy,bM sq]at this;exact this
 refine⟨?_,?_⟩;rw[cell_of_row w g (0+j) _ _ _ hg,cX,hcj,getElem!_pos zs.toArray j hj];rfl;unfold World.frozen?;rw[hg];simp
def v8(l:List Int):List Int:=l.mergeSort λx y=>decide (x<=y)
theorem MO(v:Value)(l:List Int)(w:World)(B:bP)(hm:Mem B [a_ 3 1 v l.length (l.map (az .i64))] w)(hl:l.length<4611686018427387904):
 Calls aE 107 #[v] w (cZ ⟨λ(_:Unit)=>True,λ_=> .tuple #[],λ_=>[a_ 3 1 v l.length ((v8 l).map (az .i64))]⟩ B):=by
 have ho:w.ownsRow 0 3 1 v l.length (l.map (az .i64)):=hm.get (i:=0) I;have CP:=ho;rcases ho.2 with⟨rfl,h0⟩|⟨g,cap,kU,rfl,_,hg,hc,hx,hs,ht⟩
 ·refine(slices_Sort_int_none ak 0 w).mono λe w' ⟨he,hw⟩=>⟨(),trivial,he,?_⟩
  obtain rfl:l=[]:=Y8.1 h0;rw[hw];exact(by simpa[v8]using hm)
 ·obtain⟨h1,h2,h3,h4⟩:=H8 CP
  refine(slices_Sort_int g 0 cap l w h1 h2 hl).mono λe w' ⟨he,n,os,hw⟩=>⟨(),trivial,he,?_⟩;have hlen:(v8 l).length=l.length:=P0 _;have:=Tn hm (v8 l).toArray (by simp[hlen]) l.length (bC _) n os;rw[gT (by simp[hlen])]at this;rw[hw];exact this
theorem EY(v:Value)(l:List Int)(w:World)(B:bP)(hm:Mem B [a_ 3 1 v l.length (l.map (az .i64))] w):
 Calls aE 108 #[v] w (cZ ⟨λ(_:Value)=>True,λv'=>v',λv'=>[a_ 3 1 v' (q8 l).length ((q8 l).map (az .i64))]⟩ B):=by
 have ho:w.ownsRow 0 3 1 v l.length (l.map (az .i64)):=hm.get (i:=0) I;have CP:=ho;rcases ho.2 with⟨rfl,h0⟩|⟨g,cap,kU,rfl,_,hg,hc,hx,hs,ht⟩
 ·refine(slices_Compact_int_empty ak 0 w).mono λe w' ⟨he,hw⟩=>⟨av ak 0 0,trivial,he,?_⟩
  obtain rfl:l=[]:=Y8.1 h0;rw[hw];exact hm
 ·obtain⟨h1,h2,h3,h4⟩:=H8 CP
  refine(slices_Compact_int g 0 cap l w h1 (by unfold maxLen at hx;omega) J).mono λe w' ⟨he,n,hw⟩=>⟨av (aj ⟨g,0,ak⟩) (q8 l).length cap,trivial,he,?_⟩;have hle:(q8 l).length<=l.length:=Lib.compact_length_le l;have:=Tn hm (q8 l++dl (l.length-(q8 l).length) 0).toArray (by simp;omega) (q8 l).length hle n #[];rw[grow_empty]at this;simp only[List.toList_toArray,List.take_left]at this;rw[hw];exact this
end bZ
namespace eg
open dh gu Go.Lib
def v8(l:List Int):List Int:=l.mergeSort λx y=>decide (x<=y)
def re(a b:List Int):List Int:=compact (v8 (a++b))
theorem JV(l:List Int):(v8 l).Pairwise (· <= ·):=by
 have:=Y7 (le:=λx y:Int=>decide (x<=y)) (λa b c=>by grind) (λa b=>by grind) l;exact this.imp (by simp)
theorem tO{d:Array Int}(hs:∀i j,i<=j->j<d.size->d[i]! <=d[j]!):∀m,m<=d.size->(compactUpTo d m).Pairwise (· < ·)/\(∀x,x∈compactUpTo d m↔∃j,j<m/\d[j]! =x)
 |0,_=>⟨by simp[compactUpTo],λx=>by simp[compactUpTo]⟩
 | m + 1,hm=>by
  obtain⟨h1,h2⟩:=tO hs m J;rw[compactUpTo_succ]
  by_cases hk:keeps d m=aD
  ·rw[if_pos hk]
   have o8:m=0\/d[m]! ≠d[m-1]! :=by simp_all[keeps]
   refine⟨List.pairwise_append.2 ⟨h1,Y9 _ _,λx hx y hy=>?_⟩,λx=>?_⟩
   ·rw[eV.1 hy]
    obtain⟨j,hj,rfl⟩:=(h2 x).1 hx;have a1:=hs j (m-1) J J;have a2:=hs (m-1) m J J;rcases o8 with h0|h0
    omega;omega
   grind
  rw[if_neg hk,dY];refine⟨h1,λx=>?_⟩;rw[h2]
  constructor
  grind;rintro⟨j,hj,rfl⟩
  by_cases c:j=m
  ·subst c
   have o8:¬(j=0\/d[j]! ≠d[j-1]!):=by simp_all[keeps]
   grind
  grind
theorem QE{l:List Int}(h:l.Pairwise (· <= ·)):∀i j,i<=j->j<l.toArray.size->l.toArray[i]! <=l.toArray[j]! :=by
 intro i j tL hj;have sq:j<l.length:=by omega
 rw[getElem!_pos l.toArray i J,getElem!_pos l.toArray j hj]
 by_cases c:i=j
 simp_all;exact List.pairwise_iff_getElem.1 h i j J sq J
theorem Dj(a b:List Int):(re a b).Pairwise (· < ·)/\∀x,x∈re a b↔x∈a\/x∈b:=by
 have hs:=QE (JV (a++b));obtain⟨h1,h2⟩:=tO hs (v8 (a++b)).length (by simp);refine⟨h1,λx=>?_⟩;unfold re compact;rw[h2,<-gj,<-List.mem_mergeSort (l:=a++b) (le:=λx y:Int=>decide (x<=y))];show _↔x∈v8 (a++b)
 rw[iC]
 constructor
 grind;rintro⟨j,hj,rfl⟩;exact⟨j,hj,by simp_all⟩
def H9(n:Nat)(l:List Int):Prop:=l.Pairwise (· < ·)/\∀x∈l,0<=x/\x<n
theorem ki{n:Nat}{l:List Int}(h:H9 n l):l.length<=n:=by
 have key:∀(l:List Int) (lo:Int),l.Pairwise (· < ·)->(∀x∈l,lo<=x/\x<n)->lo<=n->(l.length:Int)<=n-lo:=by
  intro l
  induction l with
  |nil=>simp
  |cons x r ih=>
   intro lo hp hx _;rw[Y']at hp;have h1:=hx x (iO ..);have:=ih (x+1) hp.2 (λy hy=>⟨by grind,(hx y (kJ _ hy)).2⟩) J;rw[dj];omega
 have:=key l 0 h.1 h.2 J;omega
theorem w8(n:Nat):H9 n []:=⟨af',λx h=>by cases h⟩
theorem n0{n m:Nat}{l:List Int}(h:H9 n l)(hm:n<=m):H9 m l:=⟨h.1,λx hx=>by have:=h.2 x hx;omega⟩
theorem s8{n:Nat}{a b:List Int}(ha:∀x∈a,0<=x/\x<n)(hb:∀x∈b,0<=x/\x<n):H9 n (re a b):=
 ⟨(Dj a b).1,λx hx=>((Dj a b).2 x|>.1 hx).elim (ha x) (hb x)⟩
theorem EZ:∀{a b:List Int},a.Pairwise (· < ·)->b.Pairwise (· < ·)->(∀x,x∈a↔x∈b)->a=b
 |[],[],_,_,_=>rfl
 |[],y::b,_,_,h=>by grind[iO]
 |x::a,[],_,_,h=>by grind[iO]
 | x ::a,y::b,ha,hb,h=>by
  rw[Y']at ha hb;have hxy:x=y:=by
   grind[iO]
  subst hxy;rw[EZ ha.2 hb.2 λz=>?_]
  grind
structure PS where
 bm:List C4
 rules:List Int
 follow:List (List Int)
 last:List Bool
structure Shape where
 empty:Bool
 first:List Int
 last:List Int
def fF(nj:List (List Int))(last first:List Int):List (List Int):=last.foldl (λf x=>f.set x.toNat (re (f.getD x.toNat []) first)) nj
def cK(bU:Int):Re->PS->Shape×PS
  | .empty,p=>(⟨aD,[],[]⟩,p)
  | .none,p=>(⟨aF,[],[]⟩,p)
  | .byte c,p=>(⟨aF,[(p.bm.length:Int)],[(p.bm.length:Int)]⟩,⟨p.bm++[c],p.rules++[bU],p.follow++[[]],p.last++[aF]⟩)
  | .star a,p=>(⟨aD,(cK bU a p).1.first,(cK bU a p).1.last⟩,{(cK bU a p).2 with follow:=fF (cK bU a p).2.follow (cK bU a p).1.last (cK bU a p).1.first})
  | .Jo a b,p=>(⟨(cK bU a p).1.empty||(cK bU b (cK bU a p).2).1.empty,re (cK bU a p).1.first (cK bU b (cK bU a p).2).1.first,re (cK bU a p).1.last (cK bU b (cK bU a p).2).1.last⟩,(cK bU b (cK bU a p).2).2)
  | .Jn a b,p=>
    (⟨(cK bU a p).1.empty&&(cK bU b (cK bU a p).2).1.empty,
      if(cK bU a p).1.empty then re (cK bU a p).1.first (cK bU b (cK bU a p).2).1.first else(cK bU a p).1.first,
      if(cK bU b (cK bU a p).2).1.empty then re (cK bU a p).1.last (cK bU b (cK bU a p).2).1.last else(cK bU b (cK bU a p).2).1.last⟩,
     {(cK bU b (cK bU a p).2).2 with follow:=fF (cK bU b (cK bU a p).2).2.follow (cK bU a p).1.last (cK bU b (cK bU a p).2).1.first})
structure MP(p:PS):Prop where
 rules:p.rules.length=p.bm.length
 follow:p.follow.length=p.bm.length
 last:p.last.length=p.bm.length
 ris:∀l∈p.follow,H9 p.bm.length l
theorem lu(nj:List (List Int))(last first:List Int):(fF nj last first).length=nj.length:=by
 unfold fF
 induction last generalizing nj with
 |nil=>rfl
 |cons x r ih=>simp_all
theorem s9{n:Nat}{first:List Int}(hf:∀x∈first,0<=x/\x<n):∀(last:List Int) (nj:List (List Int)),(∀l∈nj,H9 n l)->∀l∈fF nj last first,H9 n l
 |[],nj,h=>h
 | x ::r,nj,h=>by
  show ∀l∈fF (nj.set x.toNat (re (nj.getD x.toNat []) first)) r first,H9 n l
  refine s9 hf r _ λl hl=>?_;rcases PX hl with hl|rfl
  simp_all;refine s8 (λy hy=>?_) hf
  by_cases c:x.toNat<nj.length
  ·rw[de,bM c]at hy
   exact(h _ (cH c)).2 y hy
  simp_all
theorem l9(bU:Int):∀(e:Re) (p:PS),MP p->MP (cK bU e p).2/\p.bm.length<=(cK bU e p).2.bm.length/\(cK bU e p).2.bm.length<=p.bm.length+e.size/\H9 (cK bU e p).2.bm.length (cK bU e p).1.first/\H9 (cK bU e p).2.bm.length (cK bU e p).1.last
 | .empty,p,h=>⟨h,bC _,P4 _ _,w8 _,w8 _⟩
 | .none,p,h=>⟨h,bC _,P4 _ _,w8 _,w8 _⟩
 | .byte c,p,h=>by
  have h1:H9 (p.bm++[c]).length [(p.bm.length:Int)]:=⟨Y9 _ _,λx hx=>by grind⟩;refine⟨⟨?_,?_,?_,λl hl=>?_⟩,?_,?_,h1,h1⟩;show(p.rules++[bU]).length=(p.bm++[c]).length;rw[bK,bK,h.rules];rfl
  show(p.follow++[[]]).length=(p.bm++[c]).length;rw[bK,bK,h.follow];rfl
  show(p.last++[aF]).length=(p.bm++[c]).length;rw[bK,bK,h.last];rfl
  ·have hl:l∈p.follow++[[]]:=hl
   show H9 (p.bm++[c]).length l
   rcases gj.1 hl with hl|hl
   exact n0 (h.ris l hl) (by simp);rw[eV.1 hl];exact w8 _
  show p.bm.length<=(p.bm++[c]).length;simp
  show(p.bm++[c]).length<=_;simp[Re.size]
 | .star a,p,h=>by
  obtain⟨h1,h2,h3,h4,h5⟩:=l9 bU a p h;exact⟨⟨h1.rules,(lu _ _ _).trans h1.follow,h1.last,s9 h4.2 _ _ h1.ris⟩,h2,by show _<=p.bm.length+(a.size+1);exact fH h3 J,h4,h5⟩
 | .Jo a b,p,h=>by
  obtain⟨h1,h2,h3,h4,h5⟩:=l9 bU a p h;obtain⟨k1,k2,k3,k4,k5⟩:=l9 bU b _ h1;exact⟨k1,fH h2 k2,by show _<=p.bm.length+(a.size+b.size+1);exact fH k3 J,s8 (n0 h4 k2).2 k4.2,s8 (n0 h5 k2).2 k5.2⟩
 | .Jn a b,p,h=>by
  obtain⟨h1,h2,h3,h4,h5⟩:=l9 bU a p h;obtain⟨k1,k2,k3,k4,k5⟩:=l9 bU b _ h1;refine⟨⟨k1.rules,(lu _ _ _).trans k1.follow,k1.last,s9 k4.2 _ _ k1.ris⟩,fH h2 k2,by show _<=p.bm.length+(a.size+b.size+1);exact fH k3 J,?_,?_⟩
  ·show H9 _ (if _ then _ else _)
   split;exact s8 (n0 h4 k2).2 k4.2;exact n0 h4 k2
  show H9 _ (if _ then _ else _)
  split;exact s8 (n0 h5 k2).2 k5.2;exact k5
end eg
namespace bZ
open Go.RowKit cL dQ eg
theorem rS(l:List Int):l.flatMap cL.eJ=l.map (az .i64):=by
 induction l with
 |nil=>rfl
 |cons x r ih=>rw[oo,ih];rfl
abbrev gL(v:Value)(l:List Int):b9:=a_ 3 1 v l.length (l.map (az .i64))
def tP(l:List Int):Spec Value:=⟨λ_=>True,λv=>v,λv=>[gL v l]⟩
theorem iK(va vb:Value)(a b:List Int)(w:World)(ha:Sl w va a.length (a.map (az .i64)))(hb:Sl w vb b.length (b.map (az .i64)))(hla:a.length<=1000000)(hlb:b.length<=1000000):
 Calls aE 74 #[va,vb] w (bX (tP (re a b)) w):=by
 have jU:=λw' (hg:Gr w w')=>ky va a w' (by rw[rS];exact ha.gr hg) J;refine enter (args:=[va,vb]) (n:=14) Tryz.func74 I I I ?_
 try refine GA ?_
 refine aU (ja aJ.en I I) (λw hm=>jU _ hm.below) I I I ?_;intro v1 _;refine zL ?_;rw[rS]
 try refine GA ?_
 refine ee (i:=0) (bytes:=8) (m:=a.length) (xs:=a.map (az .i64)) (k:=b.length) (ys:=b.map (az .i64)) I (afS hb) I I (by rw[eI,lP]) (λu hu=>by obtain⟨x,_,rfl⟩:=fG.1 hu;rfl) J J I λv2=>?_;rw[<-eZ,<-bK];refine zL ?_
 try refine GA ?_
 refine bz [0] [] aln I I (ja aJ.en I I) (λw hm hb=>MO v2 (a++b) w _ hb (by rw[bK];omega)) I I I ?_;intro _ _;refine zL ?_
 try refine GA ?_
 rw[show(a++b).length=(bZ.v8 (a++b)).length from(P0 _).symm];refine bz [0] [] aln I I (ja aJ.en I I) (λw hm hb=>EY v2 (bZ.v8 (a++b)) w _ hb) I I I ?_;intro v3 _;refine zL ?_
 try refine GA ?_
 exact cJ I I λw hm=>hm.meets (S:=tP (re a b)) v3 trivial [0] aln I
def Ab(v:Value):List Value:=[v]
theorem MQ(v:Value):(Ab v).length=1:=rfl
theorem VI(l:List Value):l.flatMap Ab=l:=by
 induction l with
 |nil=>rfl
 |cons x r ih=>rw[oo,ih];rfl
theorem JW{w w':World}{e:TypeId}{size n:Nat}{v:Value}{xs:List Value}(h:w.ownsRow 0 e size v n xs)(hk:∀k,v.ownBlock=aj k->w'.heap[k]?=w.heap[k]?):w'.ownsRow 0 e size v n xs:=by
 refine⟨h.1,?_⟩;rcases h.2 with hn|⟨g,cap,kU,rfl,A5,hg,rest⟩
 exact .inl hn;exact .inr ⟨g,cap,kU,rfl,A5,by rw[hk g I];exact hg,rest⟩
def agn:wY (List Int):=
 ⟨1,λF w cs l=>∃v,cs=[v]/\(∀x∈l,cL.dV x)/\w.ownsRow 0 3 1 v l.length (l.map (az .i64))/\∀k,v.ownBlock=aj k->F k,λ⟨_,h,_⟩=>by rw[h];rfl,
  λ⟨v,h1,h2,h3,h4⟩ hk=>⟨v,h1,h2,JW h3 λk h=>hk k (h4 k h),h4⟩,λ⟨v,h1,h2,h3,h4⟩ hk=>⟨v,h1,h2,h3,λk h=>hk k (h4 k h)⟩⟩
abbrev yJ(v:Value)(vs:List Value):b9:=a_ 26 1 v vs.length (vs.flatMap Ab)
abbrev v_(F:Nat->Prop)(vs:List Value)(nj:List (List Int)):b9:=eo agn F (vs.map Ab) nj
def To(vc vr vf vfol vl ve:Value)(bU:Int):Array Value:=#[vc,vr,vf,vfol,vl,ve,az aB bU]
theorem adj{α:Type}{s:wY α}{F F2:Nat->Prop}{gH:List (List Value)}{cs:List Value}{l:List α}{a:α}{w:World}{k:Nat}(he:(eo s F gH l).holds w)(hs:s.is F2 w cs a)(h2:∀k,F2 k->k<w.heap.size):
 (eo s (λk=>F k\/F2 k) (gH.set k cs) (l.set k a)).holds w:=by
 obtain⟨⟨h1,h3⟩,h4⟩:=he;refine⟨⟨by simp[h1],λi hi qB=>?_⟩,λk hk=>hk.elim (h4 k) (h2 k)⟩;rw[Zb,Zb]
 by_cases c:k=i
 ·subst c
  rw[if_pos I,if_pos I];exact s.mono hs λq hq=> .inr hq
 ·rw[if_neg c,if_neg c]
  exact s.mono (h3 i (by simpa using hi) (by simpa using qB)) λq hq=> .inl hq
theorem ZX{F:Nat->Prop}{vs:List Value}{nj:List (List Int)}{w:World}(he:(v_ F vs nj).holds w){k:Nat}(hk:k<nj.length)(o8:k<vs.length):Sl w vs[k] nj[k].length (nj[k].map (az .i64)):=by
 obtain⟨⟨h1,h3⟩,_⟩:=he;obtain⟨v,hv,_,hs,_⟩:=h3 k hk (by simpa using o8);rw[q9]at hv;unfold Ab at hv;simp only[jA,and_true]at hv;rw[hv];exact Sl.dx hs
theorem ago{w:World}{v:Value}{l:List Int}(hp:∀x∈l,cL.dV x)(h:(gL v l).holds w):agn.is (λk=>v.ownBlock=aj k) w [v] l:=
 ⟨v,rfl,hp,h,λ_ h=>h⟩
def Tp(g:Nat)(vc vr vf vfol vl ve:Value)(bU:Int)(va vb:Value)(nj:List (List Int))(last first:List Int):Spec (List Value×(Nat->Prop)):=
 ⟨λx=>x.1.length=nj.length,λ_=> .tuple #[],λx=>[aR g (To vc vr vf vfol vl ve bU) 195,yJ vfol x.1,v_ x.2 x.1 (fF nj last first),gL va last,gL vb first]⟩
theorem MU(nj:List (List Int))(last first:List Int){k:Nat}(hk:k<last.length):fF nj (last.take (k+1)) first=(fF nj (last.take k) first).set last[k].toNat (re ((fF nj (last.take k) first).getD last[k].toNat []) first):=by
 unfold fF;rw[gv hk,List.foldl_append];rfl
theorem Ac(g:Nat)(vc vr vf vfol vl ve:Value)(bU:Int)(va vb:Value)(vs:List Value)(F:Nat->Prop)(nj:List (List Int))(last first:List Int)(w:World)(B:bP)
 (hvs:vs.length=nj.length) (hn:nj.length<=100000) (ajV:∀l∈nj,H9 nj.length l) (hla:H9 nj.length last) (Xg:H9 nj.length first)
 (hm:Mem B [aR g (To vc vr vf vfol vl ve bU) 195,yJ vfol vs,v_ F vs nj,gL va last,gL vb first] w):
 Calls aE 106 #[aK (aj ⟨g,0,ak⟩),va,vb] w (cZ (Tp g vc vr vf vfol vl ve bU va vb nj last first) B):=by
 have akG:=ki hla;have ajW:=ki Xg;have hva:∃a c,va=av a last.length c:=by
  obtain⟨base,cap,h,_⟩:=Sl.dx (show w.ownsRow 0 3 1 va last.length (last.map (az .i64))from hm.get (i:=3) rfl);exact⟨base,cap,h⟩
 obtain⟨aa,ca,rfl⟩:=hva;refine du hm (args:=[aK (aj ⟨g,0,ak⟩),av aa last.length ca,vb]) (n:=32) Tryz.func106 I I I ?_;clear hm
 try refine GA ?_
 refine d_ (ι:=Nat×List Value×(Nat->Prop)) (λ(k,vs,F)=>k<=last.length/\vs.length=nj.length) (λ(k,_,_)=>[(0,aK (aj ⟨g,0,ak⟩)),(2,vb),(8,av aa last.length ca),(9,az aB last.length),(10,az aB (k:Int))])
  (λ(k,vs,F)=>[aR g (To vc vr vf vfol vl ve bU) 195,yJ vfol vs,v_ F vs (fF nj (last.take k) first),gL (av aa last.length ca) last,gL vb first]) (λ(k,_,_)=>last.length-k) (0,vs,F) ⟨bH _,hvs⟩ ?_
 clear hvs vs F;rintro⟨k,vs,F⟩ ⟨i1,i2⟩;dsimp only at i1 i2⊢
 by_cases c6:k<last.length
 ·have hstep:=MU nj last first c6
  have ajX:=s9 (n:=nj.length) Xg.2 (last.take k) nj ajV;have hlen:=lu nj (last.take k) first;have hx:=hla.2 last[k] (cH c6);have hgx:last[k]?=aj last[k]:=bM c6;generalize fF nj (last.take k) first=fo at*;generalize last[k]=x at*;obtain⟨xn,rfl⟩:=gU hx.1;rw[dD]at hstep;have hxn:xn<fo.length:=by omega
  have Bu:fo.getD xn []=fo[xn]:=by rw[de,bM hxn];rfl
  rw[Bu]at hstep;have hrx:=ajX fo[xn] (cH hxn);have JU:=ki hrx;have JX:=s8 hrx.2 Xg.2;have hul:=ki JX;refine iR (i:=1) (φ:=∃gf cap,vfol=av (aj ⟨gf,0,ak⟩) vs.length cap/\vs.length<=cap) I (λw h=>by
   obtain⟨h1,h2⟩:=(show w.ownsRow 0 26 1 vfol vs.length (vs.flatMap Ab)from h);rcases h2 with⟨_,h0⟩|⟨gf,cap,kU,hv,_,_,hc,_⟩
   omega;exact⟨gf,cap,hv,hc⟩) λhvf=>?_
  obtain⟨gf,agp,rfl,hcf⟩:=hvf;refine iR (i:=3) (φ:=∃ga,aa=aj ⟨ga,0,ak⟩) I (λw h=>by
   obtain⟨h1,h2⟩:=(show w.ownsRow 0 3 1 (av aa last.length ca) last.length (last.map (az .i64))from h);rcases h2 with⟨_,h0⟩|⟨gf,cap,kU,hv,_,_,hc,_⟩
   omega
   cases hv;exact⟨gf,rfl⟩) λhva=>?_
  obtain⟨ga,rfl⟩:=hva;have hxv:xn<vs.length:=by omega
  have gK:∀(L:List b9) (hi:L[1]?=aj (yJ (av (aj ⟨gf,0,ak⟩) vs.length agp) vs)),At B L ⟨gf,0+xn*1+0,ak⟩ vs[xn]:=λL hi=>pz MQ hi hxv 0 _ I;have ajY:∀(L:List b9) (hi:L[3]?=aj (gL (av (aj ⟨ga,0,ak⟩) last.length ca) last)),At B L ⟨ga,0+k*1,ak⟩ (az aB (xn:Int)):=λL hi=>jP hi (by rw[jy,cX,lP,hgx];rfl)
  repeat(first|refine GA ?_|refine gV (aZ bQ.eq aL.ty I I c6) ?_|refine gV (aC (v:=az aB (xn:Int)) aL.ty I (ajY _ I)) ?_)
  (repeat refine cB ?_)
  refine dH ([aR g (To vc vr vf (av (aj ⟨gf,0,ak⟩) vs.length agp) vl ve bU) 195]) (.calm 0 (.calm 1 (.calm 2 (.calm 3 (.calm 4 (.calm 5 (.calm 6 (.calm 7 (.calm 8 (.calm 9 (.calm 10 (.calm 11 (.calm 12 (.calm 14 (.one 13 (.one 15 (.calm 16 (.one 17 (.done))))))))))))))))))) (bV [0]) ?_
  repeat(first|refine GW ?_|(refine GN ?_;first|refine QW (aC (v:=av (aj ⟨gf,0,ak⟩) vs.length agp) aL.ty I (aI (i:=0) I I)) ?_|refine QW (aZ bQ.eq aL.ty I I hxv) ?_))
  refine aM I (dm (aC (v:=vs[xn]) aL.ty I (gK _ I)) I I I (aO (bV [0]) ?_))
  try refine GW ?_
  refine aM I (aU (fC aJ.en I I I) (λw' hm=>iK vs[xn] vb fo[xn] first w' (ZX (hm.get (i:=2) I) hxn hxv) (Sl.dx (hm.get (i:=4) I)) J J) I I I ?_);intro v _
  conv=>arg 8;simp only[zJ,cD,ret,id_eq,tP]
  refine aX (i:=5) I λo9 mJ=>?_;refine aO (bV [0]) ?_
  repeat(first|refine GW ?_|(refine GN ?_;first|refine QW (aZ bQ.eq aL.ty I I hxv) ?_))
  refine aM I (A' MQ (i:=1) (k:=xn) (l:=vs) (a:=v) aL.ty I I J hxv I I o9 (by simp only[Ab,c_,db,mJ];rfl) (aO (bV [0]) ?_))
  try refine GW ?_
  try refine GA ?_
  refine wZ (v_ (λk=>F k\/v.ownBlock=aj k) (vs.set xn v) (fo.set xn (re fo[xn] first))) 5 2 [0,1,3,4] aln I I I (λk hk=>hk.elim (λh=>by cases h) λh=>h.elim (λh=> .inr (.inr h)) λh=> .inl (.inl h)) (λw hr he=>?_) ?_
  ·have:=adj (k:=xn) he (ago (λx hx=>⟨by have:=JX.2 x hx;omega,by have:=JX.2 x hx;omega⟩) hr) λk hk=>(gL v (re fo[xn] first)).lt w hr k (.inl hk)
   rw[show([v]:List Value)=Ab v from I,<-Bd]at this;exact this
  refine dv [0,1,4,2,3] ?_;exact bW (k+1,vs.set xn v,λk=>F k\/v.ownBlock=aj k) ⟨by omega,by rw[Zd];exact i2⟩ (by show last.length-(k+1)<last.length-k;omega) (hl:=by dsimp only;rw[hstep];show _=[_,a_ _ _ _ (vs.set xn v).length _,_,_,_];rw[Zd];rfl)
 ·obtain rfl:k=last.length:=by omega
  rw[gT (bC _)]
  try refine GA ?_
  exact lR I λw hm=>hm.b_ (S:=Tp g vc vr vf vfol vl ve bU (av aa last.length ca) vb nj last first) (vs,F) i2 [0,1,2,3,4] aln I
open dh gu
def Bw(B:bP)(k:Nat):Prop:=k<B.w.heap.size/\¬B.X k
theorem s_{B:bP}{L:List b9}{b off:Nat}{cs:List Value}(hb:Bw B b)(h:Rd B.w b off cs)(j:Nat)(v:Value)(hj:cs[j]?=aj v):At B L ⟨b,off+j,ak⟩ v:=λ_ hm=>
 rd_stay h (hm.low.block b hb.1 hb.2) j v hj
theorem agq{B:bP}{Lx:List b9}{w:World}(hm:Mem B Lx w){k:Nat}(hk:Bw B k):Bw (bP.on w Lx) k:=by
 refine⟨kE hk.1 hm.low.size,?_⟩;rintro⟨o,ho,hf⟩;obtain⟨i,hi⟩:=List.mem_iff_getElem?.1 ho;rcases(hm.owns.all i o hi).2 k hf with h|h
 have:=hk.1;omega;exact hk.2 h
theorem fg{B:bP}{Lx:List b9}{w:World}{v:Value}{r:Rx}(hm:Mem B Lx w)(h:ot (Bw B) B.w v r):ot (Bw (bP.on w Lx)) w v r:=
 (h.stay λk hk=>hm.low.block k hk.1 hk.2).mono λ_ hk=>agq hm hk
structure Xh where
 vc:Value
 vr:Value
 vfol:Value
 vl:Value
 vs:List Value
 F:Nat->Prop
def nQ(g:Nat)(vf ve:Value)(bU:Int)(x:Xh)(p:PS):List b9:=
 [aR g (To x.vc x.vr vf x.vfol x.vl ve bU) 195,a_ 84 4 x.vc p.bm.length (p.bm.flatMap ed),gL x.vr p.rules,yJ x.vfol x.vs,v_ x.F x.vs p.follow,a_ 4 1 x.vl p.last.length (p.last.map fT)]
def cT(g:Nat)(vf ve:Value)(bU:Int)(R:Shape×PS):Spec (Xh×Value×Value):=
 ⟨λx=>x.1.vs.length=R.2.follow.length,λx=>aQ #[.bool R.1.empty,x.2.1,x.2.2],λx=>nQ g vf ve bU x.1 R.2++[gL x.2.1 R.1.first,gL x.2.2 R.1.last]⟩
theorem QF(w:World):(dg 197 (#[]:Array (Nat×Value))).run aE w= .ok (aQ #[.bool aF,av ak 0 0,av ak 0 0]) w:=by
 go_simp
theorem QG(w:World):(dg 197 #[(0,.bool aD)]).run aE w= .ok (aQ #[.bool aD,av ak 0 0,av ak 0 0]) w:=by
 go_simp
def JY(M:Nat):Prop:=∀(e:Re),e.size<=M->∀(g:Nat) (vf ve:Value) (bU:Int) (p:PS) (x:Xh) (v:Value) (w:World) (B:bP),MP p->x.vs.length=p.follow.length->p.bm.length+e.size<=100000->cL.dV bU->ot (Bw B) B.w v (l5 e)->Mem B (nQ g vf ve bU x p) w->
 Calls aE 73 #[aK (aj ⟨g,0,ak⟩),v] w (cZ (cT g vf ve bU (cK bU e p)) B)
theorem VJ(g:Nat)(vf ve:Value)(bU:Int)(p:PS)(x:Xh)(v:Value)(w:World)(B:bP)(hx:x.vs.length=p.follow.length)(hv:ot (Bw B) B.w v (l5 .none))(hm:Mem B (nQ g vf ve bU x p) w):
 Calls aE 73 #[aK (aj ⟨g,0,ak⟩),v] w (cZ (cT g vf ve bU (cK bU .none p)) B):=by
 obtain⟨vk,rfl,_,SY⟩:=hv;obtain⟨bk,ck,rfl,-⟩:=SY;unfold nQ at hm;refine du hm (args:=[aK (aj ⟨g,0,ak⟩),qY (l5 .none).kind (l5 .none).uO (av bk (l5 .none).kids.length ck)]) (n:=176) Tryz.func73 I I I ?_;clear hm;refine cB (bD (bL I I I λg3=>a8 I λg4=>?_));refine zL ?_
 repeat(first|refine GA ?_|refine gV (aC (v:=az aB 1) aL.ty I (aI (i:=6) I I)) ?_|refine gV (bB I QF) ?_)
 refine gG 7 ?_;refine zL ?_
 try refine GA ?_
 refine dJ 3 1 (dJ 3 1 ?_);exact fW (i:=7) I I I I λw hm=>hm.b_ (S:=cT g vf ve bU (cK bU .none p)) (x,av ak 0 0,av ak 0 0) hx [0,1,2,3,4,5,8,9] aln I
theorem QH(g:Nat)(vf ve:Value)(bU:Int)(p:PS)(x:Xh)(v:Value)(w:World)(B:bP)(hx:x.vs.length=p.follow.length)(hv:ot (Bw B) B.w v (l5 .empty))(hm:Mem B (nQ g vf ve bU x p) w):
 Calls aE 73 #[aK (aj ⟨g,0,ak⟩),v] w (cZ (cT g vf ve bU (cK bU .empty p)) B):=by
 obtain⟨vk,rfl,_,SY⟩:=hv;obtain⟨bk,ck,rfl,-⟩:=SY;unfold nQ at hm;refine du hm (args:=[aK (aj ⟨g,0,ak⟩),qY (l5 .empty).kind (l5 .empty).uO (av bk (l5 .empty).kids.length ck)]) (n:=176) Tryz.func73 I I I ?_;clear hm;refine cB (bD (bL I I I λg3=>a8 I λg4=>?_));refine zL ?_
 repeat(first|refine GA ?_|refine gV (aC (v:=az aB 2) aL.ty I (aI (i:=6) I I)) ?_|refine gV (bB I QG) ?_)
 refine gG 7 ?_;refine zL ?_
 try refine GA ?_
 refine dJ 3 1 (dJ 3 1 ?_);exact fW (i:=7) I I I I λw hm=>hm.b_ (S:=cT g vf ve bU (cK bU .empty p)) (x,av ak 0 0,av ak 0 0) hx [0,1,2,3,4,5,8,9] aln I
def MV(g:Nat)(bU:Int):b9:=
 ⟨aj g,λ_=>False,λw=>∃vc vr vf vfol vl ve,w.heap[g]?=aj (.cells (To vc vr vf vfol vl ve bU) 195 (0,0)),λw ⟨_,_,_,_,_,_,h⟩ k hk=>by simp only[dL,or_false]at hk;subst hk;exact(kC.1 h).1,
  λw w' ⟨vc,vr,vf,vfol,vl,ve,h⟩ _ hb=>⟨vc,vr,vf,vfol,vl,ve,by rw[hb g (.inl I)];exact h⟩⟩
theorem mV{B:bP}{L:List b9}{g:Nat}{vc vr vf vfol vl ve:Value}{bU:Int}(h:L[0]?=aj (aR g (To vc vr vf vfol vl ve bU) 195)):∀w,Mem B L w->Mem B [MV g bU] w:=λw hm=>by
 have h1:=hm.pick (L':=[aR g (To vc vr vf vfol vl ve bU) 195]) [0] aln (by simp[h]);exact h1.acU (i:=0) (MV g bU) I ⟨vc,vr,vf,vfol,vl,ve,h1.get (i:=0) I⟩ λk hk=>hk
theorem adk{B:bP}{L:List b9}{g i:Nat}{bU:Int}(h:L[i]?=aj (MV g bU)):At B L ⟨g,6,ak⟩ (az aB bU):=λw hm=>by
 obtain⟨vc,vr,vf,vfol,vl,ve,h⟩:=(hm.get h:(MV g bU).holds w);rw[cell_of_row w g 6 _ _ _ h];rfl
theorem Tq(c:C4)(u:Value)(h:u∈ed c):u.oneCell'=true:=by
 simp only[ed,dM,fz,or_false]at h;rcases h with rfl|rfl|rfl|rfl<;>rfl
theorem VK(c:C4){k:Int}{vk v:Value}{j:Nat}(hj:(ed c)[j]?=aj v):((mG k c vk).toArray)[1+j]?=aj v:=by
 match j,hj with
 |0,hj=>exact hj
 |1,hj=>exact hj
 |2,hj=>exact hj
 |3,hj=>exact hj
theorem QI(b b':Option Addr)(m m' k k':Nat)(w:World):(dg 197 #[(1,av b m k),(2,av b' m' k')]).run aE w= .ok (aQ #[.bool aF,av b m k,av b' m' k']) w:=by
 go_simp
theorem H_(v:Value)(l:List Int)(x:Int):a_ 3 1 v (l.length+1) (l.map (az .i64)++[az aB x])=gL v (l++[x]):=by
 show _=a_ 3 1 v (l++[x]).length ((l++[x]).map (az .i64))
 rw[bK,eZ];rfl
theorem ZY(v:Value)(l:List Value)(x:Value):a_ 26 1 v (l.length+1) (l.flatMap Ab++[x])=yJ v (l++[x]):=by
 show _=a_ 26 1 v (l++[x]).length ((l++[x]).flatMap Ab)
 rw[bK,ir];rfl
theorem Bx(v:Value)(l:List Bool)(x:Bool):a_ 4 1 v (l.length+1) (l.map fT++[.bool x])=a_ 4 1 v (l++[x]).length ((l++[x]).map fT):=by
 rw[bK,eZ];rfl
theorem JZ{w:World}{g:Nat}{n:Int}(h:(aR g #[az aB n] 3).holds w):(gL (av (aj ⟨g,0,ak⟩) 1 1) [n]).holds w:=
 ⟨rfl,.inr ⟨g,1,_,rfl,bH _,h,bC _,by decide,rfl,rfl⟩⟩
theorem VL(c:C4)(g:Nat)(vf ve:Value)(bU:Int)(p:PS)(x:Xh)(v:Value)(w:World)(B:bP)(hp:MP p)(hx:x.vs.length=p.follow.length)(hn:p.bm.length<=100000)(hv:ot (Bw B) B.w v (l5 (.byte c)))(hm:Mem B (nQ g vf ve bU x p) w):
 Calls aE 73 #[aK (aj ⟨g,0,ak⟩),v] w (cZ (cT g vf ve bU (cK bU (.byte c) p)) B):=by
 obtain⟨vk,rfl,_,SY⟩:=hv;obtain⟨bk,ck,rfl,-⟩:=SY;obtain⟨vc,vr,vfol,vl,vs,F⟩:=x;unfold nQ at hm;dsimp only at hx hm;refine du hm (args:=[aK (aj ⟨g,0,ak⟩),qY (l5 (.byte c)).kind (l5 (.byte c)).uO (av bk (l5 (.byte c)).kids.length ck)]) (n:=176) Tryz.func73 I I I ?_;clear hm;refine cB (bD (bL I I I λg3=>a8 I λg4=>?_));refine zL ?_;refine lA (i:=1) I λbc cc Xi o9 zo=>?_;subst Xi
 repeat(first|refine GA ?_|refine gV (aC (v:=az aB 3) aL.ty I (aI (i:=6) I I)) ?_|refine gV (aC (v:=av bc p.bm.length cc) aL.ty I (aI (i:=0) I I)) ?_)
 (repeat refine cB ?_)
 refine ml (ι:=Value) (λ_=>True) (λ_=>[(0,aK (aj ⟨g,0,ak⟩)),(3,aK (aj ⟨g3,0,ak⟩)),(4,aK (aj ⟨g4,0,ak⟩)),(5,az aB p.bm.length)])
  (λGS=>[aR g (To GS vr vf vfol vl ve bU) 195,a_ 84 4 GS (p.bm++[c]).length ((p.bm++[c]).flatMap ed),gL vr p.rules,yJ vfol vs,v_ F vs p.follow,a_ 4 1 vl p.last.length (p.last.map fT),aR g4 #[.bool aF,av ak 0 0,av ak 0 0] 197]) ?_ ?_
 ·refine dH ([aR g3 (mG 3 c (av bk 0 ck)).toArray 87]) (.calm 0 (.calm 1 (.calm 2 (.calm 3 (.calm 4 (.calm 6 (.calm 7 (.two 5 (.one 8 (.one 9 (.calm 10 (.calm 11 (.calm 12 (.one 13 (.done))))))) 8 (.one 5 (.one 9 (.calm 10 (.calm 11 (.calm 12 (.one 13 (.done))))))))))))))) (bV [6]) ?_
  repeat(first|refine GW ?_|(refine GN ?_;first|refine QW (aY (cs:=ed c) aL.ty I I (λj v hj=>aI (i:=0) I (VK c hj))) ?_))
  refine eN I I ?_ ?_
  ·refine dm (aC (v:=av bc p.bm.length cc) aL.ty I (aI (i:=0) I I)) I I I (aO (bV [6]) ?_)
   refine aM I (fw (cs:=(ed c).toArray) [oR c] I I I (by intro v hv;simp at hv;subst hv;rfl) I I I λg33=>(aO (bV [6]) ?_));refine aM I (ee (i:=1) (e:=84) (size:=4) (bytes:=32) (m:=p.bm.length) (xs:=p.bm.flatMap ed) (k:=1) (ys:=ed c) I (kI (i:=8) I (λj u h=>by simpa using h) (bC 1) aln) I I I (λu hu=>Tq c u hu) J J I λGS=>(aO (bV [6]) ?_))
   try refine GW ?_
   refine aM I (aX (i:=1) I λju l_=>bJ (i:=0) I I I ju l_ I (aO (bV [6]) ?_))
   try refine GW ?_
   refine dv [0,1,2,3,4,5,7] ?_;exact eh GS trivial (by repeat' (first|exact cV|refine cP I ?_)) (by rw[bK,ir];rfl)
  refine fw (cs:=(ed c).toArray) [oR c] I I I (by intro v hv;simp at hv;subst hv;rfl) I I I λg33=>(aO (bV [6]) ?_);refine aM I (dm (aC (v:=av bc p.bm.length cc) aL.ty I (aI (i:=0) I I)) I I I (aO (bV [6]) ?_));refine aM I (ee (i:=1) (e:=84) (size:=4) (bytes:=32) (m:=p.bm.length) (xs:=p.bm.flatMap ed) (k:=1) (ys:=ed c) I (kI (i:=8) I (λj u h=>by simpa using h) (bC 1) aln) I I I (λu hu=>Tq c u hu) J J I λGS=>(aO (bV [6]) ?_))
  try refine GW ?_
  refine aM I (aX (i:=1) I λju l_=>bJ (i:=0) I I I ju l_ I (aO (bV [6]) ?_))
  try refine GW ?_
  refine dv [0,1,2,3,4,5,7] ?_;exact eh GS trivial (by repeat' (first|exact cV|refine cP I ?_)) (by rw[bK,ir];rfl)
 clear o9 zo;intro GS _
 try refine GA ?_
 (repeat refine cB ?_)
 have JU:=hp.rules;refine ml (ι:=Value) (λ_=>True) (λ_=>[(0,aK (aj ⟨g,0,ak⟩)),(4,aK (aj ⟨g4,0,ak⟩)),(5,az aB p.bm.length)])
  (λCV=>[aR g (To GS CV vf vfol vl ve bU) 195,a_ 84 4 GS (p.bm++[c]).length ((p.bm++[c]).flatMap ed),gL CV (p.rules++[bU]),yJ vfol vs,v_ F vs p.follow,a_ 4 1 vl p.last.length (p.last.map fT),aR g4 #[.bool aF,av ak 0 0,av ak 0 0] 197]) ?_ ?_
 ·refine dH ([MV g bU]) (.calm 0 (.calm 1 (.calm 2 (.calm 3 (.calm 4 (.calm 6 (.calm 7 (.calm 8 (.calm 9 (.two 5 (.one 10 (.one 11 (.calm 12 (.calm 13 (.calm 14 (.one 15 (.done))))))) 10 (.one 5 (.one 11 (.calm 12 (.calm 13 (.calm 14 (.one 15 (.done))))))))))))))))) (mV I) ?_
  repeat(first|refine GW ?_|(refine GN ?_;first|refine QW (aC (v:=az aB bU) aL.ty I (adk (i:=0) I)) ?_))
  refine eN I I ?_ ?_
  ·refine dm (aC (v:=vr) aL.ty I (aI (i:=0) I I)) I I I (aO (mV I) ?_)
   refine aM I (fw (cs:=#[az aB bU]) [az aB bU] I I I (by intro v hv;simp at hv;subst hv;rfl) I I I λg48=>(aO (mV I) ?_));refine aM I (ee (i:=2) (e:=3) (size:=1) (bytes:=8) (m:=p.rules.length) (xs:=p.rules.map (az .i64)) (k:=1) (ys:=[az aB bU]) I (kI (i:=7) I (λj u h=>by simpa using h) (bC 1) aln) I I I (λu hu=>by rw[eV.1 hu];rfl) J J I λCV=>(aO (mV I) ?_))
   try refine GW ?_
   refine aM I (aX (i:=2) I λju l_=>bJ (i:=0) I I I ju l_ I (aO (mV (vc:=GS) (vr:=CV) (vf:=vf) (vfol:=vfol) (vl:=vl) (ve:=ve) I) ?_))
   try refine GW ?_
   refine dv [0,1,2,3,4,5,6] ?_;exact eh CV trivial (by repeat' (first|exact cV|refine cP I ?_)) (by rw[<-H_ CV p.rules bU];rfl)
  refine fw (cs:=#[az aB bU]) [az aB bU] I I I (by intro v hv;simp at hv;subst hv;rfl) I I I λg48=>(aO (mV I) ?_);refine aM I (dm (aC (v:=vr) aL.ty I (aI (i:=0) I I)) I I I (aO (mV I) ?_));refine aM I (ee (i:=2) (e:=3) (size:=1) (bytes:=8) (m:=p.rules.length) (xs:=p.rules.map (az .i64)) (k:=1) (ys:=[az aB bU]) I (kI (i:=7) I (λj u h=>by simpa using h) (bC 1) aln) I I I (λu hu=>by rw[eV.1 hu];rfl) J J I λCV=>(aO (mV I) ?_))
  try refine GW ?_
  refine aM I (aX (i:=2) I λju l_=>bJ (i:=0) I I I ju l_ I (aO (mV (vc:=GS) (vr:=CV) (vf:=vf) (vfol:=vfol) (vl:=vl) (ve:=ve) I) ?_))
  try refine GW ?_
  refine dv [0,1,2,3,4,5,6] ?_;exact eh CV trivial (by repeat' (first|exact cV|refine cP I ?_)) (by rw[<-H_ CV p.rules bU];rfl)
 intro CV _;have ue:=hp.follow;have Pt:=hp.last
 repeat(first|refine GA ?_|refine gV (aC (v:=vfol) aL.ty I (aI (i:=0) I I)) ?_)
 refine iA (i:=3) (bytes:=24) I I I I I I (λz h=>by cases h;rfl) J J I λz1 xJ=>?_;refine zL ?_
 try refine GA ?_
 refine aX (i:=3) I λju l_=>bJ (i:=0) I I I ju l_ I ?_;refine zL ?_
 repeat(first|refine GA ?_|refine gV (aC (v:=vl) aL.ty I (aI (i:=0) I I)) ?_)
 refine iA (i:=5) (bytes:=1) I I I I I I (λz h=>by cases h;rfl) J J I λz2 Tr=>?_;refine zL ?_
 try refine GA ?_
 refine aX (i:=5) I λju l_=>bJ (i:=0) I I I ju l_ I ?_;refine zL ?_
 try refine GA ?_
 refine fw (cs:=#[az aB p.bm.length]) [az aB p.bm.length] I I I (by intro v hv;simp at hv;subst hv;rfl) I I I λg76=>?_;refine zL ?_
 try refine GA ?_
 refine fw (cs:=#[az aB p.bm.length]) [az aB p.bm.length] I I I (by intro v hv;simp at hv;subst hv;rfl) I I I λg78=>?_;refine zL ?_
 repeat(first|refine GA ?_|refine gV (bB I (QI _ _ _ _ _ _)) ?_)
 refine gG 6 (cs':=#[.bool aF,av (aj ⟨g76,0,ak⟩) 1 1,av (aj ⟨g78,0,ak⟩) 1 1]) ?_;refine zL ?_
 try refine GA ?_
 refine oT (i:=7) (gL (av (aj ⟨g76,0,ak⟩) 1 1) [(p.bm.length:Int)]) I (λw h=>JZ h) (λk hk=>hk) ?_;refine oT (i:=8) (gL (av (aj ⟨g78,0,ak⟩) 1 1) [(p.bm.length:Int)]) I (λw h=>JZ h) (λk hk=>hk) ?_;refine oT (i:=4) (v_ (λk=>F k\/False) (vs++[av ak 0 0]) (p.follow++[[]])) I (λw h=>by
  have:=mO (F2:=λ_=>False) h (show agn.is (λ_=>False) w [av ak 0 0] []from⟨_,rfl,λ_ h=>(by cases h),⟨rfl,.inl ⟨rfl,rfl⟩⟩,λ_ h=>(by cases h)⟩) (λk hk=>hk.elim);rw[show vs.map Ab++[[av ak 0 0]]=(vs++[av ak 0 0]).map Ab by rw[eZ];rfl]at this;exact this) (λk hk=>hk.elim (λh=>by cases h) λh=>h.elim (λh=> .inr h) False.elim) ?_
 refine fW (i:=6) I I I I λw hm=>?_;refine hm.b_ (S:=cT g vf ve bU (cK bU (.byte c) p)) (⟨GS,CV,xJ,Tr,vs++[av ak 0 0],λk=>F k\/False⟩,av (aj ⟨g76,0,ak⟩) 1 1,av (aj ⟨g78,0,ak⟩) 1 1) (by show(vs++[_]).length=(p.follow++[[]]).length;rw[bK,bK,hx];rfl) [0,1,2,3,4,5,7,8] aln ?_;show[_,_,_,yJ xJ (vs++[av ak 0 0]),_,a_ 4 1 Tr (p.last++[aF]).length ((p.last++[aF]).map fT),_,_]=_
 rw[<-ZY,<-Bx];rfl
theorem VM{M:Nat}(IH:JY M)(a:Re)(ha:a.size<=M)(g:Nat)(vf ve:Value)(bU:Int)(p:PS)(x:Xh)(v:Value)(w:World)(B:bP)(hp:MP p)(hx:x.vs.length=p.follow.length)(hn:p.bm.length+(a.size+1)<=100000)(QJ:cL.dV bU)(hv:ot (Bw B) B.w v (l5 (.star a)))(hm:Mem B (nQ g vf ve bU x p) w):
 Calls aE 73 #[aK (aj ⟨g,0,ak⟩),v] w (cZ (cT g vf ve bU (cK bU (.star a) p)) B):=by
 obtain⟨vk,rfl,_,SY⟩:=hv;obtain⟨bk,ck,rfl,h1,h2,h3⟩:=SY;obtain⟨b,off,rfl,hF,eR⟩:=h3 (by show 0<1;decide);obtain⟨kb,kc,hr,VN⟩:=qD (k:=0) eR (by show 0<1;decide);have dy:=λ(L:List b9) (j:Nat) (v:Value) hj=>s_ (L:=L) hF hr j v hj;clear h3 eR hr;obtain⟨Gw,Xf,hp3,hp4,hp5⟩:=l9 bU a p hp;have afd:cK bU (.star a) p=(⟨aD,(cK bU a p).1.first,(cK bU a p).1.last⟩,{(cK bU a p).2 with follow:=fF (cK bU a p).2.follow (cK bU a p).1.last (cK bU a p).1.first}):=rfl;have hIH:=λw B hv hm=>IH a ha g vf ve bU p x (qY (l5 a).kind (l5 a).uO (av kb (l5 a).kids.length kc)) w B hp hx J QJ hv hm;rw[afd];generalize cK bU a p=R at*;obtain⟨⟨e,first,last⟩,p'⟩:=R;dsimp only at Gw Xf hp3 hp4 hp5⊢;clear afd;unfold nQ at hm;refine du hm (args:=[aK (aj ⟨g,0,ak⟩),qY 6 C4.zero (av (aj ⟨b,off,ak⟩) 1 ck)]) (n:=176) Tryz.func73 I I I ?_;clear hm;refine cB (bD (bL I I I λg3=>a8 I λg4=>?_));refine zL ?_
 repeat(first|refine GA ?_|refine gV (aC (v:=az aB 6) aL.ty I (aI (i:=6) I I)) ?_|refine gV (aC (v:=av (aj ⟨b,off,ak⟩) 1 ck) aL.ty I (aI (i:=6) I I)) ?_|refine gV (aZ (j:=0) bQ.eq aL.ty I I aln) ?_|refine gV (aY aL.ty I I (dy _)) ?_)
 refine bz [0,1,2,3,4,5] [6,7] aln I I (fC aJ.en I I I) (λw hm hb=>hIH w _ (fg (hm.pick [0,1,2,3,4,5] aln I) VN) hb) I I I ?_;rintro⟨⟨vc,vr,vfol,vl,vs,F⟩,va,vb⟩ SG;have SG:vs.length=p'.follow.length:=SG
 conv=>arg 8;simp only[zJ,cD,ret,id_eq,cT,nQ]
 conv=>arg 7;simp only[cT]
 refine aX (i:=8) I λakV aia=>?_;refine aX (i:=9) I λakW aib=>?_;refine a8 I λg6=>?_;refine zL ?_;refine aW (i:=10) (cs':=#[.bool e,va,vb]) I I I I (by simp only[c_,db,aia,aib];rfl) I ?_;refine zL ?_
 repeat(first|refine GA ?_|refine gV (aC (v:=vb) aL.ty I (aI (i:=10) I I)) ?_|refine gV (aC (v:=va) aL.ty I (aI (i:=10) I I)) ?_)
 refine bz [2,5,6,9,8] [0,1,3,4,7,10] aln I I (qq aJ.en I I I I) (λw hm hb=>Ac g vc vr vf vfol vl ve bU vb va vs F p'.follow last first w _ SG (by rw[Gw.follow];omega) (by rw[Gw.follow];exact Gw.ris) (by rw[Gw.follow];exact hp5) (by rw[Gw.follow];exact hp4) hb) I I I ?_;rintro⟨pO,F'⟩ fK;have fK:pO.length=p'.follow.length:=fK
 conv=>arg 8;simp only[zJ,cD,ret,id_eq,Tp]
 try refine GA ?_
 refine bJ (i:=5) I I I I I I ?_;refine zL ?_
 repeat(first|refine GA ?_|refine gV (aP (i:=5) aL.ty I I I) ?_)
 refine aW (i:=1) (cs':=#[.bool aD,va,vb]) I I I I (by simp only[c_,db,aia,aib];rfl) I ?_;refine zL ?_
 try refine GA ?_
 refine fW (i:=1) I I I I λw hm=>?_;exact hm.b_ (S:=cT g vf ve bU (⟨aD,first,last⟩,{p' with follow:=fF p'.follow last first})) (⟨vc,vr,vfol,vl,pO,F'⟩,va,vb) (by show pO.length=(fF p'.follow last first).length;rw[lu];exact fK) [6,2,3,7,8,4,10,9] aln I
theorem nJ(e:Bool)(b b':Option Addr)(m m' k k':Nat)(w:World):(dg 197 #[(0,.bool e),(1,av b m k),(2,av b' m' k')]).run aE w= .ok (aQ #[.bool e,av b m k,av b' m' k']) w:=by
 go_simp
set_option maxRecDepth 100000 in
theorem ZZ{M:Nat}(IH:JY M)(a b1:Re)(ha:a.size<=M)(GP:b1.size<=M)(g:Nat)(vf ve:Value)(bU:Int)(p:PS)(x:Xh)(v:Value)(w:World)(B:bP)(hp:MP p)(hx:x.vs.length=p.follow.length)(hn:p.bm.length+(a.size+b1.size+1)<=100000)(QJ:cL.dV bU)(hv:ot (Bw B) B.w v (l5 (.Jo a b1)))(hm:Mem B (nQ g vf ve bU x p) w):
 Calls aE 73 #[aK (aj ⟨g,0,ak⟩),v] w (cZ (cT g vf ve bU (cK bU (.Jo a b1) p)) B):=by
 obtain⟨vk,rfl,_,SY⟩:=hv;obtain⟨bk,ck,rfl,h1,h2,h3⟩:=SY;obtain⟨b,off,rfl,hF,eR⟩:=h3 (by show 0<2;decide);obtain⟨kb,kc,hr,we⟩:=qD (k:=0) eR (by show 0<2;decide);obtain⟨kb2,kc2,tV,ly⟩:=qD (k:=1) eR (by show 1<2;decide);have J0:=λ(L:List b9) (j:Nat) (v:Value) hj=>s_ (L:=L) hF hr j v hj;have q_:=λ(L:List b9) (j:Nat) (v:Value) hj=>s_ (L:=L) hF tV j v hj;clear h3 eR hr tV;obtain⟨Gw,Xf,hp3,hp4,hp5⟩:=l9 bU a p hp;obtain⟨kp1,kp2,kp3,kp4,kp5⟩:=l9 bU b1 _ Gw;have VO:=λw B hv hm=>IH a ha g vf ve bU p x (qY (l5 a).kind (l5 a).uO (av kb (l5 a).kids.length kc)) w B hp hx J QJ hv hm;have By:=λx1 kr w B hv hm=>IH b1 GP g vf ve bU (cK bU a p).2 x1 (qY (l5 b1).kind (l5 b1).uO (av kb2 (l5 b1).kids.length kc2)) w B Gw kr J QJ hv hm;rw[show cK bU (.Jo a b1) p=(⟨(cK bU a p).1.empty||(cK bU b1 (cK bU a p).2).1.empty,re (cK bU a p).1.first (cK bU b1 (cK bU a p).2).1.first,re (cK bU a p).1.last (cK bU b1 (cK bU a p).2).1.last⟩,(cK bU b1 (cK bU a p).2).2)from I];generalize cK bU b1 (cK bU a p).2=R2 at*;generalize cK bU a p=R1 at*;obtain⟨⟨e1,iu,kT⟩,p1⟩:=R1;obtain⟨⟨e2,iF,kz⟩,p2⟩:=R2;dsimp only at Gw Xf hp3 hp4 hp5 kp1 kp2 kp3 kp4 kp5 By⊢;unfold nQ at hm;refine du hm (args:=[aK (aj ⟨g,0,ak⟩),qY 5 C4.zero (av (aj ⟨b,off,ak⟩) 2 ck)]) (n:=176) Tryz.func73 I I I ?_;clear hm;refine cB (bD (bL I I I λg3=>a8 I λg4=>?_));refine zL ?_
 repeat(first|refine GA ?_|refine gV (aC (v:=az aB 5) aL.ty I (aI (i:=6) I I)) ?_)
 (repeat refine cB ?_)
 refine ml (ι:=Xh×Value×Value×Value×Value×Nat×Nat) (λy=>y.1.vs.length=p2.follow.length) (λy=>[(0,aK (aj ⟨g,0,ak⟩)),(4,aK (aj ⟨g4,0,ak⟩)),(7,aK (aj ⟨y.2.2.2.2.2.1,0,ak⟩)),(8,aK (aj ⟨y.2.2.2.2.2.2,0,ak⟩))])
  (λy=>nQ g vf ve bU y.1 p2++[gL y.2.1 iu,gL y.2.2.1 kT,gL y.2.2.2.1 iF,gL y.2.2.2.2.1 kz,aR g4 #[.bool aF,av ak 0 0,av ak 0 0] 197,aR y.2.2.2.2.2.1 #[.bool e1,y.2.1,y.2.2.1] 197,aR y.2.2.2.2.2.2 #[.bool e2,y.2.2.2.1,y.2.2.2.2.1] 197]) ?_ ?_
 ·refine dH ([aR g3 (mG 5 C4.zero (av (aj ⟨b,off,ak⟩) 2 ck)).toArray 87]) (.calm 0 (.calm 1 (.calm 2 (.calm 3 (.calm 4 (.calm 6 (.calm 7 (.calm 8 (.calm 9 (.calm 10 (.three 5 (.three 11 (.two 12 (.one 13 (.one 14 (.one 15 (.done)))) 13 (.one 12 (.one 14 (.one 15 (.done))))) 12 (.two 11 (.one 13 (.one 14 (.one 15 (.done)))) 13 (.one 11 (.one 14 (.one 15 (.done))))) 13 (.two 11 (.one 12 (.one 14 (.one 15 (.done)))) 12 (.one 11 (.one 14 (.one 15 (.done)))))) 12 (.two 5 (.two 11 (.one 13 (.one 14 (.one 15 (.done)))) 13 (.one 11 (.one 14 (.one 15 (.done))))) 13 (.one 5 (.one 11 (.one 14 (.one 15 (.done)))))) 13 (.two 5 (.two 11 (.one 12 (.one 14 (.one 15 (.done)))) 12 (.one 11 (.one 14 (.one 15 (.done))))) 12 (.one 5 (.one 11 (.one 14 (.one 15 (.done))))))))))))))))) (bV [6]) ?_
  repeat(first|refine GW ?_|(refine GN ?_;first|refine QW (aC (v:=av (aj ⟨b,off,ak⟩) 2 ck) aL.ty I (aI (i:=0) I I)) ?_|refine QW (aZ (j:=0) bQ.eq aL.ty I I aln) ?_|refine QW (aZ (j:=1) bQ.eq aL.ty I I aln) ?_|refine QW (aY aL.ty I I (J0 _)) ?_|refine QW (aY aL.ty I I (q_ _)) ?_))
  refine zn I I I ?_ ?_ ?_
  ·refine bz [0,1,2,3,4,5] [6,7] aln I I (fC aJ.en I I I) (λw hm hb=>VO w _ (fg (hm.pick [0,1,2,3,4,5] aln I) we) hb) I I I ?_
   rintro⟨⟨uf,uh,gY,ui,n9,F1⟩,mv,lU⟩ kr;have kr:n9.length=p1.follow.length:=kr
   conv=>arg 8;simp only[zJ,cD,ret,id_eq,cT,nQ]
   conv=>arg 7;simp only[cT]
   refine aO (bV [0]) ?_;refine zn I I I ?_ ?_ ?_
   ·refine bz [2,3,4,5,6,7] [0,1,8,9] aln I I (fC aJ.en I I I) (λw hm hb=>By ⟨uf,uh,gY,ui,n9,F1⟩ kr w _ (fg (hm.pick [2,3,4,5,6,7] aln I) ly) hb) I I I ?_
    rintro⟨⟨qv,qw,fm,qx,lJ,F2⟩,kj,kL⟩ fK;have fK:lJ.length=p2.follow.length:=fK
    conv=>arg 8;simp only[zJ,cD,ret,id_eq,cT,nQ]
    conv=>arg 7;simp only[cT]
    refine aO (bV [0]) ?_;refine eN I I ?_ ?_
    ·refine a8 I λg7=>(aO (bV [0]) ?_)
     refine aM I (a8 I λg8=>(aO (bV [0]) ?_));refine aM I (aX (i:=2) I λ_ pP=>aX (i:=3) I λ_ pQ=>aW (i:=12) (cs':=#[.bool e1,mv,lU]) I I I I (by simp only[c_,db,pP,pQ];rfl) I (aO (bV [0]) ?_))
     try refine GW ?_
     refine aM I (aX (i:=10) I λ_ pR=>aX (i:=11) I λ_ pS=>aW (i:=13) (cs':=#[.bool e2,kj,kL]) I I I I (by simp only[c_,db,pR,pS];rfl) I (aO (bV [0]) ?_))
     try refine GW ?_
     refine dv [4,5,6,7,8,9,2,3,10,11,1,12,13] ?_;exact eh (⟨qv,qw,fm,qx,lJ,F2⟩,mv,lU,kj,kL,g7,g8) fK (by repeat' (first|exact cV|refine cP I ?_)) I
    refine a8 I λg8=>(aO (bV [0]) ?_);refine aM I (a8 I λg7=>(aO (bV [0]) ?_));refine aM I (aX (i:=2) I λ_ pP=>aX (i:=3) I λ_ pQ=>aW (i:=13) (cs':=#[.bool e1,mv,lU]) I I I I (by simp only[c_,db,pP,pQ];rfl) I (aO (bV [0]) ?_))
    try refine GW ?_
    refine aM I (aX (i:=10) I λ_ pR=>aX (i:=11) I λ_ pS=>aW (i:=12) (cs':=#[.bool e2,kj,kL]) I I I I (by simp only[c_,db,pR,pS];rfl) I (aO (bV [0]) ?_))
    try refine GW ?_
    refine dv [4,5,6,7,8,9,2,3,10,11,1,13,12] ?_;exact eh (⟨qv,qw,fm,qx,lJ,F2⟩,mv,lU,kj,kL,g7,g8) fK (by repeat' (first|exact cV|refine cP I ?_)) I
   ·refine a8 I λg7=>(aO (bV [0]) ?_)
    refine eN I I ?_ ?_
    ·refine bz [2,3,4,5,6,7] [0,1,8,9,10] aln I I (fC aJ.en I I I) (λw hm hb=>By ⟨uf,uh,gY,ui,n9,F1⟩ kr w _ (fg (hm.pick [2,3,4,5,6,7] aln I) ly) hb) I I I ?_
     rintro⟨⟨qv,qw,fm,qx,lJ,F2⟩,kj,kL⟩ fK;have fK:lJ.length=p2.follow.length:=fK
     conv=>arg 8;simp only[zJ,cD,ret,id_eq,cT,nQ]
     conv=>arg 7;simp only[cT]
     refine aO (bV [0]) ?_;refine aM I (a8 I λg8=>(aO (bV [0]) ?_));refine aM I (aX (i:=2) I λ_ pP=>aX (i:=3) I λ_ pQ=>aW (i:=4) (cs':=#[.bool e1,mv,lU]) I I I I (by simp only[c_,db,pP,pQ];rfl) I (aO (bV [0]) ?_))
     try refine GW ?_
     refine aM I (aX (i:=11) I λ_ pR=>aX (i:=12) I λ_ pS=>aW (i:=13) (cs':=#[.bool e2,kj,kL]) I I I I (by simp only[c_,db,pR,pS];rfl) I (aO (bV [0]) ?_))
     try refine GW ?_
     refine dv [5,6,7,8,9,10,2,3,11,12,1,4,13] ?_;exact eh (⟨qv,qw,fm,qx,lJ,F2⟩,mv,lU,kj,kL,g7,g8) fK (by repeat' (first|exact cV|refine cP I ?_)) I
    refine a8 I λg8=>(aO (bV [0]) ?_);refine aM I (bz [2,3,4,5,6,7] [0,1,8,9,10,11] aln I I (fC aJ.en I I I) (λw hm hb=>By ⟨uf,uh,gY,ui,n9,F1⟩ kr w _ (fg (hm.pick [2,3,4,5,6,7] aln I) ly) hb) I I I ?_);rintro⟨⟨qv,qw,fm,qx,lJ,F2⟩,kj,kL⟩ fK;have fK:lJ.length=p2.follow.length:=fK
    conv=>arg 8;simp only[zJ,cD,ret,id_eq,cT,nQ]
    conv=>arg 7;simp only[cT]
    refine aO (bV [0]) ?_;refine aM I (aX (i:=2) I λ_ pP=>aX (i:=3) I λ_ pQ=>aW (i:=4) (cs':=#[.bool e1,mv,lU]) I I I I (by simp only[c_,db,pP,pQ];rfl) I (aO (bV [0]) ?_))
    try refine GW ?_
    refine aM I (aX (i:=12) I λ_ pR=>aX (i:=13) I λ_ pS=>aW (i:=5) (cs':=#[.bool e2,kj,kL]) I I I I (by simp only[c_,db,pR,pS];rfl) I (aO (bV [0]) ?_))
    try refine GW ?_
    refine dv [6,7,8,9,10,11,2,3,12,13,1,4,5] ?_;exact eh (⟨qv,qw,fm,qx,lJ,F2⟩,mv,lU,kj,kL,g7,g8) fK (by repeat' (first|exact cV|refine cP I ?_)) I
   refine a8 I λg8=>(aO (bV [0]) ?_);refine eN I I ?_ ?_
   ·refine bz [2,3,4,5,6,7] [0,1,8,9,10] aln I I (fC aJ.en I I I) (λw hm hb=>By ⟨uf,uh,gY,ui,n9,F1⟩ kr w _ (fg (hm.pick [2,3,4,5,6,7] aln I) ly) hb) I I I ?_
    rintro⟨⟨qv,qw,fm,qx,lJ,F2⟩,kj,kL⟩ fK;have fK:lJ.length=p2.follow.length:=fK
    conv=>arg 8;simp only[zJ,cD,ret,id_eq,cT,nQ]
    conv=>arg 7;simp only[cT]
    refine aO (bV [0]) ?_;refine aM I (a8 I λg7=>(aO (bV [0]) ?_));refine aM I (aX (i:=2) I λ_ pP=>aX (i:=3) I λ_ pQ=>aW (i:=13) (cs':=#[.bool e1,mv,lU]) I I I I (by simp only[c_,db,pP,pQ];rfl) I (aO (bV [0]) ?_))
    try refine GW ?_
    refine aM I (aX (i:=11) I λ_ pR=>aX (i:=12) I λ_ pS=>aW (i:=4) (cs':=#[.bool e2,kj,kL]) I I I I (by simp only[c_,db,pR,pS];rfl) I (aO (bV [0]) ?_))
    try refine GW ?_
    refine dv [5,6,7,8,9,10,2,3,11,12,1,13,4] ?_;exact eh (⟨qv,qw,fm,qx,lJ,F2⟩,mv,lU,kj,kL,g7,g8) fK (by repeat' (first|exact cV|refine cP I ?_)) I
   refine a8 I λg7=>(aO (bV [0]) ?_);refine aM I (bz [2,3,4,5,6,7] [0,1,8,9,10,11] aln I I (fC aJ.en I I I) (λw hm hb=>By ⟨uf,uh,gY,ui,n9,F1⟩ kr w _ (fg (hm.pick [2,3,4,5,6,7] aln I) ly) hb) I I I ?_);rintro⟨⟨qv,qw,fm,qx,lJ,F2⟩,kj,kL⟩ fK;have fK:lJ.length=p2.follow.length:=fK
   conv=>arg 8;simp only[zJ,cD,ret,id_eq,cT,nQ]
   conv=>arg 7;simp only[cT]
   refine aO (bV [0]) ?_;refine aM I (aX (i:=2) I λ_ pP=>aX (i:=3) I λ_ pQ=>aW (i:=5) (cs':=#[.bool e1,mv,lU]) I I I I (by simp only[c_,db,pP,pQ];rfl) I (aO (bV [0]) ?_))
   try refine GW ?_
   refine aM I (aX (i:=12) I λ_ pR=>aX (i:=13) I λ_ pS=>aW (i:=4) (cs':=#[.bool e2,kj,kL]) I I I I (by simp only[c_,db,pR,pS];rfl) I (aO (bV [0]) ?_))
   try refine GW ?_
   refine dv [6,7,8,9,10,11,2,3,12,13,1,5,4] ?_;exact eh (⟨qv,qw,fm,qx,lJ,F2⟩,mv,lU,kj,kL,g7,g8) fK (by repeat' (first|exact cV|refine cP I ?_)) I
  ·refine a8 I λg7=>(aO (bV [6]) ?_)
   refine eN I I ?_ ?_
   ·refine bz [0,1,2,3,4,5] [6,7,8] aln I I (fC aJ.en I I I) (λw hm hb=>VO w _ (fg (hm.pick [0,1,2,3,4,5] aln I) we) hb) I I I ?_
    rintro⟨⟨uf,uh,gY,ui,n9,F1⟩,mv,lU⟩ kr;have kr:n9.length=p1.follow.length:=kr
    conv=>arg 8;simp only[zJ,cD,ret,id_eq,cT,nQ]
    conv=>arg 7;simp only[cT]
    refine aO (bV [0]) ?_;refine eN I I ?_ ?_
    ·refine bz [3,4,5,6,7,8] [0,1,2,9,10] aln I I (fC aJ.en I I I) (λw hm hb=>By ⟨uf,uh,gY,ui,n9,F1⟩ kr w _ (fg (hm.pick [3,4,5,6,7,8] aln I) ly) hb) I I I ?_
     rintro⟨⟨qv,qw,fm,qx,lJ,F2⟩,kj,kL⟩ fK;have fK:lJ.length=p2.follow.length:=fK
     conv=>arg 8;simp only[zJ,cD,ret,id_eq,cT,nQ]
     conv=>arg 7;simp only[cT]
     refine aO (bV [0]) ?_;refine aM I (a8 I λg8=>(aO (bV [0]) ?_));refine aM I (aX (i:=3) I λ_ pP=>aX (i:=4) I λ_ pQ=>aW (i:=2) (cs':=#[.bool e1,mv,lU]) I I I I (by simp only[c_,db,pP,pQ];rfl) I (aO (bV [0]) ?_))
     try refine GW ?_
     refine aM I (aX (i:=11) I λ_ pR=>aX (i:=12) I λ_ pS=>aW (i:=13) (cs':=#[.bool e2,kj,kL]) I I I I (by simp only[c_,db,pR,pS];rfl) I (aO (bV [0]) ?_))
     try refine GW ?_
     refine dv [5,6,7,8,9,10,3,4,11,12,1,2,13] ?_;exact eh (⟨qv,qw,fm,qx,lJ,F2⟩,mv,lU,kj,kL,g7,g8) fK (by repeat' (first|exact cV|refine cP I ?_)) I
    refine a8 I λg8=>(aO (bV [0]) ?_);refine aM I (bz [3,4,5,6,7,8] [0,1,2,9,10,11] aln I I (fC aJ.en I I I) (λw hm hb=>By ⟨uf,uh,gY,ui,n9,F1⟩ kr w _ (fg (hm.pick [3,4,5,6,7,8] aln I) ly) hb) I I I ?_);rintro⟨⟨qv,qw,fm,qx,lJ,F2⟩,kj,kL⟩ fK;have fK:lJ.length=p2.follow.length:=fK
    conv=>arg 8;simp only[zJ,cD,ret,id_eq,cT,nQ]
    conv=>arg 7;simp only[cT]
    refine aO (bV [0]) ?_;refine aM I (aX (i:=3) I λ_ pP=>aX (i:=4) I λ_ pQ=>aW (i:=2) (cs':=#[.bool e1,mv,lU]) I I I I (by simp only[c_,db,pP,pQ];rfl) I (aO (bV [0]) ?_))
    try refine GW ?_
    refine aM I (aX (i:=12) I λ_ pR=>aX (i:=13) I λ_ pS=>aW (i:=5) (cs':=#[.bool e2,kj,kL]) I I I I (by simp only[c_,db,pR,pS];rfl) I (aO (bV [0]) ?_))
    try refine GW ?_
    refine dv [6,7,8,9,10,11,3,4,12,13,1,2,5] ?_;exact eh (⟨qv,qw,fm,qx,lJ,F2⟩,mv,lU,kj,kL,g7,g8) fK (by repeat' (first|exact cV|refine cP I ?_)) I
   refine a8 I λg8=>(aO (bV [6]) ?_);refine aM I (bz [0,1,2,3,4,5] [6,7,8,9] aln I I (fC aJ.en I I I) (λw hm hb=>VO w _ (fg (hm.pick [0,1,2,3,4,5] aln I) we) hb) I I I ?_);rintro⟨⟨uf,uh,gY,ui,n9,F1⟩,mv,lU⟩ kr;have kr:n9.length=p1.follow.length:=kr
   conv=>arg 8;simp only[zJ,cD,ret,id_eq,cT,nQ]
   conv=>arg 7;simp only[cT]
   refine aO (bV [0]) ?_;refine aM I (bz [4,5,6,7,8,9] [0,1,2,3,10,11] aln I I (fC aJ.en I I I) (λw hm hb=>By ⟨uf,uh,gY,ui,n9,F1⟩ kr w _ (fg (hm.pick [4,5,6,7,8,9] aln I) ly) hb) I I I ?_);rintro⟨⟨qv,qw,fm,qx,lJ,F2⟩,kj,kL⟩ fK;have fK:lJ.length=p2.follow.length:=fK
   conv=>arg 8;simp only[zJ,cD,ret,id_eq,cT,nQ]
   conv=>arg 7;simp only[cT]
   refine aO (bV [0]) ?_;refine aM I (aX (i:=4) I λ_ pP=>aX (i:=5) I λ_ pQ=>aW (i:=2) (cs':=#[.bool e1,mv,lU]) I I I I (by simp only[c_,db,pP,pQ];rfl) I (aO (bV [0]) ?_))
   try refine GW ?_
   refine aM I (aX (i:=12) I λ_ pR=>aX (i:=13) I λ_ pS=>aW (i:=3) (cs':=#[.bool e2,kj,kL]) I I I I (by simp only[c_,db,pR,pS];rfl) I (aO (bV [0]) ?_))
   try refine GW ?_
   refine dv [6,7,8,9,10,11,4,5,12,13,1,2,3] ?_;exact eh (⟨qv,qw,fm,qx,lJ,F2⟩,mv,lU,kj,kL,g7,g8) fK (by repeat' (first|exact cV|refine cP I ?_)) I
  refine a8 I λg8=>(aO (bV [6]) ?_);refine eN I I ?_ ?_
  ·refine bz [0,1,2,3,4,5] [6,7,8] aln I I (fC aJ.en I I I) (λw hm hb=>VO w _ (fg (hm.pick [0,1,2,3,4,5] aln I) we) hb) I I I ?_
   rintro⟨⟨uf,uh,gY,ui,n9,F1⟩,mv,lU⟩ kr;have kr:n9.length=p1.follow.length:=kr
   conv=>arg 8;simp only[zJ,cD,ret,id_eq,cT,nQ]
   conv=>arg 7;simp only[cT]
   refine aO (bV [0]) ?_;refine eN I I ?_ ?_
   ·refine bz [3,4,5,6,7,8] [0,1,2,9,10] aln I I (fC aJ.en I I I) (λw hm hb=>By ⟨uf,uh,gY,ui,n9,F1⟩ kr w _ (fg (hm.pick [3,4,5,6,7,8] aln I) ly) hb) I I I ?_
    rintro⟨⟨qv,qw,fm,qx,lJ,F2⟩,kj,kL⟩ fK;have fK:lJ.length=p2.follow.length:=fK
    conv=>arg 8;simp only[zJ,cD,ret,id_eq,cT,nQ]
    conv=>arg 7;simp only[cT]
    refine aO (bV [0]) ?_;refine aM I (a8 I λg7=>(aO (bV [0]) ?_));refine aM I (aX (i:=3) I λ_ pP=>aX (i:=4) I λ_ pQ=>aW (i:=13) (cs':=#[.bool e1,mv,lU]) I I I I (by simp only[c_,db,pP,pQ];rfl) I (aO (bV [0]) ?_))
    try refine GW ?_
    refine aM I (aX (i:=11) I λ_ pR=>aX (i:=12) I λ_ pS=>aW (i:=2) (cs':=#[.bool e2,kj,kL]) I I I I (by simp only[c_,db,pR,pS];rfl) I (aO (bV [0]) ?_))
    try refine GW ?_
    refine dv [5,6,7,8,9,10,3,4,11,12,1,13,2] ?_;exact eh (⟨qv,qw,fm,qx,lJ,F2⟩,mv,lU,kj,kL,g7,g8) fK (by repeat' (first|exact cV|refine cP I ?_)) I
   refine a8 I λg7=>(aO (bV [0]) ?_);refine aM I (bz [3,4,5,6,7,8] [0,1,2,9,10,11] aln I I (fC aJ.en I I I) (λw hm hb=>By ⟨uf,uh,gY,ui,n9,F1⟩ kr w _ (fg (hm.pick [3,4,5,6,7,8] aln I) ly) hb) I I I ?_);rintro⟨⟨qv,qw,fm,qx,lJ,F2⟩,kj,kL⟩ fK;have fK:lJ.length=p2.follow.length:=fK
   conv=>arg 8;simp only[zJ,cD,ret,id_eq,cT,nQ]
   conv=>arg 7;simp only[cT]
   refine aO (bV [0]) ?_;refine aM I (aX (i:=3) I λ_ pP=>aX (i:=4) I λ_ pQ=>aW (i:=5) (cs':=#[.bool e1,mv,lU]) I I I I (by simp only[c_,db,pP,pQ];rfl) I (aO (bV [0]) ?_))
   try refine GW ?_
   refine aM I (aX (i:=12) I λ_ pR=>aX (i:=13) I λ_ pS=>aW (i:=2) (cs':=#[.bool e2,kj,kL]) I I I I (by simp only[c_,db,pR,pS];rfl) I (aO (bV [0]) ?_))
   try refine GW ?_
   refine dv [6,7,8,9,10,11,3,4,12,13,1,5,2] ?_;exact eh (⟨qv,qw,fm,qx,lJ,F2⟩,mv,lU,kj,kL,g7,g8) fK (by repeat' (first|exact cV|refine cP I ?_)) I
  refine a8 I λg7=>(aO (bV [6]) ?_);refine aM I (bz [0,1,2,3,4,5] [6,7,8,9] aln I I (fC aJ.en I I I) (λw hm hb=>VO w _ (fg (hm.pick [0,1,2,3,4,5] aln I) we) hb) I I I ?_);rintro⟨⟨uf,uh,gY,ui,n9,F1⟩,mv,lU⟩ kr;have kr:n9.length=p1.follow.length:=kr
  conv=>arg 8;simp only[zJ,cD,ret,id_eq,cT,nQ]
  conv=>arg 7;simp only[cT]
  refine aO (bV [0]) ?_;refine aM I (bz [4,5,6,7,8,9] [0,1,2,3,10,11] aln I I (fC aJ.en I I I) (λw hm hb=>By ⟨uf,uh,gY,ui,n9,F1⟩ kr w _ (fg (hm.pick [4,5,6,7,8,9] aln I) ly) hb) I I I ?_);rintro⟨⟨qv,qw,fm,qx,lJ,F2⟩,kj,kL⟩ fK;have fK:lJ.length=p2.follow.length:=fK
  conv=>arg 8;simp only[zJ,cD,ret,id_eq,cT,nQ]
  conv=>arg 7;simp only[cT]
  refine aO (bV [0]) ?_;refine aM I (aX (i:=4) I λ_ pP=>aX (i:=5) I λ_ pQ=>aW (i:=3) (cs':=#[.bool e1,mv,lU]) I I I I (by simp only[c_,db,pP,pQ];rfl) I (aO (bV [0]) ?_))
  try refine GW ?_
  refine aM I (aX (i:=12) I λ_ pR=>aX (i:=13) I λ_ pS=>aW (i:=2) (cs':=#[.bool e2,kj,kL]) I I I I (by simp only[c_,db,pR,pS];rfl) I (aO (bV [0]) ?_))
  try refine GW ?_
  refine dv [6,7,8,9,10,11,4,5,12,13,1,3,2] ?_;exact eh (⟨qv,qw,fm,qx,lJ,F2⟩,mv,lU,kj,kL,g7,g8) fK (by repeat' (first|exact cV|refine cP I ?_)) I
 clear VO By J0 q_;rintro⟨⟨vc,vr,vfol,vl,vs,F⟩,mv,lU,kj,kL,g7,g8⟩ fK;have fK:vs.length=p2.follow.length:=fK;dsimp only
 conv=>arg 7;simp only[zA,zB,zC,zD,zE,zF,zG,zH,zI,cD,ret,id_eq,nQ]
 have Lo:=ki hp4;have GH:=ki hp5;have ZL:=ki kp4;have hl4:=ki kp5
 cases e1 with
 | true=>
  (repeat refine cB ?_)
  refine dH ([aR g7 #[.bool aD,mv,lU] 197,aR g8 #[.bool e2,kj,kL] 197]) (.calm 0 (.calm 1 (.calm 2 (.calm 3 (.calm 4 (.calm 5 (.calm 6 (.calm 7 (.calm 8 (.calm 9 (.calm 11 (.calm 12 (.calm 13 (.calm 14 (.one 10 (.one 15 (.calm 16 (.one 17 (.done))))))))))))))))))) (bV [11,12]) ?_
  repeat(first|refine GW ?_|(refine GN ?_;first|refine QW (aC aL.ty I (aI (i:=0) I I)) ?_|refine QW (aC aL.ty I (aI (i:=1) I I)) ?_))
  refine aM I (aU (fC aJ.en I I I) (λw' hm=>iK mv kj iu iF w' (Sl.dx (hm.get (i:=6) I)) (Sl.dx (hm.get (i:=8) I)) J J) I I I ?_);intro vu _
  conv=>arg 8;simp only[zJ,cD,ret,id_eq,tP]
  refine aO (bV [11,12]) ?_
  try refine GW ?_
  refine aM I (aU (fC aJ.en I I I) (λw' hm=>iK lU kL kT kz w' (Sl.dx (hm.get (i:=7) I)) (Sl.dx (hm.get (i:=9) I)) J J) I I I ?_);intro vu2 _
  conv=>arg 8;simp only[zJ,cD,ret,id_eq,tP]
  refine lA (i:=13) I λbu cu hu _ _=>?_;refine lA (i:=14) I λbu2 cu2 hu2 _ _=>?_;subst hu hu2;refine aO (bV [11,12]) ?_
  repeat(first|refine GW ?_|(refine GN ?_;first|refine QW (bB I (nJ _ _ _ _ _ _ _)) ?_))
  refine aM I (aW (i:=10) (cs':=#[.bool aD,av bu (re iu iF).length cu,av bu2 (re kT kz).length cu2]) I I I I I I (aO (bV [11,12]) ?_))
  try refine GW ?_
  try refine GA ?_
  refine fW (i:=10) I I I I λw hm=>?_;exact hm.b_ (S:=cT g vf ve bU (⟨aD||e2,re iu iF,re kT kz⟩,p2)) (⟨vc,vr,vfol,vl,vs,F⟩,av bu (re iu iF).length cu,av bu2 (re kT kz).length cu2) fK [0,1,2,3,4,5,13,14] aln I
 | false=>
  (repeat refine cB ?_)
  refine dH ([aR g7 #[.bool aF,mv,lU] 197,aR g8 #[.bool e2,kj,kL] 197]) (.calm 0 (.calm 1 (.calm 2 (.calm 3 (.calm 4 (.calm 5 (.calm 6 (.calm 7 (.calm 8 (.calm 9 (.calm 11 (.calm 12 (.calm 13 (.calm 14 (.one 10 (.one 15 (.calm 16 (.one 17 (.done))))))))))))))))))) (bV [11,12]) ?_
  repeat(first|refine GW ?_|(refine GN ?_;first|refine QW (aC aL.ty I (aI (i:=0) I I)) ?_|refine QW (aC aL.ty I (aI (i:=1) I I)) ?_))
  refine aM I (aU (fC aJ.en I I I) (λw' hm=>iK mv kj iu iF w' (Sl.dx (hm.get (i:=6) I)) (Sl.dx (hm.get (i:=8) I)) J J) I I I ?_);intro vu _
  conv=>arg 8;simp only[zJ,cD,ret,id_eq,tP]
  refine aO (bV [11,12]) ?_
  try refine GW ?_
  refine aM I (aU (fC aJ.en I I I) (λw' hm=>iK lU kL kT kz w' (Sl.dx (hm.get (i:=7) I)) (Sl.dx (hm.get (i:=9) I)) J J) I I I ?_);intro vu2 _
  conv=>arg 8;simp only[zJ,cD,ret,id_eq,tP]
  refine lA (i:=13) I λbu cu hu _ _=>?_;refine lA (i:=14) I λbu2 cu2 hu2 _ _=>?_;subst hu hu2;refine aO (bV [11,12]) ?_
  repeat(first|refine GW ?_|(refine GN ?_;first|refine QW (bB I (nJ _ _ _ _ _ _ _)) ?_))
  refine aM I (aW (i:=10) (cs':=#[.bool e2,av bu (re iu iF).length cu,av bu2 (re kT kz).length cu2]) I I I I I I (aO (bV [11,12]) ?_))
  try refine GW ?_
  try refine GA ?_
  refine fW (i:=10) I I I I λw hm=>?_;exact hm.b_ (S:=cT g vf ve bU (⟨aF||e2,re iu iF,re kT kz⟩,p2)) (⟨vc,vr,vfol,vl,vs,F⟩,av bu (re iu iF).length cu,av bu2 (re kT kz).length cu2) fK [0,1,2,3,4,5,13,14] aln I
end bZ
end Go.Proofs.YthmakbpkkoeabaaGreat

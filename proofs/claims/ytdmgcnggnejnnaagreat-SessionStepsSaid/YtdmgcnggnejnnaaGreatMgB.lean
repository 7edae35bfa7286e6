/- Part 2 of what SessionSteps needs: Dfa, SmB, MapN, Fam, Sym, SymS, Gram, TreeL, TreeM, CountL, CountN, CountT, CountR, TreeW, CountX, FactsL, FactsM, FactsN, FactsP, FactsQ, Der, CountU, LlL, TreeS, IntO, FactsA, FactsB, FactsC, FactsD, FactsO, Look, GramN, Brk, SymS2, FactsE, FactsF, CountA, ItL, ItM, LrL, IntK, ItB, MapE, ItC, OrdK, OrdJ, ItH, ItN, SortC, SortI, PlacesL, PlU, PlB, PlN, PlS, PlA. -/
import Derived.Test.YtdmgcnggnejnnaaGreatMgA
import Derived.Sort.Grow
import Derived.Deep.RegionWith
import Derived.Deep.RegionHeld
import Derived.Shelf.Sort.Plain
import Derived.Ground.Names2Prog
import Derived.Shelf.Slices.CompactI
import Derived.Shelf.Slices.In.SortNone
import Derived.Lib.RowBridge
import Derived.Lib.SlicesCompact
namespace Go.Proofs.YtdmgcnggnejnnaaGreat
set_option linter.unusedVariables false
set_option linter.unusedSimpArgs false
open _root_.And renaming intro->dh
open _root_.Array renaming getElem?_eq_some_iff->lA,getElem?_toList->qS,getElem?_eq_getElem->xF,getElem?_modify->Dc,toList_modify->NE,ext'->qJ,size_push->NF
open _root_.Array.mk renaming injEq->pv
open _root_.BitVec renaming getLsbD_eq_getElem->NG,getLsbD_ofNat->NH,ofInt->H2,ofInt_natCast->VO
open _root_.Bool renaming false->aE,true->aD,and_eq_true->fU,or_eq_true->mA,not_eq_true'->zu,or_eq_false_iff->Dd,not_eq_true->VP
open _root_.Classical renaming choose_spec->CC,choose->HA,em->acO
open _root_.Go.Instr renaming build->dR,mapUpdate->zM,lookup->H3,entryStore->NI,mapEntry->NJ
open _root_.Go.IntKind renaming i64->az,bits->lB,signed->oY,wrap_u64->tO,u64->xi,min->zN,max->zO
open _root_.Go.Lib renaming compact->qU
open _root_.Go.MapKept renaming run_getObj_map->Ac,run_setObj_map->H4
open _root_.Go.Op renaming shift->jd
open _root_.Go.Oper renaming wp->gG
open _root_.Go.Program renaming keyLits->sh
open _root_.Go.Proofs.Tryz renaming prog->aC
open _root_.Go.Result renaming andThen->l4
open _root_.Go.Sem renaming run_pure->mB
open _root_.Go.Value renaming slice->ap,int->av,pointer->aK,agg->aU,bool->gi
open _root_.Go.Value.agg renaming injEq->k7
open _root_.Go.Value.int renaming injEq->Ad
open _root_.Go.Value.slice renaming injEq->jQ
open _root_.Int renaming toNat_natCast->dP,eq_ofNat_of_zero_le->jg,le_refl->k8,toNat_of_nonneg->uy
open _root_.Int.ofNat renaming inj->VQ
open _root_.List renaming getElem?_eq_getElem->bQ,getD_eq_getElem?_getD->cK,length_append->bT,getElem?_eq_some_iff->dv,getElem_mem->cV,length_cons->dE,all_cons->dw,drop_eq_getElem_cons->ff,replicate->dJ,all_nil->dA,mem_singleton->ep,getElem?_append_left->fH,length_map->dX,take_succ_eq_append_getElem->ia,append_nil->eB,append_assoc->eZ,map_append->ft,getElem?_map->fx,mem_cons->ez,take_of_length_le->gj,flatMap_append->fV,nil_append->fg,mem_append->fC,range->eG,mem_map->e7,drop_of_length_le->je,getElem?_set_self->mE,length_drop->iv,mem_cons_self->ir,mem_iff_getElem->jt,map_cons->gu,getElem?_eq_none->jE,mem_cons_of_mem->mb,not_mem_nil->iD,flatMap_cons->lC,length_singleton->ky,length_take->jR,getElem?_cons_zero->sj,length_range->pw,mem_of_getElem?->mF,mem_range->nr,cons_append->ku,ext_getElem?->mG,any_eq_true->oc,mem_of_mem_drop->uz,getElem_map->sE,getElem?_take->uA,filterMap_cons_some->zR,mem_filter->tS,filterMap_append->zS,map_set->sF,map_nil->o7,set_cons_zero->H5,mem_or_eq_of_mem_set->NK,mem_append_left->tV,eq_of_mem_replicate->NL,length_mergeSort->NM,range_succ->Ae,mem_flatMap->uB,getElem?_range->De,length_set->NN,pairwise_mergeSort->VR,length_eq_zero_iff->VS,pairwise_singleton->VT,modify_succ_cons->VU,mergeSort_perm->VV,set_cons_succ->VW,getElem?_set->VX,getElem_set->VY
open _root_.List.Pairwise renaming and_mem->acP,nil->acQ
open _root_.List.cons renaming injEq->ib
open _root_.Nat renaming le_refl->bJ,zero_le->bO,zero_add->du,blt->dM,le_trans->fI,lt_of_lt_of_le->jf,not_lt_zero->mc,add_zero->iO,mul_one->kR,add_assoc->l6,lt_of_le_of_lt->xG,sub_self->px,le_add_right->Af,xor_lt_two_pow->NO,pow_lt_pow_right->VZ,or_lt_two_pow->V0,min_le_left->V1,div_le_self->V2
open _root_.Option renaming some->aj,none->ak,isSome->NP,getD->V3
open _root_.Option.some renaming injEq->dB
open _root_.Prod renaming ext->od
open _root_.Prod.mk renaming injEq->gH
open _root_.True renaming intro->dl
open _root_.UInt8 renaming ofNat->gv,toNat_ofNat'->V4
set_option maxHeartbeats 16000000
namespace cZ
open Go.RowKit dr eH yy
theorem acR{rows:List (List Int)}{i:Nat}(hi:i<rows.length):rows.getD i []=rows[i]:=by rw[cK,bQ hi];rfl
theorem NQ{l:List Int}{i:Nat}(hi:i<l.length):l.getD i 0=l[i]:=by rw[cK,bQ hi];rfl
theorem Sg{n i:Nat}{p:Nat->Bool}(hi:i<n)(h:p i=aD):(eG n).any p=true:=oc.2 ⟨i,nr.2 hi,h⟩
theorem Df(v:Value)(rows:List (List Int))(tags:List Int)(w:World)(h:Kn w v rows tags):
 Calls aC 116 #[v] w (cY (ret (av az (Ab rows tags))) w):=by
 obtain⟨vr,vt,rfl,hr,ht,agQ⟩:=h;obtain⟨br,cr,rfl,Za,we,Dg⟩:=hr;have ht':=ht.sl (f:= .int .i64) λcs a h=>h.1;obtain⟨bt,ct,rfl,ht1,V5,JP⟩:=ht';have htr:∀i (hi:i<tags.length),-9223372036854775808<=tags[i]/\tags[i]<=9223372036854775807:=λi hi=>by
  obtain⟨_,_,_,_,_,h5⟩:=ht;obtain⟨_,_,_,h6⟩:=h5 J;obtain⟨_,h7,_⟩:=h6 i hi;exact h7.2
 clear ht;unfold maxLen at we V5;refine enter (args:=[aU #[ap br rows.length cr,ap bt tags.length ct]]) (n:=57) Tryz.func116 I I I ?_;refine bC (aM (b_ I I I λg=>?_))
 repeat(first|refine GA ?_|refine gV (aB aL.ty I (aH (i:=0) I I)) ?_)
 unfold Ab
 by_cases c1:200<rows.length
 ·rw[if_pos c1]
  try refine GA ?_
  exact fa
 ·rw[if_neg c1]
  by_cases c2:rows.length=0
  ·rw[if_pos (.inl c2)]
   repeat(first|refine GA ?_|refine gV (aB aL.ty I (aH (i:=0) I I)) ?_)
   exact fa
  by_cases c3:tags.length=rows.length
  ·rw[if_neg J]
   repeat(first|refine GA ?_|refine gV (aB aL.ty I (aH (i:=0) I I)) ?_)
   refine og (ι:=Nat) (λi=>i<=rows.length/\∀j,j<i->nv rows.length (tags.getD j 0) (rows.getD j [])=aE) (λi=>[(1,aK (aj ⟨g,0,ak⟩)),(3,av az rows.length),(21,av az rows.length),(22,av az (i:Int))]) (λ_=>[aR g #[ap br rows.length cr,ap bt tags.length ct] 186]) (λi=>rows.length-i) 0 ⟨by omega,λj hj=>by omega⟩ ⟨rfl,rfl,rfl,rfl,trivial⟩ I ?_;rintro i ⟨h1,h2⟩
   by_cases c4:i<rows.length
   ·obtain⟨b,off,rfl,hb⟩:=Dg J
    obtain⟨b',Ag,rfl,MH⟩:=JP J;have c4':i<tags.length:=by omega
    have d_:=Va (L:=[aR g #[ap (aj ⟨b,off,ak⟩) rows.length cr,ap (aj ⟨b',Ag,ak⟩) tags.length ct] 186]) MH c4';obtain⟨cs,hcs,ij⟩:=hb i c4;obtain⟨q1,q2,q3⟩:=hcs;have hti:=htr i c4';have hta:=NQ c4';have hra:=acR c4;have nU:∀(P:Prop),nv rows.length (tags.getD i 0) (rows.getD i [])=aD->(if(eG rows.length).any (λi=>nv rows.length (tags.getD i 0) (rows.getD i []))=aD then(1:Int)else 0)=1:=λ_ h=>if_pos (Sg c4 h);rw[hta,hra]at nU
    by_cases c5:tags[i]< -1
    ·rw[nU True (by simp[nv,c5])]
     repeat(first|refine GA ?_|refine gV (aB aL.ty I (aH (i:=0) I I)) ?_|refine gV (cT bR.eq aL.ty I I c4') ?_|refine gV (aB aL.ty I d_) ?_)
     exact fa
    by_cases c6:20<=tags[i]
    ·rw[nU True (by simp[nv,c6])]
     repeat(first|refine GA ?_|refine gV (aB aL.ty I (aH (i:=0) I I)) ?_|refine gV (cT bR.eq aL.ty I I c4') ?_|refine gV (aB aL.ty I d_) ?_)
     exact fa
    repeat(first|refine GA ?_|refine gV (aB aL.ty I (aH (i:=0) I I)) ?_|refine gV (cT bR.eq aL.ty I I c4') ?_|refine gV (aB aL.ty I d_) ?_|refine gV (a_ bR.eq aL.ty I I c4) ?_|refine gV (bH aL.ty I (by rw[q2,dX,q1]) (λj v hj=>jb ij hj)) ?_)
    refine og (ι:=Nat) (λb=>b<=256/\∀q,q<b-> -1<=rows[i].getD q 0/\rows[i].getD q 0<rows.length) (λb=>[(1,aK (aj ⟨g,0,ak⟩)),(3,av az rows.length),(21,av az rows.length),(22,av az (i:Int)),(43,aU cs.toArray),(44,av az (b:Int))]) (λ_=>[aR g #[ap (aj ⟨b,off,ak⟩) rows.length cr,ap (aj ⟨b',Ag,ak⟩) tags.length ct] 186]) (λb=>256-b) 0 ⟨by omega,λq hq=>by omega⟩ ⟨rfl,rfl,rfl,rfl,rfl,rfl,trivial⟩ I ?_;rintro q ⟨k1,k2⟩
    by_cases c7:q<256
    ·have hql:q<rows[i].length:=by omega
     have hqv:=NQ hql;have hcell:cs.toArray[q]?=aj (.int .i16 rows[i][q]):=by rw[q2];simp[hql]
     have hq3:=q3 _ (cV hql);have ael:rows[i][q]∈rows[i]:=cV hql;generalize rows[i][q]=z at*
     by_cases c8:z< -1
     ·rw[nU True (by simp only[nv,mA,oc];exact .inr ⟨z,ael,by simp[c8]⟩)]
      clear k2 h2 Dg JP
      repeat(first|refine GA ?_|refine gV (jG bR.eq aL.ty I I c7 hcell) ?_|refine gV (jl bR.eq bR.eq I (nI J J)) ?_)
      exact fa
     by_cases c9:(rows.length:Int)<=z
     ·rw[nU True (by simp only[nv,mA,oc];exact .inr ⟨z,ael,by simp[c9]⟩)]
      clear k2 h2 Dg JP
      repeat(first|refine GA ?_|refine gV (jG bR.eq aL.ty I I c7 hcell) ?_|refine gV (jl bR.eq bR.eq I (nI J J)) ?_)
      exact fa
     repeat(first|refine GA ?_|refine gV (jG bR.eq aL.ty I I c7 hcell) ?_|refine gV (jl bR.eq bR.eq I (nI J J)) ?_)
     exact jS (q+1) ⟨by omega,λq' CM=>if e:q'<q then k2 q' e else(by obtain rfl:q'=q:=J;rw[hqv];omega)⟩ (by show 256-(q+1)<256-q;omega) ⟨rfl,rfl,rfl,rfl,rfl,rfl,trivial⟩ I
    have yz:nv rows.length (tags.getD i 0) (rows.getD i [])=false:=by
     rw[hta,hra];simp only[nv,Dd,decide_eq_false_iff_not,List.any_eq_false,VP];refine⟨⟨c5,c6⟩,λz hz=>?_⟩;obtain⟨q',CM,rfl⟩:=jt.1 hz;have:=k2 q' J;rw[NQ CM]at this;simp;omega
    try refine GA ?_
    exact jS (i+1) ⟨by omega,λj hj=>if e:j<i then h2 j e else(by obtain rfl:j=i:=J;exact yz)⟩ (by show rows.length-(i+1)<rows.length-i;omega) ⟨rfl,rfl,rfl,rfl,trivial⟩ I
   have hno:¬(eG rows.length).any (λi=>nv rows.length (tags.getD i 0) (rows.getD i []))=true:=by
    simp only[oc,nr,not_exists,not_and];intro j hj;rw[h2 j J];simp
   rw[if_neg hno]
   try refine GA ?_
   exact fa
  rw[if_pos (.inr c3)]
  repeat(first|refine GA ?_|refine gV (aB aL.ty I (aH (i:=0) I I)) ?_)
  exact fa
end cZ
namespace dq
structure uC where
 n:Nat
 d:Nat->Nat->Int
 tag:Nat->Int
structure uC.Ok(A:uC):Prop where
 pos:0<A.n
 le:A.n<=200
 step:∀i,i<A.n->∀b,b<256-> -1<=A.d i b/\A.d i b<A.n
 tags:∀i,i<A.n-> -1<=A.tag i/\A.tag i<20
abbrev Row:=Vector Int 256
abbrev Kind:=Int×Row
section
variable(A:uC)
def val(now:Nat->Nat)(q:Int):Nat:=if q<0 then 0 else now q.toNat
def kind(now:Nat->Nat)(i:Nat):Kind:=((now i:Int),Vector.ofFn λb:Fin 256=>(val now (A.d i b):Int))
def dead:Kind:=(0,Vector.replicate 256 0)
def kinds(now:Nat->Nat):List Kind:=(eG A.n).map (kind A now)
def py(now:Nat->Nat):List Kind:=eh [dead] (kinds A now)
def next(now:Nat->Nat)(i:Nat):Nat:=idx (py A now) (kind A now i)
def Gf:Nat->Nat->(Nat->Nat)->Nat->Nat
 |0,_,now=>now
 |f+1,n,now=>if(py A now).length=n then next A now else Gf f (py A now).length (next A now)
def yA(i:Nat):Nat:=(A.tag i+1).toNat
def eu:Nat->Nat:=Gf A (A.n+2) 0 (yA A)
def tg(q:Int):Int:=if q<0 then-1 else A.tag q.toNat
def dt(q:Int)(b:Nat):Int:=if q<0 then-1 else A.d q.toNat b
def go:Int->List UInt8->Int
 |q,[]=>q
 |q,b::s=>go (dt A q b.toNat) s
def St(q:Int):Prop:= -1<=q/\q<A.n
def same(q r:Int):Prop:=∀s,tg A (go A q s)=tg A (go A r s)
def kd(now:Nat->Nat)(q:Int):Kind:=if q<0 then dead else kind A now q.toNat
end
section
variable{A:uC}
theorem Gg(hA:A.Ok){q:Int}(hq:St A q){b:Nat}(hb:b<256):St A (dt A q b):=by
 unfold St dt at*;have:=hA.pos;split;omega;exact hA.step q.toNat J b hb
theorem Sh{q r:Int}(h:same A q r)(b:Nat)(hb:b<256):same A (dt A q b) (dt A r b):=λs=>by
 have:=h (gv b::s);have e:(gv b).toNat=b:=by simp;omega
 simp only[go,e]at this;exact this
theorem H6(now:Nat->Nat)(q:Int):(kd A now q).1=(val now q:Int):=by
 unfold kd val dead kind;split<;>rfl
theorem H7(now:Nat->Nat)(q:Int)(b:Nat)(hb:b<256):(kd A now q).2[b]=(val now (dt A q b):Int):=by
 unfold kd dt dead kind;split;simp[val];simp
theorem V6{now:Nat->Nat}{q r:Int}:kd A now q=kd A now r↔val now q=val now r/\∀b,b<256->val now (dt A q b)=val now (dt A r b):=by
 constructor
 ·intro h
  refine⟨?_,λb hb=>?_⟩
  ·have e:(kd A now q).1=(kd A now r).1:=by rw[h]
   rw[H6,H6]at e;exact VQ e
  have e:(kd A now q).2[b]=(kd A now r).2[b]:=by rw[h]
  rw[H7 _ _ _ hb,H7 _ _ _ hb]at e;exact VQ e
 rintro⟨h1,h2⟩;refine od ?_ (Vector.ext λb hb=>?_);rw[H6,H6,h1];rw[H7 _ _ _ hb,H7 _ _ _ hb,h2 b hb]
theorem Ko(now:Nat->Nat):dead∈py A now:=kZ.2 (.inl (by simp))
theorem V7{now:Nat->Nat}{i:Nat}(h:i<A.n):kind A now i∈py A now:=kZ.2 (.inr (e7.2 ⟨i,nr.2 h,rfl⟩))
theorem V8{now:Nat->Nat}{q:Int}(h:q<A.n):kd A now q∈py A now:=by
 unfold kd;split;exact Ko now;exact V7 J
theorem Si(now:Nat->Nat):(py A now).Nodup:=sD _ _ (by simp)
theorem Ah(now:Nat->Nat):(py A now).length<=A.n+1:=by
 have h:∀(l D:List Kind),(eh D l).length<=D.length+l.length:=by
  intro l
  induction l with
  |nil=>intro D;simp[eh]
  |cons k l ih=>
   intro D;have:=ih (more D k);have h2:(more D k).length<=D.length+1:=by unfold more;split<;>simp
   show(eh (more D k) l).length<=_
   simp;omega
 have:=h (kinds A now) [dead];unfold py;simp[kinds]at this⊢;omega
theorem Qf(now:Nat->Nat):0<(py A now).length:=List.length_pos_of_mem (Ko now)
theorem uD(now:Nat->Nat){q:Int}:val (next A now) q=idx (py A now) (kd A now q):=by
 unfold val kd;split
 ·obtain⟨E,h⟩:=sC (kinds A now) [dead]
  rw[py,h];exact(VE dead E).symm
 rfl
theorem qz{now:Nat->Nat}{q:Int}(h:q<A.n):val (next A now) q<(py A now).length:=by
 rw[uD];exact nu (V8 h)
theorem H8{now:Nat->Nat}{q r:Int}(hq:q<A.n):val (next A now) q=val (next A now) r↔kd A now q=kd A now r:=by
 rw[uD,uD];exact⟨λh=>ZG (V8 hq) h,λh=>by rw[h]⟩
theorem Dh{now:Nat->Nat}{q r:Int}(hq:q<A.n)(h:val (next A now) q=val (next A now) r):val now q=val now r:=(V6.1 ((H8 hq).1 h)).1
theorem V9{now:Nat->Nat}{v:Nat}(h:v<(py A now).length):∃q:Int,St A q/\val (next A now) q=v:=by
 have hm:(py A now)[v]∈py A now:=cV h;have hi:idx (py A now) (py A now)[v]=v:=C8 (Si now) h;rcases kZ.1 hm with hd|hk
 ·refine⟨-1,⟨by omega,by omega⟩,?_⟩
  rw[uD,show kd A now (-1)=dead from I,<-ep.1 hd];exact hi
 obtain⟨i,h1,h2⟩:=e7.1 hk;rw[nr]at h1;refine⟨i,⟨by omega,by omega⟩,?_⟩;have e:kd A now (i:Int)=kind A now i:=by unfold kd;rw[if_neg J,dP]
 rw[uD,e,h2];exact hi
def Qg(A:uC)(n:Nat)(now:Nat->Nat):Prop:=∃was,now=next A was/\n=(py A was).length
def Kp(A:uC)(x:Nat):Int:=if x<A.n then(x:Int)else-1
theorem V_{q:Int}(h:St A q):∃x,x<A.n+1/\Kp A x=q:=by
 unfold St at h
 by_cases c:q<0
 exact⟨A.n,by omega,by unfold Kp;rw[if_neg J];omega⟩;exact⟨q.toNat,by omega,by unfold Kp;rw[if_pos J];omega⟩
theorem H9(x:Nat):Kp A x<A.n:=by unfold Kp;split<;>omega
theorem xH{n:Nat}{now:Nat->Nat}(h:Qg A n now):n<=(py A now).length/\((py A now).length=n->∀q r,St A q->St A r->val now q=val now r->val (next A now) q=val (next A now) r):=by
 obtain⟨was,rfl,rfl⟩:=h;have h:=NB (N:=A.n+1) (f:=λx=>val (next A was) (Kp A x)) (g:=λx=>val (next A (next A was)) (Kp A x)) (n:=(py A was).length) (c:=(py A (next A was)).length)
  (λv hv=>by
   obtain⟨q,hq,e⟩:=V9 hv;obtain⟨x,hx,e2⟩:=V_ hq;exact⟨x,hx,by show val (next A was) (Kp A x)=v;rw[e2];exact e⟩)
  (λx _=>qz (H9 x)) (λx y _ _ e=>Dh (H9 x) e)
 refine⟨h.1,λhc q r hq hr e=>?_⟩;obtain⟨x,hx,rfl⟩:=V_ hq;obtain⟨y,hy,rfl⟩:=V_ hr;exact h.2 hc (λx _=>qz (H9 x)) x y hx hy e
structure Way(A:uC)(now:Nat->Nat):Prop where
 tags:∀q r,St A q->St A r->val now q=val now r->tg A q=tg A r
 coarse:∀q r,St A q->St A r->same A q r->val now q=val now r
theorem afU(hA:A.Ok):Way A (yA A) where
 tags q r hq hr h:=by
  unfold St at hq hr;unfold val yA at h;unfold tg;have h1:=λc=>hA.tags q.toNat (c:q.toNat<A.n);have h2:=λc=>hA.tags r.toNat (c:r.toNat<A.n)
  by_cases c1:q<0<;>by_cases c2:r<0<;>simp only[c1,c2,if_true,if_false]at h⊢
  have:=h2 J;omega;have:=h1 J;omega;have:=h1 J;have:=h2 J;omega
 coarse q r hq hr h:=by
  have:=h [];simp only[go]at this;unfold tg at this;unfold val yA
  by_cases c1:q<0<;>by_cases c2:r<0<;>simp only[c1,c2,if_true,if_false]at this⊢ <;>omega
theorem Di(hA:A.Ok){now:Nat->Nat}(h:Way A now):Way A (next A now) where
 tags q r hq hr e:=h.tags q r hq hr (Dh hq.2 e)
 coarse q r hq hr e:=(H8 hq.2).2 (V6.2 ⟨h.coarse q r hq hr e,λb hb=>h.coarse _ _ (Gg hA hq hb) (Gg hA hr hb) (Sh e b hb)⟩)
structure Dj(A:uC)(bl:Nat->Nat):Prop where
 le:∀i,i<A.n->bl i<=A.n
 tags:∀q r,St A q->St A r->val bl q=val bl r->tg A q=tg A r
 step:∀q r,St A q->St A r->val bl q=val bl r->∀b,b<256->val bl (dt A q b)=val bl (dt A r b)
 coarse:∀q r,St A q->St A r->same A q r->val bl q=val bl r
theorem NR(hA:A.Ok){n:Nat}{now:Nat->Nat}(hr:Qg A n now)(hw:Way A now)(hc:(py A now).length=n):Dj A (next A now) where
 le i hi:=by
  have:=qz (A:=A) (now:=now) (q:=(i:Int)) J;have h2:=Ah (A:=A) now;unfold val at this;rw[if_neg J,dP]at this;omega
 tags:=(Di hA hw).tags
 coarse:=(Di hA hw).coarse
 step q r hq Ns e b hb:=(xH hr).2 hc _ _ (Gg hA hq hb) (Gg hA Ns hb) ((V6.1 ((H8 hq.2).1 e)).2 b hb)
theorem V'(hA:A.Ok):∀(f n:Nat) (now:Nat->Nat),(n=0\/Qg A n now)->n<=A.n+1->A.n+2<=f+n->Way A now->Dj A (Gf A f n now)
 |0,n,now,_,h1,h2,_=>by omega
 | f +1,n,now,hr,h1,h2,hw=>by
  unfold Gf;have hp:=Qf (A:=A) now;split
  ·rename_i hc
   rcases hr with rfl|hr
   omega;exact NR hA hr hw hc
  rename_i hc
  refine V' hA f _ _ (.inr ⟨now,rfl,rfl⟩) (Ah now) ?_ (Di hA hw);rcases hr with rfl|hr
  omega;have:=(xH hr).1;omega
theorem Sj(hA:A.Ok):Dj A (eu A):=V' hA _ _ _ (.inl I) (bO _) J (afU hA)
theorem Dj.same(hA:A.Ok){bl:Nat->Nat}(h:Dj A bl){q r:Int}(hq:St A q)(hr:St A r):val bl q=val bl r↔same A q r:=by
 refine⟨λe s=>?_,h.coarse q r hq hr⟩
 induction s generalizing q r with
 |nil=>exact h.tags q r hq hr e
 |cons b s ih=>exact ih (Gg hA hq b.toNat_lt) (Gg hA hr b.toNat_lt) (h.step q r hq hr e _ b.toNat_lt)
end
end dq
namespace cZ
open Go.RowKit dr eH dq
def kI{κ:Type}[DecidableEq κ](D:List κ)(x:κ):Option Value:=if x∈D then aj (av az (idx D x:Int))else ak
theorem Gh{κ:Type}[DecidableEq κ]{D:List κ}{x:κ}(hn:x∉D):(λy=>if y=x then aj (av az (D.length:Int))else kI D y)=kI (D++[x]):=by
 funext y
 unfold kI
 by_cases c:y=x
 ·subst c
  rw[if_pos I,if_pos (by simp)];have:=rA (D:=D) (k:=y);unfold more at this;rw[if_neg hn,if_neg hn]at this;rw[this]
 rw[if_neg c]
 by_cases c2:y∈D
 rw[if_pos c2,if_pos (tV _ c2),qy c2];rw[if_neg c2,if_neg (by simp[c,c2])]
section
variable{P:Program}{k:TypeId}{κ:Type}{K:xz P k κ}
variable{W:b9}{fr:Fr}{L:List cU}{Q:Exit->Act->World->Prop}{ops:Array Oper}{rest:List Oper}{n d:Nat}{dst:Option Tmp}{ty:TypeId}{pos:String}{after:Array Edge}{guard:Option (Nat×Bool)}{i g c:Nat}{t e:TypeId}{D:List κ}{x:κ}{z:Value}{xm xk xv:Operand}[DecidableEq κ]
theorem uE(ht:P.underlying t=aj (.map k e))(hz:∀w,(zeroValue e).run P w= .ok z w)(hi:L[i]?=aj (fD K g (kI D) c))(hm:ev fr xm=aj (.map (aj g)))(hk:ev fr xk=aj (K.kv x))(hx:K.ok x)(hn:x∈D):RR P n W ⟨dst,.lookup t xm xk aD,ty,pos,after,guard⟩ fr L (.tuple #[av az (idx D x:Int),.bool aD]):=by
 have:=oT (n:=n) (W:=W) (dst:=dst) (ty:=ty) (pos:=pos) (after:=after) (guard:=guard) K ht hz hi hm hk hx;rw[show kI D x=aj (av az (idx D x:Int))from if_pos hn]at this;exact this
theorem uF(ht:P.underlying t=aj (.map k e))(hz:∀w,(zeroValue e).run P w= .ok z w)(hi:L[i]?=aj (fD K g (kI D) c))(hm:ev fr xm=aj (.map (aj g)))(hk:ev fr xk=aj (K.kv x))(hx:K.ok x)(hn:x∉D):RR P n W ⟨dst,.lookup t xm xk aD,ty,pos,after,guard⟩ fr L (.tuple #[z,.bool aE]):=by
 have:=oT (n:=n) (W:=W) (dst:=dst) (ty:=ty) (pos:=pos) (after:=after) (guard:=guard) K ht hz hi hm hk hx;rw[show kI D x=ak from if_neg hn]at this;exact this
theorem Ai(hn:dM d n=aD)(h:∀g,TL P n W ops Q rest ((d,.map (aj g))::fr) (L++[fD K g (kI []) 0])):
 TL P n W ops Q (⟨aj d,.makeMap t ak,ty,pos,after,ak⟩::rest) fr L:=by
 refine xA K hn λg=>?_;have e:(λ(_:κ)=>(none:Option Value))=kI []:=by funext y;unfold kI;rw[if_neg (by simp)]
 rw[e];exact h g
theorem Aj(ht:P.underlying t=aj (.map k e))(hi:L[i]?=aj (fD K g (kI D) D.length))(hm:ev fr xm=aj (.map (aj g)))(hk:ev fr xk=aj (K.kv x))(hv:ev fr xv=aj (av az (D.length:Int)))(hx:K.ok x)(hn:x∉D)(hc:D.length<=1152921504606846976)
 (h:TL P n W ops Q rest fr (L.set i (fD K g (kI (D++[x])) (D++[x]).length))):
 TL P n W ops Q (⟨ak,.mapUpdate t xm xk xv,ty,pos,after,ak⟩::rest) fr L:=by
 refine ml K ht hi hm hk hv hx hc ?_;rw[Gh hn];rw[show kI D x=ak from if_neg hn];rw[show(D++[x]).length=D.length+1 by simp]at h;exact h
end
end cZ
namespace cZ
open Go.RowKit dr eH
def jB(D:Nat->Prop)(f:Nat->cU):cU where
 BF:=ak
 more:=λk=>∃i,D i/\(f i).fF k
 holds:=λw=>(∀i,D i->(f i).holds w)/\∀i j,D i->D j->i≠j->∀k,(f i).fF k->¬(f j).fF k
 lt:=λw h k hk=>by
  rcases hk with hk|⟨i,hi,hk⟩
  cases hk
  exact(f i).lt w (h.1 i hi) k hk
 stay:=λw w' h hs hb=>⟨λi hi=>(f i).stay w w' (h.1 i hi) hs λk hk=>hb k (.inr ⟨i,hi,hk⟩),h.2⟩
theorem Ak{D D':Nat->Prop}{f f':Nat->cU}(h1:∀k,D' k->D k)(h2:∀k,D' k->f' k=f k)(w:World)(h:(jB D f).holds w):(jB D' f').holds w:=
 ⟨λi hi=>by rw[h2 i hi];exact h.1 i (h1 i hi),λi j hi hj rp=>by rw[h2 i hi,h2 j hj];exact h.2 i j (h1 i hi) (h1 j hj) rp⟩
theorem Dk{D D':Nat->Prop}{f f':Nat->cU}(h1:∀k,D' k->D k)(h2:∀k,D' k->f' k=f k)(k:Nat)(h:(jB D' f').fF k):(jB D f).fF k:=by
 rcases h with h|⟨i,hi,hk⟩
 cases h
 exact .inr ⟨i,h1 i hi,by rw[<-h2 i hi];exact hk⟩
def Sk(f:Nat->cU)(i:Nat)(o:cU):Nat->cU:=λk=>if k=i then o else f k
theorem Al{f:Nat->cU}{i j:Nat}{o:cU}(h:j≠i):Sk f i o j=f j:=by unfold Sk;rw[if_neg h]
theorem Am{f:Nat->cU}{i:Nat}{o:cU}:Sk f i o i=o:=by unfold Sk;rw[if_pos I]
theorem ZL{D:Nat->Prop}{f:Nat->cU}{i:Nat}{o:cU}{w:World}(hi:¬D i)(h:(jB D f).holds w)(ho:o.holds w)(ha:∀k,(jB D f).fF k->¬o.fF k):(jB (λk=>D k\/k=i) (Sk f i o)).holds w:=by
 have hf:∀j,D j->Sk f i o j=f j:=λj hj=>Al λe=>hi (by subst e;exact hj);have hg:Sk f i o i=o:=Am;refine⟨λj hj=>?_,λj k hj hk hjk q hq CM=>?_⟩
 ·rcases hj with hj|rfl
  rw[hf j hj];exact h.1 j hj;rw[hg];exact ho
 rcases hj with hj|rfl<;>rcases hk with hk|rfl
 rw[hf j hj]at hq;rw[hf k hk]at CM;exact h.2 j k hj hk hjk q hq CM;rw[hf j hj]at hq;rw[hg]at CM;exact ha q (.inr ⟨j,hj,hq⟩) CM;rw[hg]at hq;rw[hf k hk]at CM;exact ha q (.inr ⟨k,hk,CM⟩) hq;exact hjk I
theorem Wa{D:Nat->Prop}{f:Nat->cU}{i:Nat}{o:cU}(hi:¬D i)(k:Nat)(h:(jB (λk=>D k\/k=i) (Sk f i o)).fF k):(jB D f).fF k\/o.fF k:=by
 rcases h with h|⟨j,hj,hk⟩
 cases h
 rcases hj with hj|rfl
 exact .inl (.inr ⟨j,hj,by rw[Al λe=>hi (by subst e;exact hj)]at hk;exact hk⟩);exact .inr (by rw[Am]at hk;exact hk)
section
variable{P:Program}{n:Nat}{W:b9}{fr:Fr}{L:List cU}{Q:Exit->Act->World->Prop}{ops:Array Oper}{rest:List Oper}{d:Nat}
theorem Mem.split{w:World}{q:Nat}{o:cU}(o1 o2:cU)(h:Mem W L w)(hq:L[q]?=aj o)(h1:∀w,o.holds w->o1.holds w)(h2:∀w,o.holds w->o2.holds w)(f1:∀k,o1.fF k->o.fF k)(f2:∀k,o2.fF k->o.fF k)(ha:∀w,o.holds w->∀k,o1.fF k->¬o2.fF k):Mem W (L.set q o1++[o2]) w:=by
 have hr:=h.P' o1 hq h1 f1;have hoq:=h.owns.all q o hq;have hlen:q<L.length:=(dv.1 hq).1;refine⟨h.low,e_.both hr.owns (e_.one (h2 w hoq.1) λk hk=>hoq.2 k (f2 k hk)) λi j a b hi hj k hk mZ=>?_⟩
 match j,hj with
 | 0,hj=>
  simp only[sj,dB]at hj;subst hj
  by_cases e:q=i
  ·subst e
   rw[mE hlen]at hi;simp only[dB]at hi;subst hi;exact ha w hoq.1 k hk mZ
  rw[List.getElem?_set_ne e]at hi;exact h.owns.apart i q a o (Ne.symm e) hi hq k hk (f2 k mZ)
 |j+1,hj=>simp at hj
theorem Mem.ZM{w:World}(o:cU)(i j:Nat)(js:List Nat){o1 o2:cU}{R:List cU}(h:Mem W L w)(hn:([i,j]++js).Nodup)(h1:L[i]?=aj o1)(h2:L[j]?=aj o2)(hR:R=js.filterMap λi=>L[i]?)(hf:∀k,o.fF k->o1.fF k\/o2.fF k)(hh:∀w,o1.holds w->o2.holds w->(∀k,o1.fF k->¬o2.fF k)->o.holds w):Mem W (R++[o]) w:=by
 have rp:i≠j:=λe=>by subst e;simp at hn
 have ha:=h.owns.apart i j o1 o2 rp h1 h2;refine Mem.merge o (h.pick ([i,j]++js) hn ?_) hf (λa b=>hh w a b ha);rw[zS,<-hR]
 congr 1
 rw[zR (by exact h1),zR (by exact h2)];rfl
theorem Mem.take{w:World}{q:Nat}{D:Nat->Prop}{f:Nat->cU}(i:Nat)(h:Mem W L w)(hq:L[q]?=aj (jB D f))(hi:D i):Mem W (L.set q (jB (λk=>D k/\k≠i) f)++[f i]) w:=
 h.split _ _ hq (λw h=>Ak (λk h=>h.1) (λ_ _=>rfl) w h) (λw h=>h.1 i hi) (λk h=>Dk (λk h=>h.1) (λ_ _=>rfl) k h) (λk h=> .inr ⟨i,hi,h⟩) λw h k hk mZ=>by
  rcases hk with hk|⟨j,⟨hj,hne⟩,hk⟩
  cases hk
  exact h.2 j i hj hi hne k hk mZ
theorem NS{c:Code}{q:Nat}{D:Nat->Prop}{f:Nat->cU}(i:Nat)(hq:L[q]?=aj (jB D f))(hi:D i)(h:T P n W c Q fr (L.set q (jB (λk=>D k/\k≠i) f)++[f i])):T P n W c Q fr L:=⟨λa w hr hm=>h.go a w hr (hm.take i hq hi)⟩
theorem Qh{q:Nat}{D:Nat->Prop}{f:Nat->cU}(i:Nat)(hq:L[q]?=aj (jB D f))(hi:D i)(h:TL P n W ops Q rest fr (L.set q (jB (λk=>D k/\k≠i) f)++[f i])):TL P n W ops Q rest fr L:=⟨λa w hr hm=>h.go a w hr (hm.take i hq hi)⟩
theorem Mem.put{w:World}{D D':Nat->Prop}{f f':Nat->cU}{o:cU}{R:List cU}(x q j:Nat)(js:List Nat)(h:Mem W L w)(hn:([q,j]++js).Nodup)(hq:L[q]?=aj (jB D f))(hj:L[j]?=aj o)(hR:R=js.filterMap λi=>L[i]?)(hx:¬D x)(hD:∀k,D' k->D k\/k=x)(hf:∀k,D' k->f' k=Sk f x o k):Mem W (R++[jB D' f']) w:=
 h.ZM _ q j js hn hq hj hR (λk hk=>Wa hx k (Dk hD hf k hk)) λw h1 h2 h3=>Ak hD hf w (ZL hx h1 h2 h3)
theorem Wb{D D':Nat->Prop}{f f':Nat->cU}{o:cU}{R:List cU}(x q j:Nat)(js:List Nat)(hn:([q,j]++js).Nodup)(hq:L[q]?=aj (jB D f))(hj:L[j]?=aj o)(hR:R=js.filterMap λi=>L[i]?)(hx:¬D x)(hD:∀k,D' k->D k\/k=x)(hf:∀k,D' k->f' k=Sk f x o k)(h:TL P n W ops Q rest fr (R++[jB D' f'])):TL P n W ops Q rest fr L:=⟨λa w hr hm=>h.go a w hr (hm.put x q j js hn hq hj hR hx hD hf)⟩
theorem Qi{e:Exit}{D D':Nat->Prop}{f f':Nat->cU}{o:cU}{R:List cU}(x q j:Nat)(js:List Nat)(hn:([q,j]++js).Nodup)(hq:L[q]?=aj (jB D f))(hj:L[j]?=aj o)(hR:R=js.filterMap λi=>L[i]?)(hx:¬D x)(hD:∀k,D' k->D k\/k=x)(hf:∀k,D' k->f' k=Sk f x o k)(h:E n W e Q fr (R++[jB D' f'])):E n W e Q fr L:=⟨λa w hr hm=>h.go a w hr (hm.put x q j js hn hq hj hR hx hD hf)⟩
theorem ZN{q:Nat}{o:cU}{p:Addr}{v:Value}(hq:L[q]?=aj o)(h:∀w,o.holds w->w.cell? p=aj v):At W L p v:=λw hm=>h w (hm.get hq)
theorem yB{g off size cap m k:Nat}{e:TypeId}{xs:List Value}{v:Value}{w:World}(h:(bD e size (ap (aj ⟨g,0,ak⟩) m cap) k xs).holds w)(hv:xs[off]?=aj v):w.cell? ⟨g,off,ak⟩=aj v:=by
 have h:w.ownsRow 0 e size (ap (aj ⟨g,0,ak⟩) m cap) k xs:=h;have:=h.cells (g:=g) I off v hv
 rwa [fv,du]at this
def lG{α:Type}(len:Nat)(f:Nat->α):List α:=(eG len).map f
section
variable{α:Type}
theorem ic(len:Nat)(f:Nat->α):(lG len f).length=len:=by simp[lG]
theorem uG{len:Nat}(f:Nat->α){k:Nat}(h:k<len):(lG len f)[k]?=aj (f k):=by simp[lG,h]
theorem Wc{len:Nat}(f g:Nat->α)(k:Nat)(v:α)(h:∀i,i<len->g i=if i=k then v else f i):(lG len f).set k v=lG len g:=by
 apply mG;intro i;rw[VX]
 by_cases hi:i<len
 ·rw[uG g hi,h i hi]
  by_cases e:k=i
  subst e;simp[ic,hi];rw[if_neg e,if_neg (λe'=>e e'.symm),uG f hi]
 have h1:(lG len g)[i]?=none:=jE (by rw[ic];omega);have h2:(lG len f)[i]?=none:=jE (by rw[ic];omega);rw[h1,h2]
 by_cases e:k=i
 subst e;simp[ic,hi];rw[if_neg e]
theorem NT{len:Nat}{f g:Nat->α}(h:∀i,i<len->f i=g i):lG len f=lG len g:=by
 unfold lG;apply List.map_congr_left;intro i hi;exact h i (by simpa using hi)
theorem NU(val:α->Value)(a:α)(len:Nat):(lG len λ_=>a).map val=dJ len (val a):=by
 unfold lG;rw[List.map_map];apply mG;intro i
 by_cases h:i<len<;>simp[h]
def fO(e:TypeId)(val:α->Value)(g len:Nat)(f:Nat->α):cU:=bD e 1 (ap (aj ⟨g,0,ak⟩) len len) len ((lG len f).map val)
theorem pz{e:TypeId}{val:α->Value}{g len:Nat}{f f':Nat->α}(h:∀i,i<len->f i=f' i):fO e val g len f=fO e val g len f':=by unfold fO;rw[NT h]
theorem gL{e:TypeId}{val:α->Value}{i g len k:Nat}{f:Nat->α}(hi:L[i]?=aj (fO e val g len f))(hk:k<len):At W L ⟨g,0+k,ak⟩ (val (f k)):=kx hi (by rw[du,fx,uG f hk];rfl)
theorem An{e:TypeId}{val:α->Value}{g len k:Nat}{f:Nat->α}{w:World}(h:(fO e val g len f).holds w)(hk:k<len):w.cell? ⟨g,0+k,ak⟩=aj (val (f k)):=yB h (by rw[du,fx,uG f hk];rfl)
theorem We{e:TypeId}{val:α->Value}{g len k:Nat}{v:α}{f f':Nat->α}(h:∀i,i<len->f' i=if i=k then v else f i):bD e 1 (ap (aj ⟨g,0,ak⟩) len len) len (((lG len f).map val).set k (val v))=fO e val g len f':=by
 unfold fO;rw[<-sF,Wc f f' k v h]
theorem jj{e:TypeId}{val:α->Value}{ty:TypeId}{pos:String}{after:Array Edge}{t:TypeId}{p x:Operand}{i g off len:Nat}{v:α}{f:Nat->α}(f':Nat->α)(hT:Ty P t aE 1)(hi:L[i]?=aj (fO e val g len f))(hp:ev fr p=aj (aK (aj ⟨g,0+off,ak⟩)))(hx:ev fr x=aj (val v))(h1:(val v).cells=#[val v])(h2:(val v).oneCell'=aD)(hk:off<len)(hf:∀i,i<len->f' i=if i=off then v else f i)
 (h:TL P n W ops Q rest fr (L.set i (fO e val g len f'))):TL P n W ops Q (⟨ak,.store t p x,ty,pos,after,ak⟩::rest) fr L:=
 mj hT hi hp hx h1 I h2 (by rw[dX,ic,du];exact hk) (by rw[du,We hf];exact h)
theorem pA{t e:TypeId}{x y:Operand}{bytes m:Nat}{k k':IntKind}{ty:TypeId}{pos:String}{after:Array Edge}(val:α->Value)(z:α)[tA P t e 1 bytes][fm P e #[val z]](hx:ev fr x=aj (.int k (m:Int)))(hy:ev fr y=aj (.int k' (m:Int)))(hb:bytes*m<=281474976710656)(r9:m<=9223372036854775807)(hn:dM d n=aD)
 (h:∀g,TL P n W ops Q rest ((d,ap (aj ⟨g,0,ak⟩) m m)::fr) (L++[fO e val g m λ_=>z])):TL P n W ops Q (⟨aj d,.makeSlice t x y,ty,pos,after,ak⟩::rest) fr L:=
 Nz hx hy hb r9 hn λg=>by
  have:=h g;unfold fO at this;rw[NU]at this;exact this
end
end
end cZ
namespace cZ
open Go.RowKit dr eH aV
def eX(x:dV):List Value:=[av az x.1,av az x.2]
def Wf(x:dV):Prop:=dr.eD x.1/\dr.eD x.2
theorem ZO(l:List dV):∀u∈l.flatMap eX,u.oneCell'=true:=by
 intro u hu;obtain⟨f,_,h⟩:=uB.1 hu;simp only[eX,ez,iD,or_false]at h;rcases h with rfl|rfl<;>rfl
theorem Wg(f f':dV)(w:World):(Op.equalIn 10000 148 (aU (eX f).toArray) (aU (eX f').toArray)).run aC w= .ok (decide (f=f')) w:=by
 obtain⟨k,q⟩:=f;obtain⟨k',q'⟩:=f';unfold eX
 go_simp
 by_cases e1:k=k'<;>by_cases e2:q=q'<;>simp[e1,e2]
def ZP:wF dV:=yv eX 2 (λ_=>rfl) Wf
def oB:wF aV.Prod:=Vx fY (bW ZP)
def ee(t n:Int)(vp:Value):Value:=aU #[av az t,av az n,vp]
def kz(F:Nat->Prop)(w:World)(v:Value)(g:eL):Prop:=∃vp,v=ee g.aT g.bM vp/\kH oB F w vp g.aF/\dr.eD g.aT/\dr.eD g.bM
theorem kz.stay{F:Nat->Prop}{w w':World}{v:Value}{g:eL}(h:kz F w v g)(hk:∀k,F k->w'.heap[k]?=w.heap[k]?):kz F w' v g:=
 let ⟨vp,h1,h2,h3⟩:=h;⟨vp,h1,h2.stay hk,h3⟩
theorem kH.gr{α:Type}{s:wF α}{w w':World}{v:Value}{l:List α}(h:kH s (λk=>k<w.heap.size) w v l)(hg:Gr w w'):kH s (λk=>k<w'.heap.size) w' v l:=
 (h.stay λk hk=>hg.block k hk).mono λ_ hk=>jf hk hg.size
theorem kz.gr{w w':World}{v:Value}{g:eL}(h:kz (λk=>k<w.heap.size) w v g)(hg:Gr w w'):kz (λk=>k<w'.heap.size) w' v g:=
 let ⟨vp,h1,h2,h3⟩:=h;⟨vp,h1,h2.gr hg,h3⟩
theorem lT{F:Nat->Prop}{w:World}{b off:Nat}{l:List aV.Prod}(h:∀i (h:i<l.length),∃cs,oB.is F w cs l[i]/\Rd w b (off+i*oB.c) cs){k:Nat}(hk:k<l.length):
 ∃base cap,Rd w b (off+k*2) [av az l[k].1,.slice base l[k].2.length cap]/\dr.eD l[k].1/\kH ZP F w (.slice base l[k].2.length cap) l[k].2:=by
 obtain⟨cs,⟨c1,c2,rfl,⟨rfl,l7⟩,⟨vb,rfl,zr⟩⟩,hr⟩:=h k hk;have afV:=zr;obtain⟨base,cap,rfl,_⟩:=afV;exact⟨base,cap,hr,l7,zr⟩
end cZ
namespace cZ
open Go.RowKit dr eH aV
theorem nV(a:dV):(eX a).length=2:=rfl
theorem wH(v:Value)(l:List dV)(w:World)(hs:Sl w v l.length (l.flatMap eX))(pB:FuncId)(first cp:Array Value)(p:dV->Bool)(Dl:Enters aC pB)
 (hp:∀a∈l,∀w',Gr w w'->Calls aC pB (first++#[(aU (eX a).toArray)]++cp) w' (cY (ret (.bool (p a))) w')):
 Calls aC 156 #[v,.func (.func pB) first cp] w (cY (ret (av az (rv p l))) w):=by
 obtain⟨base,cap,rfl,lR,kA,fl⟩:=hs;unfold maxLen at kA;refine enter (args:=[ap base l.length cap,.func (.func pB) first cp]) (n:=19) Tryz.func156 I I I ?_
 try refine GA ?_
 refine eK (ι:=Nat) (λk=>k<=l.length/\∀j (hj:j<l.length),j<k->p l[j]=aE) (λk=>[(0,ap base l.length cap),(1,.func (.func pB) first cp),(7,av az l.length),(8,av az (k:Int))]) (λ_=>[]) (λk=>l.length-k) 0 ⟨by omega,λj hj h=>by omega⟩ ?_;rintro k ⟨h1,h2⟩
 by_cases c2:k<l.length
 ·obtain⟨b,off,rfl,hr⟩:=fl J
  have d_:=iB (L:=([]:List cU)) nV hr c2;have lz:=hp l[k] (cV c2)
  by_cases c3:p l[k]=aD
  ·rw[ry c2 c3 h2]
   rw[c3]at lz;clear hp h2 fl
   repeat(first|refine GA ?_|refine gV (a_ bR.eq aL.ty I I c2) ?_|refine gV (bH aL.ty I I d_) ?_)
   refine a8 (BI Dl I I) (λw hm=>lz w hm.below) I I I ?_;intro _ _
   try refine GA ?_
   exact fa
  have Kk:p l[k]=false:=by simpa using c3
  rw[Kk]at lz;clear hp fl c3
  repeat(first|refine GA ?_|refine gV (a_ bR.eq aL.ty I I c2) ?_|refine gV (bH aL.ty I I d_) ?_)
  refine a8 (BI Dl I I) (λw hm=>lz w hm.below) I I I ?_;intro _ _
  try refine GA ?_
  exact cJ (k+1) ⟨by omega,λj hj h=>if e:j<k then h2 j hj e else(by obtain rfl:j=k:=J;exact Kk)⟩ (by show l.length-(k+1)<l.length-k;omega)
 ·rw[rz λj hj=>h2 j hj J]
  clear hp h2 fl
  try refine GA ?_
  exact fa
theorem sG(v:Value)(l:List dV)(w:World)(hs:Sl w v l.length (l.flatMap eX))(pB:FuncId)(first cp:Array Value)(p:dV->Bool)(Dl:Enters aC pB)
 (hp:∀a∈l,∀w',Gr w w'->Calls aC pB (first++#[(aU (eX a).toArray)]++cp) w' (cY (ret (.bool (p a))) w')):
 Calls aC 119 #[v,.func (.func pB) first cp] w (cY (ret (.bool (l.any p))) w):=by
 refine enter (args:=[v,.func (.func pB) first cp]) (n:=9) Tryz.func119 I I I ?_;have hh:=λw' (hg:Gr w w')=>wH v l w' (hs.gr hg) pB first cp p Dl λa ha B7 yC=>hp a ha B7 (hg.trans yC);have hr:=ph p l;rw[<-uk p l];generalize rv p l=r at*
 try refine GA ?_
 refine a8 (gK aJ.en I I I) (λw hm=>hh _ hm.below) I I I ?_;intro _ _
 repeat(first|refine GC ?_|refine gV (dQ I I I) ?_|refine GB ?_)
 exact fa
end cZ
namespace cZ
open Go.RowKit dr eH aV
theorem Kq(t n:Int)(vp:Value)(x:dV)(w:World):Calls aC 121 #[ee t n vp,aU (eX x).toArray] w (cY (ret (.bool (right t n x))) w):=by
 obtain⟨k,q⟩:=x;refine enter (args:=[ee t n vp,aU (eX (k,q)).toArray]) (n:=31) Tryz.func121 I I I ?_;refine bC (aM (b_ I I I λg0=>b_ I I I λg1=>?_))
 repeat' (first
  |refine QV QP ?_
  |refine QZ ?_
  |refine qn I ?_
  |refine qo I ?_
  |refine qs I I I I I I ?_
  |(((try refine qg I I I ?_);first|refine QV QP ?_|refine QV (aB aL.ty I (aH (i:=0) I I)) ?_|refine QV (aB aL.ty I (aH (i:=1) I I)) ?_|refine QV QA ?_|refine QV QhT ?_|refine QV QhF ?_|refine QV QeT ?_|refine QV QeF ?_|refine QV QlT ?_|refine QV QlF ?_))
  |refine pa (aW I I I) I I I I I (λh=>?_) (λh=>?_)
  |refine tZ (dQ I I I) I I I (λh=>?_) (λh=>?_)
  |refine tZ (aX I I I) I I I (λh=>?_) (λh=>?_)
  |((fail_if_success (refine dN I ?_));(fail_if_success (refine dO I ?_));refine P0 I (λh=>?_) (λh=>?_))
  |((fail_if_success (refine Ng I I I ?_));(fail_if_success (refine Nh I I I ?_));refine zW I I I (λh=>?_) (λh=>?_)))
 all_goals (refine ea I I ?_;congr 1;unfold right;dsimp only at*;repeat (first|rw[if_pos J]|rw[if_neg J]|rw[decide_eq_true (by assumption)]|rw[decide_eq_false (by assumption)]);try rfl)
theorem H_(t n:Int)(vp:Value)(x:dV)(g:Nat)(w:World)(hg:w.heap[g]?=aj (.cells (ee t n vp).cells 33 (0,0))):
 Calls aC 120 #[aU (eX x).toArray,aK (aj ⟨g,0,ak⟩)] w (cY (ret (.bool (!right t n x))) w):=by
 have hcell:∀(L:List cU) (j:Nat) (v:Value),([av az t,av az n,vp]:List Value)[j]?=aj v->At w L ⟨g,0+j,ak⟩ v:=λL j v hj=>kw (by
  rw[cell_of_row w g (0+j) _ _ _ hg,du];show(#[av az t,av az n,vp]:Array Value)[j]?=aj v
  simpa using hj)
 have hr:=Kq t n vp x;refine enter (args:=[aU (eX x).toArray,aK (aj ⟨g,0,ak⟩)]) (n:=8) Tryz.func120 I I I ?_;refine bC (aM (b_ I I I λg0=>?_))
 repeat(first|refine GA ?_|refine gV (bH aL.ty I I (hcell _)) ?_|refine gV (aQ (i:=0) aL.ty I I I) ?_)
 refine a8 (gK aJ.en I I I) (λw hm=>hr w) I I I ?_;intro _ _
 try refine GA ?_
 exact fa
theorem Kr{t n:Int}{l:List aV.Prod}{k:Nat}(h:k<l.length)(h0:yx t n l[k]=0):pu t n (l.drop k)=pu t n (l.drop (k+1)):=by
 rw[ff h,pu,if_neg (by simp[h0])]
theorem Ks{t n:Int}{l:List aV.Prod}{k:Nat}(h:k<l.length)(h0:yx t n l[k]≠0):pu t n (l.drop k)=yx t n l[k]:=by
 rw[ff h,pu,if_pos h0]
theorem jY(v:Value)(g:eL)(w:World)(h:kz (λk=>k<w.heap.size) w v g):
 Calls aC 80 #[v] w (cY (ret (av az (cL g))) w):=by
 obtain⟨vp,rfl,h1,_⟩:=h;obtain⟨bp,cp,rfl,H',E6,oC⟩:=h1;unfold maxLen at E6;obtain⟨t,n,aF⟩:=g;dsimp only at*;refine enter (args:=[ee t n (ap bp aF.length cp)]) (n:=57) Tryz.func80 I I I ?_;refine bC (aM (b_ I I I λg0=>?_));unfold cL;dsimp only
 by_cases c1:t<0
 ·rw[if_pos c1]
  repeat(first|refine GA ?_|refine gV (aB aL.ty I (aH (i:=0) I I)) ?_)
  exact fa
 rw[if_neg c1]
 by_cases c2:30<t
 ·rw[if_pos c2]
  repeat(first|refine GA ?_|refine gV (aB aL.ty I (aH (i:=0) I I)) ?_)
  exact fa
 rw[if_neg c2]
 by_cases c3:n<1
 ·rw[if_pos c3]
  repeat(first|refine GA ?_|refine gV (aB aL.ty I (aH (i:=0) I I)) ?_)
  exact fa
 rw[if_neg c3]
 by_cases c4:20<n
 ·rw[if_pos c4]
  repeat(first|refine GA ?_|refine gV (aB aL.ty I (aH (i:=0) I I)) ?_)
  exact fa
 rw[if_neg c4]
 by_cases c5:40<aF.length
 ·rw[if_pos c5]
  repeat(first|refine GA ?_|refine gV (aB aL.ty I (aH (i:=0) I I)) ?_)
  exact fa
 rw[if_neg c5]
 repeat(first|refine GA ?_|refine gV (aB aL.ty I (aH (i:=0) I I)) ?_)
 refine eK (ι:=Nat) (λk=>k<=aF.length/\pu t n aF=pu t n (aF.drop k)) (λk=>[(1,aK (aj ⟨g0,0,ak⟩)),(30,ap bp aF.length cp),(31,av az aF.length),(32,av az (k:Int))]) (λ_=>[aR g0 (ee t n (ap bp aF.length cp)).cells 33]) (λk=>aF.length-k) 0 ⟨bO _,rfl⟩ ?_;rintro k ⟨i1,i2⟩;rw[i2];clear i2
 by_cases c6:k<aF.length
 ·obtain⟨b,off,rfl,_,hr⟩:=oC J
  obtain⟨bb,cb,q1,q2,q3⟩:=lT hr c6;have pt:=Ks (t:=t) (n:=n) c6;have Dm:=Kr (t:=t) (n:=n) c6;have d_:∀(L:List cU) (j:Nat) (v:Value),([av az aF[k].1,.slice bb aF[k].2.length cb]:List Value)[j]?=aj v->At w L ⟨b,off+k*2+j,ak⟩ v:=λL j v hj=>jb q1 hj;clear hr oC q1;generalize aF[k]=p at*;obtain⟨hd,body⟩:=p;have JQ:=λw' (hg:Gr w w') (hb:w'.heap[g0]?=aj (.cells (ee t n (ap (aj ⟨b,off,ak⟩) aF.length cp)).cells 33 (0,0)))=>sG (ap bb body.length cb) body w' ((q3.flat ahk).gr hg) 120 #[] #[aK (aj ⟨g0,0,ak⟩)] (λx=>!right t n x) aJ.en (λa _ B7 yC=>H_ t n _ a g0 B7 (by rw[yC.block g0 (lA.1 hb).1];exact hb));dsimp only at*
  repeat(first|refine GA ?_|refine gV (a_ bR.eq aL.ty I I c6) ?_|refine gV (bH aL.ty I I (d_ _)) ?_)
  clear d_;refine bz I λg4=>?_;refine il 1 ?_;refine zL ?_;unfold yx at pt Dm;dsimp only at pt Dm
  by_cases c7:8<body.length
  ·rw[if_pos c7]at pt
   rw[pt ahk]
   repeat(first|refine GA ?_|refine gV (aB aL.ty I (aH (i:=1) I I)) ?_)
   exact fa
  rw[if_neg c7]at pt Dm
  by_cases c8:hd<0
  ·rw[if_pos c8]at pt
   rw[pt ahk]
   repeat(first|refine GA ?_|refine gV (aB aL.ty I (aH (i:=1) I I)) ?_)
   exact fa
  rw[if_neg c8]at pt Dm
  by_cases c9:n<=hd
  ·rw[if_pos c9]at pt
   rw[pt ahk]
   repeat(first|refine GA ?_|refine gV (aB aL.ty I (aH (i:=1) I I)) ?_|refine gV (aB aL.ty I (aH (i:=0) I I)) ?_)
   exact fa
  rw[if_neg c9]at pt Dm
  by_cases c10:body.any (λx=>!right t n x)=aD
  ·rw[if_pos c10]at pt
   rw[pt ahk];rw[c10]at JQ
   repeat(first|refine GA ?_|refine gV (aB aL.ty I (aH (i:=1) I I)) ?_|refine gV (aB aL.ty I (aH (i:=0) I I)) ?_|refine gV (wk I I) ?_)
   refine mJ (gK aJ.en I I I) (λw hm=>JQ _ hm.below (hm.get (i:=0) I)) I I I I I ?_;intro _ _
   try refine GA ?_
   exact fa
  have afW:body.any (λx=>!right t n x)=false:=by simpa using c10
  rw[if_neg c10]at Dm;rw[afW]at JQ
  repeat(first|refine GA ?_|refine gV (aB aL.ty I (aH (i:=1) I I)) ?_|refine gV (aB aL.ty I (aH (i:=0) I I)) ?_|refine gV (wk I I) ?_)
  refine mJ (gK aJ.en I I I) (λw hm=>JQ _ hm.below (hm.get (i:=0) I)) I I I I I ?_;intro _ _
  try refine GA ?_
  refine dS [0] ?_;exact cJ (k+1) ⟨by omega,Dm I⟩ (by show aF.length-(k+1)<aF.length-k;omega)
 ·rw[je J]
  try refine GA ?_
  exact fa
end cZ
namespace ey
open aV
inductive Tree where
 |mk (prod tok:Int) (kids:List Tree)
def Tree.prod:Tree->Int| .mk p _ _=>p
def Tree.tok:Tree->Int| .mk _ t _=>t
def Tree.kids:Tree->List Tree| .mk _ _ k=>k
def dC(l:List aV.Prod)(p:Int):aV.Prod:=l.getD p.toNat (0,[])
mutual
def size:Tree->Nat
 | .mk _ _ kids=>abQ kids+1
def abQ:List Tree->Nat
 |[]=>0
 |k::r=>size k+abQ r
end
mutual
def leaves:Tree->Nat
 | .mk p _ kids=>if p<0 then 1 else yD kids
def yD:List Tree->Nat
 |[]=>0
 |k::r=>leaves k+yD r
end
mutual
def Gi(l:List aV.Prod):Tree->dV->Nat->Prop
 | .mk p k kids,x,v=>
  (x.1=1/\p= -1/\k=(v:Int)/\kids=[])\/(x.1≠1/\0<=p/\p<(l.length:Int)/\(dC l p).1=x.2/\k=0/\Ao l kids (dC l p).2 v)
def Ao(l:List aV.Prod):List Tree->List dV->Nat->Prop
 |[],[],_=>True
 |[],_::_,_=>False
 |_::_,[],_=>False
 |k::r,y::b,v=>Gi l k y v/\Ao l r b (v+leaves k)
end
inductive acS where
 |ahead (p:Int)
 |behind (p:Int)
 |leaf (Dn tok:Int)
mutual
def ed(l:List aV.Prod):Tree->List acS
 | .mk p _ kids=> .ahead p::(Kt l kids (dC l p).2++[.behind p])
def Kt(l:List aV.Prod):List Tree->List dV->List acS
 |[],_=>[]
 |_::_,[]=>[]
 | .mk p k ks::r,y::b=>(if p<0 then [.leaf y.2 k]else ed l (.mk p k ks))++Kt l r b
end
end ey
namespace ey
open aV
def NV:acS->Option Int
 | .leaf t _=>aj t
 |_=>ak
def Ap(l:List aV.Prod)(t:Tree):List Int:=(ed l t).filterMap NV
def xI(l:List aV.Prod)(ks:List Tree)(b:List dV):List Int:=(Kt l ks b).filterMap NV
theorem Sm(l:List aV.Prod)(p k:Int)(kids:List Tree):Ap l (.mk p k kids)=xI l kids (dC l p).2:=by
 unfold Ap xI;rw[ed,List.filterMap_cons_none I,zS];simp[NV]
theorem Ku(l:List aV.Prod)(p k:Int)(ks r:List Tree)(y:dV)(b:List dV):xI l (.mk p k ks::r) (y::b)=(if p<0 then [y.2]else Ap l (.mk p k ks))++xI l r b:=by
 unfold xI Ap;rw[Kt,zS]
 congr 1
 split<;>rfl
mutual
theorem Gj{l:List aV.Prod}:∀{t:Tree} {x:dV} {u:Nat},Gi l t x u->0<=t.prod->(Ap l t).length=leaves t
 | .mk p k kids,x,u,h,hp=>by
  rw[Gi]at h;have hp:0<=p:=hp;rw[Sm,leaves,if_neg J];rcases h with⟨_,h,_⟩|⟨_,_,_,_,_,h⟩
  omega;exact Dp h
theorem Dp{l:List aV.Prod}:∀{ks:List Tree} {b:List dV} {u:Nat},Ao l ks b u->(xI l ks b).length=yD ks
 |[],[],_,_=>by rw[yD];simp[xI,Kt]
 | .mk p k kk::r,y::b,u,h=>by
  rw[Ao]at h;rw[Ku,bT,Dp h.2,yD]
  congr 1
  split;rw[leaves,if_pos (by assumption)];rfl;exact Gj h.1 (by show(0:Int)<=p;omega)
 |[],_::_,_,h=>by simp[Ao]at h
 |_::_,[],_,h=>by simp[Ao]at h
end
end ey
namespace gB
open aV
abbrev Span:=Int×Int×Int
abbrev qA:=Span->Nat
def Dq(c:qA)(w:List Int)(x:dV)(a b:Nat):Nat:=if x.1=2 then c (x.2,(a:Int),(b:Int))else if b=a+1/\w[a]?=aj x.2 then 1 else 0
def fu(f:Nat->Nat):Nat->Nat
 |0=>0
 |k+1=>fu f k+f k
def nc(o:Nat->Nat->Nat)(f:Nat->Nat)(b:Nat):Nat:=min 2 (fu (λj=>f j*o j b) (b+1))
def Kv(o:dV->Nat->Nat->Nat)(a:Nat):List dV->(Nat->Nat)->Nat->Nat
 |[],f=>f
 |x::r,f=>Kv o a r (nc (λi j=>o x (a+i) (a+j)) f)
def Dr(b:Nat):Nat:=if b=0 then 1 else 0
def Ia(o:dV->Nat->Nat->Nat)(l:List dV)(a b:Nat):Nat:=Kv o a l Dr (b-a)
def Sn(o:dV->Nat->Nat->Nat)(a b:Nat)(n:Nat):List aV.Prod->Nat
 |[]=>0
 |p::r=>(if p.1=(n:Int)then Ia o p.2 a b else 0)+Sn o a b n r
def Wh(o:dV->Nat->Nat->Nat)(l:List aV.Prod)(a b n:Nat):Nat:=min 2 (Sn o a b n l)
def py(len:Nat)(f:Nat->Nat):List Nat:=(eG len).map f
theorem oV(f:Nat->Nat):∀k,(∀j,j<k->f j=0)->fu f k=0
 |0,_=>rfl
 |k+1,h=>by rw[fu,oV f k λj hj=>h j J,h k J]
theorem Wi(o:Nat->Nat->Nat)(f:Nat->Nat)(b:Nat):nc o f b<=2:=V1 ..
theorem Wj(b:Nat):Dr b<=2:=by unfold Dr;split<;>omega
theorem ZQ(o:dV->Nat->Nat->Nat)(l:List aV.Prod)(a b n:Nat):Wh o l a b n<=2:=V1 ..
end gB
namespace gB
open aV
theorem Aq{f f':Nat->Nat}:∀k,(∀j,j<k->f j<=f' j)->fu f k<=fu f' k
 |0,_=>bJ _
 |k+1,h=>by
  rw[fu,fu];exact Nat.add_le_add (Aq k λj hj=>h j J) (h k J)
def Wk(n:Nat)(l:List aV.Prod):Prop:=∀p∈l,∀x∈p.2,x.1=2->0<=x.2/\x.2<(n:Int)
def Wl(w:List Int)(l:List aV.Prod)(n:Nat)(S:qA):Prop:=∀k a b,k<n->a<=b->b<=w.length->Wh (Dq S w) l a b k<=S ((k:Int),(a:Int),(b:Int))
def ZR(w:List Int)(l:List aV.Prod)(n:Nat)(c:qA)(a b:Nat):Prop:=∀k,k<n->c ((k:Int),(a:Int),(b:Int))=Wh (Dq c w) l a b k
structure Lfp(w:List Int)(l:List aV.Prod)(n:Nat)(c:qA):Prop where
 le2:∀x,c x<=2
 fixed:∀a b,a<=b->b<=w.length->ZR w l n c a b
 least:∀S,Wl w l n S->∀k a b,k<n->a<=b->b<=w.length->c ((k:Int),(a:Int),(b:Int))<=S ((k:Int),(a:Int),(b:Int))
structure ZS(w:List Int)(l:List aV.Prod)(n:Nat)(D:Nat->Nat->Prop)(c:qA):Prop where
 le2:∀x,c x<=2
 fixed:∀a b,a<=b->b<=w.length->D a b->ZR w l n c a b
 least:∀S,Wl w l n S->∀k a b,k<n->a<=b->b<=w.length->c ((k:Int),(a:Int),(b:Int))<=S ((k:Int),(a:Int),(b:Int))
 zero:∀k a b,k<n->a<=b->b<=w.length->¬D a b->c ((k:Int),(a:Int),(b:Int))=0
structure aem(w:List Int)(l:List aV.Prod)(n:Nat)(D:Nat->Nat->Prop)(a b:Nat)(c:qA):Prop where
 le2:∀x,c x<=2
 fixed:∀i j,i<=j->j<=w.length->D i j->ZR w l n c i j
 least:∀S,Wl w l n S->∀k i j,k<n->i<=j->j<=w.length->c ((k:Int),(i:Int),(j:Int))<=S ((k:Int),(i:Int),(j:Int))
 zero:∀k i j,k<n->i<=j->j<=w.length->¬D i j->¬(i=a/\j=b)->c ((k:Int),(i:Int),(j:Int))=0
 grow:∀k,k<n->c ((k:Int),(a:Int),(b:Int))<=Wh (Dq c w) l a b k
section
variable{w:List Int}{l:List aV.Prod}{n:Nat}{D D':Nat->Nat->Prop}{a b:Nat}{c:qA}
theorem aem.done(h:aem w l n D a b c)(hf:ZR w l n c a b)(hD:∀i j,i<=j->j<=w.length->(D' i j↔D i j\/(i=a/\j=b))):ZS w l n D' c:=
 ⟨h.le2,λi j h1 h2 h3=>((hD i j h1 h2).1 h3).elim (h.fixed i j h1 h2) λ⟨e1,e2⟩=>by subst e1 e2;exact hf,h.least,λk i j hk h1 h2 h3=>by
  have:¬(D i j\/(i=a/\j=b)):=λh=>h3 ((hD i j h1 h2).2 h);exact h.zero k i j hk h1 h2 (λh=>this (.inl h)) λh=>this (.inr h)⟩
theorem ZS.same(h:ZS w l n D c)(hD:∀i j,i<=j->j<=w.length->(D' i j↔D i j)):ZS w l n D' c:=
 ⟨h.le2,λi j h1 h2 h3=>h.fixed i j h1 h2 ((hD i j h1 h2).1 h3),h.least,λk i j hk h1 h2 h3=>h.zero k i j hk h1 h2 λh=>h3 ((hD i j h1 h2).2 h)⟩
end
end gB
namespace gB
open aV
theorem Lfp.pre{w:List Int}{l:List aV.Prod}{n:Nat}{c:qA}(h:Lfp w l n c):Wl w l n c:=λk a b hk h1 h2=>by rw[<-h.fixed a b h1 h2 k hk];exact bJ _
end gB
namespace gB
open aV
theorem me{f g:Nat->Nat}:∀k,(∀j,j<k->f j=g j)->fu f k=fu g k
 |0,_=>rfl
 |k+1,h=>by rw[fu,fu,me k λj hj=>h j J,h k J]
theorem Kw(f g:Nat->Nat):∀k,fu (λj=>f j+g j) k=fu f k+fu g k
 |0=>rfl
 |k+1=>by rw[fu,fu,fu,Kw f g k];omega
theorem Kx(v:Nat)(f:Nat->Nat):∀k,fu (λj=>v*f j) k=v*fu f k
 |0=>rfl
 |k+1=>by rw[fu,fu,Kx v f k,Nat.mul_add]
theorem Gk(v:Nat)(f:Nat->Nat):∀k,fu (λj=>f j*v) k=fu f k*v
 |0=>by simp[fu]
 |k+1=>by rw[fu,fu,Gk v f k,Nat.add_mul]
theorem Gl(f:Nat->Nat->Nat)(m:Nat):∀k,fu (λi=>fu (λj=>f i j) m) k=fu (λj=>fu (λi=>f i j) k) m
 |0=>by rw[fu];exact(oV _ m λ_ _=>rfl).symm
 |k+1=>by rw[fu,Gl f m k,<-Kw];rfl
theorem Ds(f:Nat->Nat):∀k,fu f (k+1)=f 0+fu (λj=>f (j+1)) k
 |0=>by simp[fu]
 |k+1=>by rw[fu,Ds f k,fu];omega
theorem xJ(f:Nat->Nat)(a:Nat):∀k,fu f (a+k)=fu f a+fu (λj=>f (a+j)) k
 |0=>by simp[fu]
 |k+1=>by rw[<-l6,fu,xJ f a k,fu];omega
theorem Wm(f:Nat->Nat){i k:Nat}(hi:i<k)(h:∀j,j<k->j≠i->f j=0):fu f k=f i:=by
 induction k with
 |zero=>omega
 | succ k ih=>
  rw[fu]
  by_cases e:i=k
  ·subst e
   rw[oV f i λj hj=>h j J J,du]
  rw[ih J λj hj=>h j J,h k J (λe'=>e e'.symm),iO]
theorem Wn(f:Nat->Nat->Nat)(d:Nat):fu (λj=>fu (λi=>f i j) (j+1)) (d+1)=fu (λi=>fu (λk=>f i (i+k)) (d-i+1)) (d+1):=by
 have h1:fu (λj=>fu (λi=>f i j) (j+1)) (d+1)=fu (λj=>fu (λi=>if i<=j then f i j else 0) (d+1)) (d+1):=by
  refine me _ λj hj=>?_;rw[show d+1=(j+1)+(d-j)by omega,xJ (λi=>if i<=j then f i j else 0)];rw[oV (λq=>if j+1+q<=j then f (j+1+q) j else 0) _ λq _=>if_neg J,iO];exact me _ λi hi=>(if_pos J).symm
 rw[h1,Gl];refine me _ λi hi=>?_;rw[show d+1=i+(d-i+1)by omega,xJ,oV _ i λj hj=>if_neg J,du];exact me _ λk _=>if_pos J
def yE(o:dV->Nat->Nat->Nat):List dV->Nat->Nat->Nat
 |[],a,b=>if a=b then 1 else 0
 |x::r,a,b=>fu (λi=>o x a (a+i)*yE o r (a+i) b) (b-a+1)
theorem Qj(f g:Nat->Nat):∀k,(∀j,j<k->min 2 (f j)=min 2 (g j))->min 2 (fu f k)=min 2 (fu g k)
 |0,_=>rfl
 |k+1,h=>by
  have h1:=Qj f g k λj hj=>h j J;have h2:=h k J;rw[fu,fu];omega
theorem ZT(u v:Nat):min 2 (min 2 u*v)=min 2 (u*v):=by
 by_cases h:u<=2
 ·have e:min 2 u=u:=by omega
  rw[e]
 have e:min 2 u=2:=by omega
 rw[e]
 by_cases hv:v=0
 subst hv;simp;have:2<=2*v:=by omega
 have h2:2*v<=u*v:=Nat.mul_le_mul_right v J;omega
theorem Ql(o:dV->Nat->Nat->Nat)(a:Nat):∀(l:List dV) (f:Nat->Nat) (d:Nat),(∀j,f j<=2)->Kv o a l f d=min 2 (fu (λi=>f i*yE o l (a+i) (a+d)) (d+1))
 | [],f,d,h=>by
  rw[Kv,Wm _ (show d<d+1 by omega) λj _ hj=>by rw[yE,if_neg J,Nat.mul_zero],yE,if_pos I,kR];have:=h d;omega
 | x ::r,f,d,h=>by
  rw[Kv,Ql o a r _ d (Wi _ _)];have h1:min 2 (fu (λi=>nc (λi j=>o x (a+i) (a+j)) f i*yE o r (a+i) (a+d)) (d+1))=min 2 (fu (λj=>fu (λi=>f i*o x (a+i) (a+j)*yE o r (a+j) (a+d)) (j+1)) (d+1)):=Qj _ _ _ λj _=>by
   rw[Gk];exact ZT _ _
  rw[h1,Wn (λi j=>f i*o x (a+i) (a+j)*yE o r (a+j) (a+d))]
  congr 1
  refine me _ λi hi=>?_;rw[yE,<-Kx,show a+d-(a+i)=d-i by omega];refine me _ λk _=>?_;rw[Nat.mul_assoc,l6]
theorem NW(o:dV->Nat->Nat->Nat)(l:List dV){a b:Nat}(h:a<=b):Ia o l a b=min 2 (yE o l a b):=by
 unfold Ia;rw[Ql o a l Dr _ Wj,Ds];rw[oV (λj=>Dr (j+1)*yE o l (a+(j+1)) (a+(b-a))) _ λj _=>by simp[Dr]];rw[show a+(b-a)=b by omega];simp[Dr]
end gB
namespace gB
open aV ey
def pC(n:Nat)(l:List aV.Prod):Prop:=∀p∈l,0<=p.1/\p.1<(n:Int)/\∀x∈p.2,x.1=1\/(x.1=2/\0<=x.2/\x.2<(n:Int))
theorem Sq{g:eL}{n:Nat}(h:cL g=0)(hn:g.bM=n):pC n g.aF:=λp hp=>by
 obtain⟨_,_,_,_,_,a6⟩:=de h;obtain⟨b1,b2,b3,b4⟩:=a6 p hp;refine⟨b2,by omega,λx hx=>?_⟩;have:=b4 x hx;unfold right at this;split at this;exact .inl (by assumption);split at this;simp at this;exact .inr ⟨by assumption,by omega,by omega⟩;simp at this
theorem pC.bM{n:Nat}{l:List aV.Prod}(h:pC n l):Wk n l:=λp hp x hx h2=>by
 rcases(h p hp).2.2 x hx with h|h
 omega;exact h.2
theorem xK{l:List aV.Prod}{p:Int}(h0:0<=p)(h:p<(l.length:Int)):dC l p∈l:=by
 unfold dC;rw[cK,bQ J];exact cV _
def NX(l:List aV.Prod)(t:Tree)(x:dV):List Int:=if t.prod<0 then [x.2]else Ap l t
theorem NY{l:List aV.Prod}{t:Tree}{x:dV}{u:Nat}(h:Gi l t x u):(NX l t x).length=leaves t:=by
 unfold NX;split
 ·obtain⟨p,k,ks⟩:=t
  rw[leaves,if_pos (by assumption)];rfl
 exact Gj h J
section
end
end gB
namespace gB
open aV ey
def acT(o:dV->Nat->Nat->Nat)(y:dV)(r:List dV)(a b m:Nat):Bool:=decide (0<o y a m)&&decide (0<Ia o r m b)
section
variable{o:dV->Nat->Nat->Nat}{l:List aV.Prod}{x:dV}{a b:Nat}
theorem Ky{f:Nat->Nat}:∀{k:Nat},0<fu f k->∃i,i<k/\0<f i
 |0,h=>by simp[fu]at h
 | k+1,h=>by
  rw[fu]at h
  by_cases c:0<f k
  exact⟨k,by omega,c⟩;obtain⟨i,h1,h2⟩:=Ky (f:=f) (k:=k) J;exact⟨i,by omega,h2⟩
theorem ZU{y:dV}{r:List dV}(Dt:a<=b)(h:0<Ia o (y::r) a b):∃m,a<=m/\m<=b/\acT o y r a b m=true:=by
 rw[NW _ _ Dt,yE]at h;obtain⟨i,h1,h2⟩:=Ky (f:=λi=>o y a (a+i)*yE o r (a+i) b) (k:=b-a+1) J;have h2:0<o y a (a+i)*yE o r (a+i) b:=h2;refine⟨a+i,by omega,by omega,?_⟩;unfold acT;rw[NW _ _ (by omega:a+i<=b)];rw[fU,decide_eq_true_iff,decide_eq_true_iff];exact⟨Nat.pos_of_mul_pos_right h2,by have:=Nat.pos_of_mul_pos_left h2;omega⟩
theorem Kz{n:Nat}:∀{l:List aV.Prod},0<Sn o a b n l->∃k,k<l.length/\(dC l (k:Int)).1=(n:Int)/\0<Ia o (dC l (k:Int)).2 a b
 |[],h=>by simp[Sn]at h
 | p ::r,h=>by
  rw[Sn]at h
  by_cases c:p.1=(n:Int)/\0<Ia o p.2 a b
  exact⟨0,by simp,c.1,c.2⟩;have:0<Sn o a b n r:=by
   by_cases c1:p.1=(n:Int)
   ·rw[if_pos c1]at h
    have:¬0<Ia o p.2 a b:=λh=>c ⟨c1,h⟩;omega
   rw[if_neg c1]at h;omega
  obtain⟨k,h1,h2,h3⟩:=Kz this;exact⟨k+1,by simpa using h1,h2,h3⟩
theorem xL{k:Nat}(h:k<l.length):dC l (k:Int)=l[k]:=by
 unfold dC;rw[dP,cK,bQ h];rfl
end
section
end
end gB
namespace eg
open aV
def hY(l:List Bool)(i:Nat)(b:Bool):List Bool×Bool:=if b=aD/\l.getD i aE=aE then(l.set i aD,aD)else(l,aE)
def pD(l:List Bool)(body:List dV)(aT:Bool):Bool:=body.all λx=>if x.1=1 then aT else if x.1=2 then l.getD x.2.toNat aE else aD
def oo(l:List Nat)(i:Nat)(b:Nat):List Nat×Bool:=(l.set i (l.getD i 0|||b),!decide ((l.getD i 0|||b)=l.getD i 0))
def mO(E:List Bool)(F:List Nat)(behind:Nat):List dV->Nat->Nat
 |[],out=>out|||behind
 |x::r,out=>if x.1=1 then out|||2^x.2.toNat else if E.getD x.2.toNat aE=aD then mO E F behind r (out|||F.getD x.2.toNat 0)else out|||F.getD x.2.toNat 0
def gI(E:List Bool)(F:List Nat)(body:List dV)(behind:Nat):Nat:=mO E F behind body 0
theorem nw(l:List Bool)(i:Nat)(b:Bool):(hY l i b).1.length=l.length:=by
 unfold hY;split<;>simp
theorem Wo(l:List Nat)(i:Nat)(b:Nat):(oo l i b).1.length=l.length:=by
 simp[oo]
structure FS where
 E:List Bool
 R:List Bool
 M:List Bool
 more:Bool
def A8(h:Nat)(x:dV)(R:List Bool)(more:Bool):List Bool×Bool:=if x.1=2 then((hY R x.2.toNat (R.getD h aE)).1,(hY R x.2.toNat (R.getD h aE)).2||more)else(R,more)
def ny(h:Nat):List dV->List Bool->Bool->List Bool×Bool
 |[],R,more=>(R,more)
 |x::r,R,more=>ny h r (A8 h x R more).1 (A8 h x R more).2
def pE(p:aV.Prod)(s:FS):FS:=
 let h:=p.1.toNat
 let a:=hY s.E h (pD s.E p.2 aE)
 let b:=hY s.M h (pD s.M p.2 aD)
 let c:=ny h p.2 s.R (b.2||(a.2||s.more))
 ⟨a.1,c.1,b.1,c.2⟩
def ie:List aV.Prod->FS->FS
 |[],s=>s
 |p::r,s=>ie r (pE p s)
theorem Sr(h:Nat)(x:dV)(R:List Bool)(more:Bool):(A8 h x R more).1.length=R.length:=by
 unfold A8;split;exact nw _ _ _;rfl
theorem Du(h:Nat):∀(body:List dV) (R:List Bool) (more:Bool),(ny h body R more).1.length=R.length
 |[],_,_=>rfl
 |x::r,R,more=>by rw[ny,Du h r,Sr]
def pF(l:List Bool):Nat:=l.countP id
theorem KA{l:List Bool}{i:Nat}{b:Bool}(hi:i<l.length):pF (hY l i b).1=pF l+(if(hY l i b).2=aD then 1 else 0):=by
 unfold hY;split
 ·rename_i c
  have h0:l[i]=false:=by
   have:=c.2;rw[cK,bQ hi]at this
   simpa using this
  unfold pF;rw[List.countP_set hi];simp[h0]
 simp
end eg
namespace eg
open aV
def NZ{σ:Type}(step:σ->σ×Bool):Nat->σ->σ
 |0,s=>s
 |f+1,s=>if(step s).2=aD then NZ step f (step s).1 else(step s).1
structure Dv{σ:Type}(step:σ->σ×Bool)(ok:σ->Prop)(μ:σ->Nat):Prop where
 keep:∀s,ok s->ok (step s).1
 dec:∀s,ok s->(step s).2=aD->μ (step s).1<μ s
def fix{σ:Type}(step:σ->σ×Bool)(μ:σ->Nat)(s:σ):σ:=NZ step (μ s+1) s
section
variable{σ:Type}{step:σ->σ×Bool}{ok:σ->Prop}{μ:σ->Nat}
theorem Gm(h:Dv step ok μ):∀(f g:Nat) (s:σ),ok s->μ s<f->μ s<g->NZ step f s=NZ step g s
 |0,_,_,_,h1,_=>by omega
 |_,0,_,_,_,h2=>by omega
 | f +1,g+1,s,hs,h1,h2=>by
  unfold NZ
  by_cases c:(step s).2=aD
  ·rw[if_pos c,if_pos c]
   have:=h.dec s hs c;exact Gm h f g _ (h.keep s hs) J J
  rw[if_neg c,if_neg c]
theorem Ib(h:Dv step ok μ){s:σ}(hs:ok s)(c:(step s).2=aD):fix step μ s=fix step μ (step s).1:=by
 have:=h.dec s hs c;unfold fix;rw[NZ,if_pos c];exact Gm h _ _ _ (h.keep s hs) J J
theorem yF{s:σ}(c:(step s).2=aE):fix step μ s=(step s).1:=by
 unfold fix;rw[NZ,if_neg (by rw[c];decide)]
theorem yG(h:Dv step ok μ):∀(k:Nat) (s:σ),ok s->μ s<=k->∃s',ok s'/\(step s').2=aE/\fix step μ s=(step s').1
 | k,s,hs,hk=>by
  by_cases c:(step s).2=aD
  ·have hd:=h.dec s hs c
   match k with
   |0=>omega
   | k+1=>
    obtain⟨s',h1,h2,h3⟩:=yG h k (step s).1 (h.keep s hs) J;exact⟨s',h1,h2,by rw[Ib h hs c,h3]⟩
  have c':(step s).2=false:=by simpa using c
  exact⟨s,hs,c',yF c'⟩
end
def Gn(E:List Bool)(M:List Bool)(p:aV.Prod)(F:List Nat)(more:Bool):List Nat×Bool:=
 if pD M p.2 aD=aD then((oo F p.1.toNat (gI E F p.2 0)).1,(oo F p.1.toNat (gI E F p.2 0)).2||more)else(F,more)
def rC(E M:List Bool):List aV.Prod->List Nat->Bool->List Nat×Bool
 |[],F,more=>(F,more)
 |p::r,F,more=>rC E M r (Gn E M p F more).1 (Gn E M p F more).2
def jz(E:List Bool)(F:List Nat)(h:Nat)(x:dV)(r:List dV)(W:List Nat)(more:Bool):List Nat×Bool:=
 if x.1=2 then((oo W x.2.toNat (gI E F r (W.getD h 0))).1,(oo W x.2.toNat (gI E F r (W.getD h 0))).2||more)else(W,more)
def jZ(E:List Bool)(F:List Nat)(h:Nat):List dV->List Nat->Bool->List Nat×Bool
 |[],W,more=>(W,more)
 |x::r,W,more=>jZ E F h r (jz E F h x r W more).1 (jz E F h x r W more).2
def nW(E:List Bool)(F:List Nat):List aV.Prod->List Nat->Bool->List Nat×Bool
 |[],W,more=>(W,more)
 |p::r,W,more=>nW E F r (jZ E F p.1.toNat p.2 W more).1 (jZ E F p.1.toNat p.2 W more).2
def nB(l:List Nat):Nat:=(l.map λx=>18446744073709551616-x).sum
def zt(n:Nat)(l:List Nat):Prop:=l.length=n/\∀x∈l,x<18446744073709551616
theorem oK{n:Nat}{l:List Nat}(h:zt n l)(i:Nat):l.getD i 0<18446744073709551616:=by
 rw[cK]
 cases e:l[i]? with
 |none=>decide
 |some y=>exact h.2 y (mF e)
theorem wq{x y:Nat}(hx:x<18446744073709551616)(hy:y<18446744073709551616):x|||y<18446744073709551616:=V0 (n:=64) hx hy
theorem Cg{n:Nat}{l:List Nat}{i b:Nat}(h:zt n l)(hb:b<18446744073709551616):zt n (oo l i b).1:=by
 refine⟨by rw[Wo];exact h.1,λx hx=>?_⟩;rcases NK hx with h1|rfl
 exact h.2 x h1;exact wq (oK h i) hb
theorem Qm:∀(l:List Nat) (i:Nat) (y:Nat) (h:i<l.length),((l.set i y).map λx=>18446744073709551616-x).sum+(18446744073709551616-l[i])=(l.map λx=>18446744073709551616-x).sum+(18446744073709551616-y)
 |a::r,0,y,h=>by simp;omega
 |a::r,i+1,y,h=>by
  have:=Qm r i y (by simpa using h);simp at this⊢;omega
theorem Gp{n:Nat}{l:List Nat}{i b:Nat}(h:zt n l)(hi:i<n)(hb:b<18446744073709551616):nB (oo l i b).1<=nB l/\((oo l i b).2=aD->nB (oo l i b).1<nB l):=by
 have Zs:i<l.length:=by rw[h.1];exact hi
 have hs:=Qm l i (l.getD i 0|||b) Zs;have e:l.getD i 0=l[i]:=by rw[cK,bQ Zs];rfl
 have h1:l[i]<=l.getD i 0|||b:=by rw[e];exact Nat.left_le_or
 have h2:=wq (oK h i) hb;have h3:=h.2 _ (cV Zs);unfold nB oo;dsimp only;refine⟨by omega,λhc=>?_⟩;simp only[zu,decide_eq_false_iff_not]at hc;omega
theorem oW{E:List Bool}{F:List Nat}{n:Nat}{body:List dV}{behind:Nat}(hF:zt n F)(hb:behind<18446744073709551616)(hx:∀x∈body,x.1=1->x.2.toNat<64):gI E F body behind<18446744073709551616:=by
 have key:∀(body:List dV) (out:Nat),out<18446744073709551616->(∀x∈body,x.1=1->x.2.toNat<64)->mO E F behind body out<18446744073709551616:=by
  intro body
  induction body with
  |nil=>intro out h _;exact wq h hb
  | cons x r ih=>
   intro out h hx;unfold mO;split
   ·rename_i c
    have hp:(2:Nat)^x.2.toNat<2^64:=VZ ahk (hx x (by simp) c);exact wq h (by simpa using hp)
   split;exact ih _ (wq h (oK hF _)) λy hy=>hx y (by simp[hy]);exact wq h (oK hF _)
 exact key body 0 ahk hx
structure Dw(n:Nat)(l:List aV.Prod):Prop where
 head:∀p∈l,0<=p.1/\p.1.toNat<n
 Dn:∀p∈l,∀x∈p.2,x.1=1->0<=x.2/\x.2.toNat<64
 Zb:∀p∈l,∀x∈p.2,x.1≠1->x.1=2/\0<=x.2/\x.2.toNat<n
theorem yH{g:eL}{n:Nat}(h:cL g=0)(hn:g.bM=n):Dw n g.aF:=by
 obtain⟨a,b,c,d,e,f⟩:=de h;refine⟨λp hp=>?_,λp hp x hx kB=>?_,λp hp x hx kB=>?_⟩;have:=f p hp;omega
 ·have:=(f p hp).2.2.2 x hx
  unfold right at this;rw[if_pos kB]at this;simp at this;omega
 have:=(f p hp).2.2.2 x hx;unfold right at this;rw[if_neg kB]at this;split at this
 ·rename_i h2
  simp at this;exact⟨h2,by omega,by omega⟩
 simp at this
theorem Dw.tail{n:Nat}{p:aV.Prod}{l:List aV.Prod}(h:Dw n (p::l)):Dw n l:=
 ⟨λq hq=>h.head q (by simp[hq]),λq hq=>h.Dn q (by simp[hq]),λq hq=>h.Zb q (by simp[hq])⟩
theorem uH{E M:List Bool}{n:Nat}:∀(l:List aV.Prod) (F:List Nat) (more:Bool),Dw n l->zt n F->zt n (rC E M l F more).1/\nB (rC E M l F more).1<=nB F/\((rC E M l F more).2=aD->more=aD\/nB (rC E M l F more).1<nB F)
 |[],F,more,_,h=>⟨h,bJ _,λc=> .inl c⟩
 | p ::r,F,more,hf,h=>by
  have hb:gI E F p.2 0<18446744073709551616:=oW h ahk λx hx kB=>(hf.Dn p (by simp) x hx kB).2;have hh:=hf.head p (by simp);rw[rC];unfold Gn;split
  ·have h1:=Cg (i:=p.1.toNat) h hb
   have h2:=Gp h hh.2 hb;obtain⟨k1,k2,k3⟩:=uH r (oo F p.1.toNat (gI E F p.2 0)).1 ((oo F p.1.toNat (gI E F p.2 0)).2||more) hf.tail h1;refine⟨k1,fI k2 h2.1,λc=>?_⟩;rcases k3 c with c2|c2
   ·rw[mA]at c2
    rcases c2 with c2|c2
    exact .inr (xG k2 (h2.2 c2));exact .inl c2
   exact .inr (jf c2 h2.1)
  exact uH r F more hf.tail h
theorem Gq{E:List Bool}{F:List Nat}{n h:Nat}(hF:zt n F)(hh:h<n):∀(body:List dV) (W:List Nat) (more:Bool),(∀x∈body,x.1=1->x.2.toNat<64)->(∀x∈body,x.1=2->x.2.toNat<n)->zt n W->zt n (jZ E F h body W more).1/\nB (jZ E F h body W more).1<=nB W/\((jZ E F h body W more).2=aD->more=aD\/nB (jZ E F h body W more).1<nB W)
 |[],W,more,_,_,hW=>⟨hW,bJ _,λc=> .inl c⟩
 | x ::r,W,more,ht,hx,hW=>by
  have hb:gI E F r (W.getD h 0)<18446744073709551616:=oW hF (oK hW h) λy hy=>ht y (by simp[hy]);have tl:=λW more=>Gq (E:=E) hF hh r W more (λy hy=>ht y (by simp[hy])) (λy hy=>hx y (by simp[hy]));rw[jZ];unfold jz;split
  ·rename_i c0
   have h1:=Cg (i:=x.2.toNat) hW hb;have h2:=Gp hW (hx x (by simp) c0) hb;obtain⟨k1,k2,k3⟩:=tl (oo W x.2.toNat (gI E F r (W.getD h 0))).1 ((oo W x.2.toNat (gI E F r (W.getD h 0))).2||more) h1;refine⟨k1,fI k2 h2.1,λc=>?_⟩;rcases k3 c with c2|c2
   ·rw[mA]at c2
    rcases c2 with c2|c2
    exact .inr (xG k2 (h2.2 c2));exact .inl c2
   exact .inr (jf c2 h2.1)
  exact tl W more hW
theorem yI{E:List Bool}{F:List Nat}{n:Nat}(hF:zt n F):∀(l:List aV.Prod) (W:List Nat) (more:Bool),Dw n l->zt n W->zt n (nW E F l W more).1/\nB (nW E F l W more).1<=nB W/\((nW E F l W more).2=aD->more=aD\/nB (nW E F l W more).1<nB W)
 |[],W,more,_,h=>⟨h,bJ _,λc=> .inl c⟩
 | p ::r,W,more,hf,h=>by
  rw[nW];obtain⟨a1,a2,a3⟩:=Gq (E:=E) hF (hf.head p (by simp)).2 p.2 W more (λx hx h1=>(hf.Dn p (by simp) x hx h1).2) (λx hx h2=>(hf.Zb p (by simp) x hx J).2.2) h;obtain⟨k1,k2,k3⟩:=yI hF r (jZ E F p.1.toNat p.2 W more).1 (jZ E F p.1.toNat p.2 W more).2 hf.tail a1;refine⟨k1,fI k2 a2,λc=>?_⟩;rcases k3 c with c2|c2
  ·rcases a3 c2 with c3|c3
   exact .inl c3;exact .inr (xG k2 c3)
  exact .inr (jf c2 a2)
theorem N0{E M:List Bool}{n:Nat}{l:List aV.Prod}(hf:Dw n l):Dv (λF=>rC E M l F aE) (zt n) nB:=
 ⟨λs hs=>(uH l s aE hf hs).1,λs hs c=>by
  rcases(uH (E:=E) (M:=M) l s aE hf hs).2.2 c with h|h
  cases h
  exact h⟩
theorem Wp{E:List Bool}{F:List Nat}{n:Nat}{l:List aV.Prod}(hF:zt n F)(hf:Dw n l):Dv (λW=>nW E F l W aE) (zt n) nB:=
 ⟨λs hs=>(yI hF l s aE hf hs).1,λs hs c=>by
  rcases(yI (E:=E) hF l s aE hf hs).2.2 c with h|h
  cases h
  exact h⟩
end eg
namespace eg
open aV
def Wq(n:Nat)(s:FS):Prop:=s.E.length=n/\s.R.length=n/\s.M.length=n
def had(s:FS):Nat:=pF s.E+pF s.R+pF s.M
def KB(l:List aV.Prod)(s:FS):FS×Bool:=(ie l ⟨s.E,s.R,s.M,aE⟩,(ie l ⟨s.E,s.R,s.M,aE⟩).more)
theorem Dx(l:List Bool):pF l<=l.length:=List.countP_le_length
theorem xM{l:List Bool}{i:Nat}{b:Bool}(hi:i<l.length):pF l<=pF (hY l i b).1/\((hY l i b).2=aD->pF l<pF (hY l i b).1):=by
 have:=KA (b:=b) hi;refine⟨by split at this<;>omega,λh=>?_⟩;rw[if_pos h]at this;omega
theorem A9{h n:Nat}:∀(body:List dV) (R:List Bool) (more:Bool),(∀x∈body,x.1=2->x.2.toNat<n)->R.length=n->pF R<=pF (ny h body R more).1/\((ny h body R more).2=aD->more=aD\/pF R<pF (ny h body R more).1)
 |[],R,more,_,_=>⟨bJ _,λc=> .inl c⟩
 | x ::r,R,more,hx,hR=>by
  rw[ny];have ih:=λR more=>A9 (h:=h) r R more λy hy=>hx y (by simp[hy]);unfold A8;split
  ·rename_i c0
   have hg:=xM (b:=R.getD h aE) (show x.2.toNat<R.length by rw[hR];exact hx x (by simp) c0);have hl:=nw R x.2.toNat (R.getD h aE);generalize hY R x.2.toNat (R.getD h aE)=a at*;obtain⟨R2,m2⟩:=a;dsimp only at*;obtain⟨k1,k2⟩:=ih R2 (m2||more) J;refine⟨by omega,λc=>?_⟩;rcases k2 c with c2|c2
   ·rw[mA]at c2
    rcases c2 with c2|c2
    ·have:=hg.2 c2
     exact .inr J
    exact .inl c2
   exact .inr J
  exact ih R more hR
theorem KC{n:Nat}{p:aV.Prod}{s:FS}(hp:p.1.toNat<n)(hx:∀x∈p.2,x.1=2->x.2.toNat<n)(h:Wq n s):Wq n (pE p s)/\had s<=had (pE p s)/\((pE p s).more=aD->s.more=aD\/had s<had (pE p s)):=by
 obtain⟨E,R,M,more⟩:=s;obtain⟨h1,h2,h3⟩:=h;unfold pE Wq had;dsimp only at*;have e1:=xM (b:=pD E p.2 aE) (show p.1.toNat<E.length by omega);have e2:=nw E p.1.toNat (pD E p.2 aE);have m1:=xM (b:=pD M p.2 aD) (show p.1.toNat<M.length by omega);have m2:=nw M p.1.toNat (pD M p.2 aD);generalize hY E p.1.toNat (pD E p.2 aE)=a at*;generalize hY M p.1.toNat (pD M p.2 aD)=b at*;obtain⟨E2,ce⟩:=a;obtain⟨M2,cm⟩:=b;dsimp only at*;have r1:=A9 (h:=p.1.toNat) p.2 R (cm||(ce||more)) hx h2;have r2:=Du p.1.toNat p.2 R (cm||(ce||more));generalize ny p.1.toNat p.2 R (cm||(ce||more))=c at*;obtain⟨R2,cr⟩:=c;dsimp only at*;refine⟨⟨by omega,by omega,by omega⟩,by omega,λhc=>?_⟩;rcases r1.2 hc with h4|h4
 ·rw[mA,mA]at h4
  rcases h4 with h4|h4|h4
  ·have:=m1.2 h4
   exact .inr J
  ·have:=e1.2 h4
   exact .inr J
  exact .inl h4
 exact .inr J
theorem qB{n:Nat}:∀(l:List aV.Prod) (s:FS),Dw n l->Wq n s->Wq n (ie l s)/\had s<=had (ie l s)/\((ie l s).more=aD->s.more=aD\/had s<had (ie l s))
 |[],s,_,h=>⟨h,bJ _,λc=> .inl c⟩
 | p ::r,s,hf,h=>by
  rw[ie];obtain⟨a1,a2,a3⟩:=KC (s:=s) (hf.head p (by simp)).2 (λx hx h2=>(hf.Zb p (by simp) x hx J).2.2) h;obtain⟨k1,k2,k3⟩:=qB r (pE p s) hf.tail a1;refine⟨k1,by omega,λc=>?_⟩;rcases k3 c with c2|c2
  ·rcases a3 c2 with c3|c3
   exact .inl c3;exact .inr J
  exact .inr J
theorem acU{n:Nat}{s:FS}(h:Wq n s):had s<=3*n:=by
 have a:=Dx s.E;have b:=Dx s.R;have c:=Dx s.M;obtain⟨h1,h2,h3⟩:=h;unfold had;omega
def A_(n:Nat)(s:FS):Nat:=3*n-had s
theorem Dy{n:Nat}{l:List aV.Prod}(hf:Dw n l):Dv (KB l) (Wq n) (A_ n):=
 ⟨λs hs=>(qB l ⟨s.E,s.R,s.M,aE⟩ hf hs).1,λs hs c=>by
  have h:=qB l ⟨s.E,s.R,s.M,aE⟩ hf hs;have h2:=acU h.1;rcases h.2.2 c with h3|h3
  cases h3
  have e:had ⟨s.E,s.R,s.M,aE⟩=had s:=rfl;show 3*n-had (ie l ⟨s.E,s.R,s.M,aE⟩)<3*n-had s
  omega⟩
end eg
namespace eg
open aV
theorem Ws(l:List Nat)(i:Nat):l.set i (l.getD i 0)=l:=by
 by_cases h:i<l.length
 ·have e:l.getD i 0=l[i]:=by rw[cK,bQ h];rfl
  rw[e,List.set_getElem_self]
 rw[List.set_eq_of_length_le J]
end eg
namespace eg
open aV ey
theorem sH{E:List Bool}{F:List Nat}{h:Nat}:∀(body:List dV) (W:List Nat) (more:Bool),(jZ E F h body W more).2=aE->more=aE/\(jZ E F h body W more).1=W/\∀pre x post,body=pre++x::post->x.1=2->W.getD x.2.toNat 0|||gI E F post (W.getD h 0)=W.getD x.2.toNat 0
 |[],W,more,hm=>⟨hm,rfl,λpre x post e=>by simp at e⟩
 | y ::r,W,more,hm=>by
  rw[jZ]at hm⊢;unfold jz at hm⊢
  by_cases c:y.1=2
  ·rw[if_pos c]at hm⊢
   obtain⟨h1,h2,h3⟩:=sH r _ _ hm;rw[Dd]at h1;have h4:W.getD y.2.toNat 0|||gI E F r (W.getD h 0)=W.getD y.2.toNat 0:=by
    have:=h1.1;unfold oo at this
    simpa using this
   have h5:(oo W y.2.toNat (gI E F r (W.getD h 0))).1=W:=by
    unfold oo;dsimp only;rw[h4,Ws]
   rw[h2];dsimp only at h3⊢;rw[h5]at h3⊢;refine⟨h1.2,rfl,λpre x post e hx=>?_⟩
   match pre,e with
   | [],e=>
    simp only[fg,ib]at e;obtain⟨rfl,rfl⟩:=e;exact h4
   | z::pre,e=>
    simp only[ku,ib]at e;exact h3 pre x post e.2 hx
  rw[if_neg c]at hm⊢;obtain⟨h1,h2,h3⟩:=sH r _ _ hm;refine⟨h1,h2,λpre x post e hx=>?_⟩
  match pre,e with
  | [],e=>
   simp only[fg,ib]at e;obtain⟨rfl,rfl⟩:=e;exact absurd hx c
  | z::pre,e=>
   simp only[ku,ib]at e;exact h3 pre x post e.2 hx
theorem A'{E:List Bool}{F:List Nat}:∀(l:List aV.Prod) (W:List Nat) (more:Bool),(nW E F l W more).2=aE->more=aE/\(nW E F l W more).1=W/\∀p∈l,∀pre x post,p.2=pre++x::post->x.1=2->W.getD x.2.toNat 0|||gI E F post (W.getD p.1.toNat 0)=W.getD x.2.toNat 0
 |[],W,more,hm=>⟨hm,rfl,λp hp=>by cases hp⟩
 |p::r,W,more,hm=>by
  rw[nW]at hm⊢;obtain⟨h1,h2,h3⟩:=A' r _ _ hm;obtain⟨k1,k2,k3⟩:=sH p.2 W more h1;rw[k2]at h2 h3⊢;refine⟨k1,h2,λq hq=>?_⟩;rcases ez.1 hq with rfl|hq
  exact k3;exact h3 q hq
end eg
namespace xN
open aV ey gB eg
mutual
inductive Fe(l:List aV.Prod):dV->List Int->Prop
 |Dn {x:dV} (h:x.1=1):Fe l x [x.2]
 |Zb {x:dV} {p:aV.Prod} {ws:List Int} (h:x.1≠1) (hp:p∈l) (hx:p.1=x.2) (hd:rD l p.2 ws):Fe l x ws
inductive rD(l:List aV.Prod):List dV->List Int->Prop
 |nil:rD l [] []
 |cons {y:dV} {r:List dV} {a b:List Int} (h1:Fe l y a) (h2:rD l r b):rD l (y::r) (a++b)
end
theorem rD.Ss{l:List aV.Prod}:∀{r r':List dV} {a b:List Int},rD l r a->rD l r' b->rD l (r++r') (a++b)
 |[],_,_,_,.nil,h=>h
 |_::_,_,_,_,.cons h1 h2,h=>by rw[eZ];exact .cons h1 (rD.Ss h2 h)
theorem Wt{l:List aV.Prod}{x:dV}{a:List Int}(h:Fe l x a):rD l [x] a:=by
 have:=rD.cons h rD.nil
 rwa [eB]at this
def cut(w:List Int)(a b:Nat):List Int:=(w.drop a).take (b-a)
theorem yJ{w:List Int}{a m b:Nat}(h1:a<=m)(h2:m<=b):cut w a m++cut w m b=cut w a b:=by
 unfold cut;have e3:w.drop m=(w.drop a).drop (m-a):=by rw[List.drop_drop,show a+(m-a)=m by omega]
 rw[e3,show b-a=(m-a)+(b-m)by omega,List.take_add]
theorem KD(w:List Int)(a:Nat):cut w a a=[]:=by unfold cut;simp
theorem Qn{w:List Int}{a n:Nat}(h:n=w.length):cut w a n=w.drop a:=by
 unfold cut;rw[gj (by simp;omega)]
theorem Qo{w:List Int}{a b:Nat}(h1:a<=b)(h2:b<=w.length):(cut w a b).length=b-a:=by
 unfold cut;rw[jR,iv];omega
theorem KE{l:List aV.Prod}{w:List Int}{o:dV->Nat->Nat->Nat}:∀(body:List dV) (a b:Nat),a<=b->(∀y∈body,∀i j,a<=i->i<=j->j<=b->0<o y i j->Fe l y (cut w i j))->0<Ia o body a b->rD l body (cut w a b)
 | [],a,b,Dt,_,h=>by
  rw[NW _ _ Dt,yE]at h;have hE:a=b:=by
   by_cases c:a=b
   exact c;rw[if_neg c]at h;omega
  subst hE;rw[KD];exact .nil
 |y::r,a,b,Dt,ho,h=>by
  obtain⟨m,m1,m2,m3⟩:=ZU Dt h;unfold acT at m3;rw[fU,decide_eq_true_iff,decide_eq_true_iff]at m3;rw[<-yJ m1 m2];exact .cons (ho y (by simp) a m (bJ _) m1 m2 m3.1) (KE r m b m2 (λz hz i j h1 h2 h3=>ho z (by simp[hz]) i j J h2 h3) m3.2)
section
variable{w:List Int}{l:List aV.Prod}{n:Nat}{c:qA}
open Classical in
theorem Ic(hc:Lfp w l n c)(hs:pC n l){k a b:Nat}(hk:k<n)(Dt:a<=b)(hb:b<=w.length)(h:0<c ((k:Int),(a:Int),(b:Int))):Fe l (2,(k:Int)) (cut w a b):=by
 have hp:Wl w l n (λx=>if Fe l (2,x.1) (cut w x.2.1.toNat x.2.2.toNat)then 2 else 0):=λq i j hq rp hj=>by
  dsimp only;rw[dP,dP]
  by_cases cd:Fe l (2,(q:Int)) (cut w i j)
  rw[if_pos cd];exact ZQ _ _ _ _ _;rw[if_neg cd];apply Nat.le_of_not_lt;intro h0;unfold Wh at h0;obtain⟨r,r1,r2,r3⟩:=Kz (Nat.lt_min.1 h0).2;have hm:=xK (l:=l) (p:=(r:Int)) J J;refine cd (.Zb (by show(2:Int)≠1;decide) hm r2 (KE _ i j rp (λy hy i' j' h1 h2 h3 h4=>?_) r3));unfold Dq at h4
  by_cases e:y.1=2
  ·rw[if_pos e]at h4
   dsimp only at h4;rw[dP,dP]at h4;split at h4
   ·rename_i hd
    obtain⟨y1,y2⟩:=y;dsimp only at e hd;subst e;exact hd
   omega
  rw[if_neg e]at h4;split at h4
  ·rename_i h5
   obtain⟨h6,h7⟩:=h5;have e1:y.1=1:=((hs _ hm).2.2 y hy).resolve_right λh=>e h.1;obtain⟨h8,h9⟩:=dv.1 h7;have:cut w i' j'=[y.2]:=by
    unfold cut;rw[h6,show i'+1-i'=1 by omega,ff h8,h9];rfl
   rw[this];exact .Dn e1
  omega
 have:=hc.least _ hp k a b hk Dt hb;dsimp only at this;rw[dP,dP]at this
 by_cases cd:Fe l (2,(k:Int)) (cut w a b)
 exact cd;rw[if_neg cd]at this;omega
theorem N1(hc:Lfp w l n c)(hs:pC n l){x:dV}{a b:Nat}(hx:x.1=1\/(x.1=2/\0<=x.2/\x.2<(n:Int)))(Dt:a<=b)(hb:b<=w.length)(h:0<Dq c w x a b):Fe l x (cut w a b):=by
 unfold Dq at h;rcases hx with hx|⟨h2,h3,h4⟩
 ·rw[if_neg J]at h
  split at h
  ·rename_i h5
   obtain⟨h6,h7⟩:=h5;obtain⟨h8,h9⟩:=dv.1 h7;have:cut w a b=[x.2]:=by
    unfold cut;rw[h6,show a+1-a=1 by omega,ff h8,h9];rfl
   rw[this];exact .Dn hx
  omega
 rw[if_pos h2]at h;obtain⟨x1,x2⟩:=x;dsimp only at*;subst h2;have e:x2=((x2.toNat:Nat):Int):=by omega
 rw[e]at h⊢;exact Ic hc hs J Dt hb h
end
section
end
def xO(l:List aV.Prod)(s:FS):Prop:=(∀i:Nat,s.E.getD i aE=aD->Fe l (2,(i:Int)) [])/\∀i:Nat,s.M.getD i aE=aD->∃ws,Fe l (2,(i:Int)) ws
theorem Dz{l:List aV.Prod}{E:List Bool}(h:∀i:Nat,E.getD i aE=aD->Fe l (2,(i:Int)) []):∀(b:List dV),(∀x∈b,x.1=1\/(x.1=2/\0<=x.2))->pD E b aE=aD->rD l b []
 |[],_,_=> .nil
 | y::r,hx,ha=>by
  unfold pD at ha;rw[dw,fU]at ha;have ih:=Dz h r (λz hz=>hx z (by simp[hz])) ha.2;rcases hx y (by simp)with c|⟨c1,c2⟩
  rw[if_pos c]at ha;simp at ha;rw[if_neg J,if_pos c1]at ha;have hd:=h _ ha.1;obtain⟨y1,y2⟩:=y;dsimp only at*;subst c1;rw[uy c2]at hd;exact .cons hd ih
theorem DA{l:List aV.Prod}{M:List Bool}(h:∀i:Nat,M.getD i aE=aD->∃ws,Fe l (2,(i:Int)) ws):∀(b:List dV),(∀x∈b,x.1=1\/(x.1=2/\0<=x.2))->pD M b aD=aD->∃ws,rD l b ws
 |[],_,_=>⟨[],.nil⟩
 | y::r,hx,ha=>by
  unfold pD at ha;rw[dw,fU]at ha;obtain⟨ws,ih⟩:=DA h r (λz hz=>hx z (by simp[hz])) ha.2;rcases hx y (by simp)with c|⟨c1,c2⟩
  exact⟨_,.cons (.Dn c) ih⟩;rw[if_neg J,if_pos c1]at ha;obtain⟨us,hd⟩:=h _ ha.1;obtain⟨y1,y2⟩:=y;dsimp only at*;subst c1;rw[uy c2]at hd;exact⟨_,.cons hd ih⟩
theorem KF{l:List Bool}{i k:Nat}{b:Bool}(h:(hY l i b).1.getD k aE=aD):l.getD k aE=aD\/(k=i/\b=aD):=by
 unfold hY at h;split at h
 ·rename_i c
  dsimp only at h;rw[cK,VX]at h
  by_cases e:i=k
  exact .inr ⟨e.symm,c.1⟩;rw[if_neg e,<-cK]at h;exact .inl h
 exact .inl h
theorem Ie{n:Nat}{l:List aV.Prod}(hs:pC n l){p:aV.Prod}(hp:p∈l){s:FS}(h:xO l s):xO l (pE p s):=by
 obtain⟨s1,s2,s3⟩:=hs p hp;have hx:∀x∈p.2,x.1=1\/(x.1=2/\0<=x.2):=λx hx=>(s3 x hx).imp id λh=>⟨h.1,h.2.1⟩;unfold pE;refine⟨λi hi=>?_,λi hi=>?_⟩
 ·rcases KF hi with h1|⟨h1,h2⟩
  exact h.1 i h1;subst h1;exact .Zb (by show(2:Int)≠1;decide) hp J (Dz h.1 _ hx h2)
 rcases KF hi with h1|⟨h1,h2⟩
 exact h.2 i h1;subst h1;obtain⟨ws,hw⟩:=DA h.2 _ hx h2;exact⟨ws,.Zb (by show(2:Int)≠1;decide) hp J hw⟩
theorem yK{n:Nat}{l:List aV.Prod}(hs:pC n l):∀(r:List aV.Prod),(∀p∈r,p∈l)->∀(s:FS),xO l s->xO l (ie r s)
 |[],_,s,h=>h
 |p::r,hr,s,h=>by
  rw[ie];exact yK hs r (λq hq=>hr q (by simp[hq])) _ (Ie hs (hr p (by simp)) h)
end xN
namespace xN
open aV ey gB
def abR(l:List aV.Prod)(w:List Int)(x:dV)(a b:Nat)(t:Tree):Prop:=Gi l t x a/\NX l t x=cut w a b
theorem abR.leaves{l:List aV.Prod}{w:List Int}{x:dV}{a b:Nat}{t:Tree}(h:abR l w x a b t)(Dt:a<=b)(hb:b<=w.length):leaves t=b-a:=by
 rw[<-NY h.1,h.2,Qo Dt hb]
section
end
section
end
end xN
namespace BK
open aV ey gB eg xN
abbrev Cl:=Int×Int×Int×Int
def N2(T col:Nat):Nat:=if col=T then 9223372036854775808 else 2^col
section
variable(l:List aV.Prod)(may:Nat->Nat)(T:Nat)
def DB(n col i:Nat):Bool:=decide ((dC l (i:Int)).1=(n:Int))&&!decide ((may i&&&N2 T col)=0)
def iF(n col:Nat):Nat->Int
 |0=> -1
 |k+1=>if iF n col k<0 then(if DB l may T n col k=aD then(k:Int)else iF n col k)else iF n col k
def xP(n col:Nat):Nat->List Cl->List Cl
 |0,out=>out
 |k+1,out=>if DB l may T n col k=aD then(if iF l may T n col k<0 then xP n col k out else xP n col k out++[((n:Int),(col:Int),iF l may T n col k,(k:Int))])else xP n col k out
def BL(n:Nat):Nat->List Cl->List Cl
 |0,out=>out
 |c+1,out=>xP l may T n c l.length (BL n c out)
def mP:Nat->List Cl
 |0=>[]
 |n+1=>BL l may T n (T+1) (mP n)
def rowAt(n col:Nat):Int:=iF l may T n col l.length
end
section
variable{l:List aV.Prod}{may:Nat->Nat}{T:Nat}
theorem uI(n col:Nat):∀k,-1<=iF l may T n col k/\iF l may T n col k<(k:Int)
 |0=>⟨by rw[iF];omega,by rw[iF];omega⟩
 |k+1=>by
  have:=uI n col k;rw[iF];split;split<;>omega;omega
theorem xQ(n col:Nat):∀k,k<=l.length->0<=iF l may T n col k->(dC l (iF l may T n col k)).1=(n:Int)
 |0,_,h=>by rw[iF]at h;omega
 | k + 1,hk,h=>by
  have ih:=xQ n col k J;rw[iF]at h⊢;split at h
  ·split at h
   ·rename_i c1 c2
    rw[if_pos c1,if_pos c2];unfold DB at c2;rw[fU,decide_eq_true_iff]at c2;exact c2.1
   omega
  rename_i c1
  rw[if_neg c1];exact ih h
end
def DC(T:Nat)(w:List Int)(a:Nat):Nat:=if a<w.length then(w.getD a 0).toNat else T
section
end
section
end
section
end
end BK
namespace cZ
open Go.RowKit dr eH aV ey
inductive pG(F:Nat->Prop)(w:World):List Value->Tree->Prop
 |mk {p k:Int} {kids:List Tree} {base:Option Addr} {cap:Nat} (gY:List (List Value)):dr.eD p->dr.eD k->kids.length<=cap->cap<=maxLen->gY.length=kids.length->
  (∀i (h:i<kids.length) (h':i<gY.length),pG F w gY[i] kids[i])->(0<kids.length->∃b off,base=aj ⟨b,off,ak⟩/\F b/\∀i (_:i<kids.length) (h':i<gY.length),Rd w b (off+i*3) gY[i])->
  pG F w [av az p,av az k,ap base kids.length cap] (.mk p k kids)
theorem pG.afX{F:Nat->Prop}{w:World}{cs:List Value}{t:Tree}(h:pG F w cs t):cs.length=3:=by
 cases h;rfl
theorem pG.HX{F:Nat->Prop}{w w':World}{cs:List Value}{t:Tree}(h:pG F w cs t)(hk:∀k,F k->w'.heap[k]?=w.heap[k]?):pG F w' cs t:=by
 induction h with
 |mk gY h1 h2 h3 h4 h5 h6 h7 ih=>
  refine .mk gY h1 h2 h3 h4 h5 ih λhl=>?_;obtain⟨b,off,e,hF,hr⟩:=h7 hl;exact⟨b,off,e,hF,λi hi qN=>rd_stay (hr i hi qN) (hk b hF)⟩
theorem pG.mono{F F':Nat->Prop}{w:World}{cs:List Value}{t:Tree}(h:pG F w cs t)(hk:∀k,F k->F' k):pG F' w cs t:=by
 induction h with
 |mk gY h1 h2 h3 h4 h5 h6 h7 ih=>
  refine .mk gY h1 h2 h3 h4 h5 ih λhl=>?_;obtain⟨b,off,e,hF,hr⟩:=h7 hl;exact⟨b,off,e,hk b hF,hr⟩
def aen:wF Tree:=⟨3,pG,λh=>h.afX,λh hk=>h.HX hk,λh hk=>h.mono hk⟩
def aeo(p k:Int)(v:Value):Value:=aU #[av az p,av az k,v]
def Wu(F:Nat->Prop)(w:World)(v:Value)(t:Tree):Prop:=∃vk,v=aeo t.prod t.tok vk/\dr.eD t.prod/\dr.eD t.tok/\kH aen F w vk t.kids
theorem Wu.gr{w w':World}{v:Value}{t:Tree}(h:Wu (λk=>k<w.heap.size) w v t)(hg:Gr w w'):Wu (λk=>k<w'.heap.size) w' v t:=
 let ⟨vk,h1,h2,h3,h4⟩:=h;⟨vk,h1,h2,h3,h4.gr hg⟩
section
end
end cZ
namespace cZ
open Go.RowKit dr eH
theorem Qp(l:List Int):∀u∈l.flatMap dr.eV,u.oneCell'=true:=by
 intro u hu;obtain⟨f,_,h⟩:=uB.1 hu;simp only[dr.eV,ez,iD,or_false]at h;subst h;rfl
theorem KG(l:List Int):l.flatMap dr.eV=l.map (.int .i64):=dr.abF l
end cZ
namespace cZ
open Go.RowKit dr eH aV eg
def ik(n:Nat):Value:= .int .u64 (n:Int)
theorem Ch{l:List Bool}{i:Nat}(hi:i<l.length):(l.map gi)[i]?=aj (.bool (l.getD i aE)):=by
 simp[hi]
theorem If{l:List Nat}{i:Nat}(hi:i<l.length):(l.map ik)[i]?=aj (ik (l.getD i 0)):=by
 simp[hi]
theorem N3(g cap:Nat)(l:List Bool)(i:Nat)(b:Bool)(w:World)(B:b9)(hi:i<l.length)(hm:Mem B [bD 4 1 (ap (aj ⟨g,0,ak⟩) l.length cap) l.length (l.map .bool)] w):
 Calls aC 122 #[ap (aj ⟨g,0,ak⟩) l.length cap,av az (i:Int),.bool b] w (dF ⟨λ(_:Unit)=>True,λ_=> .bool (hY l i b).2,λ_=>[bD 4 1 (ap (aj ⟨g,0,ak⟩) l.length cap) l.length ((hY l i b).1.map .bool)]⟩ B):=by
 have hb:=Ch hi;refine dZ hm (args:=[ap (aj ⟨g,0,ak⟩) l.length cap,av az (i:Int),.bool b]) (n:=18) Tryz.func122 I I I ?_;unfold hY
 cases b
 ·rw[if_neg (by simp)]
  try refine GA ?_
  exact da I I λw hm=>hm.cX (S:=⟨λ(_:Unit)=>True,λ_=> .bool aE,λ_=>[bD 4 1 (ap (aj ⟨g,0,ak⟩) l.length cap) l.length (l.map .bool)]⟩) () trivial [0] ahk I
 ·generalize hx:l.getD i aE=x at*
  cases x
  ·rw[if_pos ⟨rfl,rfl⟩]
   repeat(first|refine GA ?_|refine gV (cT bR.eq aL.ty I I hi) ?_|refine gV (aB aL.ty I (kx (i:=0) I (by rw[du];exact hb))) ?_)
   refine mj (i:=0) aL.ty I I I I I I (by simpa using hi) ?_
   try refine GA ?_
   exact da I I λw hm=>hm.cX (S:=⟨λ(_:Unit)=>True,λ_=> .bool aD,λ_=>[bD 4 1 (ap (aj ⟨g,0,ak⟩) l.length cap) l.length ((l.set i aD).map .bool)]⟩) () trivial [0] ahk (by simp[sF])
  rw[if_neg (by simp)]
  repeat(first|refine GA ?_|refine gV (cT bR.eq aL.ty I I hi) ?_|refine gV (aB aL.ty I (kx (i:=0) I (by rw[du];exact hb))) ?_)
  exact da I I λw hm=>hm.cX (S:=⟨λ(_:Unit)=>True,λ_=> .bool aE,λ_=>[bD 4 1 (ap (aj ⟨g,0,ak⟩) l.length cap) l.length (l.map .bool)]⟩) () trivial [0] ahk I
theorem xR(v vb:Value)(l:List Bool)(body:List dV)(aT:Bool)(w:World)(hs:Sl w v l.length (l.map .bool))(ZI:Sl w vb body.length (body.flatMap eX))(l7:∀x∈body,x.1=2->0<=x.2/\x.2<l.length):
 Calls aC 123 #[v,vb,.bool aT] w (cY (ret (.bool (pD l body aT))) w):=by
 obtain⟨bv,cv,rfl,h1,h2,h3⟩:=hs;obtain⟨bb,cb,rfl,h4,h5,h6⟩:=ZI;unfold maxLen at h2 h5;refine enter (args:=[ap bv l.length cv,ap bb body.length cb,.bool aT]) (n:=36) Tryz.func123 I I I ?_
 try refine GA ?_
 refine eK (ι:=Nat) (λk=>k<=body.length/\pD l body aT=pD l (body.drop k) aT) (λk=>[(0,ap bv l.length cv),(2,.bool aT),(9,ap bb body.length cb),(10,av az body.length),(11,av az (k:Int))]) (λ_=>[]) (λk=>body.length-k) 0 ⟨bO _,rfl⟩ ?_;rintro k ⟨i1,i2⟩;rw[i2];clear i2
 by_cases c6:k<body.length
 ·obtain⟨b,off,rfl,hr⟩:=h6 J
  have d_:=iB (L:=([]:List cU)) nV hr c6;have ZV:=l7 body[k] (cV c6);have hd:pD l (body.drop k) aT=((if body[k].1=1 then aT else if body[k].1=2 then l.getD body[k].2.toNat aE else aD)&&pD l (body.drop (k+1)) aT):=by
   rw[ff c6];rfl
  rw[hd];clear hd h6 l7 hr;generalize body[k]=x at*;obtain⟨q,m⟩:=x;dsimp only at*
  by_cases c1:q=1
  ·rw[if_pos c1]
   cases aT
   ·repeat(first|refine GA ?_|refine gV (a_ bR.eq aL.ty I I c6) ?_|refine gV (bH aL.ty I I d_) ?_)
    refine bz I λg8=>?_;refine il 0 ?_
    repeat(first|refine GA ?_|refine gV (aB aL.ty I (aH (i:=0) I I)) ?_)
    exact fa
   repeat(first|refine GA ?_|refine gV (a_ bR.eq aL.ty I I c6) ?_|refine gV (bH aL.ty I I d_) ?_)
   refine bz I λg8=>?_;refine il 0 ?_
   repeat(first|refine GA ?_|refine gV (aB aL.ty I (aH (i:=0) I I)) ?_)
   refine dS [] ?_;exact cJ (k+1) ⟨by omega,by simp⟩ (by show body.length-(k+1)<body.length-k;omega)
  rw[if_neg c1]
  by_cases c2:q=2
  ·rw[if_pos c2]
   obtain⟨o1,o2⟩:=ZV c2;obtain⟨mm,rfl⟩:∃mm:Nat,m=mm:=⟨m.toNat,by omega⟩;have tw:mm<l.length:=by omega
   obtain⟨b',Ag,rfl,Ns⟩:=h3 J;rw[dP];have hcell:=Ch tw;generalize l.getD mm aE=y at*
   cases y
   ·repeat(first|refine GA ?_|refine gV (a_ bR.eq aL.ty I I c6) ?_|refine gV (bH aL.ty I I d_) ?_)
    refine bz I λg8=>?_;refine il 0 ?_
    repeat(first|refine GA ?_|refine gV (aB aL.ty I (aH (i:=0) I I)) ?_|refine gV (cT bR.eq aL.ty I I tw) ?_|refine gV (aB aL.ty I (jb Ns hcell)) ?_)
    exact fa
   repeat(first|refine GA ?_|refine gV (a_ bR.eq aL.ty I I c6) ?_|refine gV (bH aL.ty I I d_) ?_)
   refine bz I λg8=>?_;refine il 0 ?_
   repeat(first|refine GA ?_|refine gV (aB aL.ty I (aH (i:=0) I I)) ?_|refine gV (cT bR.eq aL.ty I I tw) ?_|refine gV (aB aL.ty I (jb Ns hcell)) ?_)
   refine dS [] ?_;exact cJ (k+1) ⟨by omega,by simp⟩ (by show body.length-(k+1)<body.length-k;omega)
  rw[if_neg c2]
  repeat(first|refine GA ?_|refine gV (a_ bR.eq aL.ty I I c6) ?_|refine gV (bH aL.ty I I d_) ?_)
  refine bz I λg8=>?_;refine il 0 ?_
  repeat(first|refine GA ?_|refine gV (aB aL.ty I (aH (i:=0) I I)) ?_)
  refine dS [] ?_;exact cJ (k+1) ⟨by omega,by simp⟩ (by show body.length-(k+1)<body.length-k;omega)
 ·rw[je J]
  try refine GA ?_
  exact fa
end cZ
namespace cZ
open Go.RowKit dr eH aV eg
theorem rF{x y:Nat}(hx:x<18446744073709551616)(hy:y<18446744073709551616):bits .or .u64 (x:Int) (y:Int)=((x|||y:Nat):Int):=by
 have h:=bits_nat .u64 64 ahk (λn h0 h1=>by rw[tO];omega) x y (by simpa using hx) (by simpa using hy);exact h.2
theorem aep{x y:Nat}(hx:x<18446744073709551616)(hy:y<18446744073709551616):x|||y<18446744073709551616:=V0 (n:=64) hx hy
theorem yL{m:Nat}(h:m<64):2^m<18446744073709551616:=by
 have:(2:Nat)^m<2^64:=VZ ahk h
 simpa using this
theorem ZW{P:Program}(m:Nat)(hm:m<64)(w:World):(jd .shl .u64 1 .i64 (m:Int)).run P w= .ok (.int .u64 ((2^m:Nat):Int)) w:=by
 have e:min m 64=m:=by omega
 have hp:=yL hm;have e2:(2:Int)^m=((2^m:Nat):Int):=by rw[Int.natCast_pow];rfl
 have e3:xi.wrap ((1:Int)*2^m)=((2^m:Nat):Int):=by
  rw[e2,tO,Int.one_mul];generalize 2^m=q at hp;omega
 have h0:¬((m:Int)<0):=by omega
 simp only[jd,if_neg h0,lB,dP,e,e3,mB]
attribute [local irreducible] Op.shift Go.bits in
theorem Su(g cap:Nat)(l:List Nat)(i b:Nat)(w:World)(B:b9)(hi:i<l.length)(h64:∀x∈l,x<18446744073709551616)(hb:b<18446744073709551616)(hm:Mem B [bD 114 1 (ap (aj ⟨g,0,ak⟩) l.length cap) l.length (l.map ik)] w):
 Calls aC 124 #[ap (aj ⟨g,0,ak⟩) l.length cap,av az (i:Int),ik b] w (dF ⟨λ(_:Unit)=>True,λ_=> .bool (oo l i b).2,λ_=>[bD 114 1 (ap (aj ⟨g,0,ak⟩) l.length cap) l.length ((oo l i b).1.map ik)]⟩ B):=by
 have hc:=If hi;have ZX:l.getD i 0<18446744073709551616:=by
  have e:l.getD i 0=l[i]:=by rw[cK,bQ hi];rfl
  rw[e];exact h64 _ (cV hi)
 refine dZ hm (args:=[ap (aj ⟨g,0,ak⟩) l.length cap,av az (i:Int),ik b]) (n:=25) Tryz.func124 I I I ?_;unfold oo;generalize l.getD i 0=x at*;have JR:=rF ZX hb;have tv:((l.map ik).set i (.int .u64 ((x|||b:Nat):Int)))[0+i]?=aj (.int .u64 ((x|||b:Nat):Int)):=by
  rw[du,mE (by simpa using hi)]
 generalize x|||b=y at*
 by_cases c:y=x
 ·rw[show(!decide (y=x))=aE by simp[c]]
  repeat(first|refine GA ?_|refine gV (cT bR.eq aL.ty I I hi) ?_|refine gV (aB aL.ty I (kx (i:=0) I (by rw[du];exact hc))) ?_|refine gV (yo I I JR) ?_)
  refine mj (i:=0) aL.ty I I I I I I (by simpa using hi) ?_
  conv=>arg 8;simp only[H5,du]
  repeat(first|refine GA ?_|refine gV (cT bR.eq aL.ty I I hi) ?_|refine gV (aB aL.ty I (kx (i:=0) I tv)) ?_)
  exact da I I λw hm=>hm.cX (S:=⟨λ(_:Unit)=>True,λ_=> .bool aE,λ_=>[bD 114 1 (ap (aj ⟨g,0,ak⟩) l.length cap) l.length ((l.set i y).map ik)]⟩) () trivial [0] ahk (by simp[sF];rfl)
 ·rw[show(!decide (y=x))=aD by simp[c]]
  repeat(first|refine GA ?_|refine gV (cT bR.eq aL.ty I I hi) ?_|refine gV (aB aL.ty I (kx (i:=0) I (by rw[du];exact hc))) ?_|refine gV (yo I I JR) ?_)
  refine mj (i:=0) aL.ty I I I I I I (by simpa using hi) ?_
  conv=>arg 8;simp only[H5,du]
  repeat(first|refine GA ?_|refine gV (cT bR.eq aL.ty I I hi) ?_|refine gV (aB aL.ty I (kx (i:=0) I tv)) ?_)
  exact da I I λw hm=>hm.cX (S:=⟨λ(_:Unit)=>True,λ_=> .bool aD,λ_=>[bD 114 1 (ap (aj ⟨g,0,ak⟩) l.length cap) l.length ((l.set i y).map ik)]⟩) () trivial [0] ahk (by simp[sF];rfl)
theorem Ig(E:List Bool)(F:List Nat)(behind:Nat)(x:dV)(r:List dV)(out:Nat):mO E F behind (x::r) out=if x.1=1 then out|||2^x.2.toNat else if E.getD x.2.toNat aE=aD then mO E F behind r (out|||F.getD x.2.toNat 0)else out|||F.getD x.2.toNat 0:=rfl
theorem KH(E:List Bool)(F:List Nat)(behind out:Nat):mO E F behind [] out=out|||behind:=rfl
def mz(vE vF vL vR vM:Value):Value:=aU #[vE,vF,vL,vR,vM]
attribute [local irreducible] Op.shift Go.bits in
theorem uJ(vE vF vL vR vM vb:Value)(E:List Bool)(F:List Nat)(body:List dV)(behind:Nat)(w:World)(hE:Sl w vE E.length (E.map .bool))(hF:Sl w vF F.length (F.map ik))(hs:Sl w vb body.length (body.flatMap eX))(hEF:E.length=F.length)
 (l7:∀x∈body,(x.1=1->0<=x.2/\x.2<64)/\(x.1≠1->0<=x.2/\x.2<F.length)) (h64:∀x∈F,x<18446744073709551616) (hb:behind<18446744073709551616):
 Calls aC 125 #[mz vE vF vL vR vM,vb,ik behind] w (cY (ret (ik (gI E F body behind))) w):=by
 obtain⟨bE,cE,rfl,e1,e2,e3⟩:=hE;obtain⟨bF,cF,rfl,f1,f2,f3⟩:=hF;obtain⟨bb,cb,rfl,h4,h5,h6⟩:=hs;unfold maxLen at e2 f2 h5;refine enter (args:=[mz (ap bE E.length cE) (ap bF F.length cF) vL vR vM,ap bb body.length cb,ik behind]) (n:=44) Tryz.func125 I I I ?_;refine bC (aM (b_ I I I λg3=>?_))
 try refine GA ?_
 unfold gI;refine eK (ι:=Nat×Nat) (λ(k,out)=>k<=body.length/\out<18446744073709551616/\mO E F behind body 0=mO E F behind (body.drop k) out) (λ(k,out)=>[(2,ik behind),(3,aK (aj ⟨g3,0,ak⟩)),(7,ik out),(10,ap bb body.length cb),(11,av az body.length),(12,av az (k:Int))]) (λ_=>[aR g3 (mz (ap bE E.length cE) (ap bF F.length cF) vL vR vM).cells 104]) (λ(k,_)=>body.length-k) (0,0) ⟨bO _,by decide,rfl⟩ ?_;rintro⟨k,out⟩ ⟨i1,i3,i2⟩;dsimp only at i1 i3 i2⊢;rw[i2];clear i2
 by_cases c6:k<body.length
 ·obtain⟨b,off,rfl,hr⟩:=h6 J
  have d_:=iB (L:=[aR g3 (mz (ap bE E.length cE) (ap bF F.length cF) vL vR vM).cells 104]) nV hr c6;have ZV:=l7 body[k] (cV c6);have hd:mO E F behind (body.drop k) out=mO E F behind (body[k]::body.drop (k+1)) out:=by
   rw[ff c6]
  rw[hd];clear hd h6 l7 hr;generalize body[k]=x at*;obtain⟨q,m⟩:=x;dsimp only at*;rw[Ig];dsimp only
  by_cases c1:q=1
  ·rw[if_pos c1]
   obtain⟨o1,o2⟩:=ZV.1 c1;obtain⟨mm,rfl⟩:∃mm:Nat,m=mm:=⟨m.toNat,by omega⟩;rw[dP];have ZY:=λw=>ZW (P:=aC) mm J w;have JR:=rF i3 (yL (m:=mm) J)
   repeat(first|refine GA ?_|refine gV (a_ bR.eq aL.ty I I c6) ?_|refine gV (bH aL.ty I I d_) ?_)
   refine bz I λg8=>?_;refine il 1 ?_
   repeat(first|refine GA ?_|refine gV (aB aL.ty I (aH (i:=1) I I)) ?_|refine gV (CP I I ZY) ?_|refine gV (yo I I JR) ?_)
   exact fa
  rw[if_neg c1];obtain⟨o1,o2⟩:=ZV.2 c1;obtain⟨mm,rfl⟩:∃mm:Nat,m=mm:=⟨m.toNat,by omega⟩;rw[dP];have tw:mm<F.length:=by omega
  have hmE:mm<E.length:=by omega
  obtain⟨b1,agR,rfl,Za⟩:=e3 J;obtain⟨b2,ZZ,rfl,we⟩:=f3 J;have hcE:=Ch hmE;have hcF:=If tw;have ZX:F.getD mm 0<18446744073709551616:=by
   have e:F.getD mm 0=F[mm]:=by rw[cK,bQ tw];rfl
   rw[e];exact h64 _ (cV tw)
  have JR:=rF i3 ZX;have hlt:=aep i3 ZX;generalize E.getD mm aE=y at*;generalize F.getD mm 0=z at*;generalize out|||z=o2 at*
  cases y
  ·rw[if_neg ahk]
   repeat(first|refine GA ?_|refine gV (a_ bR.eq aL.ty I I c6) ?_|refine gV (bH aL.ty I I d_) ?_)
   refine bz I λg8=>?_;refine il 1 ?_
   repeat(first|refine GA ?_|refine gV (aB aL.ty I (aH (i:=1) I I)) ?_|refine gV (aB aL.ty I (aH (i:=0) I I)) ?_|refine gV (cT bR.eq aL.ty I I tw) ?_|refine gV (cT bR.eq aL.ty I I hmE) ?_|refine gV (aB aL.ty I (jb Za hcE)) ?_|refine gV (aB aL.ty I (jb we hcF)) ?_|refine gV (yo I I JR) ?_)
   exact fa
  rw[if_pos I]
  repeat(first|refine GA ?_|refine gV (a_ bR.eq aL.ty I I c6) ?_|refine gV (bH aL.ty I I d_) ?_)
  refine bz I λg8=>?_;refine il 1 ?_
  repeat(first|refine GA ?_|refine gV (aB aL.ty I (aH (i:=1) I I)) ?_|refine gV (aB aL.ty I (aH (i:=0) I I)) ?_|refine gV (cT bR.eq aL.ty I I tw) ?_|refine gV (cT bR.eq aL.ty I I hmE) ?_|refine gV (aB aL.ty I (jb Za hcE)) ?_|refine gV (aB aL.ty I (jb we hcF)) ?_|refine gV (yo I I JR) ?_)
  refine dS [0] ?_;exact cJ (k+1,o2) ⟨by omega,hlt,rfl⟩ (by show body.length-(k+1)<body.length-k;omega)
 ·rw[je J]
  have JR:=rF i3 hb;rw[KH]
  repeat(first|refine GA ?_|refine gV (yo I I JR) ?_)
  exact fa
end cZ
namespace cZ
open Go.RowKit dr eH aV eg
def eT(n g c:Nat)(l:List Bool):cU:=bD 4 1 (ap (aj ⟨g,0,ak⟩) n c) n (l.map .bool)
theorem uK(n g cap:Nat)(l:List Bool)(i:Nat)(b:Bool)(w:World)(B:b9)(hl:l.length=n)(hi:i<n)(hm:Mem B [eT n g cap l] w):
 Calls aC 122 #[ap (aj ⟨g,0,ak⟩) n cap,av az (i:Int),.bool b] w (dF ⟨λ(_:Unit)=>True,λ_=> .bool (hY l i b).2,λ_=>[eT n g cap (hY l i b).1]⟩ B):=by
 subst hl;exact N3 g cap l i b w B hi hm
structure aeq where
 gE:Nat
 cE:Nat
 gR:Nat
 cR:Nat
 gM:Nat
 cM:Nat
def dU(n g c:Nat):Value:=ap (aj ⟨g,0,ak⟩) n c
theorem KI(h:Nat)(x:dV)(r:List dV)(R:List Bool)(more:Bool):ny h (x::r) R more=ny h r (A8 h x R more).1 (A8 h x R more).2:=rfl
theorem KJ(p:aV.Prod)(r:List aV.Prod)(s:FS):ie (p::r) s=ie r (pE p s):=rfl
theorem KM(w0:World)(v:Value)(g:eL)(h:kz (λk=>k<w0.heap.size) w0 v g)(jr:cL g=0)(n:Nat)(hn:g.bM=n)(x:aeq)(vF vL:Value)(E R M:List Bool)(hE:E.length=n)(hR:R.length=n)(hM:M.length=n)(w:World)(B:b9)(ho:p_ w0 B)(hm:Mem B [eT n x.gE x.cE E,eT n x.gR x.cR R,eT n x.gM x.cM M] w):
 Calls aC 81 #[v,mz (dU n x.gE x.cE) vF vL (dU n x.gR x.cR) (dU n x.gM x.cM)] w (dF ⟨λ(_:Unit)=>True,λ_=> .bool (ie g.aF ⟨E,R,M,aE⟩).more,λ_=>[eT n x.gE x.cE (ie g.aF ⟨E,R,M,aE⟩).E,eT n x.gR x.cR (ie g.aF ⟨E,R,M,aE⟩).R,eT n x.gM x.cM (ie g.aF ⟨E,R,M,aE⟩).M]⟩ B):=by
 obtain⟨gE,cE,gR,cR,gM,cM⟩:=x;dsimp only at*;obtain⟨_,_,_,_,hlen,hps⟩:=de jr;obtain⟨vp,rfl,h1,_⟩:=h;obtain⟨bp,cp,rfl,H',E6,oC⟩:=h1;unfold maxLen at E6;obtain⟨t,nn,aF⟩:=g;dsimp only at*;subst hn;refine dZ hm (args:=[ee t (n:Int) (ap bp aF.length cp),mz (dU n gE cE) vF vL (dU n gR cR) (dU n gM cM)]) (n:=70) Tryz.func81 I I I ?_;refine bC (aM (b_ I I I λg2=>b_ I I I λg3=>?_));refine zL ?_
 repeat(first|refine GA ?_|refine gV (aB aL.ty I (aH (i:=3) I I)) ?_)
 refine ue [0,1,2,4] ?_;generalize jM:ie aF ⟨E,R,M,aE⟩=fin;refine eK (ι:=Nat×FS) (λ(k,s)=>k<=aF.length/\s.E.length=n/\s.R.length=n/\s.M.length=n/\ie (aF.drop k) s=fin) (λ(k,s)=>[(3,aK (aj ⟨g3,0,ak⟩)),(5,.bool s.more),(11,ap bp aF.length cp),(12,av az aF.length),(13,av az (k:Int))])
  (λ(_,s)=>[eT n gE cE s.E,eT n gR cR s.R,eT n gM cM s.M,aR g3 (mz (dU n gE cE) vF vL (dU n gR cR) (dU n gM cM)).cells 104]) (λ(k,_)=>aF.length-k) (0,⟨E,R,M,aE⟩) ⟨bO _,hE,hR,hM,jM⟩ ?_
 clear hm hE hR hM jM;rintro⟨k,E,R,M,more⟩ ⟨i1,i2,i3,i4,i5⟩;dsimp only at i1 i2 i3 i4 i5⊢
 by_cases c6:k<aF.length
 ·obtain⟨b,off,rfl,_,hr⟩:=oC J
  obtain⟨bb,cb,q1,q2,q3⟩:=lT hr c6;have eA:=hps aF[k] (cV c6);rw[ff c6,KJ]at i5;have d_:∀(L:List cU) (j:Nat) (v:Value),([av az aF[k].1,.slice bb aF[k].2.length cb]:List Value)[j]?=aj v->At B L ⟨b,off+k*2+j,ak⟩ v:=λL j v hj=>iW ho (q1 j v hj);have wI:=q3.flat ahk;clear hr oC q1 hps q3;generalize aF[k]=p at*;obtain⟨hd,body⟩:=p;obtain⟨p1,p2,p3,p4⟩:=eA;dsimp only at*;obtain⟨hn,rfl⟩:∃hn:Nat,hd=hn:=⟨hd.toNat,by omega⟩;have hhn:hn<n:=by omega
  have Qq:∀x∈body,x.1=2->0<=x.2/\x.2<(n:Int):=λx hx gh=>by
   have:=p4 x hx;unfold right at this;rw[if_neg J,if_pos gh]at this
   simpa using this
  have hsb:∀w' L,Mem B L w'->Sl w' (ap bb body.length cb) body.length (body.flatMap eX):=λw' L hm=>wI.gr (ho.mem hm);unfold pE at i5;dsimp only at i5;rw[dP]at i5;have Wv:=λw' L (hm:Mem B L w') (hx:Sl w' (dU n gE cE) E.length (E.map .bool))=>xR (dU n gE cE) (ap bb body.length cb) E body aE w' hx (hsb w' L hm) (λx hx gh=>by rw[i2];exact Qq x hx gh);have pH:=λw' L (hm:Mem B L w') (hx:Sl w' (dU n gM cM) M.length (M.map .bool))=>xR (dU n gM cM) (ap bb body.length cb) M body aD w' hx (hsb w' L hm) (λx hx gh=>by rw[i4];exact Qq x hx gh);generalize pD E body aE=a1 at*;generalize pD M body aD=a2 at*;have aer:=λw' B' hm=>uK n gE cE E hn a1 w' B' i2 hhn hm;have aes:=λw' B' hm=>uK n gM cM M hn a2 w' B' i4 hhn hm;have Nv:=nw E hn a1;have Ny:=nw M hn a2;rw[i2]at Nv Wv;rw[i4]at Ny pH;generalize hY E hn a1=m1 at*;generalize hY M hn a2=m2 at*;obtain⟨E1,b1⟩:=m1;obtain⟨M1,b2⟩:=m2;dsimp only at*
  repeat(first|refine GA ?_|refine gV (a_ bR.eq aL.ty I I c6) ?_|refine gV (bH aL.ty I I (d_ _)) ?_)
  clear d_;refine bz I λg7=>?_;refine il 4 ?_;refine zL ?_
  repeat(first|refine QV QP ?_|refine cz ?_|refine cB ?_|refine qs I I I I I I ?_|((try refine qg I I I ?_);first|refine QV QP ?_|refine QV QL ?_|refine QV QA ?_|refine QV QlT ?_|refine QV QlF ?_|refine QV QeT ?_|refine QV QeF ?_|refine QV QaA ?_))
  (repeat refine bC ?_)
  refine l_ (ι:=Unit) (λ_=>True) (λ_=>[(3,aK (aj ⟨g3,0,ak⟩)),(5,.bool (b1||more)),(7,aK (aj ⟨g7,0,ak⟩)),(11,ap (aj ⟨b,off,ak⟩) aF.length cp),(12,av az aF.length),(13,av az (k:Int))])
   (λ_=>[eT n gE cE E1,eT n gR cR R,eT n gM cM M,aR g3 (mz (dU n gE cE) vF vL (dU n gR cR) (dU n gM cM)).cells 104,aR g7 #[av az (hn:Int),ap bb body.length cb] 140]) ?_ ?_
  ·refine eo ([aR g3 (mz (dU n gE cE) vF vL (dU n gR cR) (dU n gM cM)).cells 104,aR g7 #[av az (hn:Int),ap bb body.length cb] 140]) (.calm 0 (.calm 1 (.calm 2 (.calm 3 (.calm 4 (.calm 5 (.calm 6 (.calm 7 (.one 8 (.one 9 (.calm 10 (.calm 11 (.calm 12 (.calm 13 (.done))))))))))))))) (cH [3,4]) ?_
   repeat(first|refine GW ?_|(refine GN ?_;first|refine QW (aB aL.ty I (aH (i:=0) I I)) ?_|refine QW (aB aL.ty I (aH (i:=1) I I)) ?_))
   refine aO I ?_;refine a8 (tH aJ.en I I I I) (λw hm=>Wv _ _ hm (l8 (i:=0) I w hm)) I I I ?_;intro _ _;refine zL ?_;refine aP (cH [3,4]) ?_;refine aO I ?_;refine bK [0] [1,2,3,4] ahk I I (tH aJ.en I I I I) (λw hm hb=>aer w _ hb) I I I ?_;intro _ _;refine zL ?_;refine aP (cH [2,3]) ?_
   cases b1
   ·try refine GW ?_
    refine dS [4,0,1,2,3] ?_;exact eJ () trivial (by repeat' (first|exact dl|refine dh I ?_)) I
   try refine GW ?_
   refine dS [4,0,1,2,3] ?_;exact eJ () trivial (by repeat' (first|exact dl|refine dh I ?_)) I
  intro _ _
  (repeat refine bC ?_)
  refine l_ (ι:=Unit) (λ_=>True) (λ_=>[(3,aK (aj ⟨g3,0,ak⟩)),(5,.bool (b2||(b1||more))),(7,aK (aj ⟨g7,0,ak⟩)),(11,(ap (aj ⟨b,off,ak⟩) aF.length cp)),(12,av az aF.length),(13,av az (k:Int))])
   (λ_=>[eT n gE cE E1,eT n gR cR R,eT n gM cM M1,aR g3 (mz (dU n gE cE) vF vL (dU n gR cR) (dU n gM cM)).cells 104,aR g7 #[av az (hn:Int),ap bb body.length cb] 140]) ?_ ?_
  ·refine eo ([aR g3 (mz (dU n gE cE) vF vL (dU n gR cR) (dU n gM cM)).cells 104,aR g7 #[av az (hn:Int),ap bb body.length cb] 140]) (.calm 0 (.calm 1 (.calm 2 (.calm 3 (.calm 4 (.calm 5 (.calm 6 (.calm 7 (.one 8 (.one 9 (.calm 10 (.calm 11 (.calm 12 (.calm 13 (.done))))))))))))))) (cH [3,4]) ?_
   repeat(first|refine GW ?_|(refine GN ?_;first|refine QW (aB aL.ty I (aH (i:=0) I I)) ?_|refine QW (aB aL.ty I (aH (i:=1) I I)) ?_))
   refine aO I ?_;refine a8 (tH aJ.en I I I I) (λw hm=>pH _ _ hm (l8 (i:=2) I w hm)) I I I ?_;intro _ _;refine zL ?_;refine aP (cH [3,4]) ?_;refine aO I ?_;refine bK [2] [0,1,3,4] ahk I I (tH aJ.en I I I I) (λw hm hb=>aes w _ hb) I I I ?_;intro _ _;refine zL ?_;refine aP (cH [2,3]) ?_;generalize (b1||more)=mo
   cases b2
   ·try refine GW ?_
    refine dS [0,1,4,2,3] ?_;exact eJ () trivial (by repeat' (first|exact dl|refine dh I ?_)) I
   try refine GW ?_
   refine dS [0,1,4,2,3] ?_;exact eJ () trivial (by repeat' (first|exact dl|refine dh I ?_)) I
  intro _ _;generalize (b2||(b1||more))=mo at*;clear aer aes Wv pH
  repeat(first|refine GA ?_|refine gV (aB aL.ty I (aH (i:=4) I I)) ?_)
  generalize hfr:ny hn body R mo=fr at*;obtain⟨R2,mo2⟩:=fr;dsimp only at i5;refine eK (ι:=Nat×List Bool×Bool) (λ(j,R',m')=>j<=body.length/\R'.length=n/\ny hn (body.drop j) R' m'=(R2,mo2)) (λ(j,_,m')=>[(3,aK (aj ⟨g3,0,ak⟩)),(5,.bool m'),(7,aK (aj ⟨g7,0,ak⟩)),(11,(ap (aj ⟨b,off,ak⟩) aF.length cp)),(12,av az aF.length),(13,av az (k:Int)),(44,ap bb body.length cb),(45,av az body.length),(46,av az (j:Int))])
   (λ(_,R',_)=>[eT n gE cE E1,eT n gR cR R',eT n gM cM M1,aR g3 (mz (dU n gE cE) vF vL (dU n gR cR) (dU n gM cM)).cells 104,aR g7 #[av az (hn:Int),ap bb body.length cb] 140]) (λ(j,_,_)=>body.length-j) (0,R,mo) ⟨bO _,i3,hfr⟩ ?_
  clear hfr;rintro⟨j,R',m'⟩ ⟨j1,j2,j3⟩;dsimp only at j1 j2 j3⊢
  by_cases c7:j<body.length
  ·obtain⟨b',Ag,rfl,hrb⟩:=(by
    obtain⟨bs,cs,hv,_,_,fl⟩:=wI;simp only[jQ,true_and]at hv;obtain⟨rfl,rfl⟩:=hv;exact fl J:∃b' Ag,bb=aj ⟨b',Ag,ak⟩/\Rd w0 b' Ag (body.flatMap eX))
   have Sv:∀(L:List cU) (q:Nat) (u:Value),(eX body[j])[q]?=aj u->At B L ⟨b',Ag+j*2+q,ak⟩ u:=λL=>uj nV (λq u hq=>iW ho (hrb q u hq)) c7;have gh:=Qq body[j] (cV c7);rw[ff c7,KI]at j3;clear Qq hrb wI hsb p4;generalize body[j]=x at*;obtain⟨q,m⟩:=x;dsimp only at gh;unfold A8 at j3;dsimp only at j3
   by_cases c8:q=2
   ·subst c8
    rw[if_pos I]at j3;obtain⟨y1,y2⟩:=gh rfl;obtain⟨mm,rfl⟩:∃mm:Nat,m=mm:=⟨m.toNat,by omega⟩;rw[dP]at j3;have hcell:=Ch (l:=R') (i:=hn) J;generalize R'.getD hn aE=bh at*;have MK:=λw' B' hm=>uK n gR cR R' mm bh w' B' j2 J hm;have hl3:=nw R' mm bh;rw[j2]at hl3;generalize hY R' mm bh=m3 at*;obtain⟨R3,b3⟩:=m3;dsimp only at*
    repeat(first|refine GA ?_|refine gV (a_ bR.eq aL.ty I I c7) ?_|refine gV (bH aL.ty I I (Sv _)) ?_)
    clear Sv;refine bz I λg9=>?_;refine il 5 ?_;refine zL ?_
    repeat(first|refine GA ?_|refine gV (aB aL.ty I (aH (i:=5) I I)) ?_)
    refine eo ([aR g3 (mz (dU n gE cE) vF vL (dU n gR cR) (dU n gM cM)).cells 104,aR g7 #[av az (hn:Int),ap (aj ⟨b',Ag,ak⟩) body.length cb] 140,aR g9 #[av az 2,av az (mm:Int)] 148]) (.calm 0 (.calm 1 (.calm 2 (.calm 3 (.calm 4 (.calm 5 (.calm 6 (.calm 7 (.calm 8 (.one 9 (.one 10 (.calm 11 (.calm 12 (.calm 13 (.calm 14 (.done)))))))))))))))) (cH [3,4,5]) ?_
    repeat(first|refine GW ?_|(refine GN ?_;first|refine QW (aB aL.ty I (aH (i:=0) I I)) ?_|refine QW (aB aL.ty I (aH (i:=1) I I)) ?_|refine QW (aB aL.ty I (aH (i:=2) I I)) ?_|refine QW (cT bR.eq aL.ty I I (show hn<n by omega)) ?_))
    refine aO I (aI (aB aL.ty I (kx (i:=1) I (by rw[du];exact hcell))) I I I (aP (cH [3,4,5]) ?_));refine aO I ?_;refine bK [1] [0,2,3,4,5] ahk I I (tH aJ.en I I I I) (λw hm hb=>MK w _ hb) I I I ?_;intro _ _;refine zL ?_;refine aP (cH [2,3,4]) ?_
    cases b3
    ·try refine GW ?_
     try refine GA ?_
     refine dS [0,5,1,2,3] ?_;exact cJ (j+1,R3,aE||m') ⟨by omega,hl3,j3⟩ (by show body.length-(j+1)<body.length-j;omega)
    try refine GW ?_
    try refine GA ?_
    refine dS [0,5,1,2,3] ?_;exact cJ (j+1,R3,aD||m') ⟨by omega,hl3,j3⟩ (by show body.length-(j+1)<body.length-j;omega)
   rw[if_neg c8]at j3;dsimp only at j3
   repeat(first|refine GA ?_|refine gV (a_ bR.eq aL.ty I I c7) ?_|refine gV (bH aL.ty I I (Sv _)) ?_)
   clear Sv;refine bz I λg9=>?_;refine il 5 ?_;refine zL ?_
   repeat(first|refine GA ?_|refine gV (aB aL.ty I (aH (i:=5) I I)) ?_)
   refine dS [0,1,2,3,4] ?_;exact cJ (j+1,R',m') ⟨by omega,j2,j3⟩ (by show body.length-(j+1)<body.length-j;omega)
  rw[je J]at j3;have j3:(R',m')=(R2,mo2):=j3;simp only[gH]at j3;obtain⟨rfl,rfl⟩:=j3
  try refine GA ?_
  refine dS [0,1,2,3] ?_;exact cJ (k+1,⟨E1,R',M1,m'⟩) ⟨by omega,Nv,j2,Ny,i5⟩ (by show aF.length-(k+1)<aF.length-k;omega)
 ·rw[je J]at i5
  have i5:(⟨E,R,M,more⟩:FS)=fin:=i5;subst i5
  try refine GA ?_
  exact da I I λw hm=>hm.cX (S:=⟨λ(_:Unit)=>True,λ_=> .bool more,λ_=>[eT n gE cE E,eT n gR cR R,eT n gM cM M]⟩) () trivial [0,1,2] ahk I
end cZ
namespace cZ
open Go.RowKit dr eH aV eg
def iS(n g c:Nat)(l:List Nat):cU:=bD 114 1 (ap (aj ⟨g,0,ak⟩) n c) n (l.map ik)
theorem DD(n g cap:Nat)(l:List Nat)(i b:Nat)(w:World)(B:b9)(hl:zt n l)(hi:i<n)(hb:b<18446744073709551616)(hm:Mem B [iS n g cap l] w):
 Calls aC 124 #[ap (aj ⟨g,0,ak⟩) n cap,av az (i:Int),ik b] w (dF ⟨λ(_:Unit)=>True,λ_=> .bool (oo l i b).2,λ_=>[iS n g cap (oo l i b).1]⟩ B):=by
 obtain⟨rfl,h64⟩:=hl;exact Su g cap l i b w B hi h64 hb hm
structure Rows4 where
 gE:Nat
 cE:Nat
 gF:Nat
 cF:Nat
 gW:Nat
 cW:Nat
 gM:Nat
 cM:Nat
theorem N4(E M:List Bool)(p:aV.Prod)(r:List aV.Prod)(F:List Nat)(more:Bool):rC E M (p::r) F more=rC E M r (Gn E M p F more).1 (Gn E M p F more).2:=rfl
theorem N5(E:List Bool)(F:List Nat)(p:aV.Prod)(r:List aV.Prod)(W:List Nat)(more:Bool):nW E F (p::r) W more=nW E F r (jZ E F p.1.toNat p.2 W more).1 (jZ E F p.1.toNat p.2 W more).2:=rfl
theorem KN(E:List Bool)(F:List Nat)(h:Nat)(x:dV)(r:List dV)(W:List Nat)(more:Bool):jZ E F h (x::r) W more=jZ E F h r (jz E F h x r W more).1 (jz E F h x r W more).2:=rfl
def rG(E M:List Bool)(l:List aV.Prod)(F:List Nat):List Nat:=eg.fix (λF=>rC E M l F aE) nB F
def wT(E:List Bool)(F:List Nat)(l:List aV.Prod)(W:List Nat):List Nat:=eg.fix (λW=>nW E F l W aE) nB W
theorem N6(w0:World)(v:Value)(g:eL)(h:kz (λk=>k<w0.heap.size) w0 v g)(jr:cL g=0)(n:Nat)(hn:g.bM=n)(x:Rows4)(vR:Value)(E:List Bool)(F W:List Nat)(M:List Bool)(hE:E.length=n)(hF:zt n F)(hW:zt n W)(hM:M.length=n)(w:World)(B:b9)(ho:p_ w0 B)(hm:Mem B [eT n x.gE x.cE E,iS n x.gF x.cF F,iS n x.gW x.cW W,eT n x.gM x.cM M] w):
 Calls aC 82 #[v,mz (dU n x.gE x.cE) (dU n x.gF x.cF) (dU n x.gW x.cW) vR (dU n x.gM x.cM)] w (dF ⟨λ(_:Unit)=>True,λ_=> .tuple #[],λ_=>[eT n x.gE x.cE E,iS n x.gF x.cF (rG E M g.aF F),iS n x.gW x.cW (wT E (rG E M g.aF F) g.aF W),eT n x.gM x.cM M]⟩ B):=by
 obtain⟨gE,cE,gF,cF,gW,cW,gM,cM⟩:=x;dsimp only at*;have rH:=yH jr hn;obtain⟨_,_,_,_,hlen,_⟩:=de jr;obtain⟨vp,rfl,h1,_⟩:=h;obtain⟨bp,cp,rfl,H',E6,oC⟩:=h1;unfold maxLen at E6;obtain⟨t,nn,aF⟩:=g;dsimp only at*;subst hn;have xS:=N0 (E:=E) (M:=M) rH;refine dZ hm (args:=[ee t (n:Int) (ap bp aF.length cp),mz (dU n gE cE) (dU n gF cF) (dU n gW cW) vR (dU n gM cM)]) (n:=80) Tryz.func82 I I I ?_;refine bC (aM (b_ I I I λg2=>b_ I I I λg3=>?_));refine zL ?_
 try refine GA ?_
 generalize jM:rG E M aF F=fin;refine eK (ι:=List Nat×Bool) (λ(F,more)=>zt n F/\(more=aD->rG E M aF F=fin)/\(more=aE->F=fin)) (λ(_,more)=>[(2,aK (aj ⟨g2,0,ak⟩)),(3,aK (aj ⟨g3,0,ak⟩)),(4,.bool more)])
  (λ(F,_)=>[eT n gE cE E,iS n gF cF F,iS n gW cW W,eT n gM cM M,aR g2 (ee t (n:Int) (ap bp aF.length cp)).cells 33,aR g3 (mz (dU n gE cE) (dU n gF cF) (dU n gW cW) vR (dU n gM cM)).cells 104]) (λ(F,more)=>2*nB F+(if more=aD then 1 else 0)) (F,aD) ⟨hF,λ_=>jM,λh=>by cases h⟩ ?_
 clear hm hF jM;rintro⟨F,more⟩ ⟨i1,i2,i3⟩;dsimp only at i1 i2 i3⊢
 cases more
 ·have i3 :=i3 I
  subst i3;clear i2 xS;have xS:=Wp (E:=E) i1 rH
  try refine GA ?_
  generalize jM:wT E F aF W=fin;refine eK (ι:=List Nat×Bool) (λ(W,more)=>zt n W/\(more=aD->wT E F aF W=fin)/\(more=aE->W=fin)) (λ(_,more)=>[(2,aK (aj ⟨g2,0,ak⟩)),(3,aK (aj ⟨g3,0,ak⟩)),(7,.bool more)])
   (λ(W,_)=>[eT n gE cE E,iS n gF cF F,iS n gW cW W,eT n gM cM M,aR g2 (ee t (n:Int) (ap bp aF.length cp)).cells 33,aR g3 (mz (dU n gE cE) (dU n gF cF) (dU n gW cW) vR (dU n gM cM)).cells 104]) (λ(W,more)=>2*nB W+(if more=aD then 1 else 0)) (W,aD) ⟨hW,λ_=>jM,λh=>by cases h⟩ ?_
  clear jM hW;clear W;rintro⟨W,more⟩ ⟨j1,j2,j3⟩;dsimp only at j1 j2 j3⊢
  cases more
  ·have j3:=j3 I
   subst j3
   try refine GA ?_
   exact lF I λw hm=>hm.cX (S:=⟨λ(_:Unit)=>True,λ_=> .tuple #[],λ_=>[eT n gE cE E,iS n gF cF F,iS n gW cW W,eT n gM cM M]⟩) () trivial [0,1,2,3] ahk I
  have j2:=j2 I;clear j3;have hdone:∀W' m',nW E F aF W aE=(W',m')->zt n W'/\(m'=aD->wT E F aF W'=fin)/\(m'=aE->W'=fin)/\2*nB W'+(if m'=aD then 1 else 0)<2*nB W+1:=λW' m' hp=>by
   have hk:=yI (E:=E) i1 aF W aE rH j1;rw[hp]at hk;dsimp only at hk;refine⟨hk.1,λc=>?_,λc=>?_,?_⟩
   ·rw[<-j2]
    unfold wT;rw[Ib xS j1 (by rw[hp];exact c),hp]
   ·rw[<-j2]
    unfold wT;rw[yF (by rw[hp];exact c),hp]
   have h2:=hk.2.2
   cases m'
   have:=hk.2.1;simp;omega;rcases h2 rfl with h|h
   cases h
   simp;omega
  repeat(first|refine GA ?_|refine gV (aB aL.ty I (aH (i:=4) I I)) ?_)
  generalize hfp:nW E F aF W aE=fp at*;obtain⟨Wx,mx⟩:=fp;have hdone:=hdone Wx mx I;refine eK (ι:=Nat×List Nat×Bool) (λ(k,W,m)=>k<=aF.length/\zt n W/\nW E F (aF.drop k) W m=(Wx,mx)) (λ(k,_,m)=>[(2,aK (aj ⟨g2,0,ak⟩)),(3,aK (aj ⟨g3,0,ak⟩)),(7,.bool m),(40,ap bp aF.length cp),(41,av az aF.length),(42,av az (k:Int))])
   (λ(_,W,_)=>[eT n gE cE E,iS n gF cF F,iS n gW cW W,eT n gM cM M,aR g2 (ee t (n:Int) (ap bp aF.length cp)).cells 33,aR g3 (mz (dU n gE cE) (dU n gF cF) (dU n gW cW) vR (dU n gM cM)).cells 104]) (λ(k,_,_)=>aF.length-k) (0,W,aE) ⟨bO _,j1,hfp⟩ ?_
  clear hfp j2;rintro⟨k,W',m⟩ ⟨k1,k2,k3⟩;dsimp only at k1 k2 k3⊢
  by_cases c6:k<aF.length
  ·obtain⟨b,off,rfl,_,hr⟩:=oC J
   obtain⟨bb,cb,q1,q2,q3⟩:=lT hr c6;have E7:=rH.head aF[k] (cV c6);have Qr:=rH.Dn aF[k] (cV c6);have Ww:=rH.Zb aF[k] (cV c6);rw[ff c6,N5]at k3;have d_:∀(L:List cU) (j:Nat) (v:Value),([av az aF[k].1,.slice bb aF[k].2.length cb]:List Value)[j]?=aj v->At B L ⟨b,off+k*2+j,ak⟩ v:=λL j v hj=>iW ho (q1 j v hj);have wI:=q3.flat ahk;clear hr oC q1 q3;generalize aF[k]=p at*;obtain⟨hd,body⟩:=p;dsimp only at*;obtain⟨hn,rfl⟩:∃hn:Nat,hd=hn:=⟨hd.toNat,by omega⟩;rw[dP]at E7 k3;have hsb:∀w' L,Mem B L w'->Sl w' (ap bb body.length cb) body.length (body.flatMap eX):=λw' L hm=>wI.gr (ho.mem hm);obtain⟨bb2,cb2,he,h4,h5,h6⟩:=wI;simp only[jQ,true_and]at he;obtain⟨rfl,rfl⟩:=he;unfold maxLen at h5
   repeat(first|refine GA ?_|refine gV (a_ bR.eq aL.ty I I c6) ?_|refine gV (bH aL.ty I I (d_ _)) ?_)
   clear d_;refine bz I λg9=>?_;refine il 6 ?_;refine zL ?_
   repeat(first|refine GA ?_|refine gV (aB aL.ty I (aH (i:=6) I I)) ?_)
   refine eK (ι:=Nat×List Nat×Bool) (λ(j,W,m)=>j<=body.length/\zt n W/\nW E F (aF.drop (k+1)) (jZ E F hn (body.drop j) W m).1 (jZ E F hn (body.drop j) W m).2=(Wx,mx)) (λ(j,_,m)=>[(2,aK (aj ⟨g2,0,ak⟩)),(3,aK (aj ⟨g3,0,ak⟩)),(7,.bool m),(9,aK (aj ⟨g9,0,ak⟩)),(40,ap (aj ⟨b,off,ak⟩) aF.length cp),(41,av az aF.length),(42,av az (k:Int)),(47,ap bb body.length cb),(48,av az body.length),(49,av az (j:Int))])
    (λ(_,W,_)=>[eT n gE cE E,iS n gF cF F,iS n gW cW W,eT n gM cM M,aR g2 (ee t (n:Int) (ap (aj ⟨b,off,ak⟩) aF.length cp)).cells 33,aR g3 (mz (dU n gE cE) (dU n gF cF) (dU n gW cW) vR (dU n gM cM)).cells 104,aR g9 #[av az (hn:Int),ap bb body.length cb] 140]) (λ(j,_,_)=>body.length-j) (0,W',m) ⟨bO _,k2,k3⟩ ?_
   clear k2 k3;rintro⟨j,W2,m2⟩ ⟨k2,k3,k4⟩;dsimp only at k2 k3 k4⊢
   by_cases c7:j<body.length
   ·obtain⟨b2,ZZ,rfl,we⟩:=h6 J
    have tC:=uj (W:=B) (L:=[eT n gE cE E,iS n gF cF F,iS n gW cW W2,eT n gM cM M,aR g2 (ee t (n:Int) (ap (aj ⟨b,off,ak⟩) aF.length cp)).cells 33,aR g3 (mz (dU n gE cE) (dU n gF cF) (dU n gW cW) vR (dU n gM cM)).cells 104,aR g9 #[av az (hn:Int),ap (aj ⟨b2,ZZ,ak⟩) body.length cb] 140]) nV (λq x hq=>iW ho (we q x hq)) c7;have Z0:=Ww body[j] (cV c7);have lP:∀w' L,Mem B L w'->Sl w' (tB (aj ⟨b2,ZZ,ak⟩) cb 2 (j+1) body.length) (body.drop (j+1)).length ((body.drop (j+1)).flatMap eX):=λw' L hm=>by
     have:=CZ nV (hsb w' L hm) (i:=j+1) (j:=body.length) J (bJ _)
     rwa [gj (by simp)]at this
    have Sw:gI E F (body.drop (j+1)) (W2.getD hn 0)<18446744073709551616:=oW i1 (oK k3 _) λx hx h=>(Qr x (uz hx) h).2;have BH:=λw' L (hm:Mem B L w') (hx:Sl w' (dU n gE cE) E.length (E.map .bool)) (hy:Sl w' (dU n gF cF) F.length (F.map ik))=>uJ (dU n gE cE) (dU n gF cF) (dU n gW cW) vR (dU n gM cM) _ E F (body.drop (j+1)) (W2.getD hn 0) w' hx hy (lP w' L hm) (by rw[hE,i1.1]) (λx hx=>⟨λh=>by have:=Qr x (uz hx) h;omega,λh=>by have:=Ww x (uz hx) h;rw[i1.1];omega⟩) i1.2 (oK k3 _);rw[hE,i1.1]at BH;have hcW:(W2.map ik)[hn]?=aj (ik (W2.getD hn 0)):=If (by rw[k3.1];exact E7.2);rw[ff c7,KN]at k4;generalize body[j]=x at*;obtain⟨q,mn⟩:=x;dsimp only at Z0;unfold jz at k4;dsimp only at k4;generalize W2.getD hn 0=bh at*;generalize gI E F (body.drop (j+1)) bh=bg at*
    repeat(first|refine GA ?_|refine gV (a_ bR.eq aL.ty I I c7) ?_|refine gV (bH aL.ty I I tC) ?_)
    clear tC we;refine bz I λg11=>?_;refine zL ?_
    try refine GA ?_
    refine il 7 ?_;refine zL ?_
    by_cases c1:q=2
    ·rw[if_pos c1]at k4
     obtain⟨_,o1,o2⟩:=Z0 J;subst c1;obtain⟨mm,rfl⟩:∃mm:Nat,mn=mm:=⟨mn.toNat,by omega⟩;rw[dP]at k4 o2;have Sx:=Cg (i:=mm) k3 Sw;have Ff:=λw' B' hm=>DD n gW cW W2 mm bg w' B' k3 o2 Sw hm;generalize oo W2 mm bg=ad at*;obtain⟨W3,ch⟩:=ad;dsimp only at k4 Sx Ff
     repeat(first|refine GA ?_|refine gV (aB aL.ty I (aH (i:=7) I I)) ?_)
     refine eo ([aR g3 (mz (dU n gE cE) (dU n gF cF) (dU n gW cW) vR (dU n gM cM)).cells 104,aR g9 #[av az (hn:Int),ap (aj ⟨b2,ZZ,ak⟩) body.length cb] 140,aR g11 #[av az 2,av az (mm:Int)] 148]) (.calm 0 (.calm 1 (.calm 2 (.calm 3 (.calm 4 (.calm 5 (.calm 6 (.calm 7 (.calm 8 (.calm 9 (.calm 10 (.calm 11 (.calm 12 (.calm 13 (.calm 14 (.one 15 (.one 16 (.one 17 (.calm 18 (.calm 19 (.calm 20 (.calm 21 (.done))))))))))))))))))))))) (cH [5,6,7]) ?_
     repeat(first|(refine GN ?_;first|refine QW QP ?_|refine QW (aB aL.ty I (aH (i:=0) I I)) ?_|refine QW (aB aL.ty I (aH (i:=1) I I)) ?_|refine QW (aB aL.ty I (aH (i:=2) I I)) ?_|refine QW (aQ (i:=0) aL.ty I I I) ?_|refine QW (oR (i:=j+1) bR.eq aL.ty I I c7 h4) ?_|refine QW (cT bR.eq aL.ty I I E7.2) ?_|refine GX ?_)|refine GW ?_)
     refine aO I ?_;refine aI (aB aL.ty I (kx (i:=2) I (by rw[du];exact hcW))) I I I ?_;refine aP (cH [5,6,7]) ?_;refine aO I ?_;refine a8 (tH aJ.en I I I I) (λw hm=>BH _ _ hm (l8 (i:=0) I w hm) (l8 (i:=1) I w hm)) I I I ?_;intro _ _;refine zL ?_;refine aP (cH [5,6,7]) ?_;refine aO I ?_;refine bK [2] [0,1,3,4,5,6,7] ahk I I (tH aJ.en I I I I) (λw hm hb=>Ff w _ hb) I I I ?_;intro _ _;refine zL ?_;refine aP (cH [4,5,6]) ?_
     cases ch
     ·try refine GW ?_
      try refine GA ?_
      refine dS [0,1,7,2,3,4,5] ?_;exact cJ (j+1,W3,aE||m2) ⟨by omega,Sx,k4⟩ (by show body.length-(j+1)<body.length-j;omega)
     try refine GW ?_
     try refine GA ?_
     refine dS [0,1,7,2,3,4,5] ?_;exact cJ (j+1,W3,aD||m2) ⟨by omega,Sx,k4⟩ (by show body.length-(j+1)<body.length-j;omega)
    rw[if_neg c1]at k4
    repeat(first|refine GA ?_|refine gV (aB aL.ty I (aH (i:=7) I I)) ?_)
    refine dS [0,1,2,3,4,5,6] ?_;exact cJ (j+1,W2,m2) ⟨c7,k3,k4⟩ (by show body.length-(j+1)<body.length-j;omega)
   rw[show body.drop j=[]from je J]at k4
   try refine GA ?_
   refine dS [0,1,2,3,4,5] ?_;exact cJ (k+1,W2,m2) ⟨by omega,k3,k4⟩ (by show aF.length-(k+1)<aF.length-k;omega)
  rw[je J]at k3;have k3:(W',m)=(Wx,mx):=k3;simp only[gH]at k3;obtain⟨rfl,rfl⟩:=k3;obtain⟨d1,d2,d3,d4⟩:=hdone
  try refine GA ?_
  exact cJ (W',m) ⟨d1,d2,d3⟩ d4
 ·have i2:=i2 I
  clear i3;have hdone:∀F' m',rC E M aF F aE=(F',m')->zt n F'/\(m'=aD->rG E M aF F'=fin)/\(m'=aE->F'=fin)/\2*nB F'+(if m'=aD then 1 else 0)<2*nB F+1:=λF' m' hp=>by
   have hk:=uH (E:=E) (M:=M) aF F aE rH i1;rw[hp]at hk;dsimp only at hk;refine⟨hk.1,λc=>?_,λc=>?_,?_⟩
   ·rw[<-i2]
    unfold rG;rw[Ib xS i1 (by rw[hp];exact c),hp]
   ·rw[<-i2]
    unfold rG;rw[yF (by rw[hp];exact c),hp]
   have h2:=hk.2.2
   cases m'
   have:=hk.2.1;simp;omega;rcases h2 rfl with h|h
   cases h
   simp;omega
  repeat(first|refine GA ?_|refine gV (aB aL.ty I (aH (i:=4) I I)) ?_)
  generalize hfp:rC E M aF F aE=fp at*;obtain⟨Fx,mx⟩:=fp;have hdone:=hdone Fx mx I;refine eK (ι:=Nat×List Nat×Bool) (λ(k,F,m)=>k<=aF.length/\zt n F/\rC E M (aF.drop k) F m=(Fx,mx)) (λ(k,_,m)=>[(2,aK (aj ⟨g2,0,ak⟩)),(3,aK (aj ⟨g3,0,ak⟩)),(4,.bool m),(14,ap bp aF.length cp),(15,av az aF.length),(16,av az (k:Int))])
   (λ(_,F,_)=>[eT n gE cE E,iS n gF cF F,iS n gW cW W,eT n gM cM M,aR g2 (ee t (n:Int) (ap bp aF.length cp)).cells 33,aR g3 (mz (dU n gE cE) (dU n gF cF) (dU n gW cW) vR (dU n gM cM)).cells 104]) (λ(k,_,_)=>aF.length-k) (0,F,aE) ⟨bO _,i1,hfp⟩ ?_
  clear hfp i2;rintro⟨k,F',m⟩ ⟨j1,j2,j3⟩;dsimp only at j1 j2 j3⊢
  by_cases c6:k<aF.length
  ·obtain⟨b,off,rfl,_,hr⟩:=oC J
   obtain⟨bb,cb,q1,q2,q3⟩:=lT hr c6;have E7:=rH.head aF[k] (cV c6);have Qr:=rH.Dn aF[k] (cV c6);have Ww:=rH.Zb aF[k] (cV c6);rw[ff c6,N4]at j3;have d_:∀(L:List cU) (j:Nat) (v:Value),([av az aF[k].1,.slice bb aF[k].2.length cb]:List Value)[j]?=aj v->At B L ⟨b,off+k*2+j,ak⟩ v:=λL j v hj=>iW ho (q1 j v hj);have wI:=q3.flat ahk;clear hr oC q1 q3;generalize aF[k]=p at*;obtain⟨hd,body⟩:=p;dsimp only at*;obtain⟨hn,rfl⟩:∃hn:Nat,hd=hn:=⟨hd.toNat,by omega⟩;rw[dP]at E7;have hsb:∀w' L,Mem B L w'->Sl w' (ap bb body.length cb) body.length (body.flatMap eX):=λw' L hm=>wI.gr (ho.mem hm);have qQ:=λw' L (hm:Mem B L w') (hx:Sl w' (dU n gM cM) M.length (M.map .bool))=>xR (dU n gM cM) (ap bb body.length cb) M body aD w' hx (hsb w' L hm) (λx hx gh=>by have:=Ww x hx J;rw[hM];omega);rw[hM]at qQ;have BH:=λw' L (hm:Mem B L w') (hx:Sl w' (dU n gE cE) E.length (E.map .bool)) (hy:Sl w' (dU n gF cF) F'.length (F'.map ik))=>uJ (dU n gE cE) (dU n gF cF) (dU n gW cW) vR (dU n gM cM) (ap bb body.length cb) E F' body 0 w' hx hy (hsb w' L hm) (by rw[hE,j2.1]) (λx hx=>⟨λh=>by have:=Qr x hx h;omega,λh=>by have:=Ww x hx h;rw[j2.1];omega⟩) j2.2 ahk;rw[hE,j2.1]at BH;unfold Gn at j3;dsimp only at j3;rw[dP]at j3;generalize pD M body aD=a1 at*;have Sw:gI E F' body 0<18446744073709551616:=oW j2 ahk λx hx h=>(Qr x hx h).2;generalize gI E F' body 0=bg at*
   repeat(first|refine GA ?_|refine gV (a_ bR.eq aL.ty I I c6) ?_|refine gV (bH aL.ty I I (d_ _)) ?_)
   clear d_;refine bz I λg6=>?_;refine il 6 ?_;refine zL ?_
   repeat(first|refine GA ?_|refine gV (aB aL.ty I (aH (i:=5) I I)) ?_|refine gV (aB aL.ty I (aH (i:=6) I I)) ?_)
   refine a8 (tH aJ.en I I I I) (λw hm=>qQ _ _ hm (l8 (i:=3) I w hm)) I I I ?_;intro _ _;refine zL ?_
   cases a1
   ·rw[if_neg ahk]at j3
    try refine GA ?_
    refine dS [0,1,2,3,4,5] ?_;exact cJ (k+1,F',m) ⟨by omega,j2,j3⟩ (by show aF.length-(k+1)<aF.length-k;omega)
   rw[if_pos I]at j3;have Sx:=Cg (i:=hn) j2 Sw;have Ff:=λw' B' hm=>DD n gF cF F' hn bg w' B' j2 E7.2 Sw hm;generalize oo F' hn bg=ad at*;obtain⟨F2,ch⟩:=ad;dsimp only at*
   try refine GA ?_
   refine eo ([aR g3 (mz (dU n gE cE) (dU n gF cF) (dU n gW cW) vR (dU n gM cM)).cells 104,aR g6 #[av az (hn:Int),ap bb body.length cb] 140]) (.calm 0 (.calm 1 (.calm 2 (.calm 3 (.calm 4 (.calm 5 (.calm 6 (.one 7 (.one 8 (.calm 9 (.calm 10 (.calm 11 (.calm 12 (.done)))))))))))))) (cH [5,6]) ?_
   repeat(first|refine GW ?_|(refine GN ?_;first|refine QW (aB aL.ty I (aH (i:=0) I I)) ?_|refine QW (aB aL.ty I (aH (i:=1) I I)) ?_|refine QW (aQ (i:=0) aL.ty I I I) ?_))
   refine aO I ?_;refine a8 (tH aJ.en I I I I) (λw hm=>BH _ _ hm (l8 (i:=0) I w hm) (l8 (i:=1) I w hm)) I I I ?_;intro _ _;refine zL ?_;refine aP (cH [5,6]) ?_;refine aO I ?_;refine bK [1] [0,2,3,4,5,6] ahk I I (tH aJ.en I I I I) (λw hm hb=>Ff w _ hb) I I I ?_;intro _ _;refine zL ?_;refine aP (cH [4,5]) ?_
   cases ch
   ·try refine GW ?_
    try refine GA ?_
    refine dS [0,6,1,2,3,4] ?_;exact cJ (k+1,F2,aE||m) ⟨by omega,Sx,j3⟩ (by show aF.length-(k+1)<aF.length-k;omega)
   try refine GW ?_
   try refine GA ?_
   refine dS [0,6,1,2,3,4] ?_;exact cJ (k+1,F2,aD||m) ⟨by omega,Sx,j3⟩ (by show aF.length-(k+1)<aF.length-k;omega)
  rw[je J]at j3;have j3:(F',m)=(Fx,mx):=j3;simp only[gH]at j3;obtain⟨rfl,rfl⟩:=j3;obtain⟨d1,d2,d3,d4⟩:=hdone
  try refine GA ?_
  exact cJ (F',m) ⟨d1,d2,d3⟩ d4
end cZ
namespace cZ
open Go.RowKit dr eH aV eg
def wJ(n:Nat)(l:List aV.Prod):FS:=eg.fix (KB l) (A_ n) ⟨dJ n aE,(dJ n aE).set 0 aD,dJ n aE,aE⟩
def ML(n:Nat)(l:List aV.Prod):List Nat:=rG (wJ n l).E (wJ n l).M l (dJ n 0)
def MM(n:Nat)(l:List aV.Prod):List Nat:=wT (wJ n l).E (ML n l) l ((dJ n 0).set 0 9223372036854775808)
structure DE extends Rows4 where
 gR:Nat
 cR:Nat
def DE.val(n:Nat)(x:DE):Value:=mz (dU n x.gE x.cE) (dU n x.gF x.cF) (dU n x.gW x.cW) (dU n x.gR x.cR) (dU n x.gM x.cM)
theorem Gs(a b c d e:Option Addr)(n1 n2 n3 n4 n5 c1 c2 c3 c4 c5:Nat)(w:World):(dR 104 #[(0,ap a n1 c1),(1,ap b n2 c2),(2,ap c n3 c3),(3,ap d n4 c4),(4,ap e n5 c5)]).run aC w= .ok (aU #[ap a n1 c1,ap b n2 c2,ap c n3 c3,ap d n4 c4,ap e n5 c5]) w:=by
 go_simp
def Wy(i d n:Nat):Mk:=⟨i,d,λg=>ap (aj ⟨g,0,ak⟩) n n,λg=>aR g (madeCells #[.bool aE] (n*1)) 4⟩
def mkN(i d n:Nat):Mk:=⟨i,d,λg=>ap (aj ⟨g,0,ak⟩) n n,λg=>aR g (madeCells #[.int .u64 0] (n*1)) 114⟩
def mkF(i d:Nat):Mk:=⟨i,d,λg=>aK (aj ⟨g,0,ak⟩),λg=>aR g #[ap ak 0 0,ap ak 0 0,ap ak 0 0,ap ak 0 0,ap ak 0 0] 104⟩
theorem rI{P:Program}{k:Nat}{W:b9}{Q:Exit->Act->World->Prop}{fr:Fr}{L:List cU}{c:Code}{i g m:Nat}{e:TypeId}{z:Value}(hi:L[i]?=aj (aR g (madeCells #[z] (m*1)) e))(hm:m<=9223372036854775807)(h:T P k W c Q fr (L.set i (bD e 1 (ap (aj ⟨g,0,ak⟩) m m) m (dJ m z)))):T P k W c Q fr L:=
 Vu 1 hi (by rw[size_madeCells]) (bJ _) hm (by
  have:(madeCells #[z] (m*1)).toList.take (m*1)=dJ m z:=by
   rw[abD,Nat.mul_one,List.take_of_length_le (by simp)]
  rw[this];exact h)
theorem DF(v:Value)(g:eL)(w:World)(h:kz (λk=>k<w.heap.size) w v g)(jr:cL g=0)(n:Nat)(hn:g.bM=n):
 Calls aC 42 #[v] w (dF ⟨λ(_:DE)=>True,λx=> .tuple #[x.val n,av az 0],λx=>[eT n x.gE x.cE (wJ n g.aF).E,iS n x.gF x.cF (ML n g.aF),iS n x.gW x.cW (MM n g.aF),eT n x.gR x.cR (wJ n g.aF).R,eT n x.gM x.cM (wJ n g.aF).M]⟩ w):=by
 obtain⟨n1,n2,_,_,hlen,_⟩:=de jr;have hcc:=λw' L (hm:Mem w L w')=>jY v g w' (h.gr ((p_.self w).mem hm));rw[jr]at hcc;have h0:=h;obtain⟨vp,rfl,h1,_⟩:=h;obtain⟨bp,cp,rfl,H',E6,oC⟩:=h1;unfold maxLen at E6;obtain⟨t,nn,aF⟩:=g;dsimp only at*;subst hn;refine enter (args:=[ee t (n:Int) (ap bp aF.length cp)]) (n:=39) Tryz.func42 I I I ?_;refine bC (aM (b_ I I I λg1=>bz I λg2=>?_));refine zL ?_
 repeat(first|refine GA ?_|refine gV (aQ (i:=0) aL.ty I I I) ?_)
 refine a8 (ju aJ.en I I) (λw hm=>hcc _ _ hm) I I I ?_;intro _ _;refine zL ?_
 repeat(first|refine GA ?_|refine gV (aB aL.ty I (aH (i:=0) I I)) ?_)
 refine l_ (ι:=Nat×Nat×Nat×Nat×Nat×Nat) (λ_=>True) (λ(_,_,_,_,_,g6)=>[(1,aK (aj ⟨g1,0,ak⟩)),(2,aK (aj ⟨g2,0,ak⟩)),(6,aK (aj ⟨g6,0,ak⟩))])
  (λ(gE,gF,gW,gR,gM,g6)=>[aR g1 (ee t (n:Int) (ap bp aF.length cp)).cells 33,aR g2 #[ap ak 0 0,ap ak 0 0,ap ak 0 0,ap ak 0 0,ap ak 0 0] 104,aR gE (madeCells #[.bool aE] (n*1)) 4,aR gF (madeCells #[.int .u64 0] (n*1)) 114,aR gW (madeCells #[.int .u64 0] (n*1)) 114,aR gR (madeCells #[.bool aE] (n*1)) 4,aR gM (madeCells #[.bool aE] (n*1)) 4,aR g6 (mz (dU n gE n) (dU n gF n) (dU n gW n) (dU n gR n) (dU n gM n)).cells 104]) ?_ ?_
 rotate_left
 ·rintro⟨gE,gF,gW,gR,gM,g6⟩ _
  dsimp only;refine rI (i:=2) I J ?_;refine rI (i:=3) I J ?_;refine rI (i:=4) I J ?_;refine rI (i:=5) I J ?_;refine rI (i:=6) I J ?_
  conv=>arg 7;simp only[VW,H5]
  rw[show dJ n (gi aE)=(dJ n aE).map .bool by simp,show dJ n (av .u64 0)=(dJ n 0).map ik by simp[ik]];have hn0:0<n:=by omega
  repeat(first|refine GA ?_|refine gV (aB aL.ty I (aH (i:=7) I I)) ?_|refine gV (cT (j:=0) bR.eq aL.ty I I hn0) ?_)
  refine mj (i:=5) aL.ty I I I I I I (by simpa using hn0) ?_
  repeat(first|refine GA ?_|refine gV (aB aL.ty I (aH (i:=7) I I)) ?_|refine gV (cT (j:=0) bR.eq aL.ty I I hn0) ?_)
  refine mj (i:=4) aL.ty I I I I I I (by simpa using hn0) ?_
  conv=>arg 8;simp only[VW,H5,du]
  try refine GA ?_
  generalize jM:wJ n aF=fin;have rH:=yH (g:=⟨t,n,aF⟩) jr I;have xS:=Dy rH;refine og (ι:=FS) (λs=>Wq n s/\eg.fix (KB aF) (A_ n) s=fin) (λ_=>[(1,aK (aj ⟨g1,0,ak⟩)),(2,aK (aj ⟨g2,0,ak⟩)),(6,aK (aj ⟨g6,0,ak⟩))])
   (λs=>[aR g1 (ee t (n:Int) (ap bp aF.length cp)).cells 33,aR g2 #[ap ak 0 0,ap ak 0 0,ap ak 0 0,ap ak 0 0,ap ak 0 0] 104,eT n gE n s.E,iS n gF n (dJ n 0),iS n gW n ((dJ n 0).set 0 9223372036854775808),eT n gR n s.R,eT n gM n s.M,aR g6 (mz (dU n gE n) (dU n gF n) (dU n gW n) (dU n gR n) (dU n gM n)).cells 104])
   (λs=>A_ n s) ⟨dJ n aE,(dJ n aE).set 0 aD,dJ n aE,aE⟩ ⟨⟨by simp,by simp,by simp⟩,jM⟩ (by repeat' (first|exact dl|refine dh I ?_)) (by simp[eT,iS,ik,sF]) ?_
  rintro⟨E,R,M,mo⟩ ⟨i1,i2⟩;dsimp only at i2⊢;have fl:=λw' B' (ho:p_ w B') hm=>KM w _ ⟨t,n,aF⟩ h0 jr n I ⟨gE,n,gR,n,gM,n⟩ (dU n gF n) (dU n gW n) E R M i1.1 i1.2.1 i1.2.2 w' B' ho hm;dsimp only at fl
  repeat(first|refine GA ?_|refine gV (aQ (i:=0) aL.ty I I I) ?_|refine gV (aQ (i:=7) aL.ty I I I) ?_)
  refine bK [2,5,6] [0,1,3,4,7] ahk I I (gK aJ.en I I I) (λw' hm hb=>fl w' _ ((p_.self w).on hm (by intro o ho;simp at ho⊢;rcases ho with h|h|h<;>simp[h])) hb) I I I ?_;intro _ _;refine zL ?_;clear fl;have hk:=qB aF ⟨E,R,M,aE⟩ rH i1;have hgo:(ie aF ⟨E,R,M,aE⟩).more=aD->eg.fix (KB aF) (A_ n) (ie aF ⟨E,R,M,aE⟩)=fin/\A_ n (ie aF ⟨E,R,M,aE⟩)<A_ n ⟨E,R,M,mo⟩:=λc=>⟨by rw[<-i2,Ib xS i1 c];rfl,xS.dec _ i1 c⟩;have hst:(ie aF ⟨E,R,M,aE⟩).more=aE->ie aF ⟨E,R,M,aE⟩=fin:=λc=>by rw[<-i2,yF (s:=(⟨E,R,M,mo⟩:FS)) c];rfl
  generalize ie aF ⟨E,R,M,aE⟩=r at*;obtain⟨E',R',M',m'⟩:=r;dsimp only at hgo hst⊢
  cases m'
  ·have hst:=hst I
   have abS:=λw' B' (ho:p_ w B') hm=>N6 w _ ⟨t,n,aF⟩ h0 jr n I ⟨gE,n,gF,n,gW,n,gM,n⟩ (dU n gR n) E' (dJ n 0) ((dJ n 0).set 0 9223372036854775808) M' hk.1.1 ⟨by simp,λx hx=>by rw[NL hx];decide⟩ ⟨by simp,λx hx=>by
    rcases NK hx with h|h
    rw[NL h];decide;rw[h];decide⟩ hk.1.2.2 w' B' ho hm
   dsimp only at abS
   repeat(first|refine GA ?_|refine gV (aQ (i:=0) aL.ty I I I) ?_|refine gV (aQ (i:=4) aL.ty I I I) ?_)
   refine bK [5,2,3,7] [0,1,6,4] ahk I I (gK aJ.en I I I) (λw' hm hb=>abS w' _ ((p_.self w).on hm (by intro o ho;simp at ho⊢;rcases ho with h|h|h|h<;>simp[h])) hb) I I I ?_;intro _ _;refine zL ?_
   repeat(first|refine GA ?_|refine gV (aQ (i:=3) aL.ty I I I) ?_)
   refine il 1 ?_;refine zL ?_
   try refine GA ?_
   subst hst;have eF:ML n aF=rG E' M' aF (dJ n 0):=by unfold ML;rw[jM]
   have eW:MM n aF=wT E' (rG E' M' aF (dJ n 0)) aF ((dJ n 0).set 0 9223372036854775808):=by unfold MM;rw[eF,jM]
   rw[eF,eW];refine e8 (i:=1) I I I I (z:=av az 0) ?_ λw' hm=>?_;rfl;exact hm.cX (S:=⟨λ(_:DE)=>True,λx=> .tuple #[x.val n,av az 0],λx=>[eT n x.gE x.cE E',iS n x.gF x.cF (rG E' M' aF (dJ n 0)),iS n x.gW x.cW (wT E' (rG E' M' aF (dJ n 0)) aF ((dJ n 0).set 0 9223372036854775808)),eT n x.gR x.cR R',eT n x.gM x.cM M']⟩) ⟨⟨gE,n,gF,n,gW,n,gM,n⟩,gR,n⟩ trivial [4,5,6,2,7] ahk I
  try refine GA ?_
  refine dS [0,1,5,2,3,6,7,4] ?_;exact cJ ⟨E',R',M',aD⟩ ⟨hk.1,(hgo I).1⟩ (hgo I).2
 refine VJ [] wh (by kernel_rfl) (by kernel_rfl) (by intro c a d v w h;cases d<;>exact h) ?_;refine qR 0 (by kernel_rfl) I (bX I) I I I ?_;refine qR 2 (by kernel_rfl) I (bX I) I I I ?_;refine qR 4 (by kernel_rfl) I (bX I) I I I ?_;refine qR 6 (by kernel_rfl) I (bX I) I I I ?_;refine qR 8 (by kernel_rfl) I (bX I) I I I ?_;refine Km [Wy 1 16 n,mkN 3 18 n,mkN 5 20 n,Wy 7 22 n,Wy 9 24 n,mkF 11 6] (λm=>!Nat.beq m.i 11) 2 (by kernel_rfl) (by kernel_rfl) ?_ (λq=>?_) λq=>?_
 ·intro m hm
  simp only[ez,iD,or_false]at hm;rcases hm with rfl|rfl|rfl|rfl|rfl|rfl
  exact nT I I I (bJ _) J J I;exact nT I I I (bJ _) J J I;exact nT I I I (bJ _) J J I;exact nT I I I (bJ _) J J I;exact nT I I I (bJ _) J J I;exact Gb I I
 ·simp only[Wy,mkN,mkF,gu,o7]
  generalize q 1=gE;generalize q 3=gF;generalize q 5=gW;generalize q 7=gR;generalize q 9=gM;generalize q 11=g6;clear q;refine Ce (.calm 10 (.one 12 .done)) (by kernel_rfl) I ?_
  repeat(first|refine GW ?_|(refine GN ?_;first|refine QW (bP I (Gs _ _ _ _ _ _ _ _ _ _ _ _ _ _ _)) ?_))
  refine aO I ?_;refine il 7 ?_;refine aP wh ?_
  try refine GW ?_
  exact eJ (gE,gF,gW,gR,gM,g6) trivial (by repeat' (first|exact dl|refine dh I ?_)) I
 ·rw[show List.filter (λm:Mk=>!Nat.beq m.i 11) [Wy 1 16 n,mkN 3 18 n,mkN 5 20 n,Wy 7 22 n,Wy 9 24 n,mkF 11 6]=[Wy 1 16 n,mkN 3 18 n,mkN 5 20 n,Wy 7 22 n,Wy 9 24 n]from I]
  simp only[Wy,mkN,mkF,gu,o7];generalize q 1=gE;generalize q 3=gF;generalize q 5=gW;generalize q 7=gR;generalize q 9=gM;clear q;refine Ce (.calm 10 (.one 11 (.one 12 .done))) (by kernel_rfl) (by kernel_rfl) ?_
  repeat(first|refine GW ?_|(refine GN ?_;first|refine QW (bP I (Gs _ _ _ _ _ _ _ _ _ _ _ _ _ _ _)) ?_))
  refine aO I ?_;refine bz I λg6=>?_;refine aP wh ?_;refine aO I ?_;refine il 7 ?_;refine aP wh ?_
  try refine GW ?_
  exact eJ (gE,gF,gW,gR,gM,g6) trivial (by repeat' (first|exact dl|refine dh I ?_)) I
end cZ
namespace cZ
open Go.RowKit dr eH aV ey eg gB
theorem Sy{x y:Nat}(hx:x<18446744073709551616)(hy:y<18446744073709551616):bits .and .u64 (x:Int) (y:Int)=((x&&&y:Nat):Int):=bits_and_u64_nat x y hx hy
theorem DG{L:List cU}{R:List Nat}{o:cU}(h:o∈R.filterMap λi=>L[i]?):o∈L:=by
 obtain⟨i,_,hi⟩:=List.mem_filterMap.1 h;exact mF hi
end cZ
namespace cZ
open Go.RowKit dr eH aV
theorem N7(h:Int)(b:Option Addr)(m c:Nat)(w:World):(dR 140 #[(0,av az h),(1,ap b m c)]).run aC w= .ok (aU #[av az h,ap b m c]) w:=by
 go_simp
def oq(F:Nat->Prop)(vp:Value)(l:List aV.Prod):cU:=Fc (bW oB) F [vp] l
theorem Ba{w:World}{hd:Int}{vb:Value}{body:List dV}(l7:dr.eD hd)(hp:∀x∈body,Wf x)(h:(bD 148 2 vb body.length (body.flatMap eX)).holds w):oB.is (λk=>vb.ownBlock=aj k) w [av az hd,vb] (hd,body):=
 ⟨[av az hd],[vb],rfl,⟨rfl,l7⟩,vb,rfl,kH.of_flat (Sl.dY h) hp (λ_ h=>h) (λa n cp hv=>by rw[hv];rfl)⟩
end cZ
namespace cZ
open Go.RowKit dr eH aV
theorem Z1{α:Type}{s:wF α}{F:Nat->Prop}{w:World}{v:Value}{l:List α}(h:kH s F w v l):v.oneCell'=true:=by
 obtain⟨b,c,rfl,_⟩:=h;rfl
theorem Gt(k q:Int)(w:World):(dR 148 #[(0,av az k),(1,av az q)]).run aC w= .ok (aU #[av az k,av az q]) w:=by
 go_simp
end cZ
namespace cZ
open Go.RowKit dr eH aV
theorem BM(v:Value)(l:List dV)(w:World)(hs:Sl w v l.length (l.flatMap eX))(hl:l.length*16<=140737488355328):
 Calls aC 99 #[v] w (cY (dg 148 2 l.length (l.flatMap eX) id) w):=by
 obtain⟨base,cap,rfl,lR,kA,fl⟩:=hs;unfold maxLen at kA;refine enter (args:=[ap base l.length cap]) (n:=8) Tryz.func99 I I I ?_;have rj:∀w',Gr w w'->Sl w' (ap base l.length cap) l.length (l.flatMap eX):=λw' hg=>Sl.gr ⟨base,cap,rfl,lR,kA,fl⟩ hg;clear fl
 cases base with
 | none=>
  repeat(first|refine GC ?_|refine gV (ki bR.eq I I I) ?_|refine GB ?_)
  have h0:l=[]:=by
   cases l with
   |nil=>rfl
   |cons x l=>obtain⟨_,_,h,_,_,h2⟩:=rj w (Gr.refl w);simp only[jQ]at h;obtain⟨rfl,_⟩:=h;obtain⟨b,off,h,_⟩:=h2 (by simp);cases h
  subst h0;refine ef 148 2 ?_;exact da I I λw hm=>hm.meets (S:=dg 148 2 0 [] id) _ trivial [0] ahk I
 |some p=>
  repeat(first|refine GC ?_|refine gV (ki bR.eq I I I) ?_|refine GB ?_)
  refine wj I λg=>?_
  try refine GA ?_
  refine fc (i:=0) I (λw' hm=>rj w' hm.below) I I (lD nV l) (ZO l) J J I λv'=>?_;rw[fg]
  try refine GA ?_
  refine da I I λw hm=>?_;exact hm.meets (S:=dg 148 2 l.length (l.flatMap eX) id) v' trivial [0] ahk (by simp[dg])
end cZ
namespace cZ
open Go.RowKit dr eH aV eg
section
variable{P:Program}{n:Nat}{W:b9}{fr:Fr}{L:List cU}{dst:Option Tmp}{ty:TypeId}{pos:String}{after:Array Edge}{guard:Option (Nat×Bool)}{t u:TypeId}{x y:Operand}{k:IntKind}{m m' r:Int}
theorem Qs(hx:ev fr x=aj (.int k m))(hy:ev fr y=aj (.int k m'))(h:bits .andNot k m m'=r):RR P n W ⟨dst,.binOp .andNot t x y u,ty,pos,after,guard⟩ fr L (.int k r):=HN (.inr (.inr (.inr I))) hx hy h
end
theorem DH{ι:Type}{S:Spec ι}{w w':World}{e:Ending}(h:dF S w e w'):cY S w e w':=let ⟨x,h1,h2,h3⟩:=h;⟨x,h1,h2,h3.below,h3.abH⟩
theorem N8(w:World):(dR 104 (#[]:Array (Nat×Value))).run aC w= .ok (aU #[ap ak 0 0,ap ak 0 0,ap ak 0 0,ap ak 0 0,ap ak 0 0]) w:=by
 go_simp
theorem Sz(v:Value)(g:eL)(w:World)(h:kz (λk=>k<w.heap.size) w v g)(h0:cL g≠0):
 Calls aC 42 #[v] w (cY (ret (.tuple #[mz (ap ak 0 0) (ap ak 0 0) (ap ak 0 0) (ap ak 0 0) (ap ak 0 0),av az (cL g)])) w):=by
 have jr:=λw' (hg:Gr w w')=>jY v g w' (h.gr hg);obtain⟨vp,rfl,h1,_⟩:=h;obtain⟨bp,cp,rfl,H',E6,oC⟩:=h1;generalize cL g=e at*;obtain⟨t,n,aF⟩:=g;dsimp only at*;refine enter (args:=[ee t n (ap bp aF.length cp)]) (n:=39) Tryz.func42 I I I ?_;refine bC (aM (b_ I I I λg1=>bz I λg2=>?_))
 repeat(first|refine GA ?_|refine gV (aQ (i:=0) aL.ty I I I) ?_)
 refine a8 (ju aJ.en I I) (λw hm=>jr _ hm.below) I I I ?_;intro _ _;refine zL ?_
 repeat(first|refine GA ?_|refine gV (bP I N8) ?_)
 refine il 1 ?_
 try refine GA ?_
 exact e8 (i:=1) I I I I I λw hm=>hm.ret
end cZ
namespace cZ
open Go.RowKit dr eH aV eg
def Fg(t n:Int):List dV->Int
 |[]=>0
 |x::r=>if right t n x=aD then Fg t n r else 1
theorem Ih{t n:Int}:∀{l:List dV},Fg t n l=0->∀x∈l,right t n x=aD
 |[],_,_,h=>by cases h
 | y ::r,h,x,hx=>by
  unfold Fg at h;split at h
  ·rename_i c
   rcases ez.1 hx with rfl|hx
   exact c;exact Ih h x hx
  cases h
theorem Ii{t n:Int}:∀{l:List dV},(∀x∈l,right t n x=aD)->Fg t n l=0
 |[],_=>rfl
 |y::r,h=>by unfold Fg;rw[if_pos (h y (by simp))];exact Ii λx hx=>h x (by simp[hx])
def uL(g:eL)(body:List dV):Int:=if cL g≠0 then cL g else if 60<body.length then 1 else Fg g.aT g.bM body
def BN(g:eL)(body:List dV)(behind:Nat):Nat:=if uL g body=0 then gI (wJ g.bM.toNat g.aF).E (ML g.bM.toNat g.aF) body behind else 0
theorem KO{t n:Int}{x:dV}(h:right t n x=aE):(x.1≠1/\x.1≠2)\/(x.1=1/\x.2<0)\/(x.1=1/\0<=x.2/\t<=x.2)\/(x.1=2/\x.2<0)\/(x.1=2/\0<=x.2/\n<=x.2):=by
 unfold right at h;split at h;simp at h;omega;split at h;simp at h;omega;omega
theorem uM{t n:Int}{x:dV}(h:right t n x=aD):(x.1=1/\0<=x.2/\x.2<t)\/(x.1=2/\0<=x.2/\x.2<n):=by
 unfold right at h;split at h;simp at h;omega;split at h;simp at h;omega;simp at h
theorem Ij{g:eL}{n:Nat}(jr:cL g=0)(hn:g.bM=n):Wq n (wJ n g.aF)/\zt n (ML n g.aF):=by
 have hf:=yH jr hn
 constructor
 ·obtain⟨s',h1,h2,h3⟩:=yG (Dy hf) _ ⟨dJ n aE,(dJ n aE).set 0 aD,dJ n aE,aE⟩ ⟨by simp,by simp,by simp⟩ (bJ _)
  unfold wJ;rw[h3];exact(Dy hf).keep _ h1
 obtain⟨s',h1,h2,h3⟩:=yG (N0 (E:=(wJ n g.aF).E) (M:=(wJ n g.aF).M) hf) _ (dJ n 0) ⟨by simp,λx hx=>by rw[NL hx];decide⟩ (bJ _);unfold ML rG;rw[h3];exact(N0 hf).keep _ h1
theorem rJ(v vb:Value)(g:eL)(body:List dV)(behind:Nat)(w:World)(h:kz (λk=>k<w.heap.size) w v g)(hs:Sl w vb body.length (body.flatMap eX))(hb:behind<18446744073709551616):
 Calls aC 84 #[v,vb,ik behind] w (cY (ret (.tuple #[ik (BN g body behind),av az (uL g body)])) w):=by
 by_cases c0:cL g=0
 ·obtain⟨_,_,k1,k2,k3,k4⟩:=de c0
  obtain⟨n,hn⟩:∃n:Nat,g.bM=n:=⟨g.bM.toNat,by omega⟩;have SA:=λw' (hg:Gr w w')=>DF v g w' (h.gr hg) c0 n hn;obtain⟨hS,hF⟩:=Ij c0 hn;obtain⟨vp,rfl,h1,_⟩:=h;obtain⟨bp,cp,rfl,H',E6,oC⟩:=h1;clear oC;have T5:=hs;obtain⟨bb,cb,rfl,h4,h5,h6⟩:=hs;unfold maxLen at h5;obtain⟨t,nn,aF⟩:=g;dsimp only at*;subst hn;have BH:=λ(vE vF vL vR vM:Value) w' (hg:Gr w w') (hE:Sl w' vE n ((wJ n aF).E.map .bool)) (hF2:Sl w' vF n ((ML n aF).map ik)) l7=>uJ vE vF vL vR vM _ (wJ n aF).E (ML n aF) body behind w' (by rw[hS.1];exact hE) (by rw[hF.1];exact hF2) (T5.gr hg) (by rw[hS.1,hF.1]) l7 hF.2 hb;rw[hF.1]at BH;have hV:BN ⟨t,n,aF⟩ body behind=if uL ⟨t,n,aF⟩ body=0 then gI (wJ n aF).E (ML n aF) body behind else 0:=rfl
  have hE:uL ⟨t,n,aF⟩ body=if 60<body.length then 1 else Fg t n body:=by
   unfold uL;rw[if_neg (by rw[c0];simp)]
  generalize BN ⟨t,n,aF⟩ body behind=rV at*;generalize uL ⟨t,n,aF⟩ body=rE at*;refine enter (args:=[ee t (n:Int) (ap bp aF.length cp),ap bb body.length cb,ik behind]) (n:=71) Tryz.func84 I I I ?_;refine bC (aM (b_ I I I λg3=>?_))
  repeat(first|refine GA ?_|refine gV (aQ (i:=0) aL.ty I I I) ?_)
  refine a8 (ju aJ.en I I) (λw' hm=>(SA w' hm.below).mono λe w2 h=>DH h) I I I ?_;intro x _
  conv=>arg 8;simp only[zJ,dg,ret,id_eq,DE.val]
  try refine GA ?_
  refine bz I λg8=>?_;refine il 6 ?_;refine zL ?_
  by_cases c1:60<body.length
  ·rw[if_pos c1]at hE
   subst hE;rw[if_neg ahk]at hV;subst hV
   try refine GA ?_
   exact sn I I I λw hm=>hm.ret
  rw[if_neg c1]at hE
  try refine GA ?_
  refine eK (ι:=Nat) (λk=>k<=body.length/\rE=Fg t n (body.drop k)) (λk=>[(1,ap bb body.length cb),(2,ik behind),(3,aK (aj ⟨g3,0,ak⟩)),(8,aK (aj ⟨g8,0,ak⟩)),(23,ap bb body.length cb),(24,av az body.length),(25,av az (k:Int))])
   (λ_=>[aR g3 (ee t (n:Int) (ap bp aF.length cp)).cells 33,eT n x.gE x.cE (wJ n aF).E,iS n x.gF x.cF (ML n aF),iS n x.gW x.cW (MM n aF),eT n x.gR x.cR (wJ n aF).R,eT n x.gM x.cM (wJ n aF).M,aR g8 (mz (dU n x.gE x.cE) (dU n x.gF x.cF) (dU n x.gW x.cW) (dU n x.gR x.cR) (dU n x.gM x.cM)).cells 104]) (λk=>body.length-k) 0 ⟨bO _,hE⟩ ?_
  rintro k ⟨i1,i2⟩
  by_cases c6:k<body.length
  ·obtain⟨b,off,rfl,hr⟩:=h6 J
   have d_:=λL=>iB (L:=L) nV hr c6;rw[ff c6,Fg]at i2;clear h6 hr T5 BH;generalize body[k]=y at*
   cases r:right t n y
   ·rw[if_neg (by rw[r];decide)]at i2
    clear hE;subst i2;rw[if_neg ahk]at hV;subst hV;have r':=KO r;obtain⟨q,m⟩:=y;dsimp only at r';rcases r' with r'|r'|r'|r'|r'
    all_goals
     repeat(first|refine GA ?_|refine gV (a_ bR.eq aL.ty I I c6) ?_|refine gV (bH aL.ty I I (d_ _)) ?_)
     refine bz I λg11=>?_;refine il 7 ?_;refine zL ?_
     repeat(first|refine GA ?_|refine gV (aB aL.ty I (aH (i:=7) I I)) ?_|refine gV (aB aL.ty I (aH (i:=0) I I)) ?_)
     exact sn I I I λw hm=>hm.ret
   rw[if_pos r]at i2;have r':=uM r;obtain⟨q,m⟩:=y;dsimp only at r';rcases r' with r'|r'
   all_goals
    repeat(first|refine GA ?_|refine gV (a_ bR.eq aL.ty I I c6) ?_|refine gV (bH aL.ty I I (d_ _)) ?_)
    refine bz I λg11=>?_;refine il 7 ?_;refine zL ?_
    repeat(first|refine GA ?_|refine gV (aB aL.ty I (aH (i:=7) I I)) ?_|refine gV (aB aL.ty I (aH (i:=0) I I)) ?_)
    refine dS [0,1,2,3,4,5,6] ?_;exact cJ (k+1) ⟨by omega,i2⟩ (by show body.length-(k+1)<body.length-k;omega)
  rw[je J]at i2;have i2:rE=0:=by rw[i2];rfl
  have qQ:∀x∈body,right t n x=true:=Ih (hE.symm.trans i2);clear hE;rw[if_pos i2]at hV;subst i2 hV
  repeat(first|refine GA ?_|refine gV (aQ (i:=6) aL.ty I I I) ?_)
  refine a8 (tH aJ.en I I I I) (λw hm=>BH _ _ _ _ _ w hm.below (l8 (i:=1) I w hm) (l8 (i:=2) I w hm) (λx hx=>by have:=uM (qQ x hx);omega)) I I I ?_;intro _ _
  try refine GA ?_
  exact sn I I I λw hm=>hm.ret
 ·have SA:=λw' (hg:Gr w w')=>Sz v g w' (h.gr hg) c0
  have hE:uL g body=cL g:=by unfold uL;rw[if_pos c0]
  have hV:BN g body behind=0:=by unfold BN;rw[hE,if_neg c0]
  rw[hE,hV];obtain⟨vp,rfl,h1,_⟩:=h;obtain⟨bb,cb,rfl,_⟩:=hs;generalize cL g=e at*;obtain⟨t,n,aF⟩:=g;dsimp only at*;refine enter (args:=[ee t n vp,ap bb body.length cb,ik behind]) (n:=71) Tryz.func84 I I I ?_;refine bC (aM (b_ I I I λg3=>?_))
  repeat(first|refine GA ?_|refine gV (aQ (i:=0) aL.ty I I I) ?_)
  refine a8 (ju aJ.en I I) (λw hm=>SA _ hm.below) I I I ?_;intro _ _
  try refine GA ?_
  refine bz I λg8=>?_;refine il 1 ?_
  try refine GA ?_
  exact sn I I I λw hm=>hm.ret
end cZ
namespace cZ
open Go.RowKit dr eH aV gB
theorem Wz:laidOutB aC=true:=by kernel_rfl
theorem Qt:(146:TypeId)<aC.types.size:=of_decide_eq_true (by kernel_rfl)
theorem WA:(match aC.underlying 146 with|some (.array _ _)|some (.struct _)=>aD|_=>aE)=true:=by kernel_rfl
def Gu(x:Span):Value:=aU #[av az x.1,av az x.2.1,av az x.2.2]
theorem WB(x:Span)(h:dr.eD x.1/\dr.eD x.2.1/\dr.eD x.2.2):∃l,keyOf aC 146 (Gu x)=aj l:=by
 obtain⟨a,b,c⟩:=x;obtain⟨h1,h2,h3⟩:=h;have e1:aC.keyType 146=true:=by kernel_rfl
 have e2:aC.cellsOf 146=3:=by kernel_rfl
 have e3:aC.cellsOf 3=1:=by kernel_rfl
 have e4:∃d,aC.types.size+1=d+2:=⟨aC.types.size-1,by have:0<aC.types.size:=xG (bO 146) Qt;omega⟩;obtain⟨d,e4⟩:=e4;have key:∀n:Int,dr.eD n->aC.keyLits (d+1) 3 [.int .i64 n]=aj [.int .i64 n]:=λn hn=>by
  have hw:(Lit.int .i64 n).wf=true:=by
   have h0: -9223372036854775808<=n:=hn.1;have h1:n<=9223372036854775807:=hn.2;simp[Lit.wf,zN,zO,oY,lB,h0,h1]
  simp[sh,Tryz.underlying3,hw]
 refine⟨.string (keyBytes ([.int .i64 a,.int .i64 b,.int .i64 c])),?_⟩;have hl:aC.keyLits (d+2) 146 [.int .i64 a,.int .i64 b,.int .i64 c]=aj [.int .i64 a,.int .i64 b,.int .i64 c]:=by
  unfold sh;simp[Tryz.underlying146,e2,e3,key _ h1,key _ h2,key _ h3]
 have hf:(Gu (a,b,c)).formed aC 146=true:=by simp[Gu,Value.formed,Tryz.underlying146,e2]
 unfold keyOf;rw[Tryz.underlying146];show(if(aC.keyType 146&&(Gu (a,b,c)).formed aC 146)=aD then(aC.keyLits (aC.types.size+1) 146 [.int .i64 a,.int .i64 b,.int .i64 c]).map (λls=>Lit.string (keyBytes ls))else ak)=_
 rw[e1,hf,e4,hl];rfl
set_option maxRecDepth 100000 in
def aet:xz aC 146 Span where
 kv:=Gu
 ok x:=dr.eD x.1/\dr.eD x.2.1/\dr.eD x.2.2
 law:=deep_law_laid Wz (m:=2) J Qt (by kernel_rfl) WA
 key:=WB
 inj x y h:=by
  obtain⟨a,b,c⟩:=x;obtain⟨a',b',c'⟩:=y;simp only[Gu,k7,pv,ib,Ad,true_and,and_true]at h;simp[h]
def chM(gm:Nat)(c:qA)(B:Nat):cU:=pq aet gm (av az 0) (λx=>av az (c x:Int)) B
def chV(t n:Int)(vp vw:Value)(gm:Nat):Array Value:=#[av az t,av az n,vp,vw,.map (aj gm)]
structure ChR(w:World)(gc gm:Nat)(t n:Int)(vp vw:Value)(word:List Int)(c:qA)(B:Nat):Prop where
 cell:w.heap[gc]?=aj (.cells (chV t n vp vw gm) 144 (0,0))
 map:(chM gm c B).holds w
 word:Sl w vw word.length (word.map (.int .i64))
theorem ChR.gr{w w':World}{gc gm:Nat}{t n:Int}{vp vw:Value}{word:List Int}{c:qA}{B:Nat}(h:ChR w gc gm t n vp vw word c B)(hg:Gr w w'):ChR w' gc gm t n vp vw word c B:=
 ⟨(hg.block gc (lA.1 h.cell).1).trans h.cell,(chM gm c B).stay w w' h.map hg.size λk hk=>hg.block k ((chM gm c B).lt w h.map k hk),h.word.gr hg⟩
theorem acV{W:World}{L:List cU}{b off:Nat}{l:List Int}(h:Rd W b off (l.map (.int .i64))){k:Nat}(hk:k<l.length):At W L ⟨b,off+k,ak⟩ (av az l[k]):=jb h (by simp[hk])
end cZ
namespace bV
open aV ey dq
abbrev Item:=Int×Int×Int
def uN(a b:Int):Int:=if a<b then-1 else if b<a then 1 else 0
def KP(a b:Item):Int:=if uN a.1 b.1≠0 then uN a.1 b.1 else if uN a.2.1 b.2.1≠0 then uN a.2.1 b.2.1 else uN a.2.2 b.2.2
def N9(a b:Item):Bool:=decide (KP a b<0)
theorem Qu(a b:Item):N9 a b=aD↔a.1<b.1\/(a.1=b.1/\(a.2.1<b.2.1\/(a.2.1=b.2.1/\a.2.2<b.2.2))):=by
 unfold N9 KP uN;rw[decide_eq_true_eq]
 repeat' split
 all_goals omega
theorem N_(a b:Item):N9 a b=aE↔¬(a.1<b.1\/(a.1=b.1/\(a.2.1<b.2.1\/(a.2.1=b.2.1/\a.2.2<b.2.2)))):=by
 rw[<-Qu,VP]
def MN(a b:Item):Bool:=!N9 b a
theorem Ci(a b:Item):MN a b=aD↔¬(b.1<a.1\/(b.1=a.1/\(b.2.1<a.2.1\/(b.2.1=a.2.1/\b.2.2<a.2.2)))):=by
 unfold MN;rw[zu,N_]
theorem SB(a b c:Item)(h1:MN a b=aD)(h2:MN b c=aD):MN a c=true:=by
 rw[Ci]at*;omega
theorem SC(a b:Item):(MN a b||MN b a)=true:=by
 rw[mA,Ci,Ci];omega
theorem KQ{a b:Item}(h1:MN a b=aD)(h2:MN b a=aD):a=b:=by
 rw[Ci]at*;obtain⟨a1,a2,a3⟩:=a;obtain⟨b1,b2,b3⟩:=b;dsimp only at h1 h2;rw[gH,gH];omega
theorem SD(x y:Item)(h1:N9 x y=aE)(h2:N9 y x=aE):x=y:=KQ (by unfold MN;rw[h2];rfl) (by unfold MN;rw[h1];rfl)
def acW(l:List Item):Prop:=l.Pairwise λa b=>N9 a b=aD
theorem Qv(a:Item):N9 a a=false:=by rw[N_];omega
theorem acX{a b c:Item}(h1:N9 a b=aD)(h2:N9 b c=aD):N9 a c=true:=by
 rw[Qu]at*;omega
theorem SE{l:List Item}(h:acW l):l.Nodup:=h.imp λ{a b} Dt e=>by subst e;rw[Qv]at Dt;cases Dt
def uO(l:List Item):List Item:=l.mergeSort MN
theorem WC{l:List Item}{x:Item}:x∈uO l↔x∈l:=(VV l MN).mem_iff
theorem KR(l:List Item):(uO l).length=l.length:=NM _
theorem WD{l:List Item}(h:l.Nodup):acW (uO l):=by
 have h1:(uO l).Pairwise λa b=>MN a b=true:=VR SB SC l;have h2:(uO l).Nodup:=(VV l MN).nodup_iff.2 h;refine(h1.and h2).imp λ{a b} Dt=>?_
 cases e:N9 a b with
 |true=>rfl
 |false=>exact absurd (KQ Dt.1 (by unfold MN;rw[e];rfl)) Dt.2
section
variable(l:List aV.Prod)(T:Nat)(lk:Int->Int->Nat)
def fZ(p:Int):List dV:=if p=(l.length:Int)then [(2,0)]else(dC l p).2
def qC(it:Item):Option dV:=(fZ l it.1)[it.2.1.toNat]?
def uP(it:Item):Nat:=if(lk it.1 it.2.1).testBit 62=aD then(lk it.1 it.2.1^^^2^62)|||2^it.2.2.toNat else lk it.1 it.2.1
def fR(i:Nat)(bits:Nat)(out:List Item):Nat->List Item
 |0=>out
 |k+1=>if bits.testBit k=aD then more (fR i bits out k) ((i:Int),0,(k:Int))else fR i bits out k
def fS(N:Int)(bits:Nat)(out:List Item):Nat->List Item
 |0=>out
 |i+1=>if(dC l (i:Int)).1=N then fR i bits (fS N bits out i) (T+1)else fS N bits out i
def uQ(it:Item)(out:List Item):List Item:=match qC l it with
 |some x=>if x.1=2 then fS l T x.2 (uP lk it) out l.length else out
 |none=>out
def th:Nat->Nat->List Item->List Item
 |0,_,out=>out
 |f+1,n,out=>if n<out.length then th f (n+1) (uQ l T lk (out.getD n (0,0,0)) out)else out
def j0(l0:List Item):List Item:=uO (th l T lk 12000 0 (eh [] l0))
def Ik(it x:Item):Prop:=∃N:Int,∃i k:Nat,qC l it=aj (2,N)/\i<l.length/\(dC l (i:Int)).1=N/\k<=T/\(uP lk it).testBit k=aD/\x=((i:Int),0,(k:Int))
inductive Cl(l0:List Item):Item->Prop
 |base {x:Item} (h:x∈l0):Cl l0 x
 |step {it x:Item} (h:Cl l0 it) (hx:Ik l T lk it x):Cl l0 x
def eU(it:Item):Prop:=0<=it.1/\it.1<=(l.length:Int)/\0<=it.2.1/\it.2.1<=((fZ l it.1).length:Int)/\0<=it.2.2/\it.2.2<=(T:Int)
end
section
variable{l:List aV.Prod}{T:Nat}{lk:Int->Int->Nat}
theorem uR{i bits:Nat}{out:List Item}{x:Item}:∀k,x∈fR i bits out k↔x∈out\/∃j,j<k/\bits.testBit j=aD/\x=((i:Int),0,(j:Int))
 |0=>⟨.inl,λh=>h.elim id λ⟨j,hj,_⟩=>absurd hj (mc j)⟩
 | k + 1=>by
  rw[fR]
  by_cases c:bits.testBit k=aD
  ·rw[if_pos c,ux,uR k]
   constructor
   ·rintro((h|⟨j,h1,h2⟩)|h)
    exact .inl h;exact .inr ⟨j,by omega,h2⟩;exact .inr ⟨k,by omega,c,h⟩
   rintro(h|⟨j,h1,h2,h3⟩);exact .inl (.inl h)
   by_cases e:j=k
   subst e;exact .inr h3;exact .inl (.inr ⟨j,by omega,h2,h3⟩)
  rw[if_neg c,uR k]
  constructor
  ·rintro(h|⟨j,h1,h2⟩)
   exact .inl h;exact .inr ⟨j,by omega,h2⟩
  rintro(h|⟨j,h1,h2,h3⟩);exact .inl h
  by_cases e:j=k
  subst e;exact absurd h2 c;exact .inr ⟨j,by omega,h2,h3⟩
theorem Bb(i bits:Nat)(out:List Item):∀k,∃E,fR i bits out k=out++E
 |0=>⟨[],(eB _).symm⟩
 | k +1=>by
  rw[fR];obtain⟨E,h⟩:=Bb i bits out k;split
  ·obtain⟨E2,h2⟩:=C6 (fR i bits out k) (((i:Int),0,(k:Int)):Item)
   exact⟨E++E2,by rw[h2,h,eZ]⟩
  exact⟨E,h⟩
theorem qV{i bits:Nat}{out:List Item}(h:out.Nodup):∀k,(fR i bits out k).Nodup
 |0=>h
 |k+1=>by
  rw[fR];split;exact C7 (qV h k);exact qV h k
theorem uS{N:Int}{bits:Nat}{out:List Item}{x:Item}:∀n,x∈fS l T N bits out n↔x∈out\/∃i k:Nat,i<n/\(dC l (i:Int)).1=N/\k<=T/\bits.testBit k=aD/\x=((i:Int),0,(k:Int))
 |0=>⟨.inl,λh=>h.elim id λ⟨j,_,hj,_⟩=>absurd hj (mc j)⟩
 | n + 1=>by
  rw[fS]
  by_cases c:(dC l (n:Int)).1=N
  ·rw[if_pos c,uR,uS n]
   constructor
   ·rintro((h|⟨i,k,h1,h2⟩)|⟨j,h1,h2,h3⟩)
    exact .inl h;exact .inr ⟨i,k,by omega,h2⟩;exact .inr ⟨n,j,by omega,c,by omega,h2,h3⟩
   rintro(h|⟨i,k,h1,h2,h3,h4,h5⟩);exact .inl (.inl h)
   by_cases e:i=n
   subst e;exact .inr ⟨k,by omega,h4,h5⟩;exact .inl (.inr ⟨i,k,by omega,h2,h3,h4,h5⟩)
  rw[if_neg c,uS n]
  constructor
  ·rintro(h|⟨i,k,h1,h2⟩)
   exact .inl h;exact .inr ⟨i,k,by omega,h2⟩
  rintro(h|⟨i,k,h1,h2,h3⟩);exact .inl h
  by_cases e:i=n
  subst e;exact absurd h2 c;exact .inr ⟨i,k,by omega,h2,h3⟩
theorem uT(N:Int)(bits:Nat)(out:List Item):∀n,∃E,fS l T N bits out n=out++E
 |0=>⟨[],(eB _).symm⟩
 | n +1=>by
  rw[fS];obtain⟨E,h⟩:=uT N bits out n;split
  ·obtain⟨E2,h2⟩:=Bb n bits (fS l T N bits out n) (T+1)
   exact⟨E++E2,by rw[h2,h,eZ]⟩
  exact⟨E,h⟩
theorem qW{N:Int}{bits:Nat}{out:List Item}(h:out.Nodup):∀n,(fS l T N bits out n).Nodup
 |0=>h
 |n+1=>by
  rw[fS];split;exact qV (qW h n) _;exact qW h n
theorem Cj{it:Item}{out:List Item}{x:Item}:x∈uQ l T lk it out↔x∈out\/Ik l T lk it x:=by
 unfold uQ Ik
 cases e:qC l it with
 |none=>exact⟨.inl,λh=>h.elim id λ⟨_,_,_,h,_⟩=>by cases h⟩
 | some s=>
  obtain⟨k,N⟩:=s;dsimp only
  by_cases c:k=2
  ·subst c
   rw[if_pos I,uS]
   constructor
   ·rintro(h|⟨i,j,h1,h2,h3,h4,h5⟩)
    exact .inl h;exact .inr ⟨N,i,j,rfl,h1,h2,h3,h4,h5⟩
   rintro(h|⟨N',i,j,h0,h1,h2,h3,h4,h5⟩);exact .inl h;simp only[dB,gH,true_and]at h0;subst h0;exact .inr ⟨i,j,h1,h2,h3,h4,h5⟩
  rw[if_neg c];refine⟨.inl,λh=>h.elim id λ⟨N',_,_,h,_⟩=>?_⟩;simp only[dB,gH]at h;exact absurd h.1 c
theorem Z2(it:Item)(out:List Item):∃E,uQ l T lk it out=out++E:=by
 unfold uQ;split
 ·split
  exact uT _ _ _ _;exact⟨[],(eB _).symm⟩
 exact⟨[],(eB _).symm⟩
theorem SF{it:Item}{out:List Item}(h:out.Nodup):(uQ l T lk it out).Nodup:=by
 unfold uQ;split
 ·split
  exact qW h _;exact h
 exact h
theorem mQ{p:Int}(hw:∀q∈l,q.2.length<=8):(fZ l p).length<=8:=by
 unfold fZ;split
 decide
 unfold dC;rw[cK]
 cases e:l[p.toNat]? with
 |none=>exact bO _
 |some q=>exact hw q (mF e)
theorem SG{it x:Item}(h:Ik l T lk it x):eU l T x:=by
 obtain⟨N,i,k,_,h2,_,h4,_,rfl⟩:=h;exact⟨by dsimp only;omega,by dsimp only;omega,k8 _,by dsimp only;omega,by dsimp only;omega,by dsimp only;omega⟩
theorem yM{l0:List Item}(h0:∀x∈l0,eU l T x){x:Item}(h:Cl l T lk l0 x):eU l T x:=by
 cases h with
 |base h=>exact h0 x h
 |step _ hx=>exact SG hx
theorem Ar{out:List Item}(hw:∀q∈l,q.2.length<=8)(hl:l.length<=40)(hT:T<=30)(hn:out.Nodup)(hr:∀x∈out,eU l T x):out.length<=11439:=by
 have:=nS (l:=out.map λx:Item=>x.1.toNat*279+x.2.1.toNat*31+x.2.2.toNat) (m:=11439) ?_ ?_
 rwa [dX]at this
 ·rw[List.nodup_iff_pairwise_ne,List.pairwise_map]
  refine(acP.1 hn).imp λ{a b} Dt e=>Dt.2.2 ?_;have ha:=hr a Dt.1;have hb:=hr b Dt.2.1;have ha8:=mQ (p:=a.1) hw;have hb8:=mQ (p:=b.1) hw;unfold eU at ha hb;obtain⟨a1,a2,a3⟩:=a;obtain⟨b1,b2,b3⟩:=b;dsimp only at*;rw[gH,gH];omega
 intro x hx;obtain⟨a,ha,rfl⟩:=e7.1 hx;have h1:=hr a ha;have h8:=mQ (p:=a.1) hw;unfold eU at h1;omega
structure WkI(l:List aV.Prod)(T:Nat)(lk:Int->Int->Nat)(l0:List Item)(n:Nat)(out:List Item):Prop where
 nd:out.Nodup
 le:n<=out.length
 has:∀x∈l0,x∈out
 cl:∀x∈out,Cl l T lk l0 x
 shut:∀j (h:j<out.length),j<n->∀x,Ik l T lk out[j] x->x∈out
theorem Qw{l0:List Item}{n:Nat}{out:List Item}(h:WkI l T lk l0 n out)(hn:n<out.length):WkI l T lk l0 (n+1) (uQ l T lk out[n] out):=by
 obtain⟨E,hE⟩:=Z2 (l:=l) (T:=T) (lk:=lk) out[n] out;have hlen:out.length<=(uQ l T lk out[n] out).length:=by rw[hE,bT];omega
 have xU:∀j (h:j<out.length),(uQ l T lk out[n] out)[j]' J=out[j]:=λj hj=>by
  simp only[hE,List.getElem_append_left hj]
 refine⟨SF h.nd,by omega,λx hx=>Cj.2 (.inl (h.has x hx)),λx hx=>?_,λj hj hjn x hx=>?_⟩
 ·rcases Cj.1 hx with h1|h1
  exact h.cl x h1;exact .step (h.cl _ (cV hn)) h1
 have qc:j<out.length:=by omega
 rw[xU j qc]at hx
 by_cases e:j=n
 subst e;exact Cj.2 (.inr hx);exact Cj.2 (.inl (h.shut j qc J x hx))
theorem DI{l0:List Item}(hw:∀q∈l,q.2.length<=8)(hl:l.length<=40)(hT:T<=30)(h0:∀x∈l0,eU l T x):∀(f n:Nat) (out:List Item),11440<=f+n->WkI l T lk l0 n out->WkI l T lk l0 (th l T lk f n out).length (th l T lk f n out)
 | 0,n,out,hf,h=>by
  have:=Ar hw hl hT h.nd λx hx=>yM h0 (h.cl x hx);have:=h.le;omega
 | f +1,n,out,hf,h=>by
  rw[th]
  by_cases c:n<out.length
  ·rw[if_pos c,cK,bQ c,Option.getD_some]
   exact DI hw hl hT h0 f (n+1) _ J (Qw h c)
  rw[if_neg c];have:=h.le;rw[show out.length=n by omega];exact h
theorem DJ(l0:List Item):WkI l T lk l0 0 (eh [] l0):=
 ⟨sD l0 [] List.nodup_nil,bO _,λx hx=>kZ.2 (.inr hx),λx hx=> .base ((kZ.1 hx).resolve_left (by simp)),λj _ h=>absurd h (mc j)⟩
section
variable(hw:∀q∈l,q.2.length<=8)(hl:l.length<=40)(hT:T<=30)
include hw hl hT
theorem iP{l0:List Item}(h0:∀x∈l0,eU l T x){x:Item}:x∈j0 l T lk l0↔Cl l T lk l0 x:=by
 unfold j0;rw[WC];have h:=DI (lk:=lk) hw hl hT h0 12000 0 _ J (DJ l0);refine⟨h.cl x,λhx=>?_⟩
 induction hx with
 |base hb=>exact h.has _ hb
 |step _ hx ih=>
  obtain⟨j,hj,rfl⟩:=jt.1 ih;exact h.shut j hj hj _ hx
theorem Oa{l0:List Item}(h0:∀x∈l0,eU l T x):acW (j0 l T lk l0):=
 WD (DI (lk:=lk) hw hl hT h0 12000 0 _ J (DJ l0)).nd
theorem jm{l0:List Item}(h0:∀x∈l0,eU l T x):∀x∈j0 l T lk l0,eU l T x:=λ_ hx=>yM h0 ((iP hw hl hT h0).1 hx)
theorem sJ{l0:List Item}(h0:∀x∈l0,eU l T x):(j0 l T lk l0).length<=11439:=
 Ar hw hl hT (SE (Oa hw hl hT h0)) (jm hw hl hT h0)
end
end
end bV
namespace bV
open aV ey dq
def Z3(it:Item):Item:=(it.1,it.2.1+1,it.2.2)
section
variable(l:List aV.Prod)(T N:Nat)(lk:Int->Int->Nat)
def mR(s:List Item)(x:dV):List Item:=(s.filter λit=>decide (qC l it=aj x)).map Z3
def jn(s:List Item)(x:dV):List Item:=j0 l T lk (mR l s x)
def mS:List dV:=(eG T).map (λn:Nat=>((1:Int),(n:Int)))++(eG N).map (λn:Nat=>((2:Int),(n:Int)))
def jv(S:List (List Item))(s:List Item):Nat×List (List Item):=if s∈S then(idx S s,S)else(S.length,S++[s])
def qD(s:List Item)(x:dV)(S:List (List Item)):Int×List (List Item):=if jn l T lk s x=[]then(-1,S)else(((jv S (jn l T lk s x)).1:Int),(jv S (jn l T lk s x)).2)
def yN(s:List Item):List dV->List Int->List (List Item)->Option (List Int×List (List Item))
 |[],nx,S=>aj (nx,S)
 |x::r,nx,S=>if 200<(qD l T lk s x S).2.length then ak else yN s r (nx++[(qD l T lk s x S).1]) (qD l T lk s x S).2
def wU:Nat->Nat->List (List Int)->List (List Item)->Option (List (List Int)×List (List Item))
 |0,_,_,_=>ak
 | f +1,n,Nx,S=>if n<S.length then(match yN l T lk (S.getD n []) (mS T N) [] S with
  |none=>ak
  |some (nx,S')=>wU f (n+1) (Nx++[nx]) S')else aj (Nx,S)
def nC:List Item:=j0 l T lk [((l.length:Int),0,(T:Int))]
def allI:Option (List (List Int)×List (List Item)):=wU l T N lk 202 0 [] [nC l T lk]
end
theorem yO(T N:Nat):(mS T N).length=T+N:=by unfold mS;rw[bT,dX,dX,pw,pw]
theorem SH{T N k:Nat}(h:k<T):(mS T N)[k]?=aj (1,(k:Int)):=by
 unfold mS;rw[fH (by simpa using h),fx,De h];rfl
theorem WE{T N k:Nat}(h:k<N):(mS T N)[T+k]?=aj (2,(k:Int)):=by
 unfold mS;rw[List.getElem?_append_right (by simp),dX,pw,Nat.add_sub_cancel_left,fx,De h];rfl
section
variable{l:List aV.Prod}{T N:Nat}{lk:Int->Int->Nat}
theorem KS{s:List Item}{x:dV}{y:Item}:y∈mR l s x↔∃it∈s,qC l it=aj x/\y=Z3 it:=by
 unfold mR;rw[e7]
 constructor
 ·rintro⟨it,h,rfl⟩
  rw[tS,decide_eq_true_eq]at h;exact⟨it,h.1,h.2,rfl⟩
 rintro⟨it,h1,h2,rfl⟩;exact⟨it,tS.2 ⟨h1,decide_eq_true h2⟩,rfl⟩
theorem k9{s:List Item}{x:dV}(hs:∀it∈s,eU l T it):∀y∈mR l s x,eU l T y:=by
 intro y hy;obtain⟨it,h1,h2,rfl⟩:=KS.1 hy;have hr:=hs it h1;have hd:=(dv.1 h2).1;unfold eU Z3 at*;dsimp only;omega
structure Il(l:List aV.Prod)(T:Nat)(lk:Int->Int->Nat)(S:List (List Item)):Prop where
 nd:S.Nodup
 right:∀s∈S,∀it∈s,eU l T it
 shut:∀s∈S,∀it∈s,∀x,Ik l T lk it x->x∈s
def DK(l:List aV.Prod)(T:Nat)(lk:Int->Int->Nat)(S:List (List Item))(s:List Item)(x:dV)(c:Int):Prop:=
 (jn l T lk s x=[]/\c= -1)\/(jn l T lk s x≠[]/\jn l T lk s x∈S/\c=(idx S (jn l T lk s x):Int))
theorem DK.Ss{S:List (List Item)}{s:List Item}{x:dV}{c:Int}(h:DK l T lk S s x c)(E:List (List Item)):DK l T lk (S++E) s x c:=by
 rcases h with h|⟨h1,h2,h3⟩
 exact .inl h;exact .inr ⟨h1,tV _ h2,by rw[h3,qy h2]⟩
section
variable(hw:∀q∈l,q.2.length<=8)(hl:l.length<=40)(hT:T<=30)
include hw hl hT
omit hw hl hT in
theorem Ob{S:List (List Item)}(hS:Il l T lk S){s:List Item}(hs:∀it∈s,eU l T it)(ZY:∀it∈s,∀x,Ik l T lk it x->x∈s):(∃E,(jv S s).2=S++E)/\s∈(jv S s).2/\(jv S s).1=idx (jv S s).2 s/\Il l T lk (jv S s).2:=by
 unfold jv
 by_cases c:s∈S
 ·rw[if_pos c]
  exact⟨⟨[],(eB _).symm⟩,c,rfl,hS⟩
 rw[if_neg c];refine⟨⟨[s],rfl⟩,List.mem_append_right _ (ep.2 I),?_,?_,?_,?_⟩
 ·show S.length=idx (S++[s]) s
  have:=rA (D:=S) (k:=s);unfold more at this;rw[if_neg c,if_neg c]at this;exact this.symm
 ·rw[List.nodup_append]
  exact⟨hS.nd,by simp,λa ha b hb e=>by rw[ep.1 hb]at e;subst e;exact c ha⟩
 ·intro s' xo it hit
  rcases fC.1 xo with h|h
  exact hS.right s' h it hit;rw[ep.1 h]at hit;exact hs it hit
 intro s' xo it hit x hx;rcases fC.1 xo with h|h
 exact hS.shut s' h it hit x hx;rw[ep.1 h]at hit⊢;exact ZY it hit x hx
theorem uU{l0:List Item}(h0:∀x∈l0,eU l T x):∀it∈j0 l T lk l0,∀x,Ik l T lk it x->x∈j0 l T lk l0:=λ_ hit _ hx=>
 (iP hw hl hT h0).2 (.step ((iP hw hl hT h0).1 hit) hx)
theorem Gv{S:List (List Item)}(hS:Il l T lk S){s:List Item}(hs:∀it∈s,eU l T it)(x:dV):(∃E,(qD l T lk s x S).2=S++E)/\DK l T lk (qD l T lk s x S).2 s x (qD l T lk s x S).1/\Il l T lk (qD l T lk s x S).2:=by
 unfold qD
 by_cases c:jn l T lk s x=[]
 ·rw[if_pos c]
  exact⟨⟨[],(eB _).symm⟩,.inl ⟨c,rfl⟩,hS⟩
 rw[if_neg c];obtain⟨h1,h2,h3,h4⟩:=Ob hS (jm (lk:=lk) hw hl hT (k9 (x:=x) hs)) (uU hw hl hT (k9 (x:=x) hs));exact⟨h1,.inr ⟨c,h2,congrArg _ h3⟩,h4⟩
theorem KT{s:List Item}(hs:∀it∈s,eU l T it):∀(xs:List dV) (nx:List Int) (S:List (List Item)) (done:List dV) (WG:List Int) (S':List (List Item)),Il l T lk S->yN l T lk s xs nx S=aj (WG,S')->S.length<=200->nx.length=done.length->(∀k x,done[k]?=aj x->DK l T lk S s x (nx.getD k 0))->
 (∃E,S'=S++E)/\Il l T lk S'/\S'.length<=200/\WG.length=(done++xs).length/\∀k x,(done++xs)[k]?=aj x->DK l T lk S' s x (WG.getD k 0)
 | [],nx,S,done,WG,S',hS,h,aeu,hlen,hd=>by
  simp only[yN,dB,gH]at h;obtain⟨rfl,rfl⟩:=h;rw[eB];exact⟨⟨[],(eB _).symm⟩,hS,aeu,hlen,hd⟩
 | x ::xs,nx,S,done,WG,S',hS,h,aeu,hlen,hd=>by
  rw[yN]at h
  by_cases c:200<(qD l T lk s x S).2.length
  rw[if_pos c]at h;cases h;rw[if_neg c]at h;obtain⟨⟨E,h1⟩,h2,h3⟩:=Gv (lk:=lk) hw hl hT hS hs x;obtain⟨⟨E2,q1⟩,q2,q3,q4,q5⟩:=KT hs xs (nx++[(qD l T lk s x S).1]) _ (done++[x]) WG S' h3 h J (by rw[bT,bT,hlen];rfl) (λk y hk=>by
   by_cases ek:k<done.length
   ·rw[fH ek]at hk
    rw[jI J,h1];exact(hd k y hk).Ss E
   have mZ:=(dv.1 hk).1;rw[bT,ky]at mZ;obtain rfl:k=done.length:=by omega
   rw[List.getElem?_append_right (Nat.le_refl _),Nat.sub_self]at hk;simp only[List.getElem?_cons_zero,Option.some.injEq]at hk;subst hk;rw[ma J,hlen,Nat.sub_self];exact h2)
  rw[eZ,List.singleton_append]at q4 q5;exact⟨⟨E++E2,by rw[q1,h1,eZ]⟩,q2,q3,q4,q5⟩
structure SI(l:List aV.Prod)(T N:Nat)(lk:Int->Int->Nat)(n:Nat)(Nx:List (List Int))(S:List (List Item)):Prop where
 ss:Il l T lk S
 BO:S.length<=200
 le:n<=S.length
 len:Nx.length=n
 start:S[0]?=aj (nC l T lk)
 wide:∀q,q<n->(Nx.getD q []).length=T+N
 cell:∀q,q<n->∀k x,(mS T N)[k]?=aj x->DK l T lk S (S.getD q []) x ((Nx.getD q []).getD k 0)
theorem KU:∀(f n:Nat) (Nx:List (List Int)) (S:List (List Item)) (Nx':List (List Int)) (S':List (List Item)),wU l T N lk f n Nx S=aj (Nx',S')->SI l T N lk n Nx S->SI l T N lk S'.length Nx' S'
  |0,_,_,_,_,_,h,_=>by cases h
  | f + 1,n,Nx,S,Nx',S',h,hi=>by
    rw[wU]at h
    by_cases c:n<S.length
    · rw[if_pos c]at h
      have xU:S.getD n []=S[n]:=by rw[cK,bQ c];rfl
      have hs:∀it∈S.getD n [],eU l T it:=by rw[xU];exact hi.ss.right _ (cV c)
      cases e:yN l T lk (S.getD n []) (mS T N) [] S with
      |none=>rw[e]at h;cases h
      | some r=>
        obtain⟨nx,S1⟩:=r;rw[e]at h;dsimp only at h;obtain⟨⟨E,q1⟩,q2,q3,q4,q5⟩:=KT (lk:=lk) hw hl hT hs (mS T N) [] S [] nx S1 hi.ss e hi.BO rfl (λk x hk=>by simp at hk);rw[fg]at q4 q5;have hlen:=congrArg List.length q1;rw[bT]at hlen;refine KU f (n+1) _ S1 Nx' S' h ⟨q2,q3,by omega,by rw[bT,hi.len];rfl,?_,λq hq=>?_,λq hq k x hk=>?_⟩;rw[q1,fH (by have:=(dv.1 hi.start).1;omega)];exact hi.start
        · by_cases eq:q=n
          · subst eq
            rw[ma (by rw[hi.len];exact bJ _),hi.len,px];show nx.length=T+N
            rw[q4,yO]
          rw[jI (by rw[hi.len];omega)];exact hi.wide q J
        by_cases eq:q=n
        · subst eq
          rw[ma (by rw[hi.len];exact bJ _),hi.len,px];have e1:S1.getD q []=S.getD q []:=by rw[q1,jI c]
          rw[e1];exact q5 k x hk
        rw[jI (by rw[hi.len];omega)];have e1:S1.getD q []=S.getD q []:=by rw[q1,jI J]
        rw[e1,q1];exact(hi.cell q J k x hk).Ss E
    rw[if_neg c]at h;simp only[dB,gH]at h;obtain⟨rfl,rfl⟩:=h;have:n=S.length:=by have:=hi.le;omega
    rw[<-this];exact hi
omit hw in
theorem iJ:∀x∈[(((l.length:Int),0,(T:Int)):Item)],eU l T x:=by
 intro x hx;rw[ep.1 hx];exact⟨by dsimp only;omega,k8 _,k8 _,by dsimp only;omega,by dsimp only;omega,k8 _⟩
theorem KV{Nx:List (List Int)}{S:List (List Item)}(h:allI l T N lk=aj (Nx,S)):SI l T N lk S.length Nx S:=
 KU hw hl hT 202 0 [] [nC l T lk] Nx S h
  ⟨⟨by simp,λs hs it hit=>by rw[ep.1 hs]at hit;exact jm (lk:=lk) hw hl hT (iJ hl hT) it hit,λs hs it hit x hx=>by rw[ep.1 hs]at hit⊢;exact uU hw hl hT (iJ hl hT) it hit x hx⟩,by simp,bO _,rfl,rfl,λq hq=>absurd hq (mc q),λq hq=>absurd hq (mc q)⟩
end
end
def iK(s:List Item):List UInt8:=s.flatMap λit=>[gv it.1.toNat,gv it.2.1.toNat,gv it.2.2.toNat]
theorem Oc{a b:Int}(ha:0<=a/\a<256)(hb:0<=b/\b<256)(h:gv a.toNat=gv b.toNat):a=b:=by
 have:=congrArg UInt8.toNat h;rw[V4,V4]at this;omega
theorem DL:∀{s s':List Item},(∀it∈s,0<=it.1/\it.1<256/\0<=it.2.1/\it.2.1<256/\0<=it.2.2/\it.2.2<256)->(∀it∈s',0<=it.1/\it.1<256/\0<=it.2.1/\it.2.1<256/\0<=it.2.2/\it.2.2<256)->iK s=iK s'->s=s'
 |[],[],_,_,_=>rfl
 |[],b::s',_,_,h=>by simp[iK]at h
 |a::s,[],_,_,h=>by simp[iK]at h
 | a ::s,b::s',h1,h2,h=>by
  have ha:=h1 a (ir ..);have hb:=h2 b (ir ..);unfold iK at h;rw[lC,lC]at h;simp only[ku,fg,ib]at h;obtain⟨e1,e2,e3,e4⟩:=h;have e1:=Oc ⟨ha.1,ha.2.1⟩ ⟨hb.1,hb.2.1⟩ e1;have e2:=Oc ⟨ha.2.2.1,ha.2.2.2.1⟩ ⟨hb.2.2.1,hb.2.2.2.1⟩ e2;have e3:=Oc ⟨ha.2.2.2.2.1,ha.2.2.2.2.2⟩ ⟨hb.2.2.2.2.1,hb.2.2.2.2.2⟩ e3;have e:a=b:=by
   obtain⟨a1,a2,a3⟩:=a;obtain⟨b1,b2,b3⟩:=b;simp only at e1 e2 e3;rw[e1,e2,e3]
  rw[e,DL (λit hit=>h1 it (mb _ hit)) (λit hit=>h2 it (mb _ hit)) e4]
end bV
namespace bV
open aV ey gB eg dq
open BK (DC)
abbrev Act:=Int×Int
section
variable(l:List aV.Prod)(T:Nat)
def yP(c:Nat)(it:Item):Option Act:=if it.2.2≠(c:Int)then ak else if it.1=(l.length:Int)/\it.2.1=1 then aj (3,0)else if it.1<(l.length:Int)/\it.2.1=((dC l it.1).2.length:Int)then aj (2,it.1)else ak
def kJ(s:List Item)(nx:List Int)(c:Nat):List Act:=(if c<T/\0<=nx.getD c 0 then [(1,nx.getD c 0)]else [])++s.filterMap (yP l c)
end
section
variable(l:List aV.Prod)(T:Nat)(Nx:List (List Int))(S:List (List Item))
def pI(q c:Nat):Act:=(kJ l T (S.getD q []) (Nx.getD q []) c).headD (0,0)
def aev(q:Nat)(n:Int):Int:=(Nx.getD q []).getD (T+n.toNat) 0
def aew:Prop:=∀q,q<S.length->∀c,c<=T->(kJ l T (S.getD q []) (Nx.getD q []) c).length<=1
inductive Im(w:List Int):List Nat->Nat->List dV->List Nat->Nat->Prop
 |nil {σ:List Nat} {a:Nat}:Im w σ a [] σ a
 |shift {q s:Nat} {σ σ':List Nat} {a a':Nat} {E:List dV} (ha:a<w.length) (h:pI l T Nx S q (DC T w a)=(1,(s:Int))) (hr:Im w (s::q::σ) (a+1) E σ' a'):Im w (q::σ) a ((2,(a:Int))::E) σ' a'
 |reduce {q r tq:Nat} {p:Int} {σ ρ σ':List Nat} {a a':Nat} {E:List dV} (h:pI l T Nx S q (DC T w a)=(2,p)) (hd:(q::σ).drop (dC l p).2.length=r::ρ) (hg:aev T Nx r (dC l p).1=(tq:Int)) (hr:Im w (tq::r::ρ) a E σ' a'):Im w (q::σ) a ((4,p)::E) σ' a'
end
section
variable{l:List aV.Prod}{T N:Nat}{lk:Int->Int->Nat}{Nx:List (List Int)}{S:List (List Item)}{w:List Int}
theorem Im.Ss{σ σ1 σ2:List Nat}{a a1 a2:Nat}{E E2:List dV}(h:Im l T Nx S w σ a E σ1 a1)(h2:Im l T Nx S w σ1 a1 E2 σ2 a2):Im l T Nx S w σ a (E++E2) σ2 a2:=by
 induction h with
 |nil=>exact h2
 |shift ha h _ ih=>exact .shift ha h (ih h2)
 |reduce h hd hg _ ih=>exact .reduce h hd hg (ih h2)
section
end
section
end
end
end bV
namespace cZ
open Go.RowKit dr eH
theorem KW(a:Int):(dr.eV a).length=1:=rfl
theorem kj(v:Value)(l:List Int)(w:World)(hs:Sl w v l.length (l.flatMap dr.eV))(hl:l.length*8<=140737488355328):
 Calls aC 97 #[v] w (cY (dg 3 1 l.length (l.flatMap dr.eV) id) w):=by
 obtain⟨base,cap,rfl,lR,kA,fl⟩:=hs;unfold maxLen at kA;refine enter (args:=[ap base l.length cap]) (n:=8) Tryz.func97 I I I ?_;have rj:∀w',Gr w w'->Sl w' (ap base l.length cap) l.length (l.flatMap dr.eV):=λw' hg=>Sl.gr ⟨base,cap,rfl,lR,kA,fl⟩ hg;clear fl
 cases base with
 | none=>
  repeat(first|refine GC ?_|refine gV (ki bR.eq I I I) ?_|refine GB ?_)
  have h0:l=[]:=by
   cases l with
   |nil=>rfl
   |cons x l=>obtain⟨_,_,h,_,_,h2⟩:=rj w (Gr.refl w);simp only[jQ]at h;obtain⟨rfl,_⟩:=h;obtain⟨b,off,h,_⟩:=h2 (by simp);cases h
  subst h0;refine ef 3 1 ?_;exact da I I λw hm=>hm.meets (S:=dg 3 1 0 [] id) _ trivial [0] ahk I
 |some p=>
  repeat(first|refine GC ?_|refine gV (ki bR.eq I I I) ?_|refine GB ?_)
  refine wj I λg=>?_
  try refine GA ?_
  refine fc (i:=0) I (λw' hm=>rj w' hm.below) I I (lD KW l) (Qp l) J J I λv'=>?_;rw[fg]
  try refine GA ?_
  refine da I I λw hm=>?_;exact hm.meets (S:=dg 3 1 l.length (l.flatMap dr.eV) id) v' trivial [0] ahk (by simp[dg])
end cZ
namespace cZ
open Go.RowKit dr eH aV ey eg bV
def jk(x:bV.Item):List Value:=[av az x.1,av az x.2.1,av az x.2.2]
theorem lU(x:bV.Item):(jk x).length=3:=rfl
def As(x:Option Nat):cU:=match x with
 |some g=>aR g #[av az 2,av az 0] 148
 |none=>⟨ak,λ_=>False,λ_=>True,λ_ _ k h=>by rcases h with h|h;cases h;exact h.elim,λ_ _ _ _ _=>trivial⟩
def Z4(vb:Nat->Value)(n:Nat)(x:Option Nat):Value:=match x with
 |some g=>ap (aj ⟨g,0,ak⟩) 1 1
 |none=>vb n
def SJ(F:Nat->Prop)(w:World)(vb:Nat->Value)(l:List aV.Prod):Prop:=∀i,i<l.length->kH ZP F w (vb i) (dC l (i:Int)).2
def yQ(vb:Nat->Value)(n P:Nat):Spec (Option Nat):=⟨λx=>x.isSome=decide (n=P),λx=>Z4 vb n x,λx=>[As x]⟩
theorem WH{F:Nat->Prop}{w:World}{vp:Value}{l:List aV.Prod}(h:kH oB F w vp l):∃(vb:Nat->Value) (bp:Option Addr) (cp:Nat),vp=ap bp l.length cp/\l.length<=cp/\cp<=maxLen/\SJ F w vb l/\(0<l.length->∃b off,bp=aj ⟨b,off,ak⟩/\F b/\∀i,i<l.length->Rd w b (off+i*2) [av az (dC l (i:Int)).1,vb i]/\dr.eD (dC l (i:Int)).1):=by
 obtain⟨bp,cp,rfl,h1,h2,h3⟩:=h
 by_cases h0:0<l.length
 ·obtain⟨b,off,rfl,hF,hr⟩:=h3 h0
  have key:∀i:Nat,∃v:Value,i<l.length->kH ZP F w v (dC l (i:Int)).2/\Rd w b (off+i*2) [av az (dC l (i:Int)).1,v]/\dr.eD (dC l (i:Int)).1:=λi=>by
   by_cases hi:i<l.length
   ·obtain⟨base,cap,q1,q2,q3⟩:=lT hr hi
    have e:dC l (i:Int)=l[i]:=by unfold dC;rw[dP,cK,bQ hi];rfl
    exact⟨_,λ_=>by rw[e];exact⟨q3,q1,q2⟩⟩
   exact⟨undef,λh=>absurd h hi⟩
  refine⟨λi=>HA (key i),aj ⟨b,off,ak⟩,cp,rfl,h1,h2,λi hi=>(CC (key i) hi).1,λ_=>⟨b,off,rfl,hF,λi hi=>(CC (key i) hi).2⟩⟩
 exact⟨λ_=>undef,bp,cp,rfl,h1,h2,λi hi=>absurd hi J,λh=>absurd h h0⟩
theorem acY{n:Nat}{W:b9}{e:Exit}{Q:Exit->Act->World->Prop}{fr:Fr}{L:List cU}(h:E n W e Q fr (L++[As ak])):E n W e Q fr L:=⟨λa w hr hm=>h.go a w hr ⟨hm.low,e_.both hm.owns (e_.one trivial λk hk=>by rcases hk with hk|hk;cases hk;exact hk.elim) λi j o o' _ hj k _ hk=>by
 match j,hj with
 |0,hj=>
  simp only[sj,dB]at hj;subst hj;rcases hk with hk|hk
  cases hk
  exact hk.elim
 |j+1,hj=>simp at hj⟩⟩
theorem Od(w:World):(dR 148 #[(0,av az 2),(1,av az 0)]).run aC w= .ok (aU #[av az 2,av az 0]) w:=by kernel_rfl
theorem sK(t n:Int)(bp:Option Addr)(cp:Nat)(l:List aV.Prod)(vb:Nat->Value)(w0 w:World)(B:b9)(k:Nat)(hk:k<=l.length)(ho:p_ w0 B)(hm:Mem B [] w)(zr:∀i,i<l.length->∃bb m cc,vb i=ap bb m cc)
 (hr:0<l.length->∃b off,bp=aj ⟨b,off,ak⟩/\∀i,i<l.length->Rd w0 b (off+i*2) [av az (dC l (i:Int)).1,vb i]):
 Calls aC 158 #[ee t n (ap bp l.length cp),av az (k:Int)] w (cY (yQ vb k l.length) w):=by
 have hb:=Od;have hr:∀i,i<l.length->∃b off,bp=aj ⟨b,off,ak⟩/\Rd w b (off+i*2) [av az (dC l (i:Int)).1,vb i]:=λi hi=>by
  obtain⟨b,off,q1,q2⟩:=hr J;exact⟨b,off,q1,λj u hj=>ho.cell hm (q2 i hi j u hj)⟩
 clear hm ho;refine enter (args:=[ee t n (ap bp l.length cp),av az (k:Int)]) (n:=18) Tryz.func158 I I I ?_;refine bC (aM (b_ I I I λg2=>?_));refine zL ?_
 by_cases c:k=l.length
 ·subst c
  repeat(first|refine GC ?_|refine gV (aB (v:=ap bp l.length cp) aL.ty I (aH (i:=0) I I)) ?_|refine gV (aX (b:=aD) I I (decide_eq_true I)) ?_|refine gV (bP I hb) ?_|refine GB ?_)
  refine im (cs:=#[av az 2,av az 0]) [aU #[av az 2,av az 0]] I I I (by intro v hv;simp at hv;subst hv;rfl) I I I λg11=>?_;refine zL ?_
  try refine GA ?_
  exact da I I λw hm=>hm.meets (S:=yQ vb l.length l.length) (aj g11) (by show aD=decide (l.length=l.length);rw[decide_eq_true I]) [1] ahk I
 ·obtain⟨b,off,rfl,fl⟩:=hr k J
  obtain⟨bb,m,cc,hv⟩:=zr k J;have d_:∀(L:List cU),At w L ⟨b,off+k*2+1,ak⟩ (vb k):=λL=>jb fl (j:=1) I;have hlt:k<l.length:=by omega
  repeat(first|refine GC ?_|refine gV (aB (v:=ap (aj ⟨b,off,ak⟩) l.length cp) aL.ty I (aH (i:=0) I I)) ?_|refine gV (aX (b:=aE) I I (decide_eq_false J)) ?_|refine gV (a_ (j:=k) bR.eq aL.ty I I hlt) ?_|refine gV (aB (v:=vb k) aL.ty I (d_ _)) ?_|refine GB ?_)
  refine acY ?_;exact da I I λw hm=>hm.meets (S:=yQ vb k l.length) ak (by show aE=decide (k=l.length);rw[decide_eq_false c]) [1] ahk I
end cZ
namespace cZ
open Go.RowKit dr eH
open Go.WideElems (Fit findIdx_arr findIdx_born modify_last)
open Go.ChangeMaps Go.MapKept Go.WideShapes
section
variable{P:Program}{k:TypeId}{κ:Type}(K:xz P k κ)
theorem Bc{α:Type}(f:α->α):∀(l:List α) (j:Nat) (a:α),l[j]?=aj a->f a=a->l.modify j f=l
 |[],_,_,h,_=>by simp at h
 |b::r,0,a,h,hf=>by simp at h;subst h;simp[hf]
 |b::r,j+1,a,h,hf=>by simp at h;simp[VU,Bc f r j a h hf]
theorem modify_eq{α:Type}(f f':α->α):∀(l:List α) (j:Nat) (a:α),l[j]?=aj a->f a=f' a->l.modify j f=l.modify j f'
 |[],_,_,h,_=>by simp at h
 |b::r,0,a,h,hf=>by simp at h;subst h;simp[hf]
 |b::r,j+1,a,h,hf=>by simp at h;simp[VU,modify_eq f f' r j a h hf]
def WI(g:Nat)(x:κ)(st:Nat)(z:Value)(f:κ->Value)(b:Nat):cU:=
 ⟨aj g,λ_=>False,λw=>(pq K g z f b).holds w/\∃es clock e0,w.heap[g]?=aj (.map es clock)/\e0∈es.toList/\e0.key=K.kv x/\e0.born=st,
  λw h q hq=>(pq K g z f b).lt w h.1 q hq,
  λw w' ⟨h1,es,clock,e0,h2,h3⟩ hs hk=>⟨(pq K g z f b).stay w w' h1 hs hk,es,clock,e0,(hk g (.inl I)).trans h2,h3⟩⟩
theorem DN{w:World}{g:Nat}{es:Array MapEntry}{c:Nat}(h:w.heap[g]?=aj (.map es c)):setBlock w g (.map es c)=w:=by
 have e:w.heap.setIfInBounds g (.map es c)=w.heap:=by
  apply Array.ext_getElem?;intro i
  by_cases hi:i=g
  subst hi;exact(heap_setBlock_same h _).trans h.symm;exact heap_setBlock_other h _ hi
 unfold setBlock;rw[e]
variable[DecidableEq κ]
theorem SK{w:World}{t e:TypeId}{g b:Nat}{f:κ->Value}{x:κ}{z:Value}(ht:P.underlying t=aj (.map k e))(hz:∀u:World,(zeroValue e).run P u= .ok z u)(h:(pq K g z f b).holds w)(hx:K.ok x)(hc:b<=1152921504606846976):
 ∃st w1,(NJ t (.map (aj g)) (K.kv x)).run P w= .ok (.tuple #[f x,goInt (st:Nat)]) w1/\w.grownBy w1 (aj g)/\(WI K g x st z f (b+1)).holds w1:=by
 have Bd:=F8 K (f:=f) ht hz h hx;obtain⟨l,DO⟩:=K.key x hx;obtain⟨m,n,h1,⟨D,⟨es,clock,hb,F,hs,hD⟩,hi⟩,h3⟩:=id h;rcases K.law.find w DO es.toList F.keys with⟨k1,k2⟩|⟨j,e0,k1,k2,k3⟩
 ·have hfx:f x=z:=by
   have:(H3 t (.map (aj g)) (K.kv x) aE).run P w= .ok z w:=by
    simp[H3,run_underlying ht,Ac hb,K.law.check w _ DO,k1,hz,l4]
   rw[Bd]at this
   simpa using this
  obtain⟨w',r1,r2,r3⟩:=Kh K (f':=f) (v:=z) ht h hx hc (λy _=>by by_cases e:y=x<;>simp[e,hfx]);have r1':(zM t (.map (aj g)) (K.kv x) z).run P w= .ok () (setBlock w g (.map (es.push ⟨K.kv x,z,clock⟩) (clock+1))):=by
   simp[zM,run_underlying ht,Ac hb,K.law.check w aE DO,k1,H4 _ hb,l4,setBlock]
  have ew:w'=setBlock w g (.map (es.push ⟨K.kv x,z,clock⟩) (clock+1)):=by
   rw[r1]at r1';simpa using r1'
  refine⟨clock,w',?_,r3,r2,es.push ⟨K.kv x,z,clock⟩,clock+1,⟨K.kv x,z,clock⟩,?_,by simp,rfl,rfl⟩
  ·rw[ew,hfx]
   simp[NJ,run_underlying ht,Ac hb,K.law.check w aE DO,k1,hz,H4 _ hb,l4,setBlock]
  rw[ew];exact heap_setBlock_same hb _
 ·have hj:es[j]?=aj e0:=by simpa using k2
  have hfx:f x=e0.val:=by
   have:(H3 t (.map (aj g)) (K.kv x) aE).run P w= .ok e0.val w:=by
    simp[H3,run_underlying ht,Ac hb,K.law.check w _ DO,k1,l4]
   rw[Bd]at this
   simpa using this
  have tf:es.modify j (λe=>{e with key:=K.kv x})=es:=by
   apply qJ;rw[NE];exact Bc _ _ _ _ k2 (by rw[<-k3])
  refine⟨e0.born,w,?_,⟨rfl,rfl,rfl,bJ _,λ_ _ _=>rfl⟩,R9 J (λ_ _=>rfl) w h,es,clock,e0,hb,mF k2,k3,rfl⟩;rw[hfx];have:=DN hb;simp[NJ,run_underlying ht,Ac hb,K.law.check w aE DO,k1,hj,k3,K.law.stays w DO,tf,H4 _ hb,l4];exact this
theorem SL{w:World}{t e:TypeId}{g b st:Nat}{f f':κ->Value}{x:κ}{z v:Value}(ht:P.underlying t=aj (.map k e))(h:(WI K g x st z f b).holds w)(hx:K.ok x)(hc:b<=1152921504606846976)(hf:∀y,K.ok y->f' y=if y=x then v else f y):
 ∃w',(NI t (.map (aj g)) (goInt (st:Nat)) v).run P w= .ok () w'/\(pq K g z f' (b+1)).holds w'/\w.grownBy w' (aj g):=by
 obtain⟨h,es',afY,e1,MH,ju,hk1,C_⟩:=h;obtain⟨w',r1,r2,r3⟩:=Kh K (f':=f') (v:=v) ht h hx hc hf;refine⟨w',?_,r2,r3⟩;rw[<-r1];obtain⟨l,DO⟩:=K.key x hx;obtain⟨m,n,h1,⟨D,⟨es,clock,hb,F,hs,hD⟩,hi⟩,h3⟩:=h;rw[hb]at MH;simp only[dB,Obj.map.injEq]at MH;obtain⟨rfl,rfl⟩:=MH;obtain⟨s1,s2,s3⟩:=F.stamped;rcases K.law.find w DO es.toList F.keys with⟨k1,k2⟩|⟨j,e0,k1,k2,k3⟩
 ·exact absurd hk1 (k2 e1 ju)
 ·have hj:es[j]?=aj e0:=by simpa using k2
  obtain⟨i,qN⟩:=List.getElem?_of_mem ju;have rp:i=j:=by
   have R6:=(dv.1 qN);have hj2:=(dv.1 k2);obtain⟨li,ei⟩:=R6;obtain⟨lj,ej⟩:=hj2;refine(List.getElem_inj (h₀:=by simpa using li) (h₁:=by simpa using lj) s3).1 ?_;simp only[sE,ei,ej,hk1,k3]
  subst rp;have e01:e1=e0:=by rw[qN]at k2;simpa using k2
  subst e01;subst C_;have acZ:es.findIdx? (λe=>((e.born:Nat):Int)==((e1.born:Nat):Int))=aj i:=by
   rw[findIdx_arr];exact findIdx_born s2 k2
  have acI:es.modify i (λe=>{e with val:=v})=es.modify i (λe'=>{e' with key:=K.kv x,val:=v}):=by
   apply qJ;rw[NE,NE];exact modify_eq _ _ _ _ _ k2 (by rw[<-k3])
  simp[NI,zM,run_underlying ht,Ac hb,asInt,asIntOf,goInt,acZ,acI,K.law.check w aE DO,k1,hj,k3,K.law.stays w DO,H4 _ hb,l4]
section
variable{W:b9}{fr:Fr}{L:List cU}{Q:Exit->Act->World->Prop}{ops:Array Oper}{rest:List Oper}{n d:Nat}{dst:Option Tmp}{ty:TypeId}{pos:String}{after:Array Edge}{guard:Option (Nat×Bool)}{i g b:Nat}{t e:TypeId}{f:κ->Value}{x:κ}{z:Value}{xm xk xv xs:Operand}
theorem KX(ht:P.underlying t=aj (.map k e))(hz:∀u:World,(zeroValue e).run P u= .ok z u)(hi:L[i]?=aj (pq K g z f b))(hm:ev fr xm=aj (.map (aj g)))(hk:ev fr xk=aj (K.kv x))(hx:K.ok x)(hc:b<=1152921504606846976)(hn:dM d n=aD)
 (h:∀st:Nat,TL P n W ops Q rest ((d,.tuple #[f x,av az (st:Int)])::fr) (L.set i (WI K g x st z f (b+1)))):
 TL P n W ops Q (⟨aj d,.mapEntry t xm xk,ty,pos,after,ak⟩::rest) fr L:=kU I λa w hr hw KK hK=>by
 obtain⟨st,w1,h1,h2,h3⟩:=SK K ht hz (hw.get hi) hx hc;have e1:(execOp a.eval ⟨aj d,.mapEntry t xm xk,ty,pos,after,ak⟩).run P w= .ok (.value (.tuple #[f x,av az (st:Int)])) w1:=by
  simp[execOp,hr.ev hm,hr.ev hk,h1,goInt,l4]
 unfold gG;rw[e1];exact hK _ _ ((h st).go _ _ (hr.put hn _) (hw.BG hi h2 h3 λq hq=> .inl hq))
theorem Gw{st:Nat}{v:Value}(f':κ->Value)(ht:P.underlying t=aj (.map k e))(hi:L[i]?=aj (WI K g x st z f b))(hm:ev fr xm=aj (.map (aj g)))(hs:ev fr xs=aj (av az (st:Int)))(hv:ev fr xv=aj v)(hx:K.ok x)(hc:b<=1152921504606846976)(hf:∀y,K.ok y->f' y=if y=x then v else f y)
 (h:TL P n W ops Q rest fr (L.set i (pq K g z f' (b+1)))):
 TL P n W ops Q (⟨ak,.entryStore t xm xs xv,ty,pos,after,ak⟩::rest) fr L:=kU I λa w hr hw KK hK=>by
 obtain⟨w1,h1,h2,h3⟩:=SL K ht (hw.get hi) hx hc hf;have e1:(execOp a.eval ⟨ak,.entryStore t xm xs xv,ty,pos,after,ak⟩).run P w= .ok .skip w1:=by
  have h1':(NI t (.map (aj g)) (av az (st:Int)) v).run P w= .ok () w1:=h1;simp[execOp,hr.ev hm,hr.ev hs,hr.ev hv,h1',l4]
 unfold gG;rw[e1];exact hK _ _ (h.go _ _ (hr.tY undef) (hw.BG hi h3 h2 λq hq=> .inl hq))
omit [DecidableEq κ]in
theorem WJ{st:Nat}{v:Value}(ht:P.underlying t=aj (.map k e))(hz:∀w,(zeroValue e).run P w= .ok z w)(hi:L[i]?=aj (WI K g x st z f b))(hm:ev fr xm=aj (.map (aj g)))(hk:ev fr xk=aj (K.kv x))(hx:K.ok x)(hv:f x=v):RR P n W ⟨dst,.lookup t xm xk aE,ty,pos,after,guard⟩ fr L v:=
 Kg K ht hz (λ_ hw=>(hw.get hi).1) hm hk hx hv
end
end
end cZ
namespace cZ
open Go.RowKit dr eH aV ey eg bV
abbrev RK:=Int×Int
def rkV(x:RK):Value:=aU #[av az x.1,av az x.2]
set_option maxRecDepth 100000 in
theorem ac0(p:RK)(h:dr.eD p.1/\dr.eD p.2):∃l,keyOf aC 340 (rkV p)=aj l:=by
 have e1:aC.cellsOf 340=2:=by kernel_rfl
 have e3:aC.cellsOf 3=1:=by kernel_rfl
 refine HY (cs:=[av az p.1,av az p.2]) (m:=2) (by kernel_rfl) (by kernel_rfl) (by rw[e1];rfl) (Cb 2 (by kernel_rfl)) λd=>?_;refine Aa (d:=d+1) Tryz.underlying340 (by rw[e1];rfl) (by kernel_rfl) λf hf=>?_;simp only[ez,iD,or_false]at hf;rcases hf with rfl|rfl
 ·rw[e3]
  exact uv Tryz.underlying3 h.1.1 h.1.2
 rw[e3];exact uv Tryz.underlying3 h.2.1 h.2.2
theorem aex:(340:TypeId)<aC.types.size:=of_decide_eq_true (by kernel_rfl)
set_option maxRecDepth 100000 in
def jo:xz aC 340 RK where
 kv:=rkV
 ok p:=dr.eD p.1/\dr.eD p.2
 law:=deep_law_laid Ca (m:=2) J aex (by kernel_rfl) (by kernel_rfl)
 key x h:=ac0 x h
 inj x y h:=by
  simp only[rkV,k7,pv,ib,Ad,true_and,and_true]at h;exact od h.1 h.2
set_option maxRecDepth 100000 in
theorem ac1(p:bV.Item)(h:dr.eD p.1/\dr.eD p.2.1/\dr.eD p.2.2):∃l,keyOf aC 278 (aU (jk p).toArray)=aj l:=by
 have e1:aC.cellsOf 278=3:=by kernel_rfl
 have e3:aC.cellsOf 3=1:=by kernel_rfl
 refine HY (cs:=jk p) (m:=2) (by kernel_rfl) (by kernel_rfl) (by rw[e1];rfl) (Cb 2 (by kernel_rfl)) λd=>?_;refine Aa (d:=d+1) Tryz.underlying278 (by rw[e1];rfl) (by kernel_rfl) λf hf=>?_;simp only[ez,iD,or_false]at hf;rcases hf with rfl|rfl|rfl
 ·rw[e3]
  exact uv Tryz.underlying3 h.1.1 h.1.2
 ·rw[e3]
  exact uv Tryz.underlying3 h.2.1.1 h.2.1.2
 rw[e3];exact uv Tryz.underlying3 h.2.2.1 h.2.2.2
theorem aey:(278:TypeId)<aC.types.size:=of_decide_eq_true (by kernel_rfl)
set_option maxRecDepth 100000 in
def Io:xz aC 278 bV.Item where
 kv x:=aU (jk x).toArray
 ok p:=dr.eD p.1/\dr.eD p.2.1/\dr.eD p.2.2
 law:=deep_law_laid Ca (m:=2) J aey (by kernel_rfl) (by kernel_rfl)
 key x h:=ac1 x h
 inj x y h:=by
  simp only[jk,k7,pv,ib,Ad,true_and,and_true]at h;exact od h.1 (od h.2.1 h.2.2)
theorem Qx{a b:Nat}(ha:a<=9223372036854775807)(hb:b<=9223372036854775807):jo.ok ((a:Int),(b:Int)):=by
 show dr.eD (a:Int)/\dr.eD (b:Int)
 exact⟨⟨by omega,by omega⟩,⟨by omega,by omega⟩⟩
theorem KY(w:World):(zeroValue 114).run aC w= .ok (.int .u64 0) w:=by kernel_rfl
theorem nX(w:World):(zeroValue 3).run aC w= .ok (av az 0) w:=by kernel_rfl
theorem DP{x:Nat}(hx:x<18446744073709551616)(h:x.testBit 62=aD):bits .andNot .u64 (x:Int) 4611686018427387904=((x^^^2^62:Nat):Int):=by
 have e0:(4611686018427387904:Int)=((2^62:Nat):Int):=by decide
 rw[e0];show xi.wrap ((H2 64 (x:Int)&&& ~~~ H2 64 ((2^62:Nat):Int)).toNat:Int)=_
 have hlt:x^^^2^62<2^64:=NO hx ahk;have e:H2 64 (x:Int)&&& ~~~ H2 64 ((2^62:Nat):Int)=BitVec.ofNat 64 (x^^^2^62):=by
  rw[VO,VO]
  ext i hi
  simp only[BitVec.getElem_and,BitVec.getElem_not];rw[<-NG,<-NG,<-NG,NH,NH,NH];simp only[hi,decide_true,Bool.true_and,Nat.testBit_xor,Nat.testBit_two_pow]
  by_cases e:62=i
  subst e;rw[h];decide;rw[decide_eq_false e];simp
 rw[e,BitVec.toNat_ofNat,Nat.mod_eq_of_lt hlt,tO];omega
theorem WK{P:Program}(x j b:Nat)(k k':IntKind)(hb:k.bits=b)(hj:j<=b)(w:World):(jd .shr k (x:Int) k' (j:Int)).run P w= .ok (.int k ((x/2^j:Nat):Int)) w:=by
 have e:min j b=j:=by omega
 have h0:¬((j:Int)<0):=by omega
 have e2:(x:Int).fdiv (2^j)=((x/2^j:Nat):Int):=by
  rw[Int.fdiv_eq_ediv_of_nonneg _ (by have:(0:Int)<2^j:=Int.pow_pos ahk;omega)];simp
 simp only[jd,if_neg h0,hb,dP,e,e2,mB]
theorem ac2{y:Nat}(hy:y<18446744073709551616):bits .and .u64 (y:Int) 1=((y %2:Nat):Int):=by
 have h:=bits_nat .u64 64 ahk (λn h0 h1=>by rw[tO];omega) y 1 (by simpa using hy) ahk;rw[Nat.and_one_is_mod]at h;exact h.1
theorem yR(x k:Nat):x.testBit k=decide (x/2^k %2=1):=Nat.testBit_eq_decide_div_mod_eq ..
def kr(g:eL)(p d:Int):Nat:=BN g ((fZ g.aF p).drop (d.toNat+1)) 4611686018427387904
theorem Qy{g:eL}{body:List dV}{behind:Nat}(hb:behind<18446744073709551616):BN g body behind<18446744073709551616:=by
 unfold BN
 by_cases c:uL g body=0
 ·rw[if_pos c]
  have hg:cL g=0:=by
   unfold uL at c
   by_cases c2:cL g=0
   exact c2;rw[if_pos c2]at c;exact c
  have h60:¬60<body.length:=λh=>by
   unfold uL at c;rw[if_neg (by simpa using hg),if_pos h]at c;cases c
  have nU:Fg g.aT g.bM body=0:=by
   unfold uL at c;rw[if_neg (by simpa using hg),if_neg h60]at c;exact c
  have hn:=(de hg).2.2.1;have ht:=(de hg).2.1;refine oW (Ij hg (n:=g.bM.toNat) J).2 hb λx hx h1=>?_;rcases uM (Ih nU x hx)with h|h
  omega;omega
 rw[if_neg c];decide
def Be(t n:Int)(vp:Value)(gm:Nat):List Value:=[av az t,av az n,vp,.map (aj gm)]
def j_(lk:Int->Int->Nat)(f:RK->Option Value):Prop:=∀x v,f x=aj v->v=ik (lk x.1 x.2)
theorem Oe(a b:Int)(w:World):(dR 340 #[(0,av az a),(1,av az b)]).run aC w= .ok (aU #[av az a,av az b]) w:=by go_simp
theorem j_.put{lk:Int->Int->Nat}{f:RK->Option Value}(h:j_ lk f)(x:RK):j_ lk (λy=>if y=x then aj (ik (lk x.1 x.2))else f y):=by
 intro y v hv;dsimp only at hv
 by_cases c:y=x
 ·rw[if_pos c]at hv
  cases hv;rw[c]
 rw[if_neg c]at hv;exact h y v hv
theorem DQ(a:dV):(eX a).length=2:=rfl
theorem Ip{t n:Int}{vp v:Value}{gm j:Nat}(h:[av az t,av az n,vp][j]?=aj v):(Be t n vp gm).toArray[0+j]?=aj v:=by
 rw[du]
 match j,h with
 |0,h=>exact h
 |1,h=>exact h
 |2,h=>exact h
theorem yS{l:List aV.Prod}{w0:World}{W:b9}{L:List cU}{vb:Nat->Value}{k i:Nat}{x:Option Nat}(ho:p_ w0 W)(hv:SJ (λq=>q<w0.heap.size) w0 vb l)(hk:k<=l.length)(hx:x.isSome=decide (k=l.length))(hi:L[i]?=aj (As x)):∃b c,Z4 vb k x=ap b (fZ l (k:Int)).length c/\(fZ l (k:Int)).length<=c/\Y8 W L (Z4 vb k x) (fZ l (k:Int)).length ((fZ l (k:Int)).flatMap eX):=by
 cases x with
 |some g=>
  have hk:k=l.length:=by simpa using hx
  subst hk;have e:fZ l (l.length:Int)=[(2,0)]:=by unfold fZ;rw[if_pos I]
  rw[e];exact⟨_,_,rfl,bJ _,lE hi (λj u h=>by simpa[eX]using h) (bJ _) ahk⟩
 | none=>
  have mZ:k<l.length:=by
   have:¬k=l.length:=by simpa using hx
   omega
  have e:fZ l (k:Int)=(dC l (k:Int)).2:=by unfold fZ;rw[if_neg J]
  rw[e];have h:=hv k mZ;have hs:=h.flat (f:=eX) ahk;obtain⟨b,c,e2,e3,_⟩:=id h;exact⟨b,c,e2,e3,λw hm=>hs.gr (ho.mem hm)⟩
attribute [local irreducible] Op.shift Go.bits in
theorem KZ(g:eL)(hg:cL g=0)(bp:Option Addr)(cp:Nat)(vb:Nat->Value)(w0:World)(hG:kz (λq=>q<w0.heap.size) w0 (ee g.aT g.bM (ap bp g.aF.length cp)) g)(zr:SJ (λq=>q<w0.heap.size) w0 vb g.aF)(oC:0<g.aF.length->∃b off,bp=aj ⟨b,off,ak⟩/\∀i,i<g.aF.length->Rd w0 b (off+i*2) [av az (dC g.aF (i:Int)).1,vb i])
 (go gm c:Nat) (f:RK->Option Value) (it:bV.Item) (T:Nat) (hT:T<=30) (hr:eU g.aF T it) (hd:it.2.1.toNat<(fZ g.aF it.1).length) (hc:j_ (kr g) f) (hcc:c<=1000000000000000) (w:World) (B:b9) (ho:p_ w0 B)
 (hm:Mem B [aR go (Be g.aT g.bM (ap bp g.aF.length cp) gm).toArray 314,fD jo gm f c] w):
 Calls aC 159 #[aK (aj ⟨go,0,ak⟩),aU (jk it).toArray] w (dF ⟨λ(x:(RK->Option Value)×Nat)=>j_ (kr g) x.1/\x.2<=c+1,λ_=>ik (uP (kr g) it),λx=>[aR go (Be g.aT g.bM (ap bp g.aF.length cp) gm).toArray 314,fD jo gm x.1 x.2]⟩ B):=by
 obtain⟨p,d,lo⟩:=it;obtain⟨r1,r2,r3,r4,r5,r6⟩:=hr;dsimp only at r1 r2 r3 r4 r5 r6 hd;obtain⟨k,rfl⟩:=jg r1;obtain⟨dn,rfl⟩:=jg r3;obtain⟨ln,rfl⟩:=jg r5;rw[dP]at hd;have hk:k<=g.aF.length:=by omega
 have Gx:=λw' (rB:Mem B [] w')=>sK g.aT g.bM bp cp g.aF vb w0 w' B k hk ho rB (λi hi=>let ⟨b,c,h,_⟩:=zr i hi;⟨b,_,c,h⟩) oC;have BH:=λvs body w' (rB:Gr w0 w') hs=>rJ _ vs g body 4611686018427387904 w' (hG.gr rB) hs ahk;have hbr:=Oe (k:Int) (dn:Int);have hlt:kr g (k:Int) (dn:Int)<18446744073709551616:=Qy ahk;have hb8:=mQ (l:=g.aF) (p:=(k:Int)) (λq hq=>((de hg).2.2.2.2.2 q hq).1);refine dZ hm (args:=[aK (aj ⟨go,0,ak⟩),aU (jk ((k:Int),(dn:Int),(ln:Int))).toArray]) (n:=61) Tryz.func159 I I I ?_;refine bC (aM (b_ I I I λg3=>?_));refine zL ?_
 repeat(first|refine GA ?_|refine gV (aB (v:=av az (k:Int)) aL.ty I (aH (i:=2) I I)) ?_|refine gV (aB (v:=av az (dn:Int)) aL.ty I (aH (i:=2) I I)) ?_|refine gV (bP I hbr) ?_)
 refine bz I λg5=>?_;refine zL ?_;refine il 3 (cs':=#[av az (k:Int),av az (dn:Int)]) ?_;refine zL ?_;have R_:jo.ok ((k:Int),(dn:Int)):=Qx (by have:=(de hg).2.2.2.2.1;omega) J;have R_:jo.ok ((k:Int),(dn:Int)):=Qx (by have:=(de hg).2.2.2.2.1;omega) J;have R_:jo.ok ((k:Int),(dn:Int)):=Qx (by have:=(de hg).2.2.2.2.1;omega) J;have R_:jo.ok ((k:Int),(dn:Int)):=Qx (by have:=(de hg).2.2.2.2.1;omega) J;have H':=hc.put ((k:Int),(dn:Int));have JS:kr g (k:Int) (dn:Int)=BN g ((fZ g.aF (k:Int)).drop (dn+1)) 4611686018427387904:=by unfold kr;rw[dP]
 have oQ:=hc ((k:Int),(dn:Int));dsimp only at H' oQ;unfold uP;dsimp only;rw[dP];generalize hB0:kr g (k:Int) (dn:Int)=B0 at*
 try refine GA ?_
 cases hf:f ((k:Int),(dn:Int))with
 | some v=>
  have hv:=oQ v hf;subst hv;clear Gx BH H' oQ;refine eo ([aR go (Be g.aT g.bM (ap bp g.aF.length cp) gm).toArray 314,fD jo gm f c,aR g3 (aU (jk ((k:Int),(dn:Int),(ln:Int))).toArray).cells 278,aR g5 #[av az (k:Int),av az (dn:Int)] 340]) (.calm 0 (.calm 1 (.calm 2 (.calm 3 (.calm 4 (.calm 5 (.calm 6 (.calm 7 (.calm 8 (.calm 9 (.calm 10 (.done)))))))))))) (λ_ h=>h) ?_
  repeat(first|refine GW ?_|(refine GN ?_;first|refine QW (aB (v:= .map (aj gm)) aL.ty I (aH (i:=0) I I)) ?_|refine QW (aQ (i:=3) aL.ty I I I) ?_|refine QW (oT (x:=((k:Int),(dn:Int))) jo bR.eq KY (i:=1) I I I R_) ?_))
  rw[hf];dsimp only[V3,NP]
  try refine GA ?_
  have hdv:B0/2^62<=B0:=V2 _ _;have ha1:=ac2 (y:=B0/2^62) J;have C_:∀w,(jd .shr .u64 (B0:Int) .u64 62).run aC w= .ok (.int .u64 ((B0/2^62:Nat):Int)) w:=λw=>WK B0 62 64 .u64 .u64 I ahk w;have rj:∀w,(jd .shl .u64 1 .i64 (ln:Int)).run aC w= .ok (.int .u64 ((2^ln:Nat):Int)) w:=λw=>ZW ln J w
  by_cases cb:B0.testBit 62=aD
  ·rw[if_pos cb]
   have hn:=DP hlt cb;have gh:B0^^^2^62<18446744073709551616:=NO (n:=64) hlt ahk;have JR:=rF gh (yL (m:=ln) J);have K0:B0/2^62 %2=1:=by rw[yR]at cb;exact of_decide_eq_true cb
   generalize B0/2^62=D1 at*;generalize B0^^^2^62=D2 at*;generalize 2^ln=D3 at*
   repeat(first|refine GC ?_|refine gV (pe I I C_) ?_|refine gV (nt I I ha1) ?_|refine gV (aX (b:=aE) I I (decide_eq_false J)) ?_|refine gV (Qs I I hn) ?_|refine gV (aB (v:=av az (ln:Int)) aL.ty I (aH (i:=2) I I)) ?_|refine gV (CP I I rj) ?_|refine gV (yo I I JR) ?_|refine GB ?_)
   exact da I I λw hm=>hm.cX (S:=⟨λ(x:(RK->Option Value)×Nat)=>j_ (kr g) x.1/\x.2<=c+1,λ_=>ik (D2|||D3),λx=>[aR go (Be g.aT g.bM (ap bp g.aF.length cp) gm).toArray 314,fD jo gm x.1 x.2]⟩) (f,c) ⟨hc,by omega⟩ [0,1] ahk I
  rw[if_neg cb];have FV:B0/2^62 %2=0:=by
   rw[yR,decide_eq_true_eq]at cb;omega
  generalize B0/2^62=D1 at*
  repeat(first|refine GC ?_|refine gV (pe I I C_) ?_|refine gV (nt I I ha1) ?_|refine gV (aX (b:=aD) I I (decide_eq_true J)) ?_|refine GB ?_)
  exact da I I λw hm=>hm.cX (S:=⟨λ(x:(RK->Option Value)×Nat)=>j_ (kr g) x.1/\x.2<=c+1,λ_=>ik B0,λx=>[aR go (Be g.aT g.bM (ap bp g.aF.length cp) gm).toArray 314,fD jo gm x.1 x.2]⟩) (f,c) ⟨hc,by omega⟩ [0,1] ahk I
 | none=>
  clear oQ;refine eo ([aR go (Be g.aT g.bM (ap bp g.aF.length cp) gm).toArray 314,fD jo gm f c,aR g3 (aU (jk ((k:Int),(dn:Int),(ln:Int))).toArray).cells 278,aR g5 #[av az (k:Int),av az (dn:Int)] 340]) (.calm 0 (.calm 1 (.calm 2 (.calm 3 (.calm 4 (.calm 5 (.calm 6 (.calm 7 (.calm 8 (.calm 9 (.calm 10 (.done)))))))))))) (λ_ h=>h) ?_
  repeat(first|refine GW ?_|(refine GN ?_;first|refine QW (aB (v:= .map (aj gm)) aL.ty I (aH (i:=0) I I)) ?_|refine QW (aQ (i:=3) aL.ty I I I) ?_|refine QW (oT (x:=((k:Int),(dn:Int))) jo bR.eq KY (i:=1) I I I R_) ?_))
  rw[hf];dsimp only[V3,NP]
  try refine GA ?_
  refine eo ([aR go (Be g.aT g.bM (ap bp g.aF.length cp) gm).toArray 314,aR g3 (aU (jk ((k:Int),(dn:Int),(ln:Int))).toArray).cells 278]) (.calm 0 (.calm 1 (.calm 2 (.calm 3 (.calm 4 (.calm 5 (.calm 6 (.calm 7 (.calm 8 (.calm 9 (.calm 11 (.calm 12 (.calm 13 (.one 10 (.calm 14 (.one 15 (.calm 16 (.calm 17 (.calm 18 (.calm 19 (.done))))))))))))))))))))) (cH [0,2]) ?_
  repeat(first|(refine GN ?_;first|refine QW QP ?_|refine QW (bH aL.ty I (cs:=[av az g.aT,av az g.bM,ap bp g.aF.length cp]) I (λj v h=>aH (i:=0) I (Ip h))) ?_|refine QW (aB (v:=av az (k:Int)) aL.ty I (aH (i:=1) I I)) ?_|refine QW (aB (v:=av az (dn:Int)) aL.ty I (aH (i:=1) I I)) ?_|refine QW (bL (r:=((dn+1:Nat):Int)) I I J J J) ?_|refine GX ?_)|refine GW ?_)
  refine aO I ?_;refine a8 (gK aJ.en I I I) (λw hm=>Gx _ (hm.pick [] ahk I)) I I I ?_;rintro x hx
  conv=>arg 8;simp only[zJ,dg,ret,id_eq,yQ]
  conv=>arg 7;simp only[yQ]
  obtain⟨bb,cc,hv,hlc,rj⟩:=yS (W:=B) (i:=4) (L:=[aR go (Be g.aT g.bM (ap bp g.aF.length cp) gm).toArray 314,fD jo gm f c,aR g3 (aU (jk ((k:Int),(dn:Int),(ln:Int))).toArray).cells 278,aR g5 #[av az (k:Int),av az (dn:Int)] 340,As x]) ho zr hk hx rfl;rw[hv]at rj⊢;have rl:((fZ g.aF (k:Int)).drop (dn+1)).take ((fZ g.aF (k:Int)).length-(dn+1))=(fZ g.aF (k:Int)).drop (dn+1):=gj (by rw[iv];exact bJ _);have lP:=λw hm=>CZ (i:=dn+1) (j:=(fZ g.aF (k:Int)).length) DQ (rj w hm) J (bJ _);rw[rl]at lP;generalize Sw:(fZ g.aF (k:Int)).length=m at*;refine aP (cH [0,2]) ?_
  repeat(first|(refine GN ?_;first|refine QW QP ?_|refine QW (oR (i:=dn+1) bR.eq aL.ty I I J hlc) ?_|refine GX ?_)|refine GW ?_)
  refine aO I ?_;refine a8 (tH aJ.en I I I I) (λw hm=>BH _ _ _ (ho.mem hm) (lP w hm)) I I I ?_;intro _ _;refine zL ?_;rw[<-JS];refine aP (cH [0,2]) ?_
  try refine GW ?_
  try refine GA ?_
  refine eo ([aR go (Be g.aT g.bM (ap bp g.aF.length cp) gm).toArray 314,aR g5 #[av az (k:Int),av az (dn:Int)] 340]) (.calm 0 (.calm 1 (.calm 2 (.calm 3 (.calm 4 (.calm 5 (.one 6 (.done)))))))) (cH [0,3]) ?_
  repeat(first|refine GW ?_|(refine GN ?_;first|refine QW (aB (v:= .map (aj gm)) aL.ty I (aH (i:=0) I I)) ?_|refine QW (aQ (i:=1) aL.ty I I I) ?_))
  refine aO I ?_;refine ml (i:=1) (x:=((k:Int),(dn:Int))) (v:=ik B0) jo bR.eq I I I I R_ J ?_;refine zL ?_;rw[hf];dsimp only[NP];refine aP (cH [0,3]) ?_
  try refine GW ?_
  try refine GA ?_
  have hdv:B0/2^62<=B0:=V2 _ _;have ha1:=ac2 (y:=B0/2^62) J;have C_:∀w,(jd .shr .u64 (B0:Int) .u64 62).run aC w= .ok (.int .u64 ((B0/2^62:Nat):Int)) w:=λw=>WK B0 62 64 .u64 .u64 I ahk w;have rj:∀w,(jd .shl .u64 1 .i64 (ln:Int)).run aC w= .ok (.int .u64 ((2^ln:Nat):Int)) w:=λw=>ZW ln J w
  by_cases cb:B0.testBit 62=aD
  ·rw[if_pos cb]
   have hn:=DP hlt cb;have gh:B0^^^2^62<18446744073709551616:=NO (n:=64) hlt ahk;have JR:=rF gh (yL (m:=ln) J);have K0:B0/2^62 %2=1:=by rw[yR]at cb;exact of_decide_eq_true cb
   generalize B0/2^62=D1 at*;generalize B0^^^2^62=D2 at*;generalize 2^ln=D3 at*
   repeat(first|refine GC ?_|refine gV (pe I I C_) ?_|refine gV (nt I I ha1) ?_|refine gV (aX (b:=aE) I I (decide_eq_false J)) ?_|refine gV (Qs I I hn) ?_|refine gV (aB (v:=av az (ln:Int)) aL.ty I (aH (i:=2) I I)) ?_|refine gV (CP I I rj) ?_|refine gV (yo I I JR) ?_|refine GB ?_)
   exact da I I λw hm=>hm.cX (S:=⟨λ(x:(RK->Option Value)×Nat)=>j_ (kr g) x.1/\x.2<=c+1,λ_=>ik (D2|||D3),λx=>[aR go (Be g.aT g.bM (ap bp g.aF.length cp) gm).toArray 314,fD jo gm x.1 x.2]⟩) (_,c+1) ⟨H',bJ _⟩ [0,1] ahk I
  rw[if_neg cb];have FV:B0/2^62 %2=0:=by
   rw[yR,decide_eq_true_eq]at cb;omega
  generalize B0/2^62=D1 at*
  repeat(first|refine GC ?_|refine gV (pe I I C_) ?_|refine gV (nt I I ha1) ?_|refine gV (aX (b:=aD) I I (decide_eq_true J)) ?_|refine GB ?_)
  exact da I I λw hm=>hm.cX (S:=⟨λ(x:(RK->Option Value)×Nat)=>j_ (kr g) x.1/\x.2<=c+1,λ_=>ik B0,λx=>[aR go (Be g.aT g.bM (ap bp g.aF.length cp) gm).toArray 314,fD jo gm x.1 x.2]⟩) (_,c+1) ⟨H',bJ _⟩ [0,1] ahk I
end cZ
namespace cZ
open Go.RowKit dr eH bV Go.Lib Go.Sort
theorem Z5(x:Int)(w:World):Calls aC 207 #[av az x] w λe w'=>e= .returned (.bool aE)/\w'=w:=by
 go_enter Tryz.func207,Tryz.ntmps207
 go_wp2
 go_ret
 exact⟨by simp,rfl⟩
theorem SM(x y:Int)(w:World):Calls aC 179 #[av az x,av az y] w λe w'=>e= .returned (av az (uN x y))/\w'=w:=by
 go_enter Tryz.func179,Tryz.ntmps179
 go_wp2_with (go_at_call 207;refine(Z5 _ _).mono ?_;rintro e w' ⟨rfl,hw⟩;rw[hw])
 all_goals (go_ret;refine⟨?_,rfl⟩;unfold uN;(repeat' split)<;>first|rfl|(exfalso;omega))
def orI(a b c:Int):Int:=if a≠0 then a else if b≠0 then b else c
theorem aez{a b c:Int}(h:¬a=0):orI a b c=a:=if_pos h
theorem aeA{b c:Int}(h:¬b=0):orI 0 b c=b:=by unfold orI;rw[if_neg (by simp),if_pos h]
theorem abT{c:Int}:orI 0 0 c=c:=by unfold orI;rw[if_neg (by simp),if_neg (by simp)]
theorem afZ(g:Nat)(a b c:Int)(w:World)(h0:w.cell? ⟨g,0,ak⟩=aj (av az a))(h1:w.cell? ⟨g,1,ak⟩=aj (av az b))(h2:w.cell? ⟨g,2,ak⟩=aj (av az c)):
 Calls aC 178 #[ap (aj ⟨g,0,ak⟩) 3 3] w λe w'=>e= .returned (av az (orI a b c))/\w'=w:=by
 go_enter Tryz.func178,Tryz.ntmps178
 go_wp2
 by_cases ha:a=0
 ·subst ha
  refine wp_loop_rounds 4 ?_;rw[rounds_succ]
  go_wp2
  by_cases hb:b=0
  ·subst hb
   rw[rounds_succ]
   go_wp2
   by_cases hc:c=0
   ·subst hc
    rw[rounds_succ]
    go_wp2
    rw[rounds_succ]
    go_wp2
    go_ret
    exact⟨by rw[abT];rfl,rfl⟩
   rw[rounds_succ]
   go_wp2
   go_ret
   exact⟨by rw[abT];rfl,rfl⟩
  rw[rounds_succ]
  go_wp2
  go_ret
  exact⟨by rw[aeA hb];rfl,rfl⟩
 ·refine wp_loop_rounds 1 ?_
  rw[rounds_succ]
  go_wp2
  go_ret
  exact⟨by rw[aez ha];rfl,rfl⟩
theorem aeB(o1 o2:Obj)(a b c:Int)(T:TypeId)(w:World):
 Calls aC 178 #[ap (aj ⟨w.heap.size+1+1,0,ak⟩) 3 3] (((w.alloc o1).alloc o2).alloc (.cells #[av az a,av az b,av az c] T)).drew λe w'=>e= .returned (av az (orI a b c))/\w'=(((w.alloc o1).alloc o2).alloc (.cells #[av az a,av az b,av az c] T)).drew:=by
 have hg:(((w.alloc o1).alloc o2).alloc (.cells #[av az a,av az b,av az c] T)).drew.heap[w.heap.size+1+1]?=aj (.cells #[av az a,av az b,av az c] T (0,0)):=by
  have h:=heap_alloc_new ((w.alloc o1).alloc o2) (.cells #[av az a,av az b,av az c] T);have e:((w.alloc o1).alloc o2).heap.size=w.heap.size+1+1:=by
   show((w.heap.push o1).push o2).size=_
   rw[NF,NF]
  rw[e]at h;exact h
 exact afZ _ a b c _ (cell_of_row _ _ 0 _ T (0,0) hg) (cell_of_row _ _ 1 _ T (0,0) hg) (cell_of_row _ _ 2 _ T (0,0) hg)
end cZ
namespace cZ
open Go.RowKit dr eH bV Go.Lib Go.Sort
theorem WL(a b:Obj)(w:World):((w.alloc a).alloc b).heap[w.heap.size]?=aj a/\((w.alloc a).alloc b).heap[w.heap.size+1]?=aj b:=by
 have e:(w.alloc a).heap.size=w.heap.size+1:=by
  show(w.heap.push a).size=_
  rw[NF]
 constructor
 ·rw[heap_alloc_old (w.alloc a) b J]
  exact heap_alloc_new w a
 have h:=heap_alloc_new (w.alloc a) b;rw[e]at h;exact h
theorem Og(a b c:Obj)(w:World):(((w.alloc a).alloc b).alloc c).drew=grow (w.drewN 1) #[a,b,c]:=by
 rw[alloc_eq_grow,alloc_eq_grow,alloc_eq_grow,grow_grow,grow_grow];rfl
theorem Z6(x y:bV.Item)(w:World):Calls aC 161 #[aU (jk x).toArray,aU (jk y).toArray] w λe w'=>e= .returned (av az (KP x y))/\∃q os',w'=grow (w.drewN q) os':=by
 obtain⟨x1,x2,x3⟩:=x;obtain⟨y1,y2,y3⟩:=y;have ho:KP (x1,x2,x3) (y1,y2,y3)=orI (uN x1 y1) (uN x2 y2) (uN x3 y3):=rfl;rw[ho];clear ho;unfold jk;dsimp only;obtain⟨t1,t2⟩:=WL (.cells #[av az x1,av az x2,av az x3] 278) (.cells #[av az y1,av az y2,av az y3] 278) w;have k1:=cell_of_row _ _ 0 _ _ (0,0) t1;have k2:=cell_of_row _ _ 1 _ _ (0,0) t1;have k3:=cell_of_row _ _ 2 _ _ (0,0) t1;have k4:=cell_of_row _ _ 0 _ _ (0,0) t2;have k5:=cell_of_row _ _ 1 _ _ (0,0) t2;have k6:=cell_of_row _ _ 2 _ _ (0,0) t2;clear t1 t2
 go_enter Tryz.func161,Tryz.ntmps161
 go_wp2
 go_region_held (λw'=>w'.cell? ⟨w.heap.size,0,ak⟩=aj (av az x1)/\w'.cell? ⟨w.heap.size,1,ak⟩=aj (av az x2)/\w'.cell? ⟨w.heap.size,2,ak⟩=aj (av az x3)/\w'.cell? ⟨w.heap.size+1,0,ak⟩=aj (av az y1)/\w'.cell? ⟨w.heap.size+1,1,ak⟩=aj (av az y2)/\w'.cell? ⟨w.heap.size+1,2,ak⟩=aj (av az y3)) (go_keep) (first|(go_at_call 179;refine(SM _ _ _).mono ?_;rintro e w' ⟨rfl,rfl⟩)|(go_at_call 178;have hzz:=(aeB (.cells #[av az x1,av az x2,av az x3] 278) (.cells #[av az y1,av az y2,av az y3] 278) (uN x1 y1) (uN x2 y2) (uN x3 y3) 3 w);refine hzz.mono ?_;clear hzz;rintro e w' ⟨rfl,rfl⟩))
 go_wp2
 go_ret
 refine⟨rfl,1,#[.cells #[av az x1,av az x2,av az x3] 278,.cells #[av az y1,av az y2,av az y3] 278,.cells #[av az (uN x1 y1),av az (uN x2 y2),av az (uN x3 y3)] 3],?_⟩;exact Og _ _ _ w
end cZ
namespace cZ
open Go.RowKit dr eH aV ey eg bV
theorem Oh(t n:Int)(vp:Value)(gm:Nat)(w:World):(dR 314 #[(0,ee t n vp),(1,.map (aj gm))]).run aC w= .ok (aU (Be t n vp gm).toArray) w:=by kernel_rfl
def Z7(t n:Int)(vp:Value):Spec (Nat×Nat):=⟨λ_=>True,λx=>aK (aj ⟨x.1,0,ak⟩),λx=>[fD jo x.2 (λ_=>ak) 0,aR x.1 (Be t n vp x.2).toArray 314]⟩
theorem Iq(t n:Int)(vp:Value)(w:World):Calls aC 126 #[ee t n vp] w (cY (Z7 t n vp) w):=by
 have hb:=Oh t n vp;refine enter (args:=[ee t n vp]) (n:=7) Tryz.func126 I I I ?_;refine bC (aM (b_ I I I λg1=>?_));refine zL ?_
 repeat(first|refine GA ?_|refine gV (aQ (i:=0) aL.ty I I I) ?_)
 refine xA jo I λgm=>?_;refine zL ?_
 repeat(first|refine GA ?_|refine gV (bP I (hb _)) ?_)
 refine b_ I I I λgo=>?_;refine zL ?_
 try refine GA ?_
 exact da I I λw hm=>hm.meets (S:=Z7 t n vp) (go,gm) trivial [1,2] ahk I
end cZ
namespace cZ
open Go.RowKit dr eH aV ey eg bV
theorem Ir{x:Int}(h0:0<=x)(h1:x<256):IntKind.u8.wrap x=(((gv x.toNat).toNat:Nat):Int):=by
 obtain⟨n,rfl⟩:=jg h0;rw[dP,IntKind.wrap_u8];simp
theorem Gy(l:List bV.Item):(iK l).length=3*l.length:=by
 induction l with
 |nil=>rfl
 |cons x r ih=>
  have:iK (x::r)=[gv x.1.toNat,gv x.2.1.toNat,gv x.2.2.toNat]++iK r:=rfl;rw[this,bT,ih,dE];show 3+3*r.length=3*(r.length+1)
  omega
theorem Oi{l:List bV.Item}{k:Nat}(h:k<l.length):iK (l.take (k+1))=iK (l.take k)++[gv l[k].1.toNat,gv l[k].2.1.toNat,gv l[k].2.2.toNat]:=by
 unfold iK;rw[ia h,fV];rfl
theorem DR(vl:Value)(l:List bV.Item)(w:World)(hl:Sl w vl l.length (l.flatMap jk))(hb:∀it∈l,0<=it.1/\it.1<256/\0<=it.2.1/\it.2.1<256/\0<=it.2.2/\it.2.2<256)(hn:l.length<=20000):
 Calls aC 128 #[vl] w (cY (ret (str (iK l))) w):=by
 obtain⟨bl,cl,rfl,oQ,xt,E8⟩:=hl;unfold maxLen at xt;refine enter (args:=[ap bl l.length cl]) (n:=27) Tryz.func128 I I I ?_
 try refine GA ?_
 refine jy 5 1 ?_
 conv=>arg 7;simp only[zA,zB,zC,zD,zE,zF,zG,zH,zI,dg,ret,id_eq]
 refine eK (ι:=Nat×Value) (λ(k,_)=>k<=l.length) (λ(k,v)=>[(3,v),(6,ap bl l.length cl),(7,av az l.length),(8,av az (k:Int))])
  (λ(k,v)=>[bD 5 1 v (iK (l.take k)).length ((iK (l.take k)).map U2)]) (λ(k,_)=>l.length-k) (0,ap ak 0 0) (bO _) ?_
 rintro⟨k,v⟩ i1;dsimp only at i1⊢
 by_cases c1:k<l.length
 ·obtain⟨b,off,rfl,fl⟩:=E8 J
  have d_:=λL=>iB (L:=L) lU fl c1;have DS:∀(L:List cU) (j:Nat) (u:Value),(jk l[k])[j]?=aj u->At (w:b9) L ⟨b,off+k*3+j,ak⟩ u:=d_;clear d_ E8 fl;obtain⟨b1,b2,b3,b4,b5,b6⟩:=hb l[k] (cV c1);have uV:=Oi c1;have wV:(iK (l.take k)).length<=60000:=by rw[Gy,jR];omega
  generalize l[k]=x at*;obtain⟨p,d,lo⟩:=x;dsimp only at b1 b2 b3 b4 b5 b6 uV;have e1:=Ir b1 b2;have e2:=Ir b3 b4;have e3:=Ir b5 b6;generalize gv p.toNat=y1 at*;generalize gv d.toNat=y2 at*;generalize gv lo.toNat=y3 at*;generalize hN:iK (l.take k)=N at*
  repeat(first|refine GA ?_|refine gV (a_ bR.eq aL.ty I I c1) ?_|refine gV (bH (cs:=jk (p,d,lo)) aL.ty I I (DS _)) ?_)
  refine bz I λg5=>?_;refine zL ?_;refine il 1 (cs':=(jk (p,d,lo)).toArray) ?_;refine zL ?_
  repeat(first|refine GA ?_|refine gV (aB (v:=av az p) aL.ty I (aH (i:=1) I I)) ?_|refine gV (aB (v:=av az d) aL.ty I (aH (i:=1) I I)) ?_|refine gV (aB (v:=av az lo) aL.ty I (aH (i:=1) I I)) ?_|refine gV (jl bR.eq bR.eq I e1) ?_|refine gV (jl bR.eq bR.eq I e2) ?_|refine gV (jl bR.eq bR.eq I e3) ?_)
  refine P3 [U2 y1,U2 y2,U2 y3] I I I (by intro v hv;simp at hv;rcases hv with rfl|rfl|rfl<;>rfl) I I λg22=>?_;refine zL ?_;refine fc (i:=0) (e:=5) (size:=1) (bytes:=1) (m:=N.length) (xs:=N.map U2) (k:=3) (ys:=[U2 y1,U2 y2,U2 y3]) I (lE (i:=2) I (λj u h=>by simpa using h) (bJ 3) ahk) I I I (by intro u hu;simp at hu;rcases hu with rfl|rfl|rfl<;>rfl) J J I λv'=>?_;refine zL ?_
  try refine GA ?_
  refine dS [0] ?_;exact cJ (k+1,v') (by show k+1<=l.length;omega) (by show l.length-(k+1)<l.length-k;omega) (hl:=by dsimp only;rw[uV,bT,ft];rfl)
 ·obtain rfl:k=l.length:=by omega
  rw[List.take_length]
  repeat(first|refine GA ?_|refine gV (RP bR.eq bR.eq bR.eq I I (l8 (i:=0) I)) ?_)
  exact fa
theorem Fh(T N:Nat)(hT:T<=1000)(hN:N<=1000)(vp:Value)(w:World):
 Calls aC 130 #[ee (T:Int) (N:Int) vp] w (cY (dg 148 2 (mS T N).length ((mS T N).flatMap eX) id) w):=by
 have K0:=λ(q:Int)=>Gt 1 q;have MJ:=λ(q:Int)=>Gt 2 q;refine enter (args:=[ee (T:Int) (N:Int) vp]) (n:=29) Tryz.func130 I I I ?_;refine bC (aM (b_ I I I λg1=>?_));refine zL ?_
 repeat(first|refine GA ?_|refine gV (aB (v:=av az (T:Int)) aL.ty I (aH (i:=0) I I)) ?_)
 refine jy 148 2 ?_
 conv=>arg 7;simp only[zA,zB,zC,zD,zE,zF,zG,zH,zI,dg,ret,id_eq]
 refine eK (ι:=Nat×Value) (λ(k,_)=>k<=T) (λ(k,v)=>[(1,aK (aj ⟨g1,0,ak⟩)),(3,v),(7,av az (T:Int)),(8,av az (k:Int))])
  (λ(k,v)=>[aR g1 (ee (T:Int) (N:Int) vp).cells 33,bD 148 2 v ((eG k).map (λn:Nat=>((1:Int),(n:Int)))).length (((eG k).map (λn:Nat=>((1:Int),(n:Int)))).flatMap eX)]) (λ(k,_)=>T-k) (0,ap ak 0 0) (bO _) ?_
 rintro⟨k,v⟩ i1;dsimp only at i1⊢
 by_cases c1:k<T
 ·have uV:(eG (k+1)).map (λn:Nat=>((1:Int),(n:Int)))=(eG k).map (λn:Nat=>((1:Int),(n:Int)))++[((1:Int),(k:Int))]:=by rw[Ae,ft];rfl
  have wV:((eG k).map (λn:Nat=>((1:Int),(n:Int)))).length=k:=by rw[dX,pw]
  generalize hA:(eG k).map (λn:Nat=>((1:Int),(n:Int)))=A at*
  repeat(first|refine GA ?_|refine gV (bP I (K0 _)) ?_)
  refine jH (i:=1) I I I I I I I (λz h=>by cases h;rfl) J J I λz v'=>?_;refine zL ?_
  try refine GA ?_
  exact cJ (k+1,v') (by show k+1<=T;omega) (by show T-(k+1)<T-k;omega) (hl:=by dsimp only;rw[uV,bT,fV];rfl)
 obtain rfl:k=T:=by omega
 have wV:((eG k).map (λn:Nat=>((1:Int),(n:Int)))).length=k:=by rw[dX,pw]
 have hS:mS k N=(eG k).map (λn:Nat=>((1:Int),(n:Int)))++(eG N).map (λn:Nat=>((2:Int),(n:Int))):=rfl;generalize mS k N=S at*;generalize hA:(eG k).map (λn:Nat=>((1:Int),(n:Int)))=A at*
 repeat(first|refine GA ?_|refine gV (aB (v:=av az (N:Int)) aL.ty I (aH (i:=0) I I)) ?_)
 refine og (ι:=Nat×Value) (λ(j,_)=>j<=N) (λ(j,v)=>[(3,v),(18,av az (N:Int)),(19,av az (j:Int))])
  (λ(j,v)=>[aR g1 (ee (k:Int) (N:Int) vp).cells 33,bD 148 2 v (A++(eG j).map (λn:Nat=>((2:Int),(n:Int)))).length ((A++(eG j).map (λn:Nat=>((2:Int),(n:Int)))).flatMap eX)]) (λ(j,_)=>N-j) (0,v) (bO _) (by repeat' (first|exact dl|refine dh I ?_)) (by simp only[List.range_zero,o7,eB]) ?_
 rintro⟨j,v⟩ j1;dsimp only at j1⊢
 by_cases c2:j<N
 ·have uV:A++(eG (j+1)).map (λn:Nat=>((2:Int),(n:Int)))=(A++(eG j).map (λn:Nat=>((2:Int),(n:Int))))++[((2:Int),(j:Int))]:=by rw[Ae,ft,eZ];rfl
  have agS:(A++(eG j).map (λn:Nat=>((2:Int),(n:Int)))).length<=2000:=by rw[bT,dX,pw];omega
  generalize hD:A++(eG j).map (λn:Nat=>((2:Int),(n:Int)))=D at*
  repeat(first|refine GA ?_|refine gV (bP I (MJ _)) ?_)
  refine jH (i:=1) I I I I I I I (λz h=>by cases h;rfl) J J I λz v'=>?_;refine zL ?_
  try refine GA ?_
  exact cJ (j+1,v') (by show j+1<=N;omega) (by show N-(j+1)<N-j;omega) (hl:=by dsimp only;rw[uV,bT,fV];rfl)
 obtain rfl:j=N:=by omega
 rw[<-hS]
 try refine GA ?_
 exact da I I λw hm=>hm.meets (S:=dg 148 2 S.length (S.flatMap eX) id) v trivial [1] ahk I
end cZ
namespace cZ
open Go.Shelf
def K1:Go.Shelf.Ren:=⟨λ|189=>148|125=>176|257=>175|128=>197|129=>198|294=>188|295=>189|296=>190|297=>191|298=>192|299=>193|216=>194|300=>195|301=>196|328=>210|329=>211|330=>212|331=>213|332=>214|215=>207|343=>218|n=>n,λ|28=>26|3=>3|46=>281|0=>0|51=>360|53=>114|4=>4|183=>354|182=>353|131=>178|5=>5|9=>9|218=>369|222=>149|228=>376|229=>377|n=>n,λ|n=>n⟩
theorem Qz:Go.Proofs.Lays.n189 aC K1:={
 mixed:=by kernel_rfl
 f125:=Tryz.func176.trans (congrArg aj (by kernel_rfl))
 f128:=Tryz.func197.trans (congrArg aj (by kernel_rfl))
 f129:=Tryz.func198.trans (congrArg aj (by kernel_rfl))
 f189:=Tryz.func148.trans (congrArg aj (by kernel_rfl))
 f215:=Tryz.func207.trans (congrArg aj (by kernel_rfl))
 f216:=Tryz.func194.trans (congrArg aj (by kernel_rfl))
 f257:=Tryz.func175.trans (congrArg aj (by kernel_rfl))
 f294:=Tryz.func188.trans (congrArg aj (by kernel_rfl))
 f295:=Tryz.func189.trans (congrArg aj (by kernel_rfl))
 f296:=Tryz.func190.trans (congrArg aj (by kernel_rfl))
 f297:=Tryz.func191.trans (congrArg aj (by kernel_rfl))
 f298:=Tryz.func192.trans (congrArg aj (by kernel_rfl))
 f299:=Tryz.func193.trans (congrArg aj (by kernel_rfl))
 f300:=Tryz.func195.trans (congrArg aj (by kernel_rfl))
 f301:=Tryz.func196.trans (congrArg aj (by kernel_rfl))
 f328:=Tryz.func210.trans (congrArg aj (by kernel_rfl))
 f329:=Tryz.func211.trans (congrArg aj (by kernel_rfl))
 f330:=Tryz.func212.trans (congrArg aj (by kernel_rfl))
 f331:=Tryz.func213.trans (congrArg aj (by kernel_rfl))
 f332:=Tryz.func214.trans (congrArg aj (by kernel_rfl))
 f343:=Tryz.func218.trans (congrArg aj (by kernel_rfl))
 t0:=Tryz.underlying0
 a0:=Tryz.isAgg0
 z0:=Tryz.sizeOf0
 v0:=Tryz.zeroValue0
 t3:=Tryz.underlying3
 a3:=Tryz.isAgg3
 z3:=Tryz.sizeOf3
 v3:=Tryz.zeroValue3
 t4:=Tryz.underlying4
 a4:=Tryz.isAgg4
 z4:=Tryz.sizeOf4
 v4:=Tryz.zeroValue4
 t5:=Tryz.underlying5
 a5:=Tryz.isAgg5
 z5:=Tryz.sizeOf5
 v5:=Tryz.zeroValue5
 t9:=Tryz.underlying9
 a9:=Tryz.isAgg9
 z9:=Tryz.sizeOf9
 v9:=Tryz.zeroValue9
 t28:=Tryz.underlying26
 a28:=Tryz.isAgg26
 z28:=Tryz.sizeOf26
 v28:=Tryz.zeroValue26
 t46:=Tryz.underlying281
 a46:=Tryz.isAgg281
 z46:=Tryz.sizeOf281
 v46:=Tryz.zeroValue281
 t51:=Tryz.underlying360
 a51:=Tryz.isAgg360
 z51:=Tryz.sizeOf360
 v51:=Tryz.zeroValue360
 t53:=Tryz.underlying114
 a53:=Tryz.isAgg114
 z53:=Tryz.sizeOf114
 v53:=Tryz.zeroValue114
 t131:=Tryz.underlying178
 a131:=Tryz.isAgg178
 z131:=Tryz.sizeOf178
 v131:=Tryz.zeroValue178
 t182:=Tryz.underlying353
 a182:=Tryz.isAgg353
 z182:=Tryz.sizeOf353
 v182:=Tryz.zeroValue353
 t183:=Tryz.underlying354
 a183:=Tryz.isAgg354
 z183:=Tryz.sizeOf354
 v183:=Tryz.zeroValue354
 t218:=Tryz.underlying369
 a218:=Tryz.isAgg369
 z218:=Tryz.sizeOf369
 v218:=Tryz.zeroValue369
 t222:=Tryz.underlying149
 a222:=Tryz.isAgg149
 z222:=Tryz.sizeOf149
 v222:=Tryz.zeroValue149
 t228:=Tryz.underlying376
 a228:=Tryz.isAgg376
 z228:=Tryz.sizeOf376
 v228:=Tryz.zeroValue376
 t229:=Tryz.underlying377
 a229:=Tryz.isAgg377
 z229:=Tryz.sizeOf377
 v229:=Tryz.zeroValue377}
open Go.Sort Go.RowKit in
theorem slices_Sort_int(BF off cap:Nat)(zs:List Int)(w:World)(hH:Holds (av .i64) w BF off zs.toArray)(hblk:BF<w.heap.size)(hsz:zs.length<4611686018427387904):
 Calls aC 148 #[ap (aj ⟨BF,off,ak⟩) zs.length cap] w λe w'=>
  e= .returned (.tuple #[])/\∃n os,w'=grow (putRow (av .i64) (Sort.ahead w n) BF off (zs.mergeSort λx y=>decide (x<=y)).toArray) os:=Any.slices_Sort_int Qz BF off cap zs w hH hblk hsz
def Fi:Go.Shelf.Ren:=⟨λ|20=>149|n=>n,λ|22=>26|3=>3|4=>4|0=>0|n=>n,λ|n=>n⟩
theorem Gz:Go.Proofs.Lays2.n20 aC Fi:={
 mixed:=by kernel_rfl
 f20:=Tryz.func149.trans (congrArg aj (by kernel_rfl))
 t0:=Tryz.underlying0
 a0:=Tryz.isAgg0
 z0:=Tryz.sizeOf0
 v0:=Tryz.zeroValue0
 t3:=Tryz.underlying3
 a3:=Tryz.isAgg3
 z3:=Tryz.sizeOf3
 v3:=Tryz.zeroValue3
 t4:=Tryz.underlying4
 a4:=Tryz.isAgg4
 z4:=Tryz.sizeOf4
 v4:=Tryz.zeroValue4
 t22:=Tryz.underlying26
 a22:=Tryz.isAgg26
 z22:=Tryz.sizeOf26
 v22:=Tryz.zeroValue26
 i3:=by kernel_rfl}
open Go.RowKit Go.Lib Go.Sort in
theorem slices_Compact_int(BF off cap:Nat)(zs:List Int)(w:World)(hH:Holds (av .i64) w BF off zs.toArray)(hsz:zs.length<=9223372036854775807)(lR:zs.length<=cap):
 Calls aC 149 #[ap (aj ⟨BF,off,ak⟩) zs.length cap] w λe w'=>e= .returned (ap (aj ⟨BF,off,ak⟩) (qU zs).length cap)/\∃q,w'=putRow (av .i64) (Sort.ahead w q) BF off (qU zs++dJ (zs.length-(qU zs).length) 0).toArray:=Any.slices_Compact_int Gz BF off cap zs w hH hsz lR
open Go.RowKit Go.Lib Go.Sort in
theorem slices_Compact_int_empty(a:Option Addr)(cap:Nat)(w:World):
 Calls aC 149 #[ap a 0 cap] w λe w'=>e= .returned (ap a 0 cap)/\w'=w:=Any.slices_Compact_int_empty Gz a cap w
open Go.RowKit Go.Sort in
theorem slices_Sort_int_none(p:Option Addr)(cap:Nat)(w:World):
 Calls aC 148 #[ap p 0 cap] w λe w'=>e= .returned (.tuple #[])/\w'=w:=Any.slices_Sort_int_none Qz p cap w
end cZ
namespace cZ
open Go.RowKit dr eH Go.Sort
theorem SN(w:World)(n g:Nat)(d:Array Int)(os:Array Obj){k:Nat}(hk:k<w.heap.size)(hg:k≠g):(grow (putRow (av .i64) (Go.Sort.ahead w n) g 0 d) os).heap[k]?=w.heap[k]?:=by
 rw[heap_grow_old _ _ (by rw[size_putRow];exact hk)];show(w.heap.modify g _)[k]?=w.heap[k]?
 rw[Dc,if_neg (λh=>hg h.symm)]
theorem QB{B:b9}{w:World}{e:TypeId}{g cap m:Nat}{zs:List Int}(hm:Mem B [bD e 1 (ap (aj ⟨g,0,ak⟩) m cap) m (zs.map (av .i64))] w)(d:Array Int)(hd:d.size=m)(m':Nat)(h':m'<=m)(n:Nat)(os:Array Obj):
 Mem B [bD e 1 (ap (aj ⟨g,0,ak⟩) m' cap) m' ((d.toList.take m').map (av .i64))] (grow (putRow (av .i64) (Go.Sort.ahead w n) g 0 d) os):=by
 have ho:w.ownsRow 0 e 1 (ap (aj ⟨g,0,ak⟩) m cap) m (zs.map (av .i64)):=hm.get (i:=0) I;obtain⟨hl,hr⟩:=ho;rcases hr with⟨h,_⟩|⟨g2,Oj,kg,hv,_,hg,hc,hx,hs,ht⟩
 ·cases h
 cases hv
 have K2:B.may g:=(hm.owns.all 0 _ I).2 g (.inl I);have hgw:g<w.heap.size:=(lA.1 hg).1;have WM:(grow (putRow (av .i64) (Go.Sort.ahead w n) g 0 d) os).heap[g]?=aj (.cells (putCells (av .i64) 0 d kg) e (0,0)):=by
  rw[heap_grow_old _ _ (by rw[size_putRow];exact hgw)];show(w.heap.modify g (onCells (putCells (av .i64) 0 d)))[g]?=_
  rw[Dc,if_pos I,hg];rfl
 refine⟨⟨hm.low.os,hm.low.tape,hm.low.output,?_,λk hk hx=>?_⟩,e_.one ⟨?_,.inr ⟨g,cap,_,rfl,bO _,WM,by omega,hx,?_,?_⟩⟩ λk hk=>?_⟩
 ·rw[size_grow,size_putRow];exact fI hm.low.size (Af _ _)
 ·have hkg:k≠g:=λe=>by
   subst e;rcases K2 with h|h
   omega;exact hx h
  rw[SN w n g d os (jf hk hm.low.size) hkg];exact hm.low.block k hk hx
 ·rw[dX,jR,Array.length_toList,hd];omega
 ·unfold putCells;rw[Array.size_mapIdx];exact hs
 ·apply mG
  intro j;rw[kR,uA]
  by_cases hj:j<m'
  ·have Zz:j<kg.size:=by omega
   rw[if_pos hj,fx,uA,if_pos hj,qS,qS];unfold putCells;rw[Array.getElem?_mapIdx,xF Zz,Option.map_some,if_pos ⟨bO _,by omega⟩,Nat.sub_zero,getElem!_pos d j J,xF (by omega:j<d.size)];rfl
  rw[if_neg hj,fx,uA,if_neg hj];rfl
 ·rcases hk with h|h
  simp only[bD,Value.ownBlock,dB]at h;subst h;exact K2;exact h.elim
theorem GF{w:World}{e:TypeId}{g cap m:Nat}{zs:List Int}(ho:w.ownsRow 0 e 1 (ap (aj ⟨g,0,ak⟩) m cap) m (zs.map (av .i64))):Holds (av .i64) w g 0 zs.toArray/\g<w.heap.size/\m=zs.length/\m<=cap:=by
 obtain⟨hl,hr⟩:=ho;rcases hr with⟨h,_⟩|⟨g2,Oj,kg,hv,_,hg,hc,hx,hs,ht⟩
 cases h
 cases hv
 rw[dX]at hl;refine⟨λj hj=>?_,(lA.1 hg).1,by omega,hc⟩;have qc:j<zs.length:=by simpa using hj
 have hcj:kg[j]?=aj (av az zs[j]):=by
  have:=congrArg (λl=>l[j]?) ht;rw[kR,uA,if_pos J,qS,fx,bQ qc]at this;exact this
 refine⟨?_,?_⟩;rw[cell_of_row w g (0+j) _ _ _ hg,du,hcj,getElem!_pos zs.toArray j hj];rfl;unfold World.frozen?;rw[hg];simp
def uW(l:List Int):List Int:=l.mergeSort λx y=>decide (x<=y)
theorem K3(v:Value)(l:List Int)(w:World)(B:b9)(hm:Mem B [bD 3 1 v l.length (l.map (av .i64))] w)(hl:l.length<4611686018427387904):
 Calls aC 148 #[v] w (dF ⟨λ(_:Unit)=>True,λ_=> .tuple #[],λ_=>[bD 3 1 v l.length ((uW l).map (av .i64))]⟩ B):=by
 have ho:w.ownsRow 0 3 1 v l.length (l.map (av .i64)):=hm.get (i:=0) I;have B9:=ho;rcases ho.2 with⟨rfl,h0⟩|⟨g,cap,kg,rfl,_,hg,hc,hx,hs,ht⟩
 ·refine(slices_Sort_int_none ak 0 w).mono λe w' ⟨he,hw⟩=>⟨(),trivial,he,?_⟩
  obtain rfl:l=[]:=VS.1 h0;rw[hw];exact(by simpa[uW]using hm)
 ·obtain⟨h1,h2,h3,h4⟩:=GF B9
  refine(slices_Sort_int g 0 cap l w h1 h2 hl).mono λe w' ⟨he,n,os,hw⟩=>⟨(),trivial,he,?_⟩;have hlen:(uW l).length=l.length:=NM _;have:=QB hm (uW l).toArray (by simp[hlen]) l.length (bJ _) n os;rw[gj (by simp[hlen])]at this;rw[hw];exact this
theorem DT(v:Value)(l:List Int)(w:World)(B:b9)(hm:Mem B [bD 3 1 v l.length (l.map (av .i64))] w):
 Calls aC 149 #[v] w (dF ⟨λ(_:Value)=>True,λv'=>v',λv'=>[bD 3 1 v' (qU l).length ((qU l).map (av .i64))]⟩ B):=by
 have ho:w.ownsRow 0 3 1 v l.length (l.map (av .i64)):=hm.get (i:=0) I;have B9:=ho;rcases ho.2 with⟨rfl,h0⟩|⟨g,cap,kg,rfl,_,hg,hc,hx,hs,ht⟩
 ·refine(slices_Compact_int_empty ak 0 w).mono λe w' ⟨he,hw⟩=>⟨ap ak 0 0,trivial,he,?_⟩
  obtain rfl:l=[]:=VS.1 h0;rw[hw];exact hm
 ·obtain⟨h1,h2,h3,h4⟩:=GF B9
  refine(slices_Compact_int g 0 cap l w h1 (by unfold maxLen at hx;omega) J).mono λe w' ⟨he,n,hw⟩=>⟨ap (aj ⟨g,0,ak⟩) (qU l).length cap,trivial,he,?_⟩;have hle:(qU l).length<=l.length:=Lib.compact_length_le l;have:=QB hm (qU l++dJ (l.length-(qU l).length) 0).toArray (by simp;omega) (qU l).length hle n #[];rw[grow_empty]at this;simp only[List.toList_toArray,List.take_left]at this;rw[hw];exact this
end cZ
namespace fq
open dT iA Go.Lib
def uW(l:List Int):List Int:=l.mergeSort λx y=>decide (x<=y)
def r_(a b:List Int):List Int:=compact (uW (a++b))
theorem Is(l:List Int):(uW l).Pairwise (· <= ·):=by
 have:=VR (le:=λx y:Int=>decide (x<=y)) (λa b c=>by simp;omega) (λa b=>by simp;omega) l;exact this.imp (by simp)
theorem ti{d:Array Int}(hs:∀i j,i<=j->j<d.size->d[i]! <=d[j]!):∀m,m<=d.size->(compactUpTo d m).Pairwise (· < ·)/\(∀x,x∈compactUpTo d m↔∃j,j<m/\d[j]! =x)
 |0,_=>⟨by unfold compactUpTo;simp,λx=>by unfold compactUpTo;simp⟩
 | m + 1,hm=>by
  obtain⟨h1,h2⟩:=ti hs m J;rw[compactUpTo_succ]
  by_cases hk:keeps d m=aD
  ·rw[if_pos hk]
   have mZ:m=0\/d[m]! ≠d[m-1]! :=by unfold keeps at hk;simpa using hk
   refine⟨List.pairwise_append.2 ⟨h1,VT _ _,λx hx y hy=>?_⟩,λx=>?_⟩
   ·rw[ep.1 hy]
    obtain⟨j,hj,rfl⟩:=(h2 x).1 hx;have a1:=hs j (m-1) J J;have a2:=hs (m-1) m J J;rcases mZ with h0|h0
    omega;omega
   rw[fC,ep,h2]
   constructor
   ·rintro(⟨j,hj,rfl⟩|rfl)
    exact⟨j,by omega,rfl⟩;exact⟨m,by omega,rfl⟩
   rintro⟨j,hj,rfl⟩
   by_cases c:j=m
   subst c;exact .inr I;exact .inl ⟨j,by omega,rfl⟩
  rw[if_neg hk,eB];refine⟨h1,λx=>?_⟩;rw[h2]
  constructor
  rintro⟨j,hj,rfl⟩;exact⟨j,by omega,rfl⟩;rintro⟨j,hj,rfl⟩
  by_cases c:j=m
  ·subst c
   have mZ:¬(j=0\/d[j]! ≠d[j-1]!):=by unfold keeps at hk;simpa using hk
   have e:d[j]! =d[j-1]! :=by
    rcases acO (d[j]! =d[j-1]!)with h|h
    exact h;exact absurd (.inr h) mZ
   have:j≠0:=λh=>mZ (.inl h);exact⟨j-1,by omega,e.symm⟩
  exact⟨j,by omega,rfl⟩
theorem Ol{l:List Int}(h:l.Pairwise (· <= ·)):∀i j,i<=j->j<l.toArray.size->l.toArray[i]! <=l.toArray[j]! :=by
 intro i j rp hj;have qc:j<l.length:=by simpa using hj
 rw[getElem!_pos l.toArray i (by simp;omega),getElem!_pos l.toArray j hj]
 by_cases c:i=j
 subst c;exact k8 _;exact List.pairwise_iff_getElem.1 h i j J qc J
theorem QC(a b:List Int):(r_ a b).Pairwise (· < ·)/\∀x,x∈r_ a b↔x∈a\/x∈b:=by
 have hs:=Ol (Is (a++b));obtain⟨h1,h2⟩:=ti hs (uW (a++b)).length (by simp);refine⟨h1,λx=>?_⟩;unfold r_ compact;rw[h2,<-fC,<-List.mem_mergeSort (l:=a++b) (le:=λx y:Int=>decide (x<=y))];show _↔x∈uW (a++b)
 rw[jt]
 constructor
 rintro⟨j,hj,rfl⟩;exact⟨j,hj,by rw[getElem!_pos _ j (by simpa using hj)];rfl⟩;rintro⟨j,hj,rfl⟩;exact⟨j,hj,by rw[getElem!_pos _ j (by simpa using hj)];rfl⟩
def GG(n:Nat)(l:List Int):Prop:=l.Pairwise (· < ·)/\∀x∈l,0<=x/\x<n
theorem ka{n:Nat}{l:List Int}(h:GG n l):l.length<=n:=by
 have key:∀(l:List Int) (lo:Int),l.Pairwise (· < ·)->(∀x∈l,lo<=x/\x<n)->lo<=n->(l.length:Int)<=n-lo:=by
  intro l
  induction l with
  |nil=>intro lo _ _ h;show(0:Int)<=_;omega
  |cons x r ih=>
   intro lo hp hx _;rw[List.pairwise_cons]at hp;have h1:=hx x (ir ..);have:=ih (x+1) hp.2 (λy hy=>⟨by have:=hp.1 y hy;omega,(hx y (mb _ hy)).2⟩) J;rw[dE];omega
 have:=key l 0 h.1 h.2 J;omega
theorem wt(n:Nat):GG n []:=⟨acQ,λx h=>by cases h⟩
theorem nY{n m:Nat}{l:List Int}(h:GG n l)(hm:n<=m):GG m l:=⟨h.1,λx hx=>by have:=h.2 x hx;omega⟩
theorem sL{n:Nat}{a b:List Int}(ha:∀x∈a,0<=x/\x<n)(hb:∀x∈b,0<=x/\x<n):GG n (r_ a b):=
 ⟨(QC a b).1,λx hx=>((QC a b).2 x|>.1 hx).elim (ha x) (hb x)⟩
structure PS where
 bx:List C4
 rules:List Int
 follow:List (List Int)
 last:List Bool
structure Shape where
 empty:Bool
 first:List Int
 last:List Int
def fP(nf:List (List Int))(last first:List Int):List (List Int):=last.foldl (λf x=>f.set x.toNat (r_ (f.getD x.toNat []) first)) nf
def db(bY:Int):Re->PS->Shape×PS
  | .empty,p=>(⟨aD,[],[]⟩,p)
  | .none,p=>(⟨aE,[],[]⟩,p)
  | .byte c,p=>(⟨aE,[(p.bx.length:Int)],[(p.bx.length:Int)]⟩,⟨p.bx++[c],p.rules++[bY],p.follow++[[]],p.last++[aE]⟩)
  | .star a,p=>(⟨aD,(db bY a p).1.first,(db bY a p).1.last⟩,{(db bY a p).2 with follow:=fP (db bY a p).2.follow (db bY a p).1.last (db bY a p).1.first})
  | .HR a b,p=>(⟨(db bY a p).1.empty||(db bY b (db bY a p).2).1.empty,r_ (db bY a p).1.first (db bY b (db bY a p).2).1.first,r_ (db bY a p).1.last (db bY b (db bY a p).2).1.last⟩,(db bY b (db bY a p).2).2)
  | .HQ a b,p=>
    (⟨(db bY a p).1.empty&&(db bY b (db bY a p).2).1.empty,
      if(db bY a p).1.empty then r_ (db bY a p).1.first (db bY b (db bY a p).2).1.first else(db bY a p).1.first,
      if(db bY b (db bY a p).2).1.empty then r_ (db bY a p).1.last (db bY b (db bY a p).2).1.last else(db bY b (db bY a p).2).1.last⟩,
     {(db bY b (db bY a p).2).2 with follow:=fP (db bY b (db bY a p).2).2.follow (db bY a p).1.last (db bY b (db bY a p).2).1.first})
structure K4(p:PS):Prop where
 rules:p.rules.length=p.bx.length
 follow:p.follow.length=p.bx.length
 last:p.last.length=p.bx.length
 ris:∀l∈p.follow,GG p.bx.length l
theorem k_(nf:List (List Int))(last first:List Int):(fP nf last first).length=nf.length:=by
 unfold fP
 induction last generalizing nf with
 |nil=>rfl
 |cons x r ih=>rw[List.foldl_cons,ih,NN]
theorem sM{n:Nat}{first:List Int}(hf:∀x∈first,0<=x/\x<n):∀(last:List Int) (nf:List (List Int)),(∀l∈nf,GG n l)->∀l∈fP nf last first,GG n l
 |[],nf,h=>h
 | x ::r,nf,h=>by
  show ∀l∈fP (nf.set x.toNat (r_ (nf.getD x.toNat []) first)) r first,GG n l
  refine sM hf r _ λl hl=>?_;rcases NK hl with hl|rfl
  exact h l hl;refine sL (λy hy=>?_) hf
  by_cases c:x.toNat<nf.length
  ·rw[cK,bQ c]at hy
   exact(h _ (cV c)).2 y hy
  rw[cK,jE J]at hy
  cases hy
theorem lV(bY:Int):∀(e:Re) (p:PS),K4 p->K4 (db bY e p).2/\p.bx.length<=(db bY e p).2.bx.length/\(db bY e p).2.bx.length<=p.bx.length+e.size/\GG (db bY e p).2.bx.length (db bY e p).1.first/\GG (db bY e p).2.bx.length (db bY e p).1.last
 | .empty,p,h=>⟨h,bJ _,Af _ _,wt _,wt _⟩
 | .none,p,h=>⟨h,bJ _,Af _ _,wt _,wt _⟩
 | .byte c,p,h=>by
  have h1:GG (p.bx++[c]).length [(p.bx.length:Int)]:=⟨VT _ _,λx hx=>by rw[ep.1 hx,bT,ky];omega⟩;refine⟨⟨?_,?_,?_,λl hl=>?_⟩,?_,?_,h1,h1⟩;show(p.rules++[bY]).length=(p.bx++[c]).length;rw[bT,bT,h.rules];rfl
  show(p.follow++[[]]).length=(p.bx++[c]).length;rw[bT,bT,h.follow];rfl
  show(p.last++[aE]).length=(p.bx++[c]).length;rw[bT,bT,h.last];rfl
  ·have hl:l∈p.follow++[[]]:=hl
   show GG (p.bx++[c]).length l
   rcases fC.1 hl with hl|hl
   exact nY (h.ris l hl) (by simp);rw[ep.1 hl];exact wt _
  show p.bx.length<=(p.bx++[c]).length;simp
  show(p.bx++[c]).length<=_;simp[Re.size]
 | .star a,p,h=>by
  obtain⟨h1,h2,h3,h4,h5⟩:=lV bY a p h;exact⟨⟨h1.rules,(k_ _ _ _).trans h1.follow,h1.last,sM h4.2 _ _ h1.ris⟩,h2,by show _<=p.bx.length+(a.size+1);exact fI h3 J,h4,h5⟩
 | .HR a b,p,h=>by
  obtain⟨h1,h2,h3,h4,h5⟩:=lV bY a p h;obtain⟨k1,k2,k3,k4,k5⟩:=lV bY b _ h1;exact⟨k1,fI h2 k2,by show _<=p.bx.length+(a.size+b.size+1);exact fI k3 J,sL (nY h4 k2).2 k4.2,sL (nY h5 k2).2 k5.2⟩
 | .HQ a b,p,h=>by
  obtain⟨h1,h2,h3,h4,h5⟩:=lV bY a p h;obtain⟨k1,k2,k3,k4,k5⟩:=lV bY b _ h1;refine⟨⟨k1.rules,(k_ _ _ _).trans k1.follow,k1.last,sM k4.2 _ _ k1.ris⟩,fI h2 k2,by show _<=p.bx.length+(a.size+b.size+1);exact fI k3 J,?_,?_⟩
  ·show GG _ (if _ then _ else _)
   split;exact sL (nY h4 k2).2 k4.2;exact nY h4 k2
  show GG _ (if _ then _ else _)
  split;exact sL (nY h5 k2).2 k5.2;exact k5
end fq
namespace cZ
open Go.RowKit dr eH fq
theorem rK(l:List Int):l.flatMap dr.eV=l.map (av .i64):=by
 induction l with
 |nil=>rfl
 |cons x r ih=>rw[lC,ih];rfl
abbrev gZ(v:Value)(l:List Int):cU:=bD 3 1 v l.length (l.map (av .i64))
def tj(l:List Int):Spec Value:=⟨λ_=>True,λv=>v,λv=>[gZ v l]⟩
theorem iL(va vb:Value)(a b:List Int)(w:World)(ha:Sl w va a.length (a.map (av .i64)))(hb:Sl w vb b.length (b.map (av .i64)))(hla:a.length<=1000000)(hlb:b.length<=1000000):
 Calls aC 113 #[va,vb] w (cY (tj (r_ a b)) w):=by
 have lz:=λw' (hg:Gr w w')=>kj va a w' (by rw[rK];exact ha.gr hg) J;refine enter (args:=[va,vb]) (n:=14) Tryz.func113 I I I ?_
 try refine GA ?_
 refine a8 (ju aJ.en I I) (λw hm=>lz _ hm.below) I I I ?_;intro v1 _;refine zL ?_;rw[rK]
 try refine GA ?_
 refine fc (i:=0) (bytes:=8) (m:=a.length) (xs:=a.map (av .i64)) (k:=b.length) (ys:=b.map (av .i64)) I (acw hb) I I (by rw[dX,kR]) (λu hu=>by obtain⟨x,_,rfl⟩:=e7.1 hu;rfl) J J I λv2=>?_;rw[<-ft,<-bT];refine zL ?_
 try refine GA ?_
 refine bK [0] [] ahk I I (ju aJ.en I I) (λw hm hb=>K3 v2 (a++b) w _ hb (by rw[bT];omega)) I I I ?_;intro _ _;refine zL ?_
 try refine GA ?_
 rw[show(a++b).length=(cZ.uW (a++b)).length from(NM _).symm];refine bK [0] [] ahk I I (ju aJ.en I I) (λw hm hb=>DT v2 (cZ.uW (a++b)) w _ hb) I I I ?_;intro v3 _;refine zL ?_
 try refine GA ?_
 exact da I I λw hm=>hm.meets (S:=tj (r_ a b)) v3 trivial [0] ahk I
end cZ
namespace cZ
open Go.RowKit dr eH fq
def yT(v:Value):List Value:=[v]
theorem K5(v:Value):(yT v).length=1:=rfl
theorem SO(l:List Value):l.flatMap yT=l:=by
 induction l with
 |nil=>rfl
 |cons x r ih=>rw[lC,ih];rfl
theorem It{w w':World}{e:TypeId}{size n:Nat}{v:Value}{xs:List Value}(h:w.ownsRow 0 e size v n xs)(hk:∀k,v.ownBlock=aj k->w'.heap[k]?=w.heap[k]?):w'.ownsRow 0 e size v n xs:=by
 refine⟨h.1,?_⟩;rcases h.2 with hn|⟨g,cap,kg,rfl,FV,hg,rest⟩
 exact .inl hn;exact .inr ⟨g,cap,kg,rfl,FV,by rw[hk g I];exact hg,rest⟩
def ac3:wF (List Int):=
 ⟨1,λF w cs l=>∃v,cs=[v]/\(∀x∈l,dr.eD x)/\w.ownsRow 0 3 1 v l.length (l.map (av .i64))/\∀k,v.ownBlock=aj k->F k,λ⟨_,h,_⟩=>by rw[h];rfl,
  λ⟨v,h1,h2,h3,h4⟩ hk=>⟨v,h1,h2,It h3 λk h=>hk k (h4 k h),h4⟩,λ⟨v,h1,h2,h3,h4⟩ hk=>⟨v,h1,h2,h3,λk h=>hk k (h4 k h)⟩⟩
abbrev xV(v:Value)(vs:List Value):cU:=bD 26 1 v vs.length (vs.flatMap yT)
abbrev uX(F:Nat->Prop)(vs:List Value)(nf:List (List Int)):cU:=eO ac3 F (vs.map yT) nf
def QD(vc vr vf vfol vl ve:Value)(bY:Int):Array Value:=#[vc,vr,vf,vfol,vl,ve,av az bY]
theorem Z8{α:Type}{s:wF α}{F F2:Nat->Prop}{gY:List (List Value)}{cs:List Value}{l:List α}{a:α}{w:World}{k:Nat}(he:(eO s F gY l).holds w)(hs:s.is F2 w cs a)(h2:∀k,F2 k->k<w.heap.size):
 (eO s (λk=>F k\/F2 k) (gY.set k cs) (l.set k a)).holds w:=by
 obtain⟨⟨h1,h3⟩,h4⟩:=he;refine⟨⟨by simp[h1],λi hi qN=>?_⟩,λk hk=>hk.elim (h4 k) (h2 k)⟩;rw[VY,VY]
 by_cases c:k=i
 ·subst c
  rw[if_pos I,if_pos I];exact s.mono hs λq hq=> .inr hq
 ·rw[if_neg c,if_neg c]
  exact s.mono (h3 i (by simpa using hi) (by simpa using qN)) λq hq=> .inl hq
theorem WN{F:Nat->Prop}{vs:List Value}{nf:List (List Int)}{w:World}(he:(uX F vs nf).holds w){k:Nat}(hk:k<nf.length)(mZ:k<vs.length):Sl w vs[k] nf[k].length (nf[k].map (av .i64)):=by
 obtain⟨⟨h1,h3⟩,_⟩:=he;obtain⟨v,hv,_,hs,_⟩:=h3 k hk (by simpa using mZ);rw[sE]at hv;unfold yT at hv;simp only[ib,and_true]at hv;rw[hv];exact Sl.dY hs
theorem ac4{w:World}{v:Value}{l:List Int}(hp:∀x∈l,dr.eD x)(h:(gZ v l).holds w):ac3.is (λk=>v.ownBlock=aj k) w [v] l:=
 ⟨v,rfl,hp,h,λ_ h=>h⟩
def QE(g:Nat)(vc vr vf vfol vl ve:Value)(bY:Int)(va vb:Value)(nf:List (List Int))(last first:List Int):Spec (List Value×(Nat->Prop)):=
 ⟨λx=>x.1.length=nf.length,λ_=> .tuple #[],λx=>[aR g (QD vc vr vf vfol vl ve bY) 242,xV vfol x.1,uX x.2 x.1 (fP nf last first),gZ va last,gZ vb first]⟩
theorem K6(nf:List (List Int))(last first:List Int){k:Nat}(hk:k<last.length):fP nf (last.take (k+1)) first=(fP nf (last.take k) first).set last[k].toNat (r_ ((fP nf (last.take k) first).getD last[k].toNat []) first):=by
 unfold fP;rw[ia hk,List.foldl_append];rfl
theorem yU(g:Nat)(vc vr vf vfol vl ve:Value)(bY:Int)(va vb:Value)(vs:List Value)(F:Nat->Prop)(nf:List (List Int))(last first:List Int)(w:World)(B:b9)
 (hvs:vs.length=nf.length) (hn:nf.length<=100000) (af0:∀l∈nf,GG nf.length l) (hla:GG nf.length last) (T7:GG nf.length first)
 (hm:Mem B [aR g (QD vc vr vf vfol vl ve bY) 242,xV vfol vs,uX F vs nf,gZ va last,gZ vb first] w):
 Calls aC 147 #[aK (aj ⟨g,0,ak⟩),va,vb] w (dF (QE g vc vr vf vfol vl ve bY va vb nf last first) B):=by
 have agJ:=ka hla;have af1:=ka T7;have hva:∃a c,va=ap a last.length c:=by
  obtain⟨base,cap,h,_⟩:=Sl.dY (show w.ownsRow 0 3 1 va last.length (last.map (av .i64))from hm.get (i:=3) rfl);exact⟨base,cap,h⟩
 obtain⟨aa,ca,rfl⟩:=hva;refine dZ hm (args:=[aK (aj ⟨g,0,ak⟩),ap aa last.length ca,vb]) (n:=32) Tryz.func147 I I I ?_;clear hm
 try refine GA ?_
 refine eK (ι:=Nat×List Value×(Nat->Prop)) (λ(k,vs,F)=>k<=last.length/\vs.length=nf.length) (λ(k,_,_)=>[(0,aK (aj ⟨g,0,ak⟩)),(2,vb),(8,ap aa last.length ca),(9,av az last.length),(10,av az (k:Int))])
  (λ(k,vs,F)=>[aR g (QD vc vr vf vfol vl ve bY) 242,xV vfol vs,uX F vs (fP nf (last.take k) first),gZ (ap aa last.length ca) last,gZ vb first]) (λ(k,_,_)=>last.length-k) (0,vs,F) ⟨bO _,hvs⟩ ?_
 clear hvs vs F;rintro⟨k,vs,F⟩ ⟨i1,i2⟩;dsimp only at i1 i2⊢
 by_cases c6:k<last.length
 ·have hstep:=K6 nf last first c6
  have af2:=sM (n:=nf.length) T7.2 (last.take k) nf af0;have hlen:=k_ nf (last.take k) first;have hx:=hla.2 last[k] (cV c6);have hgx:last[k]?=aj last[k]:=bQ c6;generalize fP nf (last.take k) first=fo at*;generalize last[k]=x at*;obtain⟨xn,rfl⟩:=jg hx.1;rw[dP]at hstep;have hxn:xn<fo.length:=by omega
  have xU:fo.getD xn []=fo[xn]:=by rw[cK,bQ hxn];rfl
  rw[xU]at hstep;have hrx:=af2 fo[xn] (cV hxn);have E8:=ka hrx;have MO:=sL hrx.2 T7.2;have hul:=ka MO;refine iR (i:=1) (φ:=∃gf cap,vfol=ap (aj ⟨gf,0,ak⟩) vs.length cap/\vs.length<=cap) I (λw h=>by
   obtain⟨h1,h2⟩:=(show w.ownsRow 0 26 1 vfol vs.length (vs.flatMap yT)from h);rcases h2 with⟨_,h0⟩|⟨gf,cap,kg,hv,_,_,hc,_⟩
   omega;exact⟨gf,cap,hv,hc⟩) λhvf=>?_
  obtain⟨gf,ac5,rfl,hcf⟩:=hvf;refine iR (i:=3) (φ:=∃ga,aa=aj ⟨ga,0,ak⟩) I (λw h=>by
   obtain⟨h1,h2⟩:=(show w.ownsRow 0 3 1 (ap aa last.length ca) last.length (last.map (av .i64))from h);rcases h2 with⟨_,h0⟩|⟨gf,cap,kg,hv,_,_,hc,_⟩
   omega
   cases hv;exact⟨gf,rfl⟩) λhva=>?_
  obtain⟨ga,rfl⟩:=hva;have hxv:xn<vs.length:=by omega
  have ij:∀(L:List cU) (hi:L[1]?=aj (xV (ap (aj ⟨gf,0,ak⟩) vs.length ac5) vs)),At B L ⟨gf,0+xn*1+0,ak⟩ vs[xn]:=λL hi=>ru K5 hi hxv 0 _ I;have af3:∀(L:List cU) (hi:L[3]?=aj (gZ (ap (aj ⟨ga,0,ak⟩) last.length ca) last)),At B L ⟨ga,0+k*1,ak⟩ (av az (xn:Int)):=λL hi=>kx hi (by rw[fx,du,kR,hgx];rfl)
  repeat(first|refine GA ?_|refine gV (a_ bR.eq aL.ty I I c6) ?_|refine gV (aB (v:=av az (xn:Int)) aL.ty I (af3 _ I)) ?_)
  (repeat refine bC ?_)
  refine eo ([aR g (QD vc vr vf (ap (aj ⟨gf,0,ak⟩) vs.length ac5) vl ve bY) 242]) (.calm 0 (.calm 1 (.calm 2 (.calm 3 (.calm 4 (.calm 5 (.calm 6 (.calm 7 (.calm 8 (.calm 9 (.calm 10 (.calm 11 (.calm 12 (.calm 14 (.one 13 (.one 15 (.calm 16 (.one 17 (.done))))))))))))))))))) (cH [0]) ?_
  repeat(first|refine GW ?_|(refine GN ?_;first|refine QW (aB (v:=ap (aj ⟨gf,0,ak⟩) vs.length ac5) aL.ty I (aH (i:=0) I I)) ?_|refine QW (a_ bR.eq aL.ty I I hxv) ?_))
  refine aO I (aI (aB (v:=vs[xn]) aL.ty I (ij _ I)) I I I (aP (cH [0]) ?_))
  try refine GW ?_
  refine aO I (a8 (gK aJ.en I I I) (λw' hm=>iL vs[xn] vb fo[xn] first w' (WN (hm.get (i:=2) I) hxn hxv) (Sl.dY (hm.get (i:=4) I)) J J) I I I ?_);intro v _
  conv=>arg 8;simp only[zJ,dg,ret,id_eq,tj]
  refine aY (i:=5) I λoQ mL=>?_;refine aP (cH [0]) ?_
  repeat(first|refine GW ?_|(refine GN ?_;first|refine QW (a_ bR.eq aL.ty I I hxv) ?_))
  refine aO I (z_ K5 (i:=1) (k:=xn) (l:=vs) (a:=v) aL.ty I I J hxv I I oQ (by simp only[yT,dw,dA,mL];rfl) (aP (cH [0]) ?_))
  try refine GW ?_
  try refine GA ?_
  refine wm (uX (λk=>F k\/v.ownBlock=aj k) (vs.set xn v) (fo.set xn (r_ fo[xn] first))) 5 2 [0,1,3,4] ahk I I I (λk hk=>hk.elim (λh=>by cases h) λh=>h.elim (λh=> .inr (.inr h)) λh=> .inl (.inl h)) (λw hr he=>?_) ?_
  ·have:=Z8 (k:=xn) he (ac4 (λx hx=>⟨by have:=MO.2 x hx;omega,by have:=MO.2 x hx;omega⟩) hr) λk hk=>(gZ v (r_ fo[xn] first)).lt w hr k (.inl hk)
   rw[show([v]:List Value)=yT v from I,<-sF]at this;exact this
  refine dS [0,1,4,2,3] ?_;exact cJ (k+1,vs.set xn v,λk=>F k\/v.ownBlock=aj k) ⟨by omega,by rw[NN];exact i2⟩ (by show last.length-(k+1)<last.length-k;omega) (hl:=by dsimp only;rw[hstep];show _=[_,bD _ _ _ (vs.set xn v).length _,_,_,_];rw[NN];rfl)
 ·obtain rfl:k=last.length:=by omega
  rw[gj (bJ _)]
  try refine GA ?_
  exact lF I λw hm=>hm.cX (S:=QE g vc vr vf vfol vl ve bY (ap aa last.length ca) vb nf last first) (vs,F) i2 [0,1,2,3,4] ahk I
end cZ
namespace cZ
open Go.RowKit dr eH dT iA fq
def Au(B:b9)(k:Nat):Prop:=k<B.w.heap.size/\¬B.X k
theorem sN{B:b9}{L:List cU}{b off:Nat}{cs:List Value}(hb:Au B b)(h:Rd B.w b off cs)(j:Nat)(v:Value)(hj:cs[j]?=aj v):At B L ⟨b,off+j,ak⟩ v:=λ_ hm=>
 rd_stay h (hm.low.block b hb.1 hb.2) j v hj
theorem ac6{B:b9}{Lx:List cU}{w:World}(hm:Mem B Lx w){k:Nat}(hk:Au B k):Au (b9.on w Lx) k:=by
 refine⟨jf hk.1 hm.low.size,?_⟩;rintro⟨o,ho,hf⟩;obtain⟨i,hi⟩:=List.mem_iff_getElem?.1 ho;rcases(hm.owns.all i o hi).2 k hf with h|h
 have:=hk.1;omega;exact hk.2 h
theorem fz{B:b9}{Lx:List cU}{w:World}{v:Value}{r:Rx}(hm:Mem B Lx w)(h:om (Au B) B.w v r):om (Au (b9.on w Lx)) w v r:=
 (h.stay λk hk=>hm.low.block k hk.1 hk.2).mono λ_ hk=>ac6 hm hk
structure T8 where
 vc:Value
 vr:Value
 vfol:Value
 vl:Value
 vs:List Value
 F:Nat->Prop
def nK(g:Nat)(vf ve:Value)(bY:Int)(x:T8)(p:PS):List cU:=
 [aR g (QD x.vc x.vr vf x.vfol x.vl ve bY) 242,bD 116 4 x.vc p.bx.length (p.bx.flatMap fh),gZ x.vr p.rules,xV x.vfol x.vs,uX x.F x.vs p.follow,bD 4 1 x.vl p.last.length (p.last.map gi)]
def dc(g:Nat)(vf ve:Value)(bY:Int)(R:Shape×PS):Spec (T8×Value×Value):=
 ⟨λx=>x.1.vs.length=R.2.follow.length,λx=>aU #[.bool R.1.empty,x.2.1,x.2.2],λx=>nK g vf ve bY x.1 R.2++[gZ x.2.1 R.1.first,gZ x.2.2 R.1.last]⟩
theorem Om(w:World):(dR 244 (#[]:Array (Nat×Value))).run aC w= .ok (aU #[.bool aE,ap ak 0 0,ap ak 0 0]) w:=by
 go_simp
theorem On(w:World):(dR 244 #[(0,.bool aD)]).run aC w= .ok (aU #[.bool aD,ap ak 0 0,ap ak 0 0]) w:=by
 go_simp
def Iu(M:Nat):Prop:=∀(e:Re),e.size<=M->∀(g:Nat) (vf ve:Value) (bY:Int) (p:PS) (x:T8) (v:Value) (w:World) (B:b9),K4 p->x.vs.length=p.follow.length->p.bx.length+e.size<=100000->dr.eD bY->om (Au B) B.w v (lQ e)->Mem B (nK g vf ve bY x p) w->
 Calls aC 112 #[aK (aj ⟨g,0,ak⟩),v] w (dF (dc g vf ve bY (db bY e p)) B)
theorem SP(g:Nat)(vf ve:Value)(bY:Int)(p:PS)(x:T8)(v:Value)(w:World)(B:b9)(hx:x.vs.length=p.follow.length)(hv:om (Au B) B.w v (lQ .none))(hm:Mem B (nK g vf ve bY x p) w):
 Calls aC 112 #[aK (aj ⟨g,0,ak⟩),v] w (dF (dc g vf ve bY (db bY .none p)) B):=by
 obtain⟨vk,rfl,_,Qc⟩:=hv;obtain⟨bk,ck,rfl,-⟩:=Qc;unfold nK at hm;refine dZ hm (args:=[aK (aj ⟨g,0,ak⟩),sB (lQ .none).kind (lQ .none).uf (ap bk (lQ .none).kids.length ck)]) (n:=176) Tryz.func112 I I I ?_;clear hm;refine bC (aM (b_ I I I λg3=>bz I λg4=>?_));refine zL ?_
 repeat(first|refine GA ?_|refine gV (aB (v:=av az 1) aL.ty I (aH (i:=6) I I)) ?_|refine gV (bP I Om) ?_)
 refine il 7 ?_;refine zL ?_
 try refine GA ?_
 refine ef 3 1 (ef 3 1 ?_);exact h_ (i:=7) I I I I λw hm=>hm.cX (S:=dc g vf ve bY (db bY .none p)) (x,ap ak 0 0,ap ak 0 0) hx [0,1,2,3,4,5,8,9] ahk I
theorem Oo(g:Nat)(vf ve:Value)(bY:Int)(p:PS)(x:T8)(v:Value)(w:World)(B:b9)(hx:x.vs.length=p.follow.length)(hv:om (Au B) B.w v (lQ .empty))(hm:Mem B (nK g vf ve bY x p) w):
 Calls aC 112 #[aK (aj ⟨g,0,ak⟩),v] w (dF (dc g vf ve bY (db bY .empty p)) B):=by
 obtain⟨vk,rfl,_,Qc⟩:=hv;obtain⟨bk,ck,rfl,-⟩:=Qc;unfold nK at hm;refine dZ hm (args:=[aK (aj ⟨g,0,ak⟩),sB (lQ .empty).kind (lQ .empty).uf (ap bk (lQ .empty).kids.length ck)]) (n:=176) Tryz.func112 I I I ?_;clear hm;refine bC (aM (b_ I I I λg3=>bz I λg4=>?_));refine zL ?_
 repeat(first|refine GA ?_|refine gV (aB (v:=av az 2) aL.ty I (aH (i:=6) I I)) ?_|refine gV (bP I On) ?_)
 refine il 7 ?_;refine zL ?_
 try refine GA ?_
 refine ef 3 1 (ef 3 1 ?_);exact h_ (i:=7) I I I I λw hm=>hm.cX (S:=dc g vf ve bY (db bY .empty p)) (x,ap ak 0 0,ap ak 0 0) hx [0,1,2,3,4,5,8,9] ahk I
def K7(g:Nat)(bY:Int):cU:=
 ⟨aj g,λ_=>False,λw=>∃vc vr vf vfol vl ve,w.heap[g]?=aj (.cells (QD vc vr vf vfol vl ve bY) 242 (0,0)),λw ⟨_,_,_,_,_,_,h⟩ k hk=>by simp only[dB,or_false]at hk;subst hk;exact(lA.1 h).1,
  λw w' ⟨vc,vr,vf,vfol,vl,ve,h⟩ _ hb=>⟨vc,vr,vf,vfol,vl,ve,by rw[hb g (.inl I)];exact h⟩⟩
theorem mT{B:b9}{L:List cU}{g:Nat}{vc vr vf vfol vl ve:Value}{bY:Int}(h:L[0]?=aj (aR g (QD vc vr vf vfol vl ve bY) 242)):∀w,Mem B L w->Mem B [K7 g bY] w:=λw hm=>by
 have h1:=hm.pick (L':=[aR g (QD vc vr vf vfol vl ve bY) 242]) [0] ahk (by simp[h]);exact h1.ZE (i:=0) (K7 g bY) I ⟨vc,vr,vf,vfol,vl,ve,h1.get (i:=0) I⟩ λk hk=>hk
theorem Z9{B:b9}{L:List cU}{g i:Nat}{bY:Int}(h:L[i]?=aj (K7 g bY)):At B L ⟨g,6,ak⟩ (av az bY):=λw hm=>by
 obtain⟨vc,vr,vf,vfol,vl,ve,h⟩:=(hm.get h:(K7 g bY).holds w);rw[cell_of_row w g 6 _ _ _ h];rfl
theorem QF(c:C4)(u:Value)(h:u∈fh c):u.oneCell'=true:=by
 simp only[fh,ez,iD,or_false]at h;rcases h with rfl|rfl|rfl|rfl<;>rfl
theorem SQ(c:C4){k:Int}{vk v:Value}{j:Nat}(hj:(fh c)[j]?=aj v):((nR k c vk).toArray)[1+j]?=aj v:=by
 match j,hj with
 |0,hj=>exact hj
 |1,hj=>exact hj
 |2,hj=>exact hj
 |3,hj=>exact hj
theorem Oq(b b':Option Addr)(m m' k k':Nat)(w:World):(dR 244 #[(1,ap b m k),(2,ap b' m' k')]).run aC w= .ok (aU #[.bool aE,ap b m k,ap b' m' k']) w:=by
 go_simp
theorem GH(v:Value)(l:List Int)(x:Int):bD 3 1 v (l.length+1) (l.map (av .i64)++[av az x])=gZ v (l++[x]):=by
 show _=bD 3 1 v (l++[x]).length ((l++[x]).map (av .i64))
 rw[bT,ft];rfl
theorem WO(v:Value)(l:List Value)(x:Value):bD 26 1 v (l.length+1) (l.flatMap yT++[x])=xV v (l++[x]):=by
 show _=bD 26 1 v (l++[x]).length ((l++[x]).flatMap yT)
 rw[bT,fV];rfl
theorem Av(v:Value)(l:List Bool)(x:Bool):bD 4 1 v (l.length+1) (l.map gi++[.bool x])=bD 4 1 v (l++[x]).length ((l++[x]).map gi):=by
 rw[bT,ft];rfl
theorem Iv{w:World}{g:Nat}{n:Int}(h:(aR g #[av az n] 3).holds w):(gZ (ap (aj ⟨g,0,ak⟩) 1 1) [n]).holds w:=
 ⟨rfl,.inr ⟨g,1,_,rfl,bO _,h,bJ _,by decide,rfl,rfl⟩⟩
theorem SR(c:C4)(g:Nat)(vf ve:Value)(bY:Int)(p:PS)(x:T8)(v:Value)(w:World)(B:b9)(hp:K4 p)(hx:x.vs.length=p.follow.length)(hn:p.bx.length<=100000)(hv:om (Au B) B.w v (lQ (.byte c)))(hm:Mem B (nK g vf ve bY x p) w):
 Calls aC 112 #[aK (aj ⟨g,0,ak⟩),v] w (dF (dc g vf ve bY (db bY (.byte c) p)) B):=by
 obtain⟨vk,rfl,_,Qc⟩:=hv;obtain⟨bk,ck,rfl,-⟩:=Qc;obtain⟨vc,vr,vfol,vl,vs,F⟩:=x;unfold nK at hm;dsimp only at hx hm;refine dZ hm (args:=[aK (aj ⟨g,0,ak⟩),sB (lQ (.byte c)).kind (lQ (.byte c)).uf (ap bk (lQ (.byte c)).kids.length ck)]) (n:=176) Tryz.func112 I I I ?_;clear hm;refine bC (aM (b_ I I I λg3=>bz I λg4=>?_));refine zL ?_;refine nJ (i:=1) I λbc cc hvc oQ xt=>?_;subst hvc
 repeat(first|refine GA ?_|refine gV (aB (v:=av az 3) aL.ty I (aH (i:=6) I I)) ?_|refine gV (aB (v:=ap bc p.bx.length cc) aL.ty I (aH (i:=0) I I)) ?_)
 (repeat refine bC ?_)
 refine l_ (ι:=Value) (λ_=>True) (λ_=>[(0,aK (aj ⟨g,0,ak⟩)),(3,aK (aj ⟨g3,0,ak⟩)),(4,aK (aj ⟨g4,0,ak⟩)),(5,av az p.bx.length)])
  (λFj=>[aR g (QD Fj vr vf vfol vl ve bY) 242,bD 116 4 Fj (p.bx++[c]).length ((p.bx++[c]).flatMap fh),gZ vr p.rules,xV vfol vs,uX F vs p.follow,bD 4 1 vl p.last.length (p.last.map gi),aR g4 #[.bool aE,ap ak 0 0,ap ak 0 0] 244]) ?_ ?_
 ·refine eo ([aR g3 (nR 3 c (ap bk 0 ck)).toArray 119]) (.calm 0 (.calm 1 (.calm 2 (.calm 3 (.calm 4 (.calm 6 (.calm 7 (.two 5 (.one 8 (.one 9 (.calm 10 (.calm 11 (.calm 12 (.one 13 (.done))))))) 8 (.one 5 (.one 9 (.calm 10 (.calm 11 (.calm 12 (.one 13 (.done))))))))))))))) (cH [6]) ?_
  repeat(first|refine GW ?_|(refine GN ?_;first|refine QW (bH (cs:=fh c) aL.ty I I (λj v hj=>aH (i:=0) I (SQ c hj))) ?_))
  refine e9 I I ?_ ?_
  ·refine aI (aB (v:=ap bc p.bx.length cc) aL.ty I (aH (i:=0) I I)) I I I (aP (cH [6]) ?_)
   refine aO I (im (cs:=(fh c).toArray) [rr c] I I I (by intro v hv;simp at hv;subst hv;rfl) I I I λg33=>(aP (cH [6]) ?_));refine aO I (fc (i:=1) (e:=116) (size:=4) (bytes:=32) (m:=p.bx.length) (xs:=p.bx.flatMap fh) (k:=1) (ys:=fh c) I (lE (i:=8) I (λj u h=>by simpa using h) (bJ 1) ahk) I I I (λu hu=>QF c u hu) J J I λFj=>(aP (cH [6]) ?_))
   try refine GW ?_
   refine aO I (aY (i:=1) I λlm lW=>cD (i:=0) I I I lm lW I (aP (cH [6]) ?_))
   try refine GW ?_
   refine dS [0,1,2,3,4,5,7] ?_;exact eJ Fj trivial (by repeat' (first|exact dl|refine dh I ?_)) (by rw[bT,fV];rfl)
  refine im (cs:=(fh c).toArray) [rr c] I I I (by intro v hv;simp at hv;subst hv;rfl) I I I λg33=>(aP (cH [6]) ?_);refine aO I (aI (aB (v:=ap bc p.bx.length cc) aL.ty I (aH (i:=0) I I)) I I I (aP (cH [6]) ?_));refine aO I (fc (i:=1) (e:=116) (size:=4) (bytes:=32) (m:=p.bx.length) (xs:=p.bx.flatMap fh) (k:=1) (ys:=fh c) I (lE (i:=8) I (λj u h=>by simpa using h) (bJ 1) ahk) I I I (λu hu=>QF c u hu) J J I λFj=>(aP (cH [6]) ?_))
  try refine GW ?_
  refine aO I (aY (i:=1) I λlm lW=>cD (i:=0) I I I lm lW I (aP (cH [6]) ?_))
  try refine GW ?_
  refine dS [0,1,2,3,4,5,7] ?_;exact eJ Fj trivial (by repeat' (first|exact dl|refine dh I ?_)) (by rw[bT,fV];rfl)
 clear oQ xt;intro Fj _
 try refine GA ?_
 (repeat refine bC ?_)
 have E8:=hp.rules;refine l_ (ι:=Value) (λ_=>True) (λ_=>[(0,aK (aj ⟨g,0,ak⟩)),(4,aK (aj ⟨g4,0,ak⟩)),(5,av az p.bx.length)])
  (λBP=>[aR g (QD Fj BP vf vfol vl ve bY) 242,bD 116 4 Fj (p.bx++[c]).length ((p.bx++[c]).flatMap fh),gZ BP (p.rules++[bY]),xV vfol vs,uX F vs p.follow,bD 4 1 vl p.last.length (p.last.map gi),aR g4 #[.bool aE,ap ak 0 0,ap ak 0 0] 244]) ?_ ?_
 ·refine eo ([K7 g bY]) (.calm 0 (.calm 1 (.calm 2 (.calm 3 (.calm 4 (.calm 6 (.calm 7 (.calm 8 (.calm 9 (.two 5 (.one 10 (.one 11 (.calm 12 (.calm 13 (.calm 14 (.one 15 (.done))))))) 10 (.one 5 (.one 11 (.calm 12 (.calm 13 (.calm 14 (.one 15 (.done))))))))))))))))) (mT I) ?_
  repeat(first|refine GW ?_|(refine GN ?_;first|refine QW (aB (v:=av az bY) aL.ty I (Z9 (i:=0) I)) ?_))
  refine e9 I I ?_ ?_
  ·refine aI (aB (v:=vr) aL.ty I (aH (i:=0) I I)) I I I (aP (mT I) ?_)
   refine aO I (im (cs:=#[av az bY]) [av az bY] I I I (by intro v hv;simp at hv;subst hv;rfl) I I I λg48=>(aP (mT I) ?_));refine aO I (fc (i:=2) (e:=3) (size:=1) (bytes:=8) (m:=p.rules.length) (xs:=p.rules.map (av .i64)) (k:=1) (ys:=[av az bY]) I (lE (i:=7) I (λj u h=>by simpa using h) (bJ 1) ahk) I I I (λu hu=>by rw[ep.1 hu];rfl) J J I λBP=>(aP (mT I) ?_))
   try refine GW ?_
   refine aO I (aY (i:=2) I λlm lW=>cD (i:=0) I I I lm lW I (aP (mT (vc:=Fj) (vr:=BP) (vf:=vf) (vfol:=vfol) (vl:=vl) (ve:=ve) I) ?_))
   try refine GW ?_
   refine dS [0,1,2,3,4,5,6] ?_;exact eJ BP trivial (by repeat' (first|exact dl|refine dh I ?_)) (by rw[<-GH BP p.rules bY];rfl)
  refine im (cs:=#[av az bY]) [av az bY] I I I (by intro v hv;simp at hv;subst hv;rfl) I I I λg48=>(aP (mT I) ?_);refine aO I (aI (aB (v:=vr) aL.ty I (aH (i:=0) I I)) I I I (aP (mT I) ?_));refine aO I (fc (i:=2) (e:=3) (size:=1) (bytes:=8) (m:=p.rules.length) (xs:=p.rules.map (av .i64)) (k:=1) (ys:=[av az bY]) I (lE (i:=7) I (λj u h=>by simpa using h) (bJ 1) ahk) I I I (λu hu=>by rw[ep.1 hu];rfl) J J I λBP=>(aP (mT I) ?_))
  try refine GW ?_
  refine aO I (aY (i:=2) I λlm lW=>cD (i:=0) I I I lm lW I (aP (mT (vc:=Fj) (vr:=BP) (vf:=vf) (vfol:=vfol) (vl:=vl) (ve:=ve) I) ?_))
  try refine GW ?_
  refine dS [0,1,2,3,4,5,6] ?_;exact eJ BP trivial (by repeat' (first|exact dl|refine dh I ?_)) (by rw[<-GH BP p.rules bY];rfl)
 intro BP _;have wI:=hp.follow;have R5:=hp.last
 repeat(first|refine GA ?_|refine gV (aB (v:=vfol) aL.ty I (aH (i:=0) I I)) ?_)
 refine kh (i:=3) (bytes:=24) I I I I I I (λz h=>by cases h;rfl) J J I λz1 wW=>?_;refine zL ?_
 try refine GA ?_
 refine aY (i:=3) I λlm lW=>cD (i:=0) I I I lm lW I ?_;refine zL ?_
 repeat(first|refine GA ?_|refine gV (aB (v:=vl) aL.ty I (aH (i:=0) I I)) ?_)
 refine kh (i:=5) (bytes:=1) I I I I I I (λz h=>by cases h;rfl) J J I λz2 QG=>?_;refine zL ?_
 try refine GA ?_
 refine aY (i:=5) I λlm lW=>cD (i:=0) I I I lm lW I ?_;refine zL ?_
 try refine GA ?_
 refine im (cs:=#[av az p.bx.length]) [av az p.bx.length] I I I (by intro v hv;simp at hv;subst hv;rfl) I I I λg76=>?_;refine zL ?_
 try refine GA ?_
 refine im (cs:=#[av az p.bx.length]) [av az p.bx.length] I I I (by intro v hv;simp at hv;subst hv;rfl) I I I λg78=>?_;refine zL ?_
 repeat(first|refine GA ?_|refine gV (bP I (Oq _ _ _ _ _ _)) ?_)
 refine il 6 (cs':=#[.bool aE,ap (aj ⟨g76,0,ak⟩) 1 1,ap (aj ⟨g78,0,ak⟩) 1 1]) ?_;refine zL ?_
 try refine GA ?_
 refine oI (i:=7) (gZ (ap (aj ⟨g76,0,ak⟩) 1 1) [(p.bx.length:Int)]) I (λw h=>Iv h) (λk hk=>hk) ?_;refine oI (i:=8) (gZ (ap (aj ⟨g78,0,ak⟩) 1 1) [(p.bx.length:Int)]) I (λw h=>Iv h) (λk hk=>hk) ?_;refine oI (i:=4) (uX (λk=>F k\/False) (vs++[ap ak 0 0]) (p.follow++[[]])) I (λw h=>by
  have:=mM (F2:=λ_=>False) h (show ac3.is (λ_=>False) w [ap ak 0 0] []from⟨_,rfl,λ_ h=>(by cases h),⟨rfl,.inl ⟨rfl,rfl⟩⟩,λ_ h=>(by cases h)⟩) (λk hk=>hk.elim);rw[show vs.map yT++[[ap ak 0 0]]=(vs++[ap ak 0 0]).map yT by rw[ft];rfl]at this;exact this) (λk hk=>hk.elim (λh=>by cases h) λh=>h.elim (λh=> .inr h) False.elim) ?_
 refine h_ (i:=6) I I I I λw hm=>?_;refine hm.cX (S:=dc g vf ve bY (db bY (.byte c) p)) (⟨Fj,BP,wW,QG,vs++[ap ak 0 0],λk=>F k\/False⟩,ap (aj ⟨g76,0,ak⟩) 1 1,ap (aj ⟨g78,0,ak⟩) 1 1) (by show(vs++[_]).length=(p.follow++[[]]).length;rw[bT,bT,hx];rfl) [0,1,2,3,4,5,7,8] ahk ?_;show[_,_,_,xV wW (vs++[ap ak 0 0]),_,bD 4 1 QG (p.last++[aE]).length ((p.last++[aE]).map gi),_,_]=_
 rw[<-WO,<-Av];rfl
end cZ
namespace cZ
open Go.RowKit dr eH dT iA fq
theorem SU{M:Nat}(IH:Iu M)(a:Re)(ha:a.size<=M)(g:Nat)(vf ve:Value)(bY:Int)(p:PS)(x:T8)(v:Value)(w:World)(B:b9)(hp:K4 p)(hx:x.vs.length=p.follow.length)(hn:p.bx.length+(a.size+1)<=100000)(Ot:dr.eD bY)(hv:om (Au B) B.w v (lQ (.star a)))(hm:Mem B (nK g vf ve bY x p) w):
 Calls aC 112 #[aK (aj ⟨g,0,ak⟩),v] w (dF (dc g vf ve bY (db bY (.star a) p)) B):=by
 obtain⟨vk,rfl,_,Qc⟩:=hv;obtain⟨bk,ck,rfl,h1,h2,h3⟩:=Qc;obtain⟨b,off,rfl,hF,fl⟩:=h3 (by show 0<1;decide);obtain⟨kb,kc,hr,SV⟩:=qx (k:=0) fl (by show 0<1;decide);have d_:=λ(L:List cU) (j:Nat) (v:Value) hj=>sN (L:=L) hF hr j v hj;clear h3 fl hr;obtain⟨E7,Qr,Ww,hp4,Z_⟩:=lV bY a p hp;have abU:db bY (.star a) p=(⟨aD,(db bY a p).1.first,(db bY a p).1.last⟩,{(db bY a p).2 with follow:=fP (db bY a p).2.follow (db bY a p).1.last (db bY a p).1.first}):=rfl;have hIH:=λw B hv hm=>IH a ha g vf ve bY p x (sB (lQ a).kind (lQ a).uf (ap kb (lQ a).kids.length kc)) w B hp hx J Ot hv hm;rw[abU];generalize db bY a p=R at*;obtain⟨⟨e,first,last⟩,p'⟩:=R;dsimp only at E7 Qr Ww hp4 Z_⊢;clear abU;unfold nK at hm;refine dZ hm (args:=[aK (aj ⟨g,0,ak⟩),sB 6 C4.zero (ap (aj ⟨b,off,ak⟩) 1 ck)]) (n:=176) Tryz.func112 I I I ?_;clear hm;refine bC (aM (b_ I I I λg3=>bz I λg4=>?_));refine zL ?_
 repeat(first|refine GA ?_|refine gV (aB (v:=av az 6) aL.ty I (aH (i:=6) I I)) ?_|refine gV (aB (v:=ap (aj ⟨b,off,ak⟩) 1 ck) aL.ty I (aH (i:=6) I I)) ?_|refine gV (a_ (j:=0) bR.eq aL.ty I I ahk) ?_|refine gV (bH aL.ty I I (d_ _)) ?_)
 refine bK [0,1,2,3,4,5] [6,7] ahk I I (gK aJ.en I I I) (λw hm hb=>hIH w _ (fz (hm.pick [0,1,2,3,4,5] ahk I) SV) hb) I I I ?_;rintro⟨⟨vc,vr,vfol,vl,vs,F⟩,va,vb⟩ Nj;have Nj:vs.length=p'.follow.length:=Nj
 conv=>arg 8;simp only[zJ,dg,ret,id_eq,dc,nK]
 conv=>arg 7;simp only[dc]
 refine aY (i:=8) I λagT aeC=>?_;refine aY (i:=9) I λagU aeD=>?_;refine bz I λg6=>?_;refine zL ?_;refine aZ (i:=10) (cs':=#[.bool e,va,vb]) I I I I (by simp only[dw,dA,aeC,aeD];rfl) I ?_;refine zL ?_
 repeat(first|refine GA ?_|refine gV (aB (v:=vb) aL.ty I (aH (i:=10) I I)) ?_|refine gV (aB (v:=va) aL.ty I (aH (i:=10) I I)) ?_)
 refine bK [2,5,6,9,8] [0,1,3,4,7,10] ahk I I (tH aJ.en I I I I) (λw hm hb=>yU g vc vr vf vfol vl ve bY vb va vs F p'.follow last first w _ Nj (by rw[E7.follow];omega) (by rw[E7.follow];exact E7.ris) (by rw[E7.follow];exact Z_) (by rw[E7.follow];exact hp4) hb) I I I ?_;rintro⟨pJ,F'⟩ gh;have gh:pJ.length=p'.follow.length:=gh
 conv=>arg 8;simp only[zJ,dg,ret,id_eq,QE]
 try refine GA ?_
 refine cD (i:=5) I I I I I I ?_;refine zL ?_
 repeat(first|refine GA ?_|refine gV (aQ (i:=5) aL.ty I I I) ?_)
 refine aZ (i:=1) (cs':=#[.bool aD,va,vb]) I I I I (by simp only[dw,dA,aeC,aeD];rfl) I ?_;refine zL ?_
 try refine GA ?_
 refine h_ (i:=1) I I I I λw hm=>?_;exact hm.cX (S:=dc g vf ve bY (⟨aD,first,last⟩,{p' with follow:=fP p'.follow last first})) (⟨vc,vr,vfol,vl,pJ,F'⟩,va,vb) (by show pJ.length=(fP p'.follow last first).length;rw[k_];exact gh) [6,2,3,7,8,4,10,9] ahk I
end cZ
namespace cZ
open Go.RowKit dr eH dT iA fq
theorem nD(e:Bool)(b b':Option Addr)(m m' k k':Nat)(w:World):(dR 244 #[(0,.bool e),(1,ap b m k),(2,ap b' m' k')]).run aC w= .ok (aU #[.bool e,ap b m k,ap b' m' k']) w:=by
 go_simp
set_option maxRecDepth 100000 in
theorem WQ{M:Nat}(IH:Iu M)(a b1:Re)(ha:a.size<=M)(K0:b1.size<=M)(g:Nat)(vf ve:Value)(bY:Int)(p:PS)(x:T8)(v:Value)(w:World)(B:b9)(hp:K4 p)(hx:x.vs.length=p.follow.length)(hn:p.bx.length+(a.size+b1.size+1)<=100000)(Ot:dr.eD bY)(hv:om (Au B) B.w v (lQ (.HR a b1)))(hm:Mem B (nK g vf ve bY x p) w):
 Calls aC 112 #[aK (aj ⟨g,0,ak⟩),v] w (dF (dc g vf ve bY (db bY (.HR a b1) p)) B):=by
 obtain⟨vk,rfl,_,Qc⟩:=hv;obtain⟨bk,ck,rfl,h1,h2,h3⟩:=Qc;obtain⟨b,off,rfl,hF,fl⟩:=h3 (by show 0<2;decide);obtain⟨kb,kc,hr,uY⟩:=qx (k:=0) fl (by show 0<2;decide);obtain⟨kb2,kc2,we,lc⟩:=qx (k:=1) fl (by show 1<2;decide);have Iw:=λ(L:List cU) (j:Nat) (v:Value) hj=>sN (L:=L) hF hr j v hj;have tC:=λ(L:List cU) (j:Nat) (v:Value) hj=>sN (L:=L) hF we j v hj;clear h3 fl hr we;obtain⟨E7,Qr,Ww,hp4,Z_⟩:=lV bY a p hp;obtain⟨kp1,kp2,kp3,kp4,kp5⟩:=lV bY b1 _ E7;have SX:=λw B hv hm=>IH a ha g vf ve bY p x (sB (lQ a).kind (lQ a).uf (ap kb (lQ a).kids.length kc)) w B hp hx J Ot hv hm;have Aw:=λx1 kB w B hv hm=>IH b1 K0 g vf ve bY (db bY a p).2 x1 (sB (lQ b1).kind (lQ b1).uf (ap kb2 (lQ b1).kids.length kc2)) w B E7 kB J Ot hv hm;rw[show db bY (.HR a b1) p=(⟨(db bY a p).1.empty||(db bY b1 (db bY a p).2).1.empty,r_ (db bY a p).1.first (db bY b1 (db bY a p).2).1.first,r_ (db bY a p).1.last (db bY b1 (db bY a p).2).1.last⟩,(db bY b1 (db bY a p).2).2)from I];generalize db bY b1 (db bY a p).2=R2 at*;generalize db bY a p=R1 at*;obtain⟨⟨e1,iw,kK⟩,p1⟩:=R1;obtain⟨⟨e2,iG,kl⟩,p2⟩:=R2;dsimp only at E7 Qr Ww hp4 Z_ kp1 kp2 kp3 kp4 kp5 Aw⊢;unfold nK at hm;refine dZ hm (args:=[aK (aj ⟨g,0,ak⟩),sB 5 C4.zero (ap (aj ⟨b,off,ak⟩) 2 ck)]) (n:=176) Tryz.func112 I I I ?_;clear hm;refine bC (aM (b_ I I I λg3=>bz I λg4=>?_));refine zL ?_
 repeat(first|refine GA ?_|refine gV (aB (v:=av az 5) aL.ty I (aH (i:=6) I I)) ?_)
 (repeat refine bC ?_)
 refine l_ (ι:=T8×Value×Value×Value×Value×Nat×Nat) (λy=>y.1.vs.length=p2.follow.length) (λy=>[(0,aK (aj ⟨g,0,ak⟩)),(4,aK (aj ⟨g4,0,ak⟩)),(7,aK (aj ⟨y.2.2.2.2.2.1,0,ak⟩)),(8,aK (aj ⟨y.2.2.2.2.2.2,0,ak⟩))])
  (λy=>nK g vf ve bY y.1 p2++[gZ y.2.1 iw,gZ y.2.2.1 kK,gZ y.2.2.2.1 iG,gZ y.2.2.2.2.1 kl,aR g4 #[.bool aE,ap ak 0 0,ap ak 0 0] 244,aR y.2.2.2.2.2.1 #[.bool e1,y.2.1,y.2.2.1] 244,aR y.2.2.2.2.2.2 #[.bool e2,y.2.2.2.1,y.2.2.2.2.1] 244]) ?_ ?_
 ·refine eo ([aR g3 (nR 5 C4.zero (ap (aj ⟨b,off,ak⟩) 2 ck)).toArray 119]) (.calm 0 (.calm 1 (.calm 2 (.calm 3 (.calm 4 (.calm 6 (.calm 7 (.calm 8 (.calm 9 (.calm 10 (.three 5 (.three 11 (.two 12 (.one 13 (.one 14 (.one 15 (.done)))) 13 (.one 12 (.one 14 (.one 15 (.done))))) 12 (.two 11 (.one 13 (.one 14 (.one 15 (.done)))) 13 (.one 11 (.one 14 (.one 15 (.done))))) 13 (.two 11 (.one 12 (.one 14 (.one 15 (.done)))) 12 (.one 11 (.one 14 (.one 15 (.done)))))) 12 (.two 5 (.two 11 (.one 13 (.one 14 (.one 15 (.done)))) 13 (.one 11 (.one 14 (.one 15 (.done))))) 13 (.one 5 (.one 11 (.one 14 (.one 15 (.done)))))) 13 (.two 5 (.two 11 (.one 12 (.one 14 (.one 15 (.done)))) 12 (.one 11 (.one 14 (.one 15 (.done))))) 12 (.one 5 (.one 11 (.one 14 (.one 15 (.done))))))))))))))))) (cH [6]) ?_
  repeat(first|refine GW ?_|(refine GN ?_;first|refine QW (aB (v:=ap (aj ⟨b,off,ak⟩) 2 ck) aL.ty I (aH (i:=0) I I)) ?_|refine QW (a_ (j:=0) bR.eq aL.ty I I ahk) ?_|refine QW (a_ (j:=1) bR.eq aL.ty I I ahk) ?_|refine QW (bH aL.ty I I (Iw _)) ?_|refine QW (bH aL.ty I I (tC _)) ?_))
  refine yu I I I ?_ ?_ ?_
  ·refine bK [0,1,2,3,4,5] [6,7] ahk I I (gK aJ.en I I I) (λw hm hb=>SX w _ (fz (hm.pick [0,1,2,3,4,5] ahk I) uY) hb) I I I ?_
   rintro⟨⟨tI,tJ,hZ,tK,nZ,F1⟩,mf,lH⟩ kB;have kB:nZ.length=p1.follow.length:=kB
   conv=>arg 8;simp only[zJ,dg,ret,id_eq,dc,nK]
   conv=>arg 7;simp only[dc]
   refine aP (cH [0]) ?_;refine yu I I I ?_ ?_ ?_
   ·refine bK [2,3,4,5,6,7] [0,1,8,9] ahk I I (gK aJ.en I I I) (λw hm hb=>Aw ⟨tI,tJ,hZ,tK,nZ,F1⟩ kB w _ (fz (hm.pick [2,3,4,5,6,7] ahk I) lc) hb) I I I ?_
    rintro⟨⟨qd,qe,fA,qf,lI,F2⟩,ke,kC⟩ gh;have gh:lI.length=p2.follow.length:=gh
    conv=>arg 8;simp only[zJ,dg,ret,id_eq,dc,nK]
    conv=>arg 7;simp only[dc]
    refine aP (cH [0]) ?_;refine e9 I I ?_ ?_
    ·refine bz I λg7=>(aP (cH [0]) ?_)
     refine aO I (bz I λg8=>(aP (cH [0]) ?_));refine aO I (aY (i:=2) I λ_ pK=>aY (i:=3) I λ_ pL=>aZ (i:=12) (cs':=#[.bool e1,mf,lH]) I I I I (by simp only[dw,dA,pK,pL];rfl) I (aP (cH [0]) ?_))
     try refine GW ?_
     refine aO I (aY (i:=10) I λ_ pM=>aY (i:=11) I λ_ pN=>aZ (i:=13) (cs':=#[.bool e2,ke,kC]) I I I I (by simp only[dw,dA,pM,pN];rfl) I (aP (cH [0]) ?_))
     try refine GW ?_
     refine dS [4,5,6,7,8,9,2,3,10,11,1,12,13] ?_;exact eJ (⟨qd,qe,fA,qf,lI,F2⟩,mf,lH,ke,kC,g7,g8) gh (by repeat' (first|exact dl|refine dh I ?_)) I
    refine bz I λg8=>(aP (cH [0]) ?_);refine aO I (bz I λg7=>(aP (cH [0]) ?_));refine aO I (aY (i:=2) I λ_ pK=>aY (i:=3) I λ_ pL=>aZ (i:=13) (cs':=#[.bool e1,mf,lH]) I I I I (by simp only[dw,dA,pK,pL];rfl) I (aP (cH [0]) ?_))
    try refine GW ?_
    refine aO I (aY (i:=10) I λ_ pM=>aY (i:=11) I λ_ pN=>aZ (i:=12) (cs':=#[.bool e2,ke,kC]) I I I I (by simp only[dw,dA,pM,pN];rfl) I (aP (cH [0]) ?_))
    try refine GW ?_
    refine dS [4,5,6,7,8,9,2,3,10,11,1,13,12] ?_;exact eJ (⟨qd,qe,fA,qf,lI,F2⟩,mf,lH,ke,kC,g7,g8) gh (by repeat' (first|exact dl|refine dh I ?_)) I
   ·refine bz I λg7=>(aP (cH [0]) ?_)
    refine e9 I I ?_ ?_
    ·refine bK [2,3,4,5,6,7] [0,1,8,9,10] ahk I I (gK aJ.en I I I) (λw hm hb=>Aw ⟨tI,tJ,hZ,tK,nZ,F1⟩ kB w _ (fz (hm.pick [2,3,4,5,6,7] ahk I) lc) hb) I I I ?_
     rintro⟨⟨qd,qe,fA,qf,lI,F2⟩,ke,kC⟩ gh;have gh:lI.length=p2.follow.length:=gh
     conv=>arg 8;simp only[zJ,dg,ret,id_eq,dc,nK]
     conv=>arg 7;simp only[dc]
     refine aP (cH [0]) ?_;refine aO I (bz I λg8=>(aP (cH [0]) ?_));refine aO I (aY (i:=2) I λ_ pK=>aY (i:=3) I λ_ pL=>aZ (i:=4) (cs':=#[.bool e1,mf,lH]) I I I I (by simp only[dw,dA,pK,pL];rfl) I (aP (cH [0]) ?_))
     try refine GW ?_
     refine aO I (aY (i:=11) I λ_ pM=>aY (i:=12) I λ_ pN=>aZ (i:=13) (cs':=#[.bool e2,ke,kC]) I I I I (by simp only[dw,dA,pM,pN];rfl) I (aP (cH [0]) ?_))
     try refine GW ?_
     refine dS [5,6,7,8,9,10,2,3,11,12,1,4,13] ?_;exact eJ (⟨qd,qe,fA,qf,lI,F2⟩,mf,lH,ke,kC,g7,g8) gh (by repeat' (first|exact dl|refine dh I ?_)) I
    refine bz I λg8=>(aP (cH [0]) ?_);refine aO I (bK [2,3,4,5,6,7] [0,1,8,9,10,11] ahk I I (gK aJ.en I I I) (λw hm hb=>Aw ⟨tI,tJ,hZ,tK,nZ,F1⟩ kB w _ (fz (hm.pick [2,3,4,5,6,7] ahk I) lc) hb) I I I ?_);rintro⟨⟨qd,qe,fA,qf,lI,F2⟩,ke,kC⟩ gh;have gh:lI.length=p2.follow.length:=gh
    conv=>arg 8;simp only[zJ,dg,ret,id_eq,dc,nK]
    conv=>arg 7;simp only[dc]
    refine aP (cH [0]) ?_;refine aO I (aY (i:=2) I λ_ pK=>aY (i:=3) I λ_ pL=>aZ (i:=4) (cs':=#[.bool e1,mf,lH]) I I I I (by simp only[dw,dA,pK,pL];rfl) I (aP (cH [0]) ?_))
    try refine GW ?_
    refine aO I (aY (i:=12) I λ_ pM=>aY (i:=13) I λ_ pN=>aZ (i:=5) (cs':=#[.bool e2,ke,kC]) I I I I (by simp only[dw,dA,pM,pN];rfl) I (aP (cH [0]) ?_))
    try refine GW ?_
    refine dS [6,7,8,9,10,11,2,3,12,13,1,4,5] ?_;exact eJ (⟨qd,qe,fA,qf,lI,F2⟩,mf,lH,ke,kC,g7,g8) gh (by repeat' (first|exact dl|refine dh I ?_)) I
   refine bz I λg8=>(aP (cH [0]) ?_);refine e9 I I ?_ ?_
   ·refine bK [2,3,4,5,6,7] [0,1,8,9,10] ahk I I (gK aJ.en I I I) (λw hm hb=>Aw ⟨tI,tJ,hZ,tK,nZ,F1⟩ kB w _ (fz (hm.pick [2,3,4,5,6,7] ahk I) lc) hb) I I I ?_
    rintro⟨⟨qd,qe,fA,qf,lI,F2⟩,ke,kC⟩ gh;have gh:lI.length=p2.follow.length:=gh
    conv=>arg 8;simp only[zJ,dg,ret,id_eq,dc,nK]
    conv=>arg 7;simp only[dc]
    refine aP (cH [0]) ?_;refine aO I (bz I λg7=>(aP (cH [0]) ?_));refine aO I (aY (i:=2) I λ_ pK=>aY (i:=3) I λ_ pL=>aZ (i:=13) (cs':=#[.bool e1,mf,lH]) I I I I (by simp only[dw,dA,pK,pL];rfl) I (aP (cH [0]) ?_))
    try refine GW ?_
    refine aO I (aY (i:=11) I λ_ pM=>aY (i:=12) I λ_ pN=>aZ (i:=4) (cs':=#[.bool e2,ke,kC]) I I I I (by simp only[dw,dA,pM,pN];rfl) I (aP (cH [0]) ?_))
    try refine GW ?_
    refine dS [5,6,7,8,9,10,2,3,11,12,1,13,4] ?_;exact eJ (⟨qd,qe,fA,qf,lI,F2⟩,mf,lH,ke,kC,g7,g8) gh (by repeat' (first|exact dl|refine dh I ?_)) I
   refine bz I λg7=>(aP (cH [0]) ?_);refine aO I (bK [2,3,4,5,6,7] [0,1,8,9,10,11] ahk I I (gK aJ.en I I I) (λw hm hb=>Aw ⟨tI,tJ,hZ,tK,nZ,F1⟩ kB w _ (fz (hm.pick [2,3,4,5,6,7] ahk I) lc) hb) I I I ?_);rintro⟨⟨qd,qe,fA,qf,lI,F2⟩,ke,kC⟩ gh;have gh:lI.length=p2.follow.length:=gh
   conv=>arg 8;simp only[zJ,dg,ret,id_eq,dc,nK]
   conv=>arg 7;simp only[dc]
   refine aP (cH [0]) ?_;refine aO I (aY (i:=2) I λ_ pK=>aY (i:=3) I λ_ pL=>aZ (i:=5) (cs':=#[.bool e1,mf,lH]) I I I I (by simp only[dw,dA,pK,pL];rfl) I (aP (cH [0]) ?_))
   try refine GW ?_
   refine aO I (aY (i:=12) I λ_ pM=>aY (i:=13) I λ_ pN=>aZ (i:=4) (cs':=#[.bool e2,ke,kC]) I I I I (by simp only[dw,dA,pM,pN];rfl) I (aP (cH [0]) ?_))
   try refine GW ?_
   refine dS [6,7,8,9,10,11,2,3,12,13,1,5,4] ?_;exact eJ (⟨qd,qe,fA,qf,lI,F2⟩,mf,lH,ke,kC,g7,g8) gh (by repeat' (first|exact dl|refine dh I ?_)) I
  ·refine bz I λg7=>(aP (cH [6]) ?_)
   refine e9 I I ?_ ?_
   ·refine bK [0,1,2,3,4,5] [6,7,8] ahk I I (gK aJ.en I I I) (λw hm hb=>SX w _ (fz (hm.pick [0,1,2,3,4,5] ahk I) uY) hb) I I I ?_
    rintro⟨⟨tI,tJ,hZ,tK,nZ,F1⟩,mf,lH⟩ kB;have kB:nZ.length=p1.follow.length:=kB
    conv=>arg 8;simp only[zJ,dg,ret,id_eq,dc,nK]
    conv=>arg 7;simp only[dc]
    refine aP (cH [0]) ?_;refine e9 I I ?_ ?_
    ·refine bK [3,4,5,6,7,8] [0,1,2,9,10] ahk I I (gK aJ.en I I I) (λw hm hb=>Aw ⟨tI,tJ,hZ,tK,nZ,F1⟩ kB w _ (fz (hm.pick [3,4,5,6,7,8] ahk I) lc) hb) I I I ?_
     rintro⟨⟨qd,qe,fA,qf,lI,F2⟩,ke,kC⟩ gh;have gh:lI.length=p2.follow.length:=gh
     conv=>arg 8;simp only[zJ,dg,ret,id_eq,dc,nK]
     conv=>arg 7;simp only[dc]
     refine aP (cH [0]) ?_;refine aO I (bz I λg8=>(aP (cH [0]) ?_));refine aO I (aY (i:=3) I λ_ pK=>aY (i:=4) I λ_ pL=>aZ (i:=2) (cs':=#[.bool e1,mf,lH]) I I I I (by simp only[dw,dA,pK,pL];rfl) I (aP (cH [0]) ?_))
     try refine GW ?_
     refine aO I (aY (i:=11) I λ_ pM=>aY (i:=12) I λ_ pN=>aZ (i:=13) (cs':=#[.bool e2,ke,kC]) I I I I (by simp only[dw,dA,pM,pN];rfl) I (aP (cH [0]) ?_))
     try refine GW ?_
     refine dS [5,6,7,8,9,10,3,4,11,12,1,2,13] ?_;exact eJ (⟨qd,qe,fA,qf,lI,F2⟩,mf,lH,ke,kC,g7,g8) gh (by repeat' (first|exact dl|refine dh I ?_)) I
    refine bz I λg8=>(aP (cH [0]) ?_);refine aO I (bK [3,4,5,6,7,8] [0,1,2,9,10,11] ahk I I (gK aJ.en I I I) (λw hm hb=>Aw ⟨tI,tJ,hZ,tK,nZ,F1⟩ kB w _ (fz (hm.pick [3,4,5,6,7,8] ahk I) lc) hb) I I I ?_);rintro⟨⟨qd,qe,fA,qf,lI,F2⟩,ke,kC⟩ gh;have gh:lI.length=p2.follow.length:=gh
    conv=>arg 8;simp only[zJ,dg,ret,id_eq,dc,nK]
    conv=>arg 7;simp only[dc]
    refine aP (cH [0]) ?_;refine aO I (aY (i:=3) I λ_ pK=>aY (i:=4) I λ_ pL=>aZ (i:=2) (cs':=#[.bool e1,mf,lH]) I I I I (by simp only[dw,dA,pK,pL];rfl) I (aP (cH [0]) ?_))
    try refine GW ?_
    refine aO I (aY (i:=12) I λ_ pM=>aY (i:=13) I λ_ pN=>aZ (i:=5) (cs':=#[.bool e2,ke,kC]) I I I I (by simp only[dw,dA,pM,pN];rfl) I (aP (cH [0]) ?_))
    try refine GW ?_
    refine dS [6,7,8,9,10,11,3,4,12,13,1,2,5] ?_;exact eJ (⟨qd,qe,fA,qf,lI,F2⟩,mf,lH,ke,kC,g7,g8) gh (by repeat' (first|exact dl|refine dh I ?_)) I
   refine bz I λg8=>(aP (cH [6]) ?_);refine aO I (bK [0,1,2,3,4,5] [6,7,8,9] ahk I I (gK aJ.en I I I) (λw hm hb=>SX w _ (fz (hm.pick [0,1,2,3,4,5] ahk I) uY) hb) I I I ?_);rintro⟨⟨tI,tJ,hZ,tK,nZ,F1⟩,mf,lH⟩ kB;have kB:nZ.length=p1.follow.length:=kB
   conv=>arg 8;simp only[zJ,dg,ret,id_eq,dc,nK]
   conv=>arg 7;simp only[dc]
   refine aP (cH [0]) ?_;refine aO I (bK [4,5,6,7,8,9] [0,1,2,3,10,11] ahk I I (gK aJ.en I I I) (λw hm hb=>Aw ⟨tI,tJ,hZ,tK,nZ,F1⟩ kB w _ (fz (hm.pick [4,5,6,7,8,9] ahk I) lc) hb) I I I ?_);rintro⟨⟨qd,qe,fA,qf,lI,F2⟩,ke,kC⟩ gh;have gh:lI.length=p2.follow.length:=gh
   conv=>arg 8;simp only[zJ,dg,ret,id_eq,dc,nK]
   conv=>arg 7;simp only[dc]
   refine aP (cH [0]) ?_;refine aO I (aY (i:=4) I λ_ pK=>aY (i:=5) I λ_ pL=>aZ (i:=2) (cs':=#[.bool e1,mf,lH]) I I I I (by simp only[dw,dA,pK,pL];rfl) I (aP (cH [0]) ?_))
   try refine GW ?_
   refine aO I (aY (i:=12) I λ_ pM=>aY (i:=13) I λ_ pN=>aZ (i:=3) (cs':=#[.bool e2,ke,kC]) I I I I (by simp only[dw,dA,pM,pN];rfl) I (aP (cH [0]) ?_))
   try refine GW ?_
   refine dS [6,7,8,9,10,11,4,5,12,13,1,2,3] ?_;exact eJ (⟨qd,qe,fA,qf,lI,F2⟩,mf,lH,ke,kC,g7,g8) gh (by repeat' (first|exact dl|refine dh I ?_)) I
  refine bz I λg8=>(aP (cH [6]) ?_);refine e9 I I ?_ ?_
  ·refine bK [0,1,2,3,4,5] [6,7,8] ahk I I (gK aJ.en I I I) (λw hm hb=>SX w _ (fz (hm.pick [0,1,2,3,4,5] ahk I) uY) hb) I I I ?_
   rintro⟨⟨tI,tJ,hZ,tK,nZ,F1⟩,mf,lH⟩ kB;have kB:nZ.length=p1.follow.length:=kB
   conv=>arg 8;simp only[zJ,dg,ret,id_eq,dc,nK]
   conv=>arg 7;simp only[dc]
   refine aP (cH [0]) ?_;refine e9 I I ?_ ?_
   ·refine bK [3,4,5,6,7,8] [0,1,2,9,10] ahk I I (gK aJ.en I I I) (λw hm hb=>Aw ⟨tI,tJ,hZ,tK,nZ,F1⟩ kB w _ (fz (hm.pick [3,4,5,6,7,8] ahk I) lc) hb) I I I ?_
    rintro⟨⟨qd,qe,fA,qf,lI,F2⟩,ke,kC⟩ gh;have gh:lI.length=p2.follow.length:=gh
    conv=>arg 8;simp only[zJ,dg,ret,id_eq,dc,nK]
    conv=>arg 7;simp only[dc]
    refine aP (cH [0]) ?_;refine aO I (bz I λg7=>(aP (cH [0]) ?_));refine aO I (aY (i:=3) I λ_ pK=>aY (i:=4) I λ_ pL=>aZ (i:=13) (cs':=#[.bool e1,mf,lH]) I I I I (by simp only[dw,dA,pK,pL];rfl) I (aP (cH [0]) ?_))
    try refine GW ?_
    refine aO I (aY (i:=11) I λ_ pM=>aY (i:=12) I λ_ pN=>aZ (i:=2) (cs':=#[.bool e2,ke,kC]) I I I I (by simp only[dw,dA,pM,pN];rfl) I (aP (cH [0]) ?_))
    try refine GW ?_
    refine dS [5,6,7,8,9,10,3,4,11,12,1,13,2] ?_;exact eJ (⟨qd,qe,fA,qf,lI,F2⟩,mf,lH,ke,kC,g7,g8) gh (by repeat' (first|exact dl|refine dh I ?_)) I
   refine bz I λg7=>(aP (cH [0]) ?_);refine aO I (bK [3,4,5,6,7,8] [0,1,2,9,10,11] ahk I I (gK aJ.en I I I) (λw hm hb=>Aw ⟨tI,tJ,hZ,tK,nZ,F1⟩ kB w _ (fz (hm.pick [3,4,5,6,7,8] ahk I) lc) hb) I I I ?_);rintro⟨⟨qd,qe,fA,qf,lI,F2⟩,ke,kC⟩ gh;have gh:lI.length=p2.follow.length:=gh
   conv=>arg 8;simp only[zJ,dg,ret,id_eq,dc,nK]
   conv=>arg 7;simp only[dc]
   refine aP (cH [0]) ?_;refine aO I (aY (i:=3) I λ_ pK=>aY (i:=4) I λ_ pL=>aZ (i:=5) (cs':=#[.bool e1,mf,lH]) I I I I (by simp only[dw,dA,pK,pL];rfl) I (aP (cH [0]) ?_))
   try refine GW ?_
   refine aO I (aY (i:=12) I λ_ pM=>aY (i:=13) I λ_ pN=>aZ (i:=2) (cs':=#[.bool e2,ke,kC]) I I I I (by simp only[dw,dA,pM,pN];rfl) I (aP (cH [0]) ?_))
   try refine GW ?_
   refine dS [6,7,8,9,10,11,3,4,12,13,1,5,2] ?_;exact eJ (⟨qd,qe,fA,qf,lI,F2⟩,mf,lH,ke,kC,g7,g8) gh (by repeat' (first|exact dl|refine dh I ?_)) I
  refine bz I λg7=>(aP (cH [6]) ?_);refine aO I (bK [0,1,2,3,4,5] [6,7,8,9] ahk I I (gK aJ.en I I I) (λw hm hb=>SX w _ (fz (hm.pick [0,1,2,3,4,5] ahk I) uY) hb) I I I ?_);rintro⟨⟨tI,tJ,hZ,tK,nZ,F1⟩,mf,lH⟩ kB;have kB:nZ.length=p1.follow.length:=kB
  conv=>arg 8;simp only[zJ,dg,ret,id_eq,dc,nK]
  conv=>arg 7;simp only[dc]
  refine aP (cH [0]) ?_;refine aO I (bK [4,5,6,7,8,9] [0,1,2,3,10,11] ahk I I (gK aJ.en I I I) (λw hm hb=>Aw ⟨tI,tJ,hZ,tK,nZ,F1⟩ kB w _ (fz (hm.pick [4,5,6,7,8,9] ahk I) lc) hb) I I I ?_);rintro⟨⟨qd,qe,fA,qf,lI,F2⟩,ke,kC⟩ gh;have gh:lI.length=p2.follow.length:=gh
  conv=>arg 8;simp only[zJ,dg,ret,id_eq,dc,nK]
  conv=>arg 7;simp only[dc]
  refine aP (cH [0]) ?_;refine aO I (aY (i:=4) I λ_ pK=>aY (i:=5) I λ_ pL=>aZ (i:=3) (cs':=#[.bool e1,mf,lH]) I I I I (by simp only[dw,dA,pK,pL];rfl) I (aP (cH [0]) ?_))
  try refine GW ?_
  refine aO I (aY (i:=12) I λ_ pM=>aY (i:=13) I λ_ pN=>aZ (i:=2) (cs':=#[.bool e2,ke,kC]) I I I I (by simp only[dw,dA,pM,pN];rfl) I (aP (cH [0]) ?_))
  try refine GW ?_
  refine dS [6,7,8,9,10,11,4,5,12,13,1,3,2] ?_;exact eJ (⟨qd,qe,fA,qf,lI,F2⟩,mf,lH,ke,kC,g7,g8) gh (by repeat' (first|exact dl|refine dh I ?_)) I
 clear SX Aw Iw tC;rintro⟨⟨vc,vr,vfol,vl,vs,F⟩,mf,lH,ke,kC,g7,g8⟩ gh;have gh:vs.length=p2.follow.length:=gh;dsimp only
 conv=>arg 7;simp only[zA,zB,zC,zD,zE,zF,zG,zH,zI,dg,ret,id_eq,nK]
 have Nv:=ka hp4;have Ny:=ka Z_;have hl3:=ka kp4;have hl4:=ka kp5
 cases e1 with
 | true=>
  (repeat refine bC ?_)
  refine eo ([aR g7 #[.bool aD,mf,lH] 244,aR g8 #[.bool e2,ke,kC] 244]) (.calm 0 (.calm 1 (.calm 2 (.calm 3 (.calm 4 (.calm 5 (.calm 6 (.calm 7 (.calm 8 (.calm 9 (.calm 11 (.calm 12 (.calm 13 (.calm 14 (.one 10 (.one 15 (.calm 16 (.one 17 (.done))))))))))))))))))) (cH [11,12]) ?_
  repeat(first|refine GW ?_|(refine GN ?_;first|refine QW (aB aL.ty I (aH (i:=0) I I)) ?_|refine QW (aB aL.ty I (aH (i:=1) I I)) ?_))
  refine aO I (a8 (gK aJ.en I I I) (λw' hm=>iL mf ke iw iG w' (Sl.dY (hm.get (i:=6) I)) (Sl.dY (hm.get (i:=8) I)) J J) I I I ?_);intro vu _
  conv=>arg 8;simp only[zJ,dg,ret,id_eq,tj]
  refine aP (cH [11,12]) ?_
  try refine GW ?_
  refine aO I (a8 (gK aJ.en I I I) (λw' hm=>iL lH kC kK kl w' (Sl.dY (hm.get (i:=7) I)) (Sl.dY (hm.get (i:=9) I)) J J) I I I ?_);intro vu2 _
  conv=>arg 8;simp only[zJ,dg,ret,id_eq,tj]
  refine nJ (i:=13) I λbu cu hu _ _=>?_;refine nJ (i:=14) I λbu2 cu2 hu2 _ _=>?_;subst hu hu2;refine aP (cH [11,12]) ?_
  repeat(first|refine GW ?_|(refine GN ?_;first|refine QW (bP I (nD _ _ _ _ _ _ _)) ?_))
  refine aO I (aZ (i:=10) (cs':=#[.bool aD,ap bu (r_ iw iG).length cu,ap bu2 (r_ kK kl).length cu2]) I I I I I I (aP (cH [11,12]) ?_))
  try refine GW ?_
  try refine GA ?_
  refine h_ (i:=10) I I I I λw hm=>?_;exact hm.cX (S:=dc g vf ve bY (⟨aD||e2,r_ iw iG,r_ kK kl⟩,p2)) (⟨vc,vr,vfol,vl,vs,F⟩,ap bu (r_ iw iG).length cu,ap bu2 (r_ kK kl).length cu2) gh [0,1,2,3,4,5,13,14] ahk I
 | false=>
  (repeat refine bC ?_)
  refine eo ([aR g7 #[.bool aE,mf,lH] 244,aR g8 #[.bool e2,ke,kC] 244]) (.calm 0 (.calm 1 (.calm 2 (.calm 3 (.calm 4 (.calm 5 (.calm 6 (.calm 7 (.calm 8 (.calm 9 (.calm 11 (.calm 12 (.calm 13 (.calm 14 (.one 10 (.one 15 (.calm 16 (.one 17 (.done))))))))))))))))))) (cH [11,12]) ?_
  repeat(first|refine GW ?_|(refine GN ?_;first|refine QW (aB aL.ty I (aH (i:=0) I I)) ?_|refine QW (aB aL.ty I (aH (i:=1) I I)) ?_))
  refine aO I (a8 (gK aJ.en I I I) (λw' hm=>iL mf ke iw iG w' (Sl.dY (hm.get (i:=6) I)) (Sl.dY (hm.get (i:=8) I)) J J) I I I ?_);intro vu _
  conv=>arg 8;simp only[zJ,dg,ret,id_eq,tj]
  refine aP (cH [11,12]) ?_
  try refine GW ?_
  refine aO I (a8 (gK aJ.en I I I) (λw' hm=>iL lH kC kK kl w' (Sl.dY (hm.get (i:=7) I)) (Sl.dY (hm.get (i:=9) I)) J J) I I I ?_);intro vu2 _
  conv=>arg 8;simp only[zJ,dg,ret,id_eq,tj]
  refine nJ (i:=13) I λbu cu hu _ _=>?_;refine nJ (i:=14) I λbu2 cu2 hu2 _ _=>?_;subst hu hu2;refine aP (cH [11,12]) ?_
  repeat(first|refine GW ?_|(refine GN ?_;first|refine QW (bP I (nD _ _ _ _ _ _ _)) ?_))
  refine aO I (aZ (i:=10) (cs':=#[.bool e2,ap bu (r_ iw iG).length cu,ap bu2 (r_ kK kl).length cu2]) I I I I I I (aP (cH [11,12]) ?_))
  try refine GW ?_
  try refine GA ?_
  refine h_ (i:=10) I I I I λw hm=>?_;exact hm.cX (S:=dc g vf ve bY (⟨aE||e2,r_ iw iG,r_ kK kl⟩,p2)) (⟨vc,vr,vfol,vl,vs,F⟩,ap bu (r_ iw iG).length cu,ap bu2 (r_ kK kl).length cu2) gh [0,1,2,3,4,5,13,14] ahk I
end cZ
end Go.Proofs.YtdmgcnggnejnnaaGreat

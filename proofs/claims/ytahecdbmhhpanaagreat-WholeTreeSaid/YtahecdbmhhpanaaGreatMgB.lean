/- Part 2 of what WholeTree needs: Dfa, SmB, MapN, Fam, Sym, SymS, Gram, GramN, TreeL, TreeM, CountL, CountN, CountT, CountR, TreeW, CountX, FactsL, FactsM, FactsN, FactsP, FactsQ, FactsR, Der, CountU, LlL, TreeE, TreeP, ClimbL, ClimbO, DfS, PlacesL, PlacesM, PlacesS, DfaP, SortC, SortI, IntO, IntK, PlU, PlB, PlN, PlS, PlA, PlC, PlD, PlM, PlR, SmIe, BoE, PlE, PlP. -/
import Derived.Test.YtahecdbmhhpanaaGreatMgA
import Derived.Lib.SlicesCompact
import Derived.Shelf.Sort.Plain
import Derived.Ground.Names2Prog
import Derived.Shelf.Slices.CompactI
import Derived.Shelf.Slices.In.SortNone
import Derived.Lib.RowBridge
namespace Go.Proofs.YtahecdbmhhpanaaGreat
set_option linter.unusedVariables false
set_option linter.unusedSimpArgs false
open _root_.And renaming intro->cP
open _root_.Array renaming getElem?_eq_some_iff->lL,getElem?_toList->re,getElem?_eq_getElem->yA,getElem?_modify->EE
open _root_.BitVec renaming ofNat->iw
open _root_.Bool renaming true->aB,false->aE,and_eq_true->eE,or_eq_true->ko,or_eq_false_iff->yB,and_true->QE,true_or->QF,or_true->QG
open _root_.Go.Instr renaming build->da,field->Z7
open _root_.Go.IntKind renaming i64->av,bits->me,wrap_u64->um,u64->uo
open _root_.Go.Lib renaming compact->rf
open _root_.Go.Op renaming shift->iM
open _root_.Go.Proofs.Tryz renaming prog->aC
open _root_.Go.Value renaming slice->ak,int->ap,pointer->aH,agg->aP,bool->fW
open _root_.Go.Value.slice renaming injEq->kq
open _root_.Int renaming toNat_natCast->de,eq_ofNat_of_zero_le->fJ,toNat_of_nonneg->uP
open _root_.List renaming getElem?_eq_getElem->bL,getD_eq_getElem?_getD->cH,length_append->bT,getElem_mem->bX,getElem?_eq_some_iff->dK,drop_eq_getElem_cons->dL,all_cons->cY,length_cons->dj,replicate->c_,all_nil->db,mem_cons->dw,mem_singleton->ez,take_succ_eq_append_getElem->ic,append_assoc->eu,length_map->dY,map_append->eK,take_of_length_le->gD,flatMap_append->ie,mem_cons_self->gX,not_mem_nil->fC,range->d_,nil_append->fD,length_drop->je,getElem?_map->iN,mem_map->fE,mem_cons_of_mem->lU,mem_append->ib,eq_nil_of_length_eq_zero->mT,mem_iff_getElem->ku,getElem?_eq_none->nF,drop_drop->kw,length_take->jr,take_append_drop->oK,flatMap_cons->lQ,ext_getElem?->mf,length_nil->nG,getElem_map->oR,foldl_cons->rh,length->ky,mem_range->q8,drop_eq_nil_of_le->yC,any_eq_true->pC,cons_append->mg,filterMap_cons_some->A6,getElem?_set->EF,getElem?_take->yD,filterMap_append->Bk,drop_left->EG,map_set->uQ,foldl_append->QH,mem_flatMap->QI,mem_or_eq_of_mem_set->Z8,filterMap_cons_none->Z9,pairwise_singleton->Z_,length_eq_zero_iff->Z',length_mergeSort->aaa,pairwise_cons->aab,getElem_set->aac,length_set->aad,take_left->aae,take_add->aaf,map->QJ
open _root_.List.Pairwise renaming nil->ahb
open _root_.List.cons renaming injEq->fL
open _root_.Nat renaming le_refl->aX,zero_le->bC,zero_add->cU,le_trans->eL,lt_of_lt_of_le->jt,blt->dx,add_assoc->iO,mul_le_mul->oT,add_zero->mi,mul_one->lR,testBit_or->Bl,pos_of_mul_pos_right->QM,pos_of_mul_pos_left->QN,lt_of_le_of_lt->Bm,le_antisymm->Ki,lt_min->EH,le_add_right->QO,min_le_left->QQ,testBit_two_pow_self->aag,pow_lt_pow_right->aah,add_le_add->aai,le_succ->EI,succ_pos->aaj,mul_pos->aak,le_min->aal
open _root_.Option renaming some->ah,none->aj
open _root_.Option.some renaming injEq->dM
open _root_.Prod.mk renaming injEq->ju
open _root_.True renaming intro->cZ
open _root_.UInt8 renaming ofNat->fN
open _root_.Vector renaming replicate->eg
set_option maxHeartbeats 16000000
namespace cB
open Go.RowKit cL dV zP
theorem ahc{rows:List (List Int)}{i:Nat}(hi:i<rows.length):rows.getD i []=rows[i]:=by rw[cH,bL hi];rfl
theorem QR{l:List Int}{i:Nat}(hi:i<l.length):l.getD i 0=l[i]:=by rw[cH,bL hi];rfl
theorem Wf{n i:Nat}{p:Nat->Bool}(hi:i<n)(h:p i=aB):(d_ n).any p=true:=pC.2 ⟨i,q8.2 hi,h⟩
theorem EJ(v:Value)(rows:List (List Int))(tags:List Int)(w:World)(h:agb w v rows tags):
 Calls aC 98 #[v] w (cJ (ret (ap av (Bj rows tags))) w):=by
 obtain⟨vr,vt,rfl,hr,ht,alB⟩:=h;obtain⟨br,cr,rfl,Wg,qE,xG⟩:=hr;have ht':=ht.sl (f:= .int .i64) λcs a h=>h.1;obtain⟨bt,ct,rfl,ht1,ht2,Mb⟩:=ht';have htr:∀i (hi:i<tags.length),-9223372036854775808<=tags[i]/\tags[i]<=9223372036854775807:=λi hi=>by
  obtain⟨_,_,_,_,_,h5⟩:=ht;obtain⟨_,_,_,h6⟩:=h5 J;obtain⟨_,h7,_⟩:=h6 i hi;exact h7.2
 clear ht;unfold maxLen at qE ht2;refine enter (args:=[aP #[ak br rows.length cr,ak bt tags.length ct]]) (n:=57) Tryz.func98 I I I ?_;refine bZ (bx (bH I I I λg=>?_))
 repeat(first|refine GA ?_|refine gV (aw aI.ty I (aD (i:=0) I I)) ?_)
 unfold Bj
 by_cases c1:200<rows.length
 ·rw[if_pos c1]
  try refine GA ?_
  exact dQ
 ·rw[if_neg c1]
  by_cases c2:rows.length=0
  ·rw[if_pos (.inl c2)]
   repeat(first|refine GA ?_|refine gV (aw aI.ty I (aD (i:=0) I I)) ?_)
   exact dQ
  by_cases c3:tags.length=rows.length
  ·rw[if_neg J]
   repeat(first|refine GA ?_|refine gV (aw aI.ty I (aD (i:=0) I I)) ?_)
   refine kO (ι:=Nat) (λi=>i<=rows.length/\∀j,j<i->nE rows.length (tags.getD j 0) (rows.getD j [])=aE) (λi=>[(1,aH (ah ⟨g,0,aj⟩)),(3,ap av rows.length),(21,ap av rows.length),(22,ap av (i:Int))]) (λ_=>[aK g #[ak br rows.length cr,ak bt tags.length ct] 162]) (λi=>rows.length-i) 0 ⟨by omega,λj hj=>by omega⟩ ⟨rfl,rfl,rfl,rfl,trivial⟩ I ?_;rintro i ⟨h1,h2⟩
   by_cases c4:i<rows.length
   ·obtain⟨b,off,rfl,hb⟩:=xG J
    obtain⟨b',Bn,rfl,Mn⟩:=Mb J;have c4':i<tags.length:=by omega
    have eC:=Zr (L:=[aK g #[ak (ah ⟨b,off,aj⟩) rows.length cr,ak (ah ⟨b',Bn,aj⟩) tags.length ct] 162]) Mn c4';obtain⟨cs,hcs,fu⟩:=hb i c4;obtain⟨q1,q2,q3⟩:=hcs;have hti:=htr i c4';have Yj:=QR c4';have hra:=ahc c4;have oz:∀(P:Prop),nE rows.length (tags.getD i 0) (rows.getD i [])=aB->(if(d_ rows.length).any (λi=>nE rows.length (tags.getD i 0) (rows.getD i []))=aB then(1:Int)else 0)=1:=λ_ h=>if_pos (Wf c4 h);rw[Yj,hra]at oz
    by_cases c5:tags[i]< -1
    ·rw[oz True (by simp[nE,c5])]
     repeat(first|refine GA ?_|refine gV (aw aI.ty I (aD (i:=0) I I)) ?_|refine gV (bO bM.eq aI.ty I I c4') ?_|refine gV (aw aI.ty I eC) ?_)
     exact dQ
    by_cases c6:20<=tags[i]
    ·rw[oz True (by simp[nE,c6])]
     repeat(first|refine GA ?_|refine gV (aw aI.ty I (aD (i:=0) I I)) ?_|refine gV (bO bM.eq aI.ty I I c4') ?_|refine gV (aw aI.ty I eC) ?_)
     exact dQ
    repeat(first|refine GA ?_|refine gV (aw aI.ty I (aD (i:=0) I I)) ?_|refine gV (bO bM.eq aI.ty I I c4') ?_|refine gV (aw aI.ty I eC) ?_|refine gV (aR bM.eq aI.ty I I c4) ?_|refine gV (aW aI.ty I (by rw[q2,dY,q1]) (λj v hj=>jE fu hj)) ?_)
    refine kO (ι:=Nat) (λb=>b<=256/\∀q,q<b-> -1<=rows[i].getD q 0/\rows[i].getD q 0<rows.length) (λb=>[(1,aH (ah ⟨g,0,aj⟩)),(3,ap av rows.length),(21,ap av rows.length),(22,ap av (i:Int)),(43,aP cs.toArray),(44,ap av (b:Int))]) (λ_=>[aK g #[ak (ah ⟨b,off,aj⟩) rows.length cr,ak (ah ⟨b',Bn,aj⟩) tags.length ct] 162]) (λb=>256-b) 0 ⟨by omega,λq hq=>by omega⟩ ⟨rfl,rfl,rfl,rfl,rfl,rfl,trivial⟩ I ?_;rintro q ⟨k1,k2⟩
    by_cases c7:q<256
    ·have hql:q<rows[i].length:=by omega
     have hqv:=QR hql;have hcell:cs.toArray[q]?=ah (.int .i16 rows[i][q]):=by rw[q2];simp[hql]
     have hq3:=q3 _ (bX hql);have aeb:rows[i][q]∈rows[i]:=bX hql;generalize rows[i][q]=z at*
     by_cases c8:z< -1
     ·rw[oz True (by simp only[nE,ko,pC];exact .inr ⟨z,aeb,by simp[c8]⟩)]
      clear k2 h2 xG Mb
      repeat(first|refine GA ?_|refine gV (jw bM.eq aI.ty I I c7 hcell) ?_|refine gV (iT bM.eq bM.eq I (n9 J J)) ?_)
      exact dQ
     by_cases c9:(rows.length:Int)<=z
     ·rw[oz True (by simp only[nE,ko,pC];exact .inr ⟨z,aeb,by simp[c9]⟩)]
      clear k2 h2 xG Mb
      repeat(first|refine GA ?_|refine gV (jw bM.eq aI.ty I I c7 hcell) ?_|refine gV (iT bM.eq bM.eq I (n9 J J)) ?_)
      exact dQ
     repeat(first|refine GA ?_|refine gV (jw bM.eq aI.ty I I c7 hcell) ?_|refine gV (iT bM.eq bM.eq I (n9 J J)) ?_)
     exact ik (q+1) ⟨by omega,λq' zn=>if e:q'<q then k2 q' e else(by obtain rfl:q'=q:=J;rw[hqv];omega)⟩ (by show 256-(q+1)<256-q;omega) ⟨rfl,rfl,rfl,rfl,rfl,rfl,trivial⟩ I
    have uR:nE rows.length (tags.getD i 0) (rows.getD i [])=false:=by
     rw[Yj,hra];simp only[nE,yB,decide_eq_false_iff_not,List.any_eq_false,Bool.not_eq_true];refine⟨⟨c5,c6⟩,λz hz=>?_⟩;obtain⟨q',zn,rfl⟩:=ku.1 hz;have:=k2 q' J;rw[QR zn]at this;simp;omega
    try refine GA ?_
    exact ik (i+1) ⟨by omega,λj hj=>if e:j<i then h2 j e else(by obtain rfl:j=i:=J;exact uR)⟩ (by show rows.length-(i+1)<rows.length-i;omega) ⟨rfl,rfl,rfl,rfl,trivial⟩ I
   have hno:¬(d_ rows.length).any (λi=>nE rows.length (tags.getD i 0) (rows.getD i []))=true:=by
    simp only[pC,q8,not_exists,not_and];intro j hj;rw[h2 j J];simp
   rw[if_neg hno]
   try refine GA ?_
   exact dQ
  rw[if_pos (.inr c3)]
  repeat(first|refine GA ?_|refine gV (aw aI.ty I (aD (i:=0) I I)) ?_)
  exact dQ
end cB
namespace cX
structure t_ where
 n:Nat
 d:Nat->Nat->Int
 tag:Nat->Int
structure t_.Ok(A:t_):Prop where
 pos:0<A.n
 le:A.n<=200
 step:∀i,i<A.n->∀b,b<256-> -1<=A.d i b/\A.d i b<A.n
 tags:∀i,i<A.n-> -1<=A.tag i/\A.tag i<20
abbrev Row:=Vector Int 256
abbrev Kind:=Int×Row
section
variable(A:t_)
def val(now:Nat->Nat)(q:Int):Nat:=if q<0 then 0 else now q.toNat
def kind(now:Nat->Nat)(i:Nat):Kind:=((now i:Int),Vector.ofFn λb:Fin 256=>(val now (A.d i b):Int))
def dead:Kind:=(0,eg 256 0)
def kinds(now:Nat->Nat):List Kind:=(d_ A.n).map (kind A now)
def mb(now:Nat->Nat):List Kind:=dO [dead] (kinds A now)
def next(now:Nat->Nat)(i:Nat):Nat:=idx (mb A now) (kind A now i)
def It:Nat->Nat->(Nat->Nat)->Nat->Nat
 |0,_,now=>now
 |f+1,n,now=>if(mb A now).length=n then next A now else It f (mb A now).length (next A now)
def zQ(i:Nat):Nat:=(A.tag i+1).toNat
def dl:Nat->Nat:=It A (A.n+2) 0 (zQ A)
def tg(q:Int):Int:=if q<0 then-1 else A.tag q.toNat
def dt(q:Int)(b:Nat):Int:=if q<0 then-1 else A.d q.toNat b
def go:Int->List UInt8->Int
 |q,[]=>q
 |q,b::s=>go (dt A q b.toNat) s
def St(q:Int):Prop:= -1<=q/\q<A.n
def same(q r:Int):Prop:=∀s,tg A (go A q s)=tg A (go A r s)
def kd(now:Nat->Nat)(q:Int):Kind:=if q<0 then dead else kind A now q.toNat
end
section
variable{A:t_}
theorem xH(hA:A.Ok){q:Int}(hq:St A q){b:Nat}(hb:b<256):St A (dt A q b):=by
 unfold St dt at*;have:=hA.pos;split;omega;exact hA.step q.toNat J b hb
theorem aam:∀(s:List UInt8) {q:Int},q<0->go A q s<0
 |[],_,h=>h
 |b::s,q,h=>aam s (by simp_all[dt])
theorem Wh{q r:Int}(h:same A q r)(b:Nat)(hb:b<256):same A (dt A q b) (dt A r b):=λs=>by
 have:=h (fN b::s);have e:(fN b).toNat=b:=by simp;omega
 simp_all[go]
theorem QT(now:Nat->Nat)(q:Int):(kd A now q).1=(val now q:Int):=by
 unfold kd val dead kind;split<;>rfl
theorem QU(now:Nat->Nat)(q:Int)(b:Nat)(hb:b<256):(kd A now q).2[b]=(val now (dt A q b):Int):=by
 grind[kd,dt,dead,kind,val]
theorem aan{now:Nat->Nat}{q r:Int}:kd A now q=kd A now r↔val now q=val now r/\∀b,b<256->val now (dt A q b)=val now (dt A r b):=by
 constructor
 ·intro h
  refine⟨?_,λb hb=>?_⟩
  grind[QT]
  have e:(kd A now q).2[b]=(kd A now r).2[b]:=by rw[h]
  grind[QU]
 rintro⟨h1,h2⟩;refine Prod.ext ?_ (Vector.ext λb hb=>?_);rw[QT,QT,h1];rw[QU _ _ _ hb,QU _ _ _ hb,h2 b hb]
theorem MO(now:Nat->Nat):dead∈mb A now:=kV.2 (.inl (by simp))
theorem aao{now:Nat->Nat}{i:Nat}(h:i<A.n):kind A now i∈mb A now:=kV.2 (.inr (fE.2 ⟨i,q8.2 h,rfl⟩))
theorem aap{now:Nat->Nat}{q:Int}(h:q<A.n):kd A now q∈mb A now:=by
 grind[kd,MO,aao]
theorem Wi(now:Nat->Nat):(mb A now).Nodup:=sP _ _ (by simp)
theorem Bo(now:Nat->Nat):(mb A now).length<=A.n+1:=by
 have h:∀(l D:List Kind),(dO D l).length<=D.length+l.length:=by
  intro l
  induction l with
  |nil=>simp[dO]
  |cons k l ih=>
   grind[dO]
 grind[kinds,mb]
theorem T8(now:Nat->Nat):0<(mb A now).length:=List.length_pos_of_mem (MO now)
theorem zR(now:Nat->Nat){q:Int}:val (next A now) q=idx (mb A now) (kd A now q):=by
 unfold val kd;split
 ·obtain⟨E,h⟩:=sO (kinds A now) [dead]
  simp_all[mb,ZY]
 rfl
theorem qJ{now:Nat->Nat}{q:Int}(h:q<A.n):val (next A now) q<(mb A now).length:=by
 simp_all[zR,mY,aap]
theorem Kj{now:Nat->Nat}{q r:Int}(hq:q<A.n):val (next A now) q=val (next A now) r↔kd A now q=kd A now r:=by
 grind[zR,ad9,aap]
theorem EK{now:Nat->Nat}{q r:Int}(hq:q<A.n)(h:val (next A now) q=val (next A now) r):val now q=val now r:=(aan.1 ((Kj hq).1 h)).1
theorem aaq{now:Nat->Nat}{v:Nat}(h:v<(mb A now).length):∃q:Int,St A q/\val (next A now) q=v:=by
 have hm:(mb A now)[v]∈mb A now:=bX h;have hi:idx (mb A now) (mb A now)[v]=v:=Ez (Wi now) h;rcases kV.1 hm with hd|hk
 ·refine⟨-1,⟨by omega,by omega⟩,?_⟩
  simp_all[zR,kd]
 obtain⟨i,h1,h2⟩:=fE.1 hk;rw[q8]at h1;refine⟨i,⟨by omega,by omega⟩,?_⟩;have e:kd A now (i:Int)=kind A now i:=by unfold kd;rw[if_neg J,de]
 rw[zR,e,h2];exact hi
def T9(A:t_)(n:Nat)(now:Nat->Nat):Prop:=∃was,now=next A was/\n=(mb A was).length
def QX(A:t_)(x:Nat):Int:=if x<A.n then(x:Int)else-1
theorem aar{q:Int}(h:St A q):∃x,x<A.n+1/\QX A x=q:=by
 unfold St at h
 by_cases c:q<0
 exact⟨A.n,by omega,by unfold QX;rw[if_neg J];omega⟩;exact⟨q.toNat,by omega,by unfold QX;rw[if_pos J];omega⟩
theorem Kk(x:Nat):QX A x<A.n:=by grind[QX]
theorem yE{n:Nat}{now:Nat->Nat}(h:T9 A n now):n<=(mb A now).length/\((mb A now).length=n->∀q r,St A q->St A r->val now q=val now r->val (next A now) q=val (next A now) r):=by
 obtain⟨was,rfl,rfl⟩:=h;have h:=QB (N:=A.n+1) (f:=λx=>val (next A was) (QX A x)) (g:=λx=>val (next A (next A was)) (QX A x)) (n:=(mb A was).length) (c:=(mb A (next A was)).length)
  (λv hv=>by
   grind[aaq,aar])
  (λx _=>qJ (Kk x)) (λx y _ _ e=>EK (Kk x) e)
 refine⟨h.1,λhc q r hq hr e=>?_⟩;obtain⟨x,hx,rfl⟩:=aar hq;obtain⟨y,hy,rfl⟩:=aar hr;exact h.2 hc (λx _=>qJ (Kk x)) x y hx hy e
structure Way(A:t_)(now:Nat->Nat):Prop where
 tags:∀q r,St A q->St A r->val now q=val now r->tg A q=tg A r
 coarse:∀q r,St A q->St A r->same A q r->val now q=val now r
theorem akq(hA:A.Ok):Way A (zQ A) where
 tags q r hq hr h:=by
  unfold St at hq hr;unfold val zQ at h;unfold tg;have h1:=λc=>hA.tags q.toNat (c:q.toNat<A.n);have h2:=λc=>hA.tags r.toNat (c:r.toNat<A.n)
  grind
 coarse q r hq hr h:=by
  have:=h [];simp only[go]at this;unfold tg at this;unfold val zQ
  grind
theorem EL(hA:A.Ok){now:Nat->Nat}(h:Way A now):Way A (next A now) where
 tags q r hq hr e:=h.tags q r hq hr (EK hq.2 e)
 coarse q r hq hr e:=(Kj hq.2).2 (aan.2 ⟨h.coarse q r hq hr e,λb hb=>h.coarse _ _ (xH hA hq hb) (xH hA hr hb) (Wh e b hb)⟩)
structure EM(A:t_)(bl:Nat->Nat):Prop where
 le:∀i,i<A.n->bl i<=A.n
 tags:∀q r,St A q->St A r->val bl q=val bl r->tg A q=tg A r
 step:∀q r,St A q->St A r->val bl q=val bl r->∀b,b<256->val bl (dt A q b)=val bl (dt A r b)
 coarse:∀q r,St A q->St A r->same A q r->val bl q=val bl r
theorem QY(hA:A.Ok){n:Nat}{now:Nat->Nat}(hr:T9 A n now)(hw:Way A now)(hc:(mb A now).length=n):EM A (next A now) where
 le i hi:=by
  have:=qJ (A:=A) (now:=now) (q:=(i:Int)) J;have h2:=Bo (A:=A) now;unfold val at this;rw[if_neg J,de]at this;omega
 tags:=(EL hA hw).tags
 coarse:=(EL hA hw).coarse
 step q r hq uz e b hb:=(yE hr).2 hc _ _ (xH hA hq hb) (xH hA uz hb) ((aan.1 ((Kj hq.2).1 e)).2 b hb)
theorem aas(hA:A.Ok):∀(f n:Nat) (now:Nat->Nat),(n=0\/T9 A n now)->n<=A.n+1->A.n+2<=f+n->Way A now->EM A (It A f n now)
 |0,n,now,_,h1,h2,_=>by omega
 | f +1,n,now,hr,h1,h2,hw=>by
  unfold It;have hp:=T8 (A:=A) now;split
  ·rename_i hc
   rcases hr with rfl|hr
   omega;exact QY hA hr hw hc
  rename_i hc
  refine aas hA f _ _ (.inr ⟨now,rfl,rfl⟩) (Bo now) ?_ (EL hA hw);rcases hr with rfl|hr
  omega;have:=(yE hr).1;omega
theorem Iu(hA:A.Ok):EM A (dl A):=aas hA _ _ _ (.inl I) (bC _) J (akq hA)
theorem EM.same(hA:A.Ok){bl:Nat->Nat}(h:EM A bl){q r:Int}(hq:St A q)(hr:St A r):val bl q=val bl r↔same A q r:=by
 refine⟨λe s=>?_,h.coarse q r hq hr⟩
 induction s generalizing q r with
 |nil=>exact h.tags q r hq hr e
 |cons b s ih=>exact ih (xH hA hq b.toNat_lt) (xH hA hr b.toNat_lt) (h.step q r hq hr e _ b.toNat_lt)
end
end cX
namespace cB
open Go.RowKit cL dV cX
def kW{κ:Type}[DecidableEq κ](D:List κ)(x:κ):Option Value:=if x∈D then ah (ap av (idx D x:Int))else aj
theorem Iv{κ:Type}[DecidableEq κ]{D:List κ}{x:κ}(hn:x∉D):(λy=>if y=x then ah (ap av (D.length:Int))else kW D y)=kW (D++[x]):=by
 funext y
 unfold kW
 by_cases c:y=x
 ·subst c
  rw[if_pos I,if_pos (by simp)];have:=rQ (D:=D) (k:=y);unfold more at this;rw[if_neg hn,if_neg hn]at this;rw[this]
 simp_all[qH]
section
variable{P:Program}{k:TypeId}{κ:Type}{K:yu P k κ}
variable{W:bV}{fr:Fr}{L:List b_}{Q:Exit->Act->World->Prop}{ops:Array Oper}{rest:List Oper}{n d:Nat}{dst:Option Tmp}{ty:TypeId}{pos:String}{after:Array Edge}{guard:Option (Nat×Bool)}{i g c:Nat}{t e:TypeId}{D:List κ}{x:κ}{z:Value}{xm xk xv:Operand}[DecidableEq κ]
theorem uS(ht:P.underlying t=ah (.map k e))(hz:∀w,(zeroValue e).run P w= .ok z w)(hi:L[i]?=ah (fq K g (kW D) c))(hm:ev fr xm=ah (.map (ah g)))(hk:ev fr xk=ah (K.kv x))(hx:K.ok x)(hn:x∈D):RR P n W ⟨dst,.lookup t xm xk aB,ty,pos,after,guard⟩ fr L (.tuple #[ap av (idx D x:Int),.bool aB]):=by
 have:=pu (n:=n) (W:=W) (dst:=dst) (ty:=ty) (pos:=pos) (after:=after) (guard:=guard) K ht hz hi hm hk hx;rw[show kW D x=ah (iV (idx D x:Int))from if_pos hn]at this;exact this
theorem uT(ht:P.underlying t=ah (.map k e))(hz:∀w,(zeroValue e).run P w= .ok z w)(hi:L[i]?=ah (fq K g (kW D) c))(hm:ev fr xm=ah (.map (ah g)))(hk:ev fr xk=ah (K.kv x))(hx:K.ok x)(hn:x∉D):RR P n W ⟨dst,.lookup t xm xk aB,ty,pos,after,guard⟩ fr L (.tuple #[z,.bool aE]):=by
 have:=pu (n:=n) (W:=W) (dst:=dst) (ty:=ty) (pos:=pos) (after:=after) (guard:=guard) K ht hz hi hm hk hx;rw[show kW D x=aj from if_neg hn]at this;exact this
theorem Bp(hn:dx d n=aB)(h:∀g,TL P n W ops Q rest ((d,.map (ah g))::fr) (L++[fq K g (kW []) 0])):
 TL P n W ops Q (⟨ah d,.makeMap t aj,ty,pos,after,aj⟩::rest) fr L:=by
 refine yv K hn λg=>?_;have e:(λ(_:κ)=>(none:Option Value))=kW []:=by rfl
 simp_all
theorem Bq(ht:P.underlying t=ah (.map k e))(hi:L[i]?=ah (fq K g (kW D) D.length))(hm:ev fr xm=ah (.map (ah g)))(hk:ev fr xk=ah (K.kv x))(hv:ev fr xv=ah (ap av (D.length:Int)))(hx:K.ok x)(hn:x∉D)(hc:D.length<=1152921504606846976)
 (h:TL P n W ops Q rest fr (L.set i (fq K g (kW (D++[x])) (D++[x]).length))):
 TL P n W ops Q (⟨aj,.mapUpdate t xm xk xv,ty,pos,after,aj⟩::rest) fr L:=by
 refine mD K ht hi hm hk hv hx hc ?_;rw[Iv hn,show kW D x=aj from if_neg hn];rw[show(D++[x]).length=D.length+1 by simp]at h;exact h
end
end cB
namespace cB
open Go.RowKit cL dV
def jn(D:Nat->Prop)(f:Nat->b_):b_ where
 CV:=aj
 more:=λk=>∃i,D i/\(f i).ft k
 holds:=λw=>(∀i,D i->(f i).holds w)/\∀i j,D i->D j->i≠j->∀k,(f i).ft k->¬(f j).ft k
 lt:=λw h k hk=>by
  rcases hk with hk|⟨i,hi,hk⟩
  cases hk
  exact(f i).lt w (h.1 i hi) k hk
 stay:=λw w' h hs hb=>⟨λi hi=>(f i).stay w w' (h.1 i hi) hs λk hk=>hb k (.inr ⟨i,hi,hk⟩),h.2⟩
theorem Br{D D':Nat->Prop}{f f':Nat->b_}(h1:∀k,D' k->D k)(h2:∀k,D' k->f' k=f k)(w:World)(h:(jn D f).holds w):(jn D' f').holds w:=
 ⟨λi hi=>by rw[h2 i hi];exact h.1 i (h1 i hi),λi j hi hj rG=>by rw[h2 i hi,h2 j hj];exact h.2 i j (h1 i hi) (h1 j hj) rG⟩
theorem EN{D D':Nat->Prop}{f f':Nat->b_}(h1:∀k,D' k->D k)(h2:∀k,D' k->f' k=f k)(k:Nat)(h:(jn D' f').ft k):(jn D f).ft k:=by
 rcases h with h|⟨i,hi,hk⟩
 cases h
 exact .inr ⟨i,h1 i hi,by simp_all⟩
def Wj(f:Nat->b_)(i:Nat)(o:b_):Nat->b_:=λk=>if k=i then o else f k
theorem Bt{f:Nat->b_}{i j:Nat}{o:b_}(h:j≠i):Wj f i o j=f j:=by simp_all[Wj]
theorem Bu{f:Nat->b_}{i:Nat}{o:b_}:Wj f i o i=o:=by simp[Wj]
theorem aec{D:Nat->Prop}{f:Nat->b_}{i:Nat}{o:b_}{w:World}(hi:¬D i)(h:(jn D f).holds w)(ho:o.holds w)(ha:∀k,(jn D f).ft k->¬o.ft k):(jn (λk=>D k\/k=i) (Wj f i o)).holds w:=by
 have hf:∀j,D j->Wj f i o j=f j:=λj hj=>Bt λe=>hi (by simp_all);have hg:Wj f i o i=o:=Bu;refine⟨λj hj=>?_,λj k hj hk hjk q hq zn=>?_⟩
 ·rcases hj with hj|rfl
  rw[hf j hj];exact h.1 j hj;rw[hg];exact ho
 rcases hj with hj|rfl<;>rcases hk with hk|rfl
 rw[hf j hj]at hq;rw[hf k hk]at zn;exact h.2 j k hj hk hjk q hq zn;rw[hf j hj]at hq;rw[hg]at zn;exact ha q (.inr ⟨j,hj,hq⟩) zn;rw[hg]at hq;rw[hf k hk]at zn;exact ha q (.inr ⟨k,hk,zn⟩) hq;exact hjk I
theorem aat{D:Nat->Prop}{f:Nat->b_}{i:Nat}{o:b_}(hi:¬D i)(k:Nat)(h:(jn (λk=>D k\/k=i) (Wj f i o)).ft k):(jn D f).ft k\/o.ft k:=by
 rcases h with h|⟨j,hj,hk⟩
 cases h
 rcases hj with hj|rfl
 exact .inl (.inr ⟨j,hj,by grind[Bt]⟩);exact .inr (by rw[Bu]at hk;exact hk)
section
variable{P:Program}{n:Nat}{W:bV}{fr:Fr}{L:List b_}{Q:Exit->Act->World->Prop}{ops:Array Oper}{rest:List Oper}{d:Nat}
theorem Mem.split{w:World}{q:Nat}{o:b_}(o1 o2:b_)(h:Mem W L w)(hq:L[q]?=ah o)(h1:∀w,o.holds w->o1.holds w)(h2:∀w,o.holds w->o2.holds w)(f1:∀k,o1.ft k->o.ft k)(f2:∀k,o2.ft k->o.ft k)(ha:∀w,o.holds w->∀k,o1.ft k->¬o2.ft k):Mem W (L.set q o1++[o2]) w:=by
 have hr:=h.T3 o1 hq h1 f1;have hoq:=h.owns.all q o hq;have hlen:q<L.length:=(dK.1 hq).1;refine⟨h.low,fg.both hr.owns (fg.one (h2 w hoq.1) λk hk=>hoq.2 k (f2 k hk)) λi j a b hi hj k hk qD=>?_⟩
 match j,hj with
 |0,hj=>
  simp only[List.getElem?_cons_zero,dM]at hj;subst hj
  by_cases e:q=i
  grind
  rw[List.getElem?_set_ne e]at hi;exact h.owns.apart i q a o (Ne.symm e) hi hq k hk (f2 k qD)
 |j+1,hj=>grind
theorem Mem.aed{w:World}(o:b_)(i j:Nat)(js:List Nat){o1 o2:b_}{R:List b_}(h:Mem W L w)(hn:([i,j]++js).Nodup)(h1:L[i]?=ah o1)(h2:L[j]?=ah o2)(hR:R=js.filterMap λi=>L[i]?)(hf:∀k,o.ft k->o1.ft k\/o2.ft k)(hh:∀w,o1.holds w->o2.holds w->(∀k,o1.ft k->¬o2.ft k)->o.holds w):Mem W (R++[o]) w:=by
 have rG:i≠j:=λe=>by simp_all
 have ha:=h.owns.apart i j o1 o2 rG h1 h2;refine Mem.merge o (h.pick ([i,j]++js) hn ?_) hf (λa b=>hh w a b ha);rw[Bk,<-hR]
 congr 1
 rw[A6 (by exact h1),A6 (by exact h2)];rfl
theorem Mem.take{w:World}{q:Nat}{D:Nat->Prop}{f:Nat->b_}(i:Nat)(h:Mem W L w)(hq:L[q]?=ah (jn D f))(hi:D i):Mem W (L.set q (jn (λk=>D k/\k≠i) f)++[f i]) w:=
 h.split _ _ hq (λw h=>Br (λk h=>h.1) (λ_ _=>rfl) w h) (λw h=>h.1 i hi) (λk h=>EN (λk h=>h.1) (λ_ _=>rfl) k h) (λk h=> .inr ⟨i,hi,h⟩) λw h k hk qD=>by
  rcases hk with hk|⟨j,⟨hj,hne⟩,hk⟩
  cases hk
  exact h.2 j i hj hi hne k hk qD
theorem Q0{c:Code}{q:Nat}{D:Nat->Prop}{f:Nat->b_}(i:Nat)(hq:L[q]?=ah (jn D f))(hi:D i)(h:T P n W c Q fr (L.set q (jn (λk=>D k/\k≠i) f)++[f i])):T P n W c Q fr L:=⟨λa w hr hm=>h.go a w hr (hm.take i hq hi)⟩
theorem T_{q:Nat}{D:Nat->Prop}{f:Nat->b_}(i:Nat)(hq:L[q]?=ah (jn D f))(hi:D i)(h:TL P n W ops Q rest fr (L.set q (jn (λk=>D k/\k≠i) f)++[f i])):TL P n W ops Q rest fr L:=⟨λa w hr hm=>h.go a w hr (hm.take i hq hi)⟩
theorem Mem.put{w:World}{D D':Nat->Prop}{f f':Nat->b_}{o:b_}{R:List b_}(x q j:Nat)(js:List Nat)(h:Mem W L w)(hn:([q,j]++js).Nodup)(hq:L[q]?=ah (jn D f))(hj:L[j]?=ah o)(hR:R=js.filterMap λi=>L[i]?)(hx:¬D x)(hD:∀k,D' k->D k\/k=x)(hf:∀k,D' k->f' k=Wj f x o k):Mem W (R++[jn D' f']) w:=
 h.aed _ q j js hn hq hj hR (λk hk=>aat hx k (EN hD hf k hk)) λw h1 h2 h3=>Br hD hf w (aec hx h1 h2 h3)
theorem aau{D D':Nat->Prop}{f f':Nat->b_}{o:b_}{R:List b_}(x q j:Nat)(js:List Nat)(hn:([q,j]++js).Nodup)(hq:L[q]?=ah (jn D f))(hj:L[j]?=ah o)(hR:R=js.filterMap λi=>L[i]?)(hx:¬D x)(hD:∀k,D' k->D k\/k=x)(hf:∀k,D' k->f' k=Wj f x o k)(h:TL P n W ops Q rest fr (R++[jn D' f'])):TL P n W ops Q rest fr L:=⟨λa w hr hm=>h.go a w hr (hm.put x q j js hn hq hj hR hx hD hf)⟩
theorem Ua{e:Exit}{D D':Nat->Prop}{f f':Nat->b_}{o:b_}{R:List b_}(x q j:Nat)(js:List Nat)(hn:([q,j]++js).Nodup)(hq:L[q]?=ah (jn D f))(hj:L[j]?=ah o)(hR:R=js.filterMap λi=>L[i]?)(hx:¬D x)(hD:∀k,D' k->D k\/k=x)(hf:∀k,D' k->f' k=Wj f x o k)(h:E n W e Q fr (R++[jn D' f'])):E n W e Q fr L:=⟨λa w hr hm=>h.go a w hr (hm.put x q j js hn hq hj hR hx hD hf)⟩
theorem aee{q:Nat}{o:b_}{p:Addr}{v:Value}(hq:L[q]?=ah o)(h:∀w,o.holds w->w.cell? p=ah v):At W L p v:=λw hm=>h w (hm.get hq)
theorem zS{g off size cap m k:Nat}{e:TypeId}{xs:List Value}{v:Value}{w:World}(h:(bm e size (ak (ah ⟨g,0,aj⟩) m cap) k xs).holds w)(hv:xs[off]?=ah v):w.cell? ⟨g,off,aj⟩=ah v:=by
 have h:w.ownsRow 0 e size (sV g m cap) k xs:=h;have:=h.cells (g:=g) I off v hv
 simp_all[ii]
def mq{α:Type}(len:Nat)(f:Nat->α):List α:=(d_ len).map f
section
variable{α:Type}
theorem iX(len:Nat)(f:Nat->α):(mq len f).length=len:=by simp[mq]
theorem uU{len:Nat}(f:Nat->α){k:Nat}(h:k<len):(mq len f)[k]?=ah (f k):=by simp[mq,h]
theorem aav{len:Nat}(f g:Nat->α)(k:Nat)(v:α)(h:∀i,i<len->g i=if i=k then v else f i):(mq len f).set k v=mq len g:=by
 apply mf;intro i;rw[EF]
 by_cases hi:i<len
 ·rw[uU g hi,h i hi]
  by_cases e:k=i
  simp_all[iX];rw[if_neg e,if_neg (λe'=>e e'.symm),uU f hi]
 simp_all[iX]
theorem Q1{len:Nat}{f g:Nat->α}(h:∀i,i<len->f i=g i):mq len f=mq len g:=by
 simp_all[mq]
theorem Q2(val:α->Value)(a:α)(len:Nat):(mq len λ_=>a).map val=c_ len (val a):=by
 unfold mq;rw[List.map_map];apply mf;intro i
 by_cases h:i<len<;>simp[h]
def fA(e:TypeId)(val:α->Value)(g len:Nat)(f:Nat->α):b_:=bm e 1 (ak (ah ⟨g,0,aj⟩) len len) len ((mq len f).map val)
theorem pL{e:TypeId}{val:α->Value}{g len:Nat}{f f':Nat->α}(h:∀i,i<len->f i=f' i):fA e val g len f=fA e val g len f':=by grind[fA,Q1]
theorem gi{e:TypeId}{val:α->Value}{i g len k:Nat}{f:Nat->α}(hi:L[i]?=ah (fA e val g len f))(hk:k<len):At W L ⟨g,0+k,aj⟩ (val (f k)):=kx hi (by rw[cU,iN,uU f hk];rfl)
theorem Bv{e:TypeId}{val:α->Value}{g len k:Nat}{f:Nat->α}{w:World}(h:(fA e val g len f).holds w)(hk:k<len):w.cell? ⟨g,0+k,aj⟩=ah (val (f k)):=zS h (by rw[cU,iN,uU f hk];rfl)
theorem aaw{e:TypeId}{val:α->Value}{g len k:Nat}{v:α}{f f':Nat->α}(h:∀i,i<len->f' i=if i=k then v else f i):bm e 1 (ak (ah ⟨g,0,aj⟩) len len) len (((mq len f).map val).set k (val v))=fA e val g len f':=by
 unfold fA;rw[<-uQ,aav f f' k v h]
theorem iR{e:TypeId}{val:α->Value}{ty:TypeId}{pos:String}{after:Array Edge}{t:TypeId}{p x:Operand}{i g off len:Nat}{v:α}{f:Nat->α}(f':Nat->α)(hT:Ty P t aE 1)(hi:L[i]?=ah (fA e val g len f))(hp:ev fr p=ah (aH (ah ⟨g,0+off,aj⟩)))(hx:ev fr x=ah (val v))(h1:(val v).cells=#[val v])(h2:(val v).oneCell'=aB)(hk:off<len)(hf:∀i,i<len->f' i=if i=off then v else f i)
 (h:TL P n W ops Q rest fr (L.set i (fA e val g len f'))):TL P n W ops Q (⟨aj,.store t p x,ty,pos,after,aj⟩::rest) fr L:=
 kR hT hi hp hx h1 I h2 (by simp_all[iX]) (by rw[cU,aaw hf];exact h)
theorem pM{t e:TypeId}{x y:Operand}{bytes m:Nat}{k k':IntKind}{ty:TypeId}{pos:String}{after:Array Edge}(val:α->Value)(z:α)[sw P t e 1 bytes][eH P e #[val z]](hx:ev fr x=ah (.int k (m:Int)))(hy:ev fr y=ah (.int k' (m:Int)))(hb:bytes*m<=281474976710656)(xi:m<=9223372036854775807)(hn:dx d n=aB)
 (h:∀g,TL P n W ops Q rest ((d,ak (ah ⟨g,0,aj⟩) m m)::fr) (L++[fA e val g m λ_=>z])):TL P n W ops Q (⟨ah d,.makeSlice t x y,ty,pos,after,aj⟩::rest) fr L:=
 sN hx hy hb xi hn λg=>by
  simp_all[fA,Q2]
end
end
open aL
def dr(x:bJ):List Value:=[ap av x.1,ap av x.2]
def aax(x:bJ):Prop:=cL.dv x.1/\cL.dv x.2
theorem Ub(l:List bJ):∀u∈l.flatMap dr,u.oneCell'=true:=by
 intro u hu;obtain⟨f,_,h⟩:=QI.1 hu;simp only[dr,dw,fC,or_false]at h;rcases h with rfl|rfl<;>rfl
theorem aay(f f':bJ)(w:World):(Op.equalIn 10000 123 (aP (dr f).toArray) (aP (dr f').toArray)).run aC w= .ok (decide (f=f')) w:=by
 obtain⟨k,q⟩:=f;obtain⟨k',q'⟩:=f';unfold dr
 go_simp
 grind
def aef:yt bJ:=zz dr 2 (λ_=>rfl) aax
def oB:yt aL.Prod:=ZQ iv (cO aef)
def du(t n:Int)(vp:Value):Value:=aP #[ap av t,ap av n,vp]
def jS(F:Nat->Prop)(w:World)(v:Value)(g:dD):Prop:=∃vp,v=du g.aQ g.bB vp/\jO oB F w vp g.az/\cL.dv g.aQ/\cL.dv g.bB
theorem jS.stay{F:Nat->Prop}{w w':World}{v:Value}{g:dD}(h:jS F w v g)(hk:∀k,F k->w'.heap[k]?=w.heap[k]?):jS F w' v g:=
 let ⟨vp,h1,h2,h3⟩:=h;⟨vp,h1,h2.stay hk,h3⟩
theorem jO.gr{α:Type}{s:yt α}{w w':World}{v:Value}{l:List α}(h:jO s (λk=>k<w.heap.size) w v l)(hg:Gr w w'):jO s (λk=>k<w'.heap.size) w' v l:=
 (h.stay λk hk=>hg.block k hk).mono λ_ hk=>jt hk hg.size
theorem jS.gr{w w':World}{v:Value}{g:dD}(h:jS (λk=>k<w.heap.size) w v g)(hg:Gr w w'):jS (λk=>k<w'.heap.size) w' v g:=
 let ⟨vp,h1,h2,h3⟩:=h;⟨vp,h1,h2.gr hg,h3⟩
theorem jp{F:Nat->Prop}{w:World}{b off:Nat}{l:List aL.Prod}(h:∀i (h:i<l.length),∃cs,oB.is F w cs l[i]/\Rd w b (off+i*oB.c) cs){k:Nat}(hk:k<l.length):
 ∃base cap,Rd w b (off+k*2) [ap av l[k].1,.slice base l[k].2.length cap]/\cL.dv l[k].1/\jO aef F w (.slice base l[k].2.length cap) l[k].2:=by
 obtain⟨cs,⟨c1,c2,rfl,⟨rfl,mP⟩,⟨vb,rfl,Cf⟩⟩,hr⟩:=h k hk;have akr:=Cf;obtain⟨base,cap,rfl,_⟩:=akr;exact⟨base,cap,hr,mP,Cf⟩
theorem kh(a:bJ):(dr a).length=2:=rfl
theorem xl(v:Value)(l:List bJ)(w:World)(hs:Sl w v l.length (l.flatMap dr))(uV:FuncId)(first cp:Array Value)(p:bJ->Bool)(Kl:Enters aC uV)
 (hp:∀a∈l,∀w',Gr w w'->Calls aC uV (first++#[(aP (dr a).toArray)]++cp) w' (cJ (ret (.bool (p a))) w')):
 Calls aC 138 #[v,.func (.func uV) first cp] w (cJ (ret (ap av (tZ p l))) w):=by
 obtain⟨base,cap,rfl,sM,rR,gu⟩:=hs;unfold maxLen at rR;refine enter (args:=[ak base l.length cap,.func (.func uV) first cp]) (n:=19) Tryz.func138 I I I ?_
 try refine GA ?_
 refine dZ (ι:=Nat) (λk=>k<=l.length/\∀j (hj:j<l.length),j<k->p l[j]=aE) (λk=>[(0,ak base l.length cap),(1,.func (.func uV) first cp),(7,ap av l.length),(8,ap av (k:Int))]) (λ_=>[]) (λk=>l.length-k) 0 ⟨by omega,λj hj h=>by omega⟩ ?_;rintro k ⟨h1,h2⟩
 by_cases c2:k<l.length
 ·obtain⟨b,off,rfl,hr⟩:=gu J
  have eC:=gK (L:=([]:List b_)) kh hr c2;have lI:=hp l[k] (bX c2)
  by_cases c3:p l[k]=aB
  ·rw[wM c2 c3 h2]
   rw[c3]at lI;clear hp h2 gu
   repeat(first|refine GA ?_|refine gV (aR bM.eq aI.ty I I c2) ?_|refine gV (aW aI.ty I I eC) ?_)
   refine aT (sD Kl I I) (λw hm=>lI w hm.below) I I I ?_;intro _ _
   try refine GA ?_
   exact dQ
  have V6:p l[k]=false:=by simpa using c3
  rw[V6]at lI;clear hp gu c3
  repeat(first|refine GA ?_|refine gV (aR bM.eq aI.ty I I c2) ?_|refine gV (aW aI.ty I I eC) ?_)
  refine aT (sD Kl I I) (λw hm=>lI w hm.below) I I I ?_;intro _ _
  try refine GA ?_
  exact bQ (k+1) ⟨by omega,λj hj h=>if e:j<k then h2 j hj e else(by obtain rfl:j=k:=J;exact V6)⟩ (by show l.length-(k+1)<l.length-k;omega)
 ·rw[wN λj hj=>h2 j hj J]
  clear hp h2 gu
  try refine GA ?_
  exact dQ
theorem sS(v:Value)(l:List bJ)(w:World)(hs:Sl w v l.length (l.flatMap dr))(uV:FuncId)(first cp:Array Value)(p:bJ->Bool)(Kl:Enters aC uV)
 (hp:∀a∈l,∀w',Gr w w'->Calls aC uV (first++#[(aP (dr a).toArray)]++cp) w' (cJ (ret (.bool (p a))) w')):
 Calls aC 101 #[v,.func (.func uV) first cp] w (cJ (ret (.bool (l.any p))) w):=by
 refine enter (args:=[v,.func (.func uV) first cp]) (n:=9) Tryz.func101 I I I ?_;have hh:=λw' (hg:Gr w w')=>xl v l w' (hs.gr hg) uV first cp p Kl λa ha Pz zh=>hp a ha Pz (hg.trans zh);have hr:=sJ p l;rw[<-zy p l];generalize tZ p l=r at*
 try refine GA ?_
 refine aT (gh aF.en I I I) (λw hm=>hh _ hm.below) I I I ?_;intro _ _
 repeat(first|refine GC ?_|refine gV (fX I I I) ?_|refine GB ?_)
 exact dQ
theorem MP(t n:Int)(vp:Value)(x:bJ)(w:World):Calls aC 103 #[du t n vp,aP (dr x).toArray] w (cJ (ret (.bool (right t n x))) w):=by
 obtain⟨k,q⟩:=x;refine enter (args:=[du t n vp,aP (dr (k,q)).toArray]) (n:=31) Tryz.func103 I I I ?_;refine bZ (bx (bH I I I λg0=>bH I I I λg1=>?_))
 repeat' (first
  |refine QV QP ?_
  |refine QZ ?_
  |refine qcT I ?_
  |refine qcF I ?_
  |refine qs I I I I I I ?_
  |(((try refine qg I I I ?_);first|refine QV QP ?_|refine QV (aw aI.ty I (aD (i:=0) I I)) ?_|refine QV (aw aI.ty I (aD (i:=1) I I)) ?_|refine QV QA ?_|refine QV QhT ?_|refine QV QhF ?_|refine QV QeT ?_|refine QV QeF ?_|refine QV QlT ?_|refine QV QlF ?_))
  |refine Qf (fI I I I) I I I I I (λh=>?_) (λh=>?_)
  |refine Mq (fX I I I) I I I (λh=>?_) (λh=>?_)
  |refine Mq (dc I I I) I I I (λh=>?_) (λh=>?_)
  |((fail_if_success (refine TF I ?_));(fail_if_success (refine TG I ?_));refine adX I (λh=>?_) (λh=>?_))
  |((fail_if_success (refine agL I I I ?_));(fail_if_success (refine agM I I I ?_));refine VL I I I (λh=>?_) (λh=>?_)))
 all_goals (refine eN I I ?_;congr 1;unfold right;dsimp only at*;repeat (first|rw[if_pos J]|rw[if_neg J]|rw[decide_eq_true (by assumption)]|rw[decide_eq_false (by assumption)]);try rfl)
theorem Km(t n:Int)(vp:Value)(x:bJ)(g:Nat)(w:World)(hg:w.heap[g]?=ah (.cells (du t n vp).cells 33 (0,0))):
 Calls aC 102 #[aP (dr x).toArray,aH (ah ⟨g,0,aj⟩)] w (cJ (ret (.bool (!right t n x))) w):=by
 have hcell:∀(L:List b_) (j:Nat) (v:Value),([ap av t,ap av n,vp]:List Value)[j]?=ah v->At w L ⟨g,0+j,aj⟩ v:=λL j v hj=>jL (by
  rw[cell_of_row w g (0+j) _ _ _ hg,cU];show(#[ap av t,ap av n,vp]:Array Value)[j]?=ah v
  simpa using hj)
 have hr:=MP t n vp x;refine enter (args:=[aP (dr x).toArray,aH (ah ⟨g,0,aj⟩)]) (n:=8) Tryz.func102 I I I ?_;refine bZ (bx (bH I I I λg0=>?_))
 repeat(first|refine GA ?_|refine gV (aW aI.ty I I (hcell _)) ?_|refine gV (aJ (i:=0) aI.ty I I I) ?_)
 refine aT (gh aF.en I I I) (λw hm=>hr w) I I I ?_;intro _ _
 try refine GA ?_
 exact dQ
theorem MQ{t n:Int}{l:List aL.Prod}{k:Nat}(h:k<l.length)(h0:zO t n l[k]=0):pK t n (l.drop k)=pK t n (l.drop (k+1)):=by
 rw[dL h,pK,if_neg (by simp[h0])]
theorem MU{t n:Int}{l:List aL.Prod}{k:Nat}(h:k<l.length)(h0:zO t n l[k]≠0):pK t n (l.drop k)=zO t n l[k]:=by
 rw[dL h,pK,if_pos h0]
theorem im(v:Value)(g:dD)(w:World)(h:jS (λk=>k<w.heap.size) w v g):
 Calls aC 61 #[v] w (cJ (ret (ap av (cI g))) w):=by
 obtain⟨vp,rfl,h1,_⟩:=h;obtain⟨bp,cp,rfl,MV,Cg,mQ⟩:=h1;unfold maxLen at Cg;obtain⟨t,n,az⟩:=g;dsimp only at*;refine enter (args:=[du t n (ak bp az.length cp)]) (n:=57) Tryz.func61 I I I ?_;refine bZ (bx (bH I I I λg0=>?_));unfold cI;dsimp only
 by_cases c1:t<0
 ·rw[if_pos c1]
  repeat(first|refine GA ?_|refine gV (aw aI.ty I (aD (i:=0) I I)) ?_)
  exact dQ
 rw[if_neg c1]
 by_cases c2:30<t
 ·rw[if_pos c2]
  repeat(first|refine GA ?_|refine gV (aw aI.ty I (aD (i:=0) I I)) ?_)
  exact dQ
 rw[if_neg c2]
 by_cases c3:n<1
 ·rw[if_pos c3]
  repeat(first|refine GA ?_|refine gV (aw aI.ty I (aD (i:=0) I I)) ?_)
  exact dQ
 rw[if_neg c3]
 by_cases c4:20<n
 ·rw[if_pos c4]
  repeat(first|refine GA ?_|refine gV (aw aI.ty I (aD (i:=0) I I)) ?_)
  exact dQ
 rw[if_neg c4]
 by_cases c5:40<az.length
 ·rw[if_pos c5]
  repeat(first|refine GA ?_|refine gV (aw aI.ty I (aD (i:=0) I I)) ?_)
  exact dQ
 rw[if_neg c5]
 repeat(first|refine GA ?_|refine gV (aw aI.ty I (aD (i:=0) I I)) ?_)
 refine dZ (ι:=Nat) (λk=>k<=az.length/\pK t n az=pK t n (az.drop k)) (λk=>[(1,aH (ah ⟨g0,0,aj⟩)),(30,ak bp az.length cp),(31,ap av az.length),(32,ap av (k:Int))]) (λ_=>[aK g0 (du t n (ak bp az.length cp)).cells 33]) (λk=>az.length-k) 0 ⟨bC _,rfl⟩ ?_;rintro k ⟨i1,i2⟩;rw[i2];clear i2
 by_cases c6:k<az.length
 ·obtain⟨b,off,rfl,_,hr⟩:=mQ J
  obtain⟨bb,cb,q1,q2,q3⟩:=jp hr c6;have qI:=MU (t:=t) (n:=n) c6;have xI:=MQ (t:=t) (n:=n) c6;have eC:∀(L:List b_) (j:Nat) (v:Value),([ap av az[k].1,.slice bb az[k].2.length cb]:List Value)[j]?=ah v->At w L ⟨b,off+k*2+j,aj⟩ v:=λL j v hj=>jE q1 hj;clear hr mQ q1;generalize az[k]=p at*;obtain⟨hd,body⟩:=p;have hco:=λw' (hg:Gr w w') (hb:w'.heap[g0]?=ah (.cells (du t n (ak (ah ⟨b,off,aj⟩) az.length cp)).cells 33 (0,0)))=>sS (ak bb body.length cb) body w' ((q3.flat alt).gr hg) 102 #[] #[aH (ah ⟨g0,0,aj⟩)] (λx=>!right t n x) aF.en (λa _ Pz zh=>Km t n _ a g0 Pz (by rw[zh.block g0 (lL.1 hb).1];exact hb));dsimp only at*
  repeat(first|refine GA ?_|refine gV (aR bM.eq aI.ty I I c6) ?_|refine gV (aW aI.ty I I (eC _)) ?_)
  clear eC;refine aY I λg4=>?_;refine fR 1 ?_;refine zL ?_;unfold zO at qI xI;dsimp only at qI xI
  by_cases c7:8<body.length
  ·rw[if_pos c7]at qI
   rw[qI alt]
   repeat(first|refine GA ?_|refine gV (aw aI.ty I (aD (i:=1) I I)) ?_)
   exact dQ
  rw[if_neg c7]at qI xI
  by_cases c8:hd<0
  ·rw[if_pos c8]at qI
   rw[qI alt]
   repeat(first|refine GA ?_|refine gV (aw aI.ty I (aD (i:=1) I I)) ?_)
   exact dQ
  rw[if_neg c8]at qI xI
  by_cases c9:n<=hd
  ·rw[if_pos c9]at qI
   rw[qI alt]
   repeat(first|refine GA ?_|refine gV (aw aI.ty I (aD (i:=1) I I)) ?_|refine gV (aw aI.ty I (aD (i:=0) I I)) ?_)
   exact dQ
  rw[if_neg c9]at qI xI
  by_cases c10:body.any (λx=>!right t n x)=aB
  ·rw[if_pos c10]at qI
   rw[qI alt];rw[c10]at hco
   repeat(first|refine GA ?_|refine gV (aw aI.ty I (aD (i:=1) I I)) ?_|refine gV (aw aI.ty I (aD (i:=0) I I)) ?_|refine gV (lA I I) ?_)
   refine l5 (gh aF.en I I I) (λw hm=>hco _ hm.below (hm.get (i:=0) I)) I I I I I ?_;intro _ _
   try refine GA ?_
   exact dQ
  have aks:body.any (λx=>!right t n x)=false:=by simpa using c10
  rw[if_neg c10]at xI;rw[aks]at hco
  repeat(first|refine GA ?_|refine gV (aw aI.ty I (aD (i:=1) I I)) ?_|refine gV (aw aI.ty I (aD (i:=0) I I)) ?_|refine gV (lA I I) ?_)
  refine l5 (gh aF.en I I I) (λw hm=>hco _ hm.below (hm.get (i:=0) I)) I I I I I ?_;intro _ _
  try refine GA ?_
  refine dq [0] ?_;exact bQ (k+1) ⟨by omega,xI I⟩ (by show az.length-(k+1)<az.length-k;omega)
 ·rw[List.drop_of_length_le J]
  try refine GA ?_
  exact dQ
def sT(F:Nat->Prop)(vp:Value)(l:List aL.Prod):b_:=aiN (cO oB) F [vp] l
theorem MW{w:World}{hd:Int}{vb:Value}{body:List bJ}(mP:cL.dv hd)(hp:∀x∈body,aax x)(h:(bm 123 2 vb body.length (body.flatMap dr)).holds w):oB.is (λk=>vb.ownBlock=ah k) w [ap av hd,vb] (hd,body):=
 ⟨[ap av hd],[vb],rfl,⟨rfl,mP⟩,vb,rfl,jO.of_flat (Sl.dF h) hp (λ_ h=>h) (λa n cp hv=>by rw[hv];rfl)⟩
end cB
namespace dI
open aL
inductive Tree where
 |mk (prod tok:Int) (kids:List Tree)
def Tree.prod:Tree->Int| .mk p _ _=>p
def Tree.tok:Tree->Int| .mk _ t _=>t
def Tree.kids:Tree->List Tree| .mk _ _ k=>k
def a_(l:List aL.Prod)(p:Int):aL.Prod:=l.getD p.toNat (0,[])
mutual
def bU(l:List aL.Prod):Tree->bJ->Nat->Nat->Nat->Int×Nat×Nat
 | .mk p k kids,x,deep,nodes,leaves=>
  if 1000<nodes+1 then(2,nodes+1,leaves)
  else if 100<deep then(7,nodes+1,leaves)
  else if x.1=1 then(if p≠ -1 then(4,nodes+1,leaves)else if k≠(leaves:Int)then(4,nodes+1,leaves)else if 0<kids.length then(4,nodes+1,leaves)else(0,nodes+1,leaves+1))
  else if p<0 then(4,nodes+1,leaves)else if(l.length:Int)<=p then(4,nodes+1,leaves)else if(a_ l p).1≠x.2 then(4,nodes+1,leaves)else if k≠0 then(4,nodes+1,leaves)else if kids.length≠(a_ l p).2.length then(4,nodes+1,leaves)
  else xJ l kids (a_ l p).2 (deep+1) (nodes+1) leaves
def xJ(l:List aL.Prod):List Tree->List bJ->Nat->Nat->Nat->Int×Nat×Nat
 |[],_,_,nodes,leaves=>(0,nodes,leaves)
 |_::_,[],_,nodes,leaves=>(0,nodes,leaves)
 | k::r,y::b,deep,nodes,leaves=>
  if(bU l k y deep nodes leaves).1≠0 then bU l k y deep nodes leaves
  else xJ l r b deep (bU l k y deep nodes leaves).2.1 (bU l k y deep nodes leaves).2.2
end
def nH(g:dD)(t:Tree):Int:=if cI g≠0 then cI g else(bU g.az t (2,0) 1 0 0).1
mutual
def size:Tree->Nat
 | .mk _ _ kids=>iY kids+1
def iY:List Tree->Nat
 |[]=>0
 |k::r=>size k+iY r
end
mutual
def yF:Tree->Nat
 | .mk _ _ kids=>qK kids+1
def qK:List Tree->Nat
 |[]=>0
 |k::r=>max (yF k) (qK r)
end
mutual
def leaves:Tree->Nat
 | .mk p _ kids=>if p<0 then 1 else cC kids
def cC:List Tree->Nat
 |[]=>0
 |k::r=>leaves k+cC r
end
mutual
def dm(l:List aL.Prod):Tree->bJ->Nat->Prop
 | .mk p k kids,x,v=>
  (x.1=1/\p= -1/\k=(v:Int)/\kids=[])\/(x.1≠1/\0<=p/\p<(l.length:Int)/\(a_ l p).1=x.2/\k=0/\b9 l kids (a_ l p).2 v)
def b9(l:List aL.Prod):List Tree->List bJ->Nat->Prop
 |[],[],_=>True
 |[],_::_,_=>False
 |_::_,[],_=>False
 |k::r,y::b,v=>dm l k y v/\b9 l r b (v+leaves k)
end
theorem nI{l:List aL.Prod}:∀{ks:List Tree} {b:List bJ} {v:Nat},b9 l ks b v->ks.length=b.length
 |[],[],_,_=>rfl
 |[],_::_,_,h=>by grind[b9]
 |_::_,[],_,h=>by grind[b9]
 |_::r,_::b,_,h=>by
  rw[b9]at h;rw[dj,dj,nI h.2]
theorem size_pos(t:Tree):0<size t:=by cases t;rw[size];omega
mutual
theorem iZ{l:List aL.Prod}:∀{t:Tree} {x:bJ} {d n v:Nat},dm l t x v->n+size t<=1000->d+yF t<=101->bU l t x d n v=(0,n+size t,v+leaves t)
 | .mk p k kids,x,d,n,v,h,h1,h2=>by
  rw[size]at h1⊢;rw[yF]at h2;rw[dm]at h;rw[bU,leaves,if_neg J,if_neg J];rcases h with⟨a1,a2,a3,a4⟩|⟨a1,a2,a3,a4,a5,a6⟩
  simp_all[iY]
  rw[if_neg a1,if_neg J,if_neg J,if_neg J,if_neg J,if_neg (by grind[nI]),Uc a6 J J,if_neg J,show n+1+iY kids=n+(iY kids+1)by omega]
theorem Uc{l:List aL.Prod}:∀{ks:List Tree} {b:List bJ} {d n v:Nat},b9 l ks b v->n+iY ks<=1000->d+qK ks<=101->xJ l ks b d n v=(0,n+iY ks,v+cC ks)
 |[],[],d,n,v,_,_,_=>by rfl
 |[],_::_,_,_,_,h,_,_=>by rfl
 |_::_,[],_,_,_,h,_,_=>by grind[b9]
 |k::r,y::b,d,n,v,h,h1,h2=>by
  rw[b9]at h;rw[iY]at h1⊢;rw[qK]at h2;rw[xJ,iZ h.1 J J,if_neg (by simp)];dsimp only;rw[Uc h.2 J J,cC];simp only[iO]
end
mutual
theorem Kn{l:List aL.Prod}:∀{t:Tree} {x:bJ} {d n v:Nat},(bU l t x d n v).1=0->dm l t x v/\n+size t<=1000/\d+yF t<=101
 | .mk p k kids,x,d,n,v,h=>by
  rw[bU]at h;rw[dm,size,yF];split at h;· simp at h
  split at h;· simp at h
  split at h
  ·rename_i c1 c2 c3
   split at h;· simp at h
   split at h;· simp at h
   split at h;· simp at h
   rename_i c4 c5 c6
   have:kids=[]:=mT J;subst this;refine⟨.inl ⟨c3,by omega,by omega,rfl⟩,?_,?_⟩;rw[iY];omega;rw[qK];omega
  rename_i c1 c2 c3
  split at h;· simp at h
  split at h;· simp at h
  split at h;· simp at h
  split at h;· simp at h
  split at h;· simp at h
  rename_i c4 c5 c6 c7 c8
  obtain⟨k1,k2,k3⟩:=Ud J h;exact⟨.inr ⟨c3,by omega,by omega,by simpa using c6,by omega,k1⟩,by omega,by omega⟩
theorem Ud{l:List aL.Prod}:∀{ks:List Tree} {b:List bJ} {d n v:Nat},ks.length=b.length->(xJ l ks b d n v).1=0->b9 l ks b v/\(n<=1000->n+iY ks<=1000)/\(d<=101->d+qK ks<=101)
 |[],[],d,n,v,_,_=>by rw[b9,iY,qK];exact⟨trivial,λh=>h,λh=>h⟩
 |[],_::_,_,_,_,h,_=>by simp at h
 |_::_,[],_,_,_,h,_=>by simp at h
 | k::r,y::b,d,n,v,hl,h=>by
  rw[xJ]at h;rw[b9,iY,qK];split at h;contradiction
  rename_i c
  have c:(bU l k y d n v).1=0:=by simpa using c
  obtain⟨a1,a2,a3⟩:=Kn c;rw[iZ a1 a2 a3]at h;obtain⟨b1,b2,b3⟩:=Ud (by simpa using hl) h;exact⟨⟨a1,b1⟩,λ_=>by have:=b2 (by dsimp only;omega);dsimp only at this;omega,λ_=>by have:=b3 J;omega⟩
end
theorem aaz{l:List aL.Prod}{t:Tree}{x:bJ}{d n v:Nat}:(bU l t x d n v).1=0↔dm l t x v/\n+size t<=1000/\d+yF t<=101:=
 ⟨Kn,λ⟨h1,h2,h3⟩=>by simp_all[iZ]⟩
theorem pN{g:dD}{t:Tree}:nH g t=0↔cI g=0/\dm g.az t (2,0) 0/\size t<=1000/\yF t<=100:=by
 unfold nH
 by_cases c:cI g=0
 ·rw[if_neg J,aaz]
  grind
 omega
inductive zT where
 |ahead (p:Int)
 |behind (p:Int)
 |leaf (pO tok:Int)
mutual
def dB(l:List aL.Prod):Tree->List zT
 | .mk p _ kids=> .ahead p::(jx l kids (a_ l p).2++[.behind p])
def jx(l:List aL.Prod):List Tree->List bJ->List zT
 |[],_=>[]
 |_::_,[]=>[]
 | .mk p k ks::r,y::b=>(if p<0 then [.leaf y.2 k]else dB l (.mk p k ks))++jx l r b
end
mutual
theorem Iw:∀(t:Tree),leaves t<=size t
 | .mk p k kids=>by
  rw[leaves,size];have:=EO kids;split<;>omega
theorem EO:∀(ks:List Tree),cC ks<=iY ks
 |[]=>by simp[cC]
 |k::r=>by
  rw[cC,iY];have:=Iw k;have:=EO r;omega
end
theorem MX{l:List aL.Prod}{t:Tree}{x:bJ}{d n v:Nat}(h:(bU l t x d n v).1=0)(hvn:v<=n):(bU l t x d n v).2.1<=1000/\(bU l t x d n v).2.2<=(bU l t x d n v).2.1:=by
 grind[Kn,iZ,Iw]
theorem EP:∀(l:List Tree) (j:Nat) (h:j<l.length),size l[j]<=iY l
 |y::r,0,_=>by simp[iY]
 |y::r,j+1,h=>by
  rw[iY];have:=EP r j (by simp_all);simp only[List.getElem_cons_succ];omega
mutual
theorem Ko(l:List aL.Prod):∀(t:Tree),(dB l t).length<=2*size t
 | .mk p k kids=>by
  rw[dB,size,dj,bT];have:=MY l kids (a_ l p).2;simp only[dj,nG];omega
theorem MY(l:List aL.Prod):∀(ks:List Tree) (b:List bJ),(jx l ks b).length<=2*iY ks
 |[],_=>by simp[jx]
 |_::_,[]=>by simp[jx]
 | .mk p k ks::r,y::b=>by
  rw[jx,iY,bT];have h1:=Ko l (.mk p k ks);have h2:=MY l r b;have h3:=size_pos (.mk p k ks);split;simp only[dj,nG];omega;omega
end
def Q3:zT->Option Int
 | .leaf t _=>ah t
 |_=>aj
def eU(l:List aL.Prod)(t:Tree):List Int:=(dB l t).filterMap Q3
def eV(l:List aL.Prod)(ks:List Tree)(b:List bJ):List Int:=(jx l ks b).filterMap Q3
theorem hJ(l:List aL.Prod)(p k:Int)(kids:List Tree):eU l (.mk p k kids)=eV l kids (a_ l p).2:=by
 unfold eU eV;rw[dB,Z9 I,Bk];simp[Q3]
theorem Ch(l:List aL.Prod)(p k:Int)(ks r:List Tree)(y:bJ)(b:List bJ):eV l (.mk p k ks::r) (y::b)=(if p<0 then [y.2]else eU l (.mk p k ks))++eV l r b:=by
 unfold eV eU;rw[jx,Bk]
 congr 1
 split<;>rfl
theorem uW(a b:List Tree):cC (a++b)=cC a+cC b:=by
 induction a with
 |nil=>rw[fD,cC,cU]
 |cons x r ih=>simp_all[cC,iO]
mutual
theorem wP{l:List aL.Prod}:∀{t:Tree} {x:bJ} {u:Nat},dm l t x u->0<=t.prod->(eU l t).length=leaves t
 | .mk p k kids,x,u,h,hp=>by
  rw[dm]at h;have hp:0<=p:=hp;rw[hJ,leaves,if_neg J];rcases h with⟨_,h,_⟩|⟨_,_,_,_,_,h⟩
  omega;exact sU h
theorem sU{l:List aL.Prod}:∀{ks:List Tree} {b:List bJ} {u:Nat},b9 l ks b u->(eV l ks b).length=cC ks
 |[],[],_,_=>by rfl
 | .mk p k kk::r,y::b,u,h=>by
  rw[b9]at h;rw[Ch,bT,sU h.2,cC]
  congr 1
  split;rw[leaves,if_pos (by assumption)];rfl;exact wP h.1 (by show(0:Int)<=p;omega)
 |[],_::_,_,h=>by rfl
 |_::_,[],_,h=>by grind[b9]
end
end dI
namespace eh
open aL
abbrev Span:=Int×Int×Int
abbrev eR:=Span->Nat
def cD(c:eR)(w:List Int)(x:bJ)(a b:Nat):Nat:=if x.1=2 then c (x.2,(a:Int),(b:Int))else if b=a+1/\w[a]?=ah x.2 then 1 else 0
def eo(f:Nat->Nat):Nat->Nat
 |0=>0
 |k+1=>eo f k+f k
def ki(o:Nat->Nat->Nat)(f:Nat->Nat)(b:Nat):Nat:=min 2 (eo (λj=>f j*o j b) (b+1))
def kX(o:Nat->Nat->Nat)(f:Nat->Nat)(i b:Nat):Nat:=min 2 (eo (λj=>f j*o j b) (min i (b+1)))
def qL(o:bJ->Nat->Nat->Nat)(a:Nat):List bJ->(Nat->Nat)->Nat->Nat
 |[],f=>f
 |x::r,f=>qL o a r (ki (λi j=>o x (a+i) (a+j)) f)
def EQ(b:Nat):Nat:=if b=0 then 1 else 0
def jT(o:bJ->Nat->Nat->Nat)(l:List bJ)(a b:Nat):Nat:=qL o a l EQ (b-a)
def mu(o:bJ->Nat->Nat->Nat)(a b:Nat)(n:Nat):List aL.Prod->Nat
 |[]=>0
 |p::r=>(if p.1=(n:Int)then jT o p.2 a b else 0)+mu o a b n r
def i_(o:bJ->Nat->Nat->Nat)(l:List aL.Prod)(a b n:Nat):Nat:=min 2 (mu o a b n l)
def mb(len:Nat)(f:Nat->Nat):List Nat:=(d_ len).map f
theorem Kp(len:Nat)(f:Nat->Nat):(mb len f).length=len:=by simp[mb]
theorem Kq{len:Nat}(f:Nat->Nat){k:Nat}(h:k<len):(mb len f)[k]?=ah (f k):=by simp[mb,h]
theorem aeg{len:Nat}(f g:Nat->Nat)(k v:Nat)(h:∀i,i<len->g i=if i=k then v else f i):(mb len f).set k v=mb len g:=by
 apply mf;intro i;rw[EF]
 by_cases hi:i<len
 ·rw[Kq g hi,h i hi]
  by_cases e:k=i
  simp_all[Kp];rw[if_neg e,if_neg (λe'=>e e'.symm),Kq f hi]
 simp_all[Kp]
theorem Ix{len:Nat}{f g:Nat->Nat}(h:∀i,i<len->f i=g i):mb len f=mb len g:=by
 simp_all[mb]
theorem pv(f:Nat->Nat):∀k,(∀j,j<k->f j=0)->eo f k=0
 |0,_=>rfl
 |k+1,h=>by rw[eo,pv f k λj hj=>h j J,h k J]
theorem ES(o:Nat->Nat->Nat)(f:Nat->Nat)(b:Nat):ki o f b<=2:=QQ ..
theorem MZ(o:Nat->Nat->Nat)(f:Nat->Nat)(i b:Nat):kX o f i b<=2:=QQ ..
theorem aeh(o:Nat->Nat->Nat)(f:Nat->Nat)(b:Nat):kX o f 0 b=0:=by rfl
theorem Iy(o:Nat->Nat->Nat)(f:Nat->Nat){i b:Nat}(h:b<i):kX o f i b=ki o f b:=by
 grind[kX,ki]
theorem ET(o:Nat->Nat->Nat)(f:Nat->Nat){i b:Nat}(h:i<=b):kX o f (i+1) b=min (kX o f i b+f i*o i b) 2:=by
 grind[kX,eo]
theorem EU(o:Nat->Nat->Nat)(f:Nat->Nat){i b:Nat}(h:b<i):kX o f (i+1) b=kX o f i b:=by
 grind[Iy]
theorem Q4(o:Nat->Nat->Nat)(f:Nat->Nat){i:Nat}(h:f i=0)(b:Nat):kX o f (i+1) b=kX o f i b:=by
 by_cases c:i<=b
 simp_all[ET,MZ]
 simp_all[EU]
def zU(o:Nat->Nat->Nat)(f:Nat->Nat)(i b:Nat):Nat->Nat:=λj=>if j<b then kX o f (i+1) j else kX o f i j
theorem ahd(o:Nat->Nat->Nat)(f:Nat->Nat)(i:Nat):zU o f i i=kX o f i:=by
 funext j
 simp_all[zU,EU]
theorem Wk(o:Nat->Nat->Nat)(f:Nat->Nat){i:Nat}(h:f i=0)(b:Nat):zU o f i b=kX o f (i+1):=by
 funext j
 simp_all[zU,Q4]
theorem aei(o:Nat->Nat->Nat)(f:Nat->Nat)(i b:Nat):zU o f i b b=kX o f i b:=by simp[zU]
theorem Wl(o:Nat->Nat->Nat)(f:Nat->Nat)(i b j:Nat):zU o f i (b+1) j=if j=b then kX o f (i+1) b else zU o f i b j:=by
 unfold zU
 grind
theorem aaA(o:Nat->Nat->Nat)(f:Nat->Nat){i b len:Nat}(h:len<=b):mb len (zU o f i b)=mb len (kX o f (i+1)):=Ix λj hj=>by
 unfold zU;rw[if_pos J]
theorem aej{c:eR}(hc:∀x,c x<=2)(w:List Int)(x:bJ)(a b:Nat):cD c w x a b<=2:=by
 grind[cD]
theorem M0(b:Nat):EQ b<=2:=by grind[EQ]
theorem M3{o:bJ->Nat->Nat->Nat}{a:Nat}:∀(l:List bJ) (f:Nat->Nat),(∀b,f b<=2)->∀b,qL o a l f b<=2
 |[],_,h,b=>h b
 |_::r,_,_,b=>M3 r _ (λb=>ES _ _ b) b
theorem aek(o:bJ->Nat->Nat->Nat)(l:List bJ)(a b:Nat):jT o l a b<=2:=M3 l _ M0 _
theorem wQ(o:bJ->Nat->Nat->Nat)(l:List aL.Prod)(a b n:Nat):i_ o l a b n<=2:=QQ ..
theorem Iz(o:bJ->Nat->Nat->Nat)(a b n:Nat)(p:aL.Prod):∀l,mu o a b n (l++[p])=mu o a b n l+(if p.1=(n:Int)then jT o p.2 a b else 0)
 |[]=>by simp[mu]
 |q::r=>by rw[mg,mu,mu,Iz o a b n p r];omega
theorem Wm(o:bJ->Nat->Nat->Nat)(a b:Nat)(p:aL.Prod)(l:List aL.Prod){h:Nat}(hp:p.1=(h:Int))(n:Nat):i_ o (l++[p]) a b n=if n=h then min (i_ o l a b h+jT o p.2 a b) 2 else i_ o l a b n:=by
 unfold i_;rw[Iz]
 grind
def gH(c:eR)(w:List Int)(l:List aL.Prod)(bB a b:Nat)(k:Nat):eR:=λx=>if x.2.1=(a:Int)/\x.2.2=(b:Int)/\0<=x.1/\x.1<(k:Int)/\x.1<(bB:Int)then i_ (cD c w) l a b x.1.toNat else c x
def uX(c:eR)(w:List Int)(l:List aL.Prod)(a b:Nat):Nat->Bool
 |0=>aE
 |k+1=>uX c w l a b k||!decide (c ((k:Int),(a:Int),(b:Int))=i_ (cD c w) l a b k)
theorem aaB(c:eR)(w:List Int)(l:List aL.Prod)(n a b:Nat):gH c w l n a b 0=c:=by
 funext x
 unfold gH;rw[if_neg J]
theorem Wn(c:eR)(w:List Int)(l:List aL.Prod)(n a b k:Nat):gH c w l n a b k ((k:Int),(a:Int),(b:Int))=c ((k:Int),(a:Int),(b:Int)):=by
 simp[gH]
theorem M4(c:eR)(w:List Int)(l:List aL.Prod){n a b k:Nat}(hk:k<n)(y:Span):gH c w l n a b (k+1) y=if y=((k:Int),(a:Int),(b:Int))then i_ (cD c w) l a b k else gH c w l n a b k y:=by
 obtain⟨q,y1,y2⟩:=y;unfold gH;dsimp only
 by_cases e:(q,y1,y2)=((k:Int),(a:Int),(b:Int))
 ·rw[if_pos e]
  simp only[ju]at e;obtain⟨rfl,rfl,rfl⟩:=e;rw[if_pos J,de]
 rw[if_neg e]
 by_cases c1:y1=(a:Int)/\y2=(b:Int)/\0<=q/\q<(k:Int)/\q<(n:Int)
 rw[if_pos c1,if_pos J];rw[if_neg c1,if_neg (λh=>?_)];have:q=(k:Int):=by omega
 exact e (by rw[this,h.1,h.2.1])
def pP(t:Int):List Int->Int
 |[]=>0
 |x::r=>if x<0 then 1 else if t<=x then 1 else pP t r
def iP(g:dD)(w:List Int):Int:=if cI g≠0 then cI g else if 20<w.length then 2 else pP g.aQ w
theorem IA{t:Int}:∀{w:List Int},pP t w=0->∀x∈w,0<=x/\x<t
 |[],_,_,h=>by cases h
 |y::r,h,x,hx=>by
  unfold pP at h;split at h;· cases h
  split at h;· cases h
  rcases dw.1 hx with rfl|hx
  omega;exact IA h x hx
theorem lD{g:dD}{w:List Int}(h:iP g w=0):cI g=0/\w.length<=20/\∀x∈w,0<=x/\x<g.aQ:=by
 unfold iP at h;split at h;· contradiction
 split at h;· cases h
 rename_i a b
 exact⟨by omega,by omega,IA h⟩
theorem wR{f f':Nat->Nat}:∀k,(∀j,j<k->f j<=f' j)->eo f k<=eo f' k
 |0,_=>aX _
 |k+1,h=>by
  rw[eo,eo];exact aai (wR k λj hj=>h j J) (h k J)
theorem Q5{o o':Nat->Nat->Nat}{f f':Nat->Nat}{b:Nat}(ho:∀j,j<=b->o j b<=o' j b)(hf:∀j,j<=b->f j<=f' j):ki o f b<=ki o' f' b:=by
 have:=wR (f:=λj=>f j*o j b) (f':=λj=>f' j*o' j b) (b+1) λj hj=>oT (hf j J) (ho j J);unfold ki;omega
theorem EV{o o':bJ->Nat->Nat->Nat}{a d:Nat}:∀(l:List bJ) (f f':Nat->Nat),(∀x∈l,∀i j,i<=j->j<=d->o x (a+i) (a+j)<=o' x (a+i) (a+j))->(∀j,j<=d->f j<=f' j)->∀j,j<=d->qL o a l f j<=qL o' a l f' j
 |[],_,_,_,hf,j,hj=>hf j hj
 |x::r,f,f',ho,hf,j,hj=>by
  rw[qL,qL];exact EV r _ _ (λy hy=>ho y (by grind)) (λj hj=>Q5 (o:=λi j=>o x (a+i) (a+j)) (o':=λi j=>o' x (a+i) (a+j)) (λi hi=>ho x (by simp) i j hi hj) λi hi=>hf i J) j hj
theorem Wo{o o':bJ->Nat->Nat->Nat}{l:List bJ}{a b:Nat}(mE:a<=b)(ho:∀x∈l,∀i j,a<=i->i<=j->j<=b->o x i j<=o' x i j):jT o l a b<=jT o' l a b:=
 EV (d:=b-a) l _ _ (λx hx i j hi hj=>ho x hx (a+i) (a+j) J J J) (λ_ _=>aX _) _ (aX _)
theorem IB{o o':bJ->Nat->Nat->Nat}{a b n:Nat}:∀(l:List aL.Prod),(∀p∈l,p.1=(n:Int)->jT o p.2 a b<=jT o' p.2 a b)->mu o a b n l<=mu o' a b n l
 |[],_=>aX _
 |p::r,h=>by
  rw[mu,mu];refine aai ?_ (IB r λq hq=>h q (by grind));split;exact h p (by simp) (by assumption);exact aX _
theorem Wp{o o':bJ->Nat->Nat->Nat}{l:List aL.Prod}{a b n:Nat}(mE:a<=b)(ho:∀p∈l,∀x∈p.2,∀i j,a<=i->i<=j->j<=b->o x i j<=o' x i j):i_ o l a b n<=i_ o' l a b n:=by
 have:=IB (n:=n) l λp hp _=>Wo (l:=p.2) mE (ho p hp);unfold i_;omega
def ri(n:Nat)(l:List aL.Prod):Prop:=∀p∈l,∀x∈p.2,x.1=2->0<=x.2/\x.2<(n:Int)
theorem Wq{c c':eR}{w:List Int}{n:Nat}{x:bJ}{a b:Nat}(hx:x.1=2->0<=x.2/\x.2<(n:Int))(h:∀k,k<n->c ((k:Int),(a:Int),(b:Int))<=c' ((k:Int),(a:Int),(b:Int))):cD c w x a b<=cD c' w x a b:=by
 unfold cD;split
 ·rename_i e
  obtain⟨h1,h2⟩:=hx e;have e2:x.2=((x.2.toNat:Nat):Int):=by omega
  grind
 omega
theorem oD{c c':eR}{w:List Int}{n:Nat}{l:List aL.Prod}(hl:ri n l){a b:Nat}(mE:a<=b)(h:∀k i j,k<n->a<=i->i<=j->j<=b->c ((k:Int),(i:Int),(j:Int))<=c' ((k:Int),(i:Int),(j:Int)))(m:Nat):i_ (cD c w) l a b m<=i_ (cD c' w) l a b m:=
 Wp mE λp hp x hx i j h1 h2 h3=>Wq (hl p hp x hx) λk hk=>h k i j hk h1 h2 h3
def Bw(w:List Int)(l:List aL.Prod)(n:Nat)(S:eR):Prop:=∀k a b,k<n->a<=b->b<=w.length->i_ (cD S w) l a b k<=S ((k:Int),(a:Int),(b:Int))
def Ws(w:List Int)(l:List aL.Prod)(n:Nat)(c:eR)(a b:Nat):Prop:=∀k,k<n->c ((k:Int),(a:Int),(b:Int))=i_ (cD c w) l a b k
structure AS(w:List Int)(l:List aL.Prod)(n:Nat)(c:eR):Prop where
 le2:∀x,c x<=2
 fixed:∀a b,a<=b->b<=w.length->Ws w l n c a b
 least:∀S,Bw w l n S->∀k a b,k<n->a<=b->b<=w.length->c ((k:Int),(a:Int),(b:Int))<=S ((k:Int),(a:Int),(b:Int))
structure EW(w:List Int)(l:List aL.Prod)(n:Nat)(D:Nat->Nat->Prop)(c:eR):Prop where
 le2:∀x,c x<=2
 fixed:∀a b,a<=b->b<=w.length->D a b->Ws w l n c a b
 least:∀S,Bw w l n S->∀k a b,k<n->a<=b->b<=w.length->c ((k:Int),(a:Int),(b:Int))<=S ((k:Int),(a:Int),(b:Int))
 zero:∀k a b,k<n->a<=b->b<=w.length->¬D a b->c ((k:Int),(a:Int),(b:Int))=0
structure Kr(w:List Int)(l:List aL.Prod)(n:Nat)(D:Nat->Nat->Prop)(a b:Nat)(c:eR):Prop where
 le2:∀x,c x<=2
 fixed:∀i j,i<=j->j<=w.length->D i j->Ws w l n c i j
 least:∀S,Bw w l n S->∀k i j,k<n->i<=j->j<=w.length->c ((k:Int),(i:Int),(j:Int))<=S ((k:Int),(i:Int),(j:Int))
 zero:∀k i j,k<n->i<=j->j<=w.length->¬D i j->¬(i=a/\j=b)->c ((k:Int),(i:Int),(j:Int))=0
 grow:∀k,k<n->c ((k:Int),(a:Int),(b:Int))<=i_ (cD c w) l a b k
section
variable{w:List Int}{l:List aL.Prod}{n:Nat}{D D':Nat->Nat->Prop}{a b:Nat}{c:eR}
theorem EW.begin(h:EW w l n D c)(mE:a<=b)(hb:b<=w.length)(hD:¬D a b):Kr w l n D a b c:=
 ⟨h.le2,h.fixed,h.least,λk i j hk h1 h2 h3 _=>h.zero k i j hk h1 h2 h3,λk hk=>by rw[h.zero k a b hk mE hb hD];exact bC _⟩
theorem Kr.done(h:Kr w l n D a b c)(hf:Ws w l n c a b)(hD:∀i j,i<=j->j<=w.length->(D' i j↔D i j\/(i=a/\j=b))):EW w l n D' c:=
 ⟨h.le2,λi j h1 h2 h3=>((hD i j h1 h2).1 h3).elim (h.fixed i j h1 h2) λ⟨e1,e2⟩=>by simp_all,h.least,λk i j hk h1 h2 h3=>by
  have:¬(D i j\/(i=a/\j=b)):=λh=>h3 ((hD i j h1 h2).2 h);exact h.zero k i j hk h1 h2 (λh=>this (.inl h)) λh=>this (.inr h)⟩
theorem EW.same(h:EW w l n D c)(hD:∀i j,i<=j->j<=w.length->(D' i j↔D i j)):EW w l n D' c:=
 ⟨h.le2,λi j h1 h2 h3=>h.fixed i j h1 h2 ((hD i j h1 h2).1 h3),h.least,λk i j hk h1 h2 h3=>h.zero k i j hk h1 h2 λh=>h3 ((hD i j h1 h2).2 h)⟩
theorem EW.lfp(h:EW w l n D c)(hD:∀i j,i<=j->j<=w.length->D i j):AS w l n c:=
 ⟨h.le2,λi j h1 h2=>h.fixed i j h1 h2 (hD i j h1 h2),h.least⟩
theorem agG:EW w l n (λi j=>j-i<0) (λ_=>0):=
 ⟨λ_=>by omega,λ_ _ _ _ h=>by omega,λ_ _ _ _ _ _ _ _=>bC _,λ_ _ _ _ _ _ _=>rfl⟩
theorem pw{k:Nat}(hk:k<n):gH c w l n a b n ((k:Int),(a:Int),(b:Int))=i_ (cD c w) l a b k:=by
 simp_all[gH]
theorem nJ{k i j:Nat}(h:¬(i=a/\j=b)):gH c w l n a b n ((k:Int),(i:Int),(j:Int))=c ((k:Int),(i:Int),(j:Int)):=by
 unfold gH;rw[if_neg (by dsimp only;omega)]
theorem Wt(h:∀x,c x<=2)(x:Span):gH c w l n a b n x<=2:=by
 grind[gH,wQ]
theorem EX(h:Kr w l n D a b c){k i j:Nat}(hk:k<n):c ((k:Int),(i:Int),(j:Int))<=gH c w l n a b n ((k:Int),(i:Int),(j:Int)):=by
 by_cases e:i=a/\j=b
 ·obtain⟨rfl,rfl⟩:=e
  rw[pw hk];exact h.grow k hk
 simp_all[nJ]
theorem Wu(hl:ri n l)(h:Kr w l n D a b c)(mE:a<=b)(hb:b<=w.length)(hD:∀i j,D i j->¬(i<=a/\b<=j)):Kr w l n D a b (gH c w l n a b n):=by
 refine⟨Wt h.le2,λi j h1 h2 h3=>?_,λS hS k i j hk h1 h2=>?_,λk i j hk h1 h2 h3 h4=>?_,λk hk=>?_⟩
 ·intro k hk
  have hne:¬(i=a/\j=b):=λ⟨e1,e2⟩=>hD i j h3 ⟨by omega,by omega⟩;rw[nJ hne,h.fixed i j h1 h2 h3 k hk];apply Ki;exact oD hl h1 (λq x y hq _ _ _=>EX h hq) k;refine oD hl h1 (λq x y hq h4 h5 h6=>?_) k;rw[nJ λ⟨e1,e2⟩=>hD i j h3 ⟨by omega,by omega⟩];exact aX _
 ·by_cases e:i=a/\j=b
  ·obtain⟨rfl,rfl⟩:=e
   rw[pw hk];exact eL (oD hl h1 (λq x y hq h4 h5 h6=>h.least S hS q x y hq h5 J) k) (hS k i j hk h1 h2)
  rw[nJ e];exact h.least S hS k i j hk h1 h2
 ·rw[nJ h4]
  exact h.zero k i j hk h1 h2 h3 h4
 rw[pw hk];exact oD hl mE (λq x y hq _ _ _=>EX h hq) k
theorem EY:∀k,uX c w l a b k=aE->∀i,i<k->c ((i:Int),(a:Int),(b:Int))=i_ (cD c w) l a b i
 |0,_,_,h=>by omega
 |k+1,h,i,hi=>by
  rw[uX,yB]at h
  by_cases e:i=k
  simp_all;exact EY k h.1 i J
theorem Wv(hl:ri n l)(h:Kr w l n D a b c)(mE:a<=b)(Hv:uX c w l a b n=aE):Ws w l n (gH c w l n a b n) a b:=by
 have hf:=EY n Hv;intro k hk;rw[pw hk];apply Ki;exact oD hl mE (λq x y hq _ _ _=>EX h hq) k;refine oD hl mE (λq x y hq h4 h5 h6=>?_) k
 by_cases e:x=a/\y=b
 simp_all[pw]
 simp_all[nJ]
def zV(n:Nat)(c:eR)(a b:Nat):Nat:=eo (λk=>2-c ((k:Int),(a:Int),(b:Int))) n
theorem aaC(n:Nat)(c:eR)(a b:Nat):zV n c a b<=2*n:=by
 unfold zV
 induction n with
 |zero=>exact aX _
 |succ k ih=>grind[eo]
theorem EZ(h:Kr w l n D a b c):∀k,k<=n->zV k (gH c w l n a b n) a b<=zV k c a b/\(uX c w l a b k=aB->zV k (gH c w l n a b n) a b<zV k c a b)
 |0,_=>⟨aX _,λh=>by cases h⟩
 | k+1,hk=>by
  obtain⟨ih1,ih2⟩:=EZ h k J;have hu:=h.grow k J;have h2:=wQ (cD c w) l a b k;unfold zV at ih1 ih2⊢;rw[eo,eo,pw J,uX];refine⟨by omega,λhc=>?_⟩;rw[ko]at hc;rcases hc with hc|hc
  have:=ih2 hc;omega;simp only[Bool.not_eq_true',decide_eq_false_iff_not]at hc;omega
end
theorem AS.pre{w:List Int}{l:List aL.Prod}{n:Nat}{c:eR}(h:AS w l n c):Bw w l n c:=λk a b hk h1 h2=>by rw[<-h.fixed a b h1 h2 k hk];exact aX _
theorem AS.unique{w:List Int}{l:List aL.Prod}{n:Nat}{c c':eR}(h:AS w l n c)(h':AS w l n c'){k a b:Nat}(hk:k<n)(h1:a<=b)(h2:b<=w.length):c ((k:Int),(a:Int),(b:Int))=c' ((k:Int),(a:Int),(b:Int)):=
 Ki (h.least c' h'.pre k a b hk h1 h2) (h'.least c h.pre k a b hk h1 h2)
open Classical in
noncomputable def od(w:List Int)(l:List aL.Prod)(n:Nat):eR:=λx=>if ∃S,Bw w l n S/\S x=0 then 0 else if ∃S,Bw w l n S/\S x=1 then 1 else 2
theorem aiQ{w:List Int}{l:List aL.Prod}{n:Nat}:Bw w l n (λ_=>2):=λ_ _ _ _ _ _=>wQ _ _ _ _ _
theorem sX{w:List Int}{l:List aL.Prod}{n:Nat}{S:eR}(hS:Bw w l n S)(x:Span):od w l n x<=S x:=by
 unfold od;split;omega
 rename_i h0
 split
 grind
 grind
theorem M5{w:List Int}{l:List aL.Prod}{n:Nat}{x:Span}{v:Nat}(h:∀S,Bw w l n S->v<=S x):v<=od w l n x:=by
 unfold od;split
 grind
 split
 grind
 exact h _ aiQ
theorem M6{w:List Int}{l:List aL.Prod}{n:Nat}(hl:ri n l):Bw w l n (od w l n):=λk a b hk h1 h2=>
 M5 λ_ hS=>eL (oD hl h1 (λ_ _ _ _ _ _ _=>sX hS _) k) (hS k a b hk h1 h2)
theorem qM{w:List Int}{l:List aL.Prod}{n:Nat}(hl:ri n l):AS w l n (od w l n):=by
 have hp:=M6 (w:=w) hl;refine⟨λx=>sX aiQ x,λa b h1 h2 k hk=>Ki ?_ (hp k a b hk h1 h2),λS hS k a b _ _ _=>sX hS _⟩;have hS:Bw w l n (λx=>if 0<=x.1/\x.1<(n:Int)/\0<=x.2.1/\x.2.1<=x.2.2/\x.2.2<=(w.length:Int)then i_ (cD (od w l n) w) l x.2.1.toNat x.2.2.toNat x.1.toNat else 2):=λq i j hq h3 h4=>by
  dsimp only;rw[if_pos J,de,de,de];refine oD hl h3 (λq' i' j' zn h5 h6 h7=>?_) q;dsimp only;rw[if_pos J,de,de,de];exact hp q' i' j' zn h6 J
 have:=sX hS ((k:Int),(a:Int),(b:Int));dsimp only at this;rw[if_pos J,de,de,de]at this;exact this
theorem Q6{w:List Int}{l:List aL.Prod}{n:Nat}{c:eR}(hl:ri n l)(h:AS w l n c){k a b:Nat}(hk:k<n)(h1:a<=b)(h2:b<=w.length):c ((k:Int),(a:Int),(b:Int))=od w l n ((k:Int),(a:Int),(b:Int)):=h.unique (qM hl) hk h1 h2
theorem Ww{g:dD}{n:Nat}(h:cI g=0)(hn:g.bB=n):ri n g.az:=by
 obtain⟨a1,a2,a3,a4,a5,a6⟩:=cz h;intro p hp x hx h2;have:=(a6 p hp).2.2.2 x hx;unfold right at this;rw[if_neg J,if_pos h2]at this;simp at this;omega
noncomputable def iy(g:dD)(w:List Int):Nat:=if iP g w=0 then od w g.az g.bB.toNat (0,0,(w.length:Int))else 0
theorem IC{g:dD}{w:List Int}{c:eR}(hc:iP g w=0)(h:AS w g.az g.bB.toNat c):c (0,0,(w.length:Int))=iy g w:=by
 obtain⟨h1,h2,h3⟩:=lD hc;obtain⟨_,_,a3,_⟩:=cz h1;unfold iy;rw[if_pos hc];exact Q6 (Ww h1 J) h (k:=0) (a:=0) J (bC _) (aX _)
theorem mv{f g:Nat->Nat}:∀k,(∀j,j<k->f j=g j)->eo f k=eo g k
 |0,_=>rfl
 |k+1,h=>by rw[eo,eo,mv k λj hj=>h j J,h k J]
theorem M7(f g:Nat->Nat):∀k,eo (λj=>f j+g j) k=eo f k+eo g k
 |0=>rfl
 |k+1=>by rw[eo,eo,eo,M7 f g k];omega
theorem M8(v:Nat)(f:Nat->Nat):∀k,eo (λj=>v*f j) k=v*eo f k
 |0=>rfl
 |k+1=>by rw[eo,eo,M8 v f k,Nat.mul_add]
theorem ID(v:Nat)(f:Nat->Nat):∀k,eo (λj=>f j*v) k=eo f k*v
 |0=>by simp[eo]
 |k+1=>by rw[eo,eo,ID v f k,Nat.add_mul]
theorem IE(f:Nat->Nat->Nat)(m:Nat):∀k,eo (λi=>eo (λj=>f i j) m) k=eo (λj=>eo (λi=>f i j) k) m
 |0=>by simp[pv]
 |k+1=>by rw[eo,IE f m k,<-M7];rfl
theorem E0(f:Nat->Nat):∀k,eo f (k+1)=f 0+eo (λj=>f (j+1)) k
 |0=>by simp[eo]
 |k+1=>by rw[eo,E0 f k,eo];omega
theorem yG(f:Nat->Nat)(a:Nat):∀k,eo f (a+k)=eo f a+eo (λj=>f (a+j)) k
 |0=>by rfl
 |k+1=>by rw[<-iO,eo,yG f a k,eo];omega
theorem aaD(f:Nat->Nat){i k:Nat}(hi:i<k)(h:∀j,j<k->j≠i->f j=0):eo f k=f i:=by
 induction k with
 |zero=>omega
 | succ k ih=>
  rw[eo]
  by_cases e:i=k
  ·subst e
   rw[pv f i λj hj=>h j J J,cU]
  grind
theorem aaE(f:Nat->Nat->Nat)(d:Nat):eo (λj=>eo (λi=>f i j) (j+1)) (d+1)=eo (λi=>eo (λk=>f i (i+k)) (d-i+1)) (d+1):=by
 have h1:eo (λj=>eo (λi=>f i j) (j+1)) (d+1)=eo (λj=>eo (λi=>if i<=j then f i j else 0) (d+1)) (d+1):=by
  refine mv _ λj hj=>?_;rw[show d+1=(j+1)+(d-j)by omega,yG (λi=>if i<=j then f i j else 0),pv (λq=>if j+1+q<=j then f (j+1+q) j else 0) _ λq _=>if_neg J,mi];exact mv _ λi hi=>(if_pos J).symm
 rw[h1,IE];refine mv _ λi hi=>?_;rw[show d+1=i+(d-i+1)by omega,yG,pv _ i λj hj=>if_neg J,cU];exact mv _ λk _=>if_pos J
def jo(o:bJ->Nat->Nat->Nat):List bJ->Nat->Nat->Nat
 |[],a,b=>if a=b then 1 else 0
 |x::r,a,b=>eo (λi=>o x a (a+i)*jo o r (a+i) b) (b-a+1)
theorem Ue(f g:Nat->Nat):∀k,(∀j,j<k->min 2 (f j)=min 2 (g j))->min 2 (eo f k)=min 2 (eo g k)
 |0,_=>rfl
 |k+1,h=>by
  have h1:=Ue f g k λj hj=>h j J;have h2:=h k J;rw[eo,eo];omega
theorem ael(u v:Nat):min 2 (min 2 u*v)=min 2 (u*v):=by
 by_cases h:u<=2
 simp_all
 have e:min 2 u=2:=by omega
 rw[e]
 by_cases hv:v=0
 simp_all;have:2<=2*v:=by omega
 have h2:2*v<=u*v:=Nat.mul_le_mul_right v J;omega
theorem Uf(o:bJ->Nat->Nat->Nat)(a:Nat):∀(l:List bJ) (f:Nat->Nat) (d:Nat),(∀j,f j<=2)->qL o a l f d=min 2 (eo (λi=>f i*jo o l (a+i) (a+d)) (d+1))
 | [],f,d,h=>by
  rw[qL,aaD _ (show d<d+1 by omega) λj _ hj=>by simp_all[jo],jo,if_pos I,lR];have:=h d;omega
 | x ::r,f,d,h=>by
  rw[qL,Uf o a r _ d (ES _ _)];have h1:min 2 (eo (λi=>ki (λi j=>o x (a+i) (a+j)) f i*jo o r (a+i) (a+d)) (d+1))=min 2 (eo (λj=>eo (λi=>f i*o x (a+i) (a+j)*jo o r (a+j) (a+d)) (j+1)) (d+1)):=Ue _ _ _ λj _=>by
   rw[ID];exact ael _ _
  rw[h1,aaE (λi j=>f i*o x (a+i) (a+j)*jo o r (a+j) (a+d))]
  congr 1
  refine mv _ λi hi=>?_;rw[jo,<-M8,show a+d-(a+i)=d-i by omega];refine mv _ λk _=>?_;rw[Nat.mul_assoc,iO]
theorem mZ(o:bJ->Nat->Nat->Nat)(l:List bJ){a b:Nat}(h:a<=b):jT o l a b=min 2 (jo o l a b):=by
 grind[jT,Uf,EQ,E0,pv]
theorem IF{t:Int}:∀{w:List Int},(∀x∈w,0<=x/\x<t)->pP t w=0
 |[],_=>rfl
 |y::r,h=>by
  have:=h y (by simp);unfold pP;rw[if_neg J,if_neg J];exact IF λx hx=>h x (by grind)
open dI
def fY(n:Nat)(l:List aL.Prod):Prop:=∀p∈l,0<=p.1/\p.1<(n:Int)/\∀x∈p.2,x.1=1\/(x.1=2/\0<=x.2/\x.2<(n:Int))
theorem nK{g:dD}{n:Nat}(h:cI g=0)(hn:g.bB=n):fY n g.az:=λp hp=>by
 obtain⟨_,_,_,_,_,a6⟩:=cz h;obtain⟨b1,b2,b3,b4⟩:=a6 p hp;refine⟨b2,by omega,λx hx=>?_⟩;have:=b4 x hx;unfold right at this;split at this;exact .inl (by assumption);split at this;simp at this;exact .inr ⟨by assumption,by omega,by omega⟩;simp at this
theorem fY.bB{n:Nat}{l:List aL.Prod}(h:fY n l):ri n l:=λp hp x hx h2=>by
 rcases(h p hp).2.2 x hx with h|h
 omega;exact h.2
theorem Dp(f:Nat->Nat){i k:Nat}(h:i<k):f i<=eo f k:=by
 induction k with
 |zero=>omega
 |succ k ih=>
  grind[eo]
theorem wS(o:bJ->Nat->Nat->Nat)(a b n:Nat){p:aL.Prod}:∀{l:List aL.Prod},p∈l->p.1=(n:Int)->jT o p.2 a b<=mu o a b n l
 |q::r,h,hp=>by
  rw[mu];rcases dw.1 h with rfl|h
  simp_all;have:=wS o a b n h hp;omega
theorem ee{l:List aL.Prod}{p:Int}(h0:0<=p)(h:p<(l.length:Int)):a_ l p∈l:=by
 simp_all[a_]
def dJ(l:List aL.Prod)(t:Tree)(x:bJ):List Int:=if t.prod<0 then [x.2]else eU l t
theorem jy(l:List aL.Prod)(t:Tree)(r:List Tree)(y:bJ)(b:List bJ):eV l (t::r) (y::b)=dJ l t y++eV l r b:=by
 obtain⟨p,k,ks⟩:=t;exact Ch l p k ks r y b
theorem kY{l:List aL.Prod}{t:Tree}{x:bJ}{u:Nat}(h:dm l t x u):(dJ l t x).length=leaves t:=by
 unfold dJ;split
 ·obtain⟨p,k,ks⟩:=t
  rw[leaves,if_pos (by assumption)];rfl
 grind[wP]
section
variable{w:List Int}{l:List aL.Prod}{n:Nat}{c:eR}
mutual
theorem one_pos(hc:AS w l n c)(hs:fY n l):∀{t:Tree} {x:bJ} {u a:Nat},dm l t x u->(x.1=1\/x.1=2)->a<=w.length->(∃r,w.drop a=dJ l t x++r)->1<=cD c w x a (a+leaves t)
 | .mk p k kids,x,u,a,h,hx,ha,⟨r,hr⟩=>by
  have hlen:=kY h;have M9:a+leaves (.mk p k kids)<=w.length:=by
   have:=congrArg ky hr;rw[je,bT,hlen]at this;omega
  rw[dm]at h;unfold cD;rcases h with⟨a1,a2,a3,a4⟩|⟨a1,a2,a3,a4,a5,a6⟩
  ·subst a2
   have e:leaves (.mk (-1) k kids)=1:=by rfl
   have hcell:w[a]?=ah x.2:=by
    have:(w.drop a)[0]?=ah x.2:=by rw[hr];unfold dJ;rw[if_pos (by simp[Tree.prod])];rfl
    grind
   simp_all
  rw[if_pos J];have hm:=ee a2 a3;obtain⟨s1,s2,s3⟩:=hs _ hm;have fu:=Dq hc hs a6 (λy hy=>(s3 y hy).imp id λh=>h.1) ha ⟨r,by rw[hr];unfold dJ;rw[if_neg (by show ¬p<0;omega),hJ]⟩;rw[leaves,if_neg J]at M9⊢;have e:x.2=((x.2.toNat:Nat):Int):=by omega
  rw[e,hc.fixed a (a+cC kids) J M9 x.2.toNat J];have h1:=wS (cD c w) a (a+cC kids) x.2.toNat hm J;rw[mZ _ _ J]at h1;unfold i_;omega
theorem Dq(hc:AS w l n c)(hs:fY n l):∀{ks:List Tree} {b:List bJ} {u a:Nat},b9 l ks b u->(∀y∈b,y.1=1\/y.1=2)->a<=w.length->(∃r,w.drop a=eV l ks b++r)->1<=jo (cD c w) b a (a+cC ks)
 |[],[],u,a,_,_,_,_=>by simp[jo,cC]
 | t ::ks,y::b,u,a,h,hy,ha,⟨r,hr⟩=>by
  rw[b9]at h;rw[jy,eu]at hr;have hlen:=kY h.1;have M9:a+leaves t<=w.length:=by
   have:=congrArg ky hr;rw[je,bT,hlen]at this;omega
  have h1:=one_pos hc hs h.1 (hy y (by simp)) ha ⟨_,hr⟩;have h2:=Dq hc hs h.2 (λz hz=>hy z (by grind)) M9 ⟨r,by grind[kw,EG]⟩;rw[jo,cC,show a+(leaves t+cC ks)=a+leaves t+cC ks by omega];have h3:=Dp (λi=>cD c w y a (a+i)*jo (cD c w) b (a+i) (a+leaves t+cC ks)) (i:=leaves t) (k:=a+leaves t+cC ks-a+1) J;have h4:1*1<=cD c w y a (a+leaves t)*jo (cD c w) b (a+leaves t) (a+leaves t+cC ks):=oT h1 h2;omega
 |[],_::_,_,_,h,_,_,_=>by grind[b9]
 |_::_,[],_,_,h,_,_,_=>by grind[b9]
end
end
mutual
theorem M_{g:dD}(h:cI g=0):∀{t:Tree} {x:bJ} {u:Nat},dm g.az t x u->0<=t.prod->∀y∈eU g.az t,0<=y/\y<g.aQ
 | .mk p k kids,x,u,hr,hp,y,hy=>by
  have hp:0<=p:=hp;rw[dm]at hr;rw[hJ]at hy;rcases hr with⟨_,e,_⟩|⟨_,a2,a3,_,_,a6⟩
  omega;exact IG h a6 (((cz h).2.2.2.2.2 _ (ee a2 a3)).2.2.2) y hy
theorem IG{g:dD}(h:cI g=0):∀{ks:List Tree} {b:List bJ} {u:Nat},b9 g.az ks b u->(∀x∈b,right g.aQ g.bB x=aB)->∀y∈eV g.az ks b,0<=y/\y<g.aQ
 |[],[],_,_,_,y,hy=>by grind[eV,jx]
 | .mk p k kk::r,x::b,u,hr,hb,y,hy=>by
  rw[b9]at hr;rw[jy,ib]at hy;rcases hy with hy|hy
  ·unfold dJ at hy
   by_cases c:p<0
   ·rw[if_pos (show(Tree.mk p k kk).prod<0 from c)]at hy
    simp only[dw,fC,or_false]at hy;subst hy;have h1:=hr.1;rw[dm]at h1;have hx:=hb x (by simp);unfold right at hx;rcases h1 with⟨e,_⟩|⟨_,e,_⟩
    rw[if_pos e]at hx;simp at hx;omega;omega
   rw[if_neg (show ¬(Tree.mk p k kk).prod<0 from c)]at hy;exact M_ h hr.1 (by show 0<=p;omega) y hy
  exact IG h hr.2 (λz hz=>hb z (by grind)) y hy
 |[],_::_,_,hr,_,_,_=>by grind[b9]
 |_::_,[],_,hr,_,_,_=>by grind[b9]
end
def tN(o:bJ->Nat->Nat->Nat)(l:List aL.Prod)(x:bJ)(a b k:Nat):Bool:=decide ((a_ l (k:Int)).1=x.2)&&decide (0<jT o (a_ l (k:Int)).2 a b)
def l8(o:bJ->Nat->Nat->Nat)(l:List aL.Prod)(x:bJ)(a b:Nat):Nat->Nat
 |0=>0
 |k+1=>if tN o l x a b k=aB then k else l8 o l x a b k
def m_(f:Nat->Bool)(a:Nat):Nat->Nat
 |0=>a
 |k+1=>if f a=aB then a else m_ f (a+1) k
def mM(o:bJ->Nat->Nat->Nat)(y:bJ)(r:List bJ)(a b m:Nat):Bool:=decide (0<o y a m)&&decide (0<jT o r m b)
def kZ(o:bJ->Nat->Nat->Nat)(rec:bJ->Nat->Nat->Nat->Tree×Int×Nat)(b:Nat):List bJ->Nat->Nat->List Tree×Int×Nat
 |[],_,n=>([],0,n)
 | y::r,a,n=>
  if(rec y a (m_ (mM o y r a b) a (b-a)) n).2.1≠0 then([],(rec y a (m_ (mM o y r a b) a (b-a)) n).2)
  else((rec y a (m_ (mM o y r a b) a (b-a)) n).1::(kZ o rec b r (m_ (mM o y r a b) a (b-a)) (rec y a (m_ (mM o y r a b) a (b-a)) n).2.2).1,(kZ o rec b r (m_ (mM o y r a b) a (b-a)) (rec y a (m_ (mM o y r a b) a (b-a)) n).2.2).2)
def hY(o:bJ->Nat->Nat->Nat)(l:List aL.Prod):Nat->bJ->Nat->Nat->Nat->Tree×Int×Nat
 |0,_,_,_,n=>(.mk 0 0 [],if 1000<n+1 then 2 else 7,n+1)
 | f+1,x,a,b,n=>
  if 1000<n+1 then(.mk 0 0 [],2,n+1)
  else if x.1=1 then(.mk (-1) (a:Int) [],0,n+1)
  else if(kZ o (hY o l f) b (a_ l (l8 o l x a b l.length:Nat)).2 a (n+1)).2.1≠0 then(.mk 0 0 [],(kZ o (hY o l f) b (a_ l (l8 o l x a b l.length:Nat)).2 a (n+1)).2)
  else(.mk (l8 o l x a b l.length:Nat) 0 (kZ o (hY o l f) b (a_ l (l8 o l x a b l.length:Nat)).2 a (n+1)).1,(kZ o (hY o l f) b (a_ l (l8 o l x a b l.length:Nat)).2 a (n+1)).2)
section
variable{o:bJ->Nat->Nat->Nat}{l:List aL.Prod}{x:bJ}{a b:Nat}
theorem E6:∀{k k0:Nat},k0<k->tN o l x a b k0=aB->tN o l x a b (l8 o l x a b k)=aB/\l8 o l x a b k<k
 | k+1,k0,h,hc=>by
  rw[l8]
  by_cases c:tN o l x a b k=aB
  simp_all;rw[if_neg c];have:k0≠k:=λe=>c (e▸hc);obtain⟨h1,h2⟩:=E6 (k:=k) (k0:=k0) J hc;exact⟨h1,by omega⟩
theorem Ks{f:Nat->Bool}:∀{k a m:Nat},a<=m->m<=a+k->f m=aB->f (m_ f a k)=aB/\a<=m_ f a k/\m_ f a k<=a+k
 | 0,a,m,h1,h2,hf=>by
  obtain rfl:m=a:=by omega
  exact⟨hf,aX _,aX _⟩
 | k+1,a,m,h1,h2,hf=>by
  rw[m_]
  by_cases c:f a=aB
  simp_all;rw[if_neg c];have:m≠a:=λe=>c (e▸hf);obtain⟨h3,h4,h5⟩:=Ks (f:=f) (k:=k) (a:=a+1) (m:=m) J J hf;exact⟨h3,by omega,by omega⟩
theorem aaF{f:Nat->Bool}{a k:Nat}(h:f a=aE):m_ f a (k+1)=m_ f (a+1) k:=by simp_all[m_]
theorem aaG{f:Nat->Bool}{a k:Nat}(h:f a=aB):m_ f a k=a:=by
 cases k with
 |zero=>rfl
 |succ k=>rw[m_,if_pos h]
theorem zW{f:Nat->Nat}:∀{k:Nat},0<eo f k->∃i,i<k/\0<f i
 |0,h=>by grind[eo]
 | k+1,h=>by
  rw[eo]at h
  by_cases c:0<f k
  grind;obtain⟨i,h1,h2⟩:=zW (f:=f) (k:=k) J;exact⟨i,by omega,h2⟩
theorem Na{f:Nat->Nat}:∀{k i:Nat},eo f k<=1->i<k->1<=f i->f i=1/\∀j,j<k->j≠i->f j=0
 | k +1,i,h,hi,h1=>by
  rw[eo]at h
  by_cases c:i=k
  ·subst c
   refine⟨by omega,λj hj hne=>?_⟩;have:=Dp f (i:=j) (k:=i) J;omega
  have h3:=Dp f (i:=i) (k:=k) J;obtain⟨h4,h5⟩:=Na (f:=f) (k:=k) (i:=i) J J h1;refine⟨h4,λj hj hne=>?_⟩
  by_cases c2:j=k
  subst c2;omega;exact h5 j J hne
theorem Ug{y:bJ}{r:List bJ}(mE:a<=b)(h:0<jT o (y::r) a b):∃m,a<=m/\m<=b/\mM o y r a b m=true:=by
 rw[mZ _ _ mE,jo]at h;obtain⟨i,h1,h2⟩:=zW (f:=λi=>o y a (a+i)*jo o r (a+i) b) (k:=b-a+1) J;have h2:0<o y a (a+i)*jo o r (a+i) b:=h2;refine⟨a+i,by omega,by omega,?_⟩;unfold mM;rw[mZ _ _ (by omega:a+i<=b),eE,decide_eq_true_iff,decide_eq_true_iff];exact⟨QM h2,by have:=QN h2;omega⟩
theorem Uh{y:bJ}{r:List bJ}(mE:a<=b)(h:0<jT o (y::r) a b):a<=m_ (mM o y r a b) a (b-a)/\m_ (mM o y r a b) a (b-a)<=b/\0<o y a (m_ (mM o y r a b) a (b-a))/\0<jT o r (m_ (mM o y r a b) a (b-a)) b:=by
 obtain⟨m,h1,h2,h3⟩:=Ug mE h;obtain⟨h4,h5,h6⟩:=Ks (k:=b-a) h1 J h3;unfold mM at h4 h5 h6⊢;rw[eE,decide_eq_true_iff,decide_eq_true_iff]at h4;exact⟨h5,by omega,h4.1,h4.2⟩
theorem Ci(n:Nat):∀(l m:List aL.Prod),mu o a b n (l++m)=mu o a b n l+mu o a b n m
 |[],m=>by simp[mu]
 |p::r,m=>by rw[mg,mu,mu,Ci n r m];omega
theorem uY{n:Nat}:∀{l:List aL.Prod},0<mu o a b n l->∃k,k<l.length/\(a_ l (k:Int)).1=(n:Int)/\0<jT o (a_ l (k:Int)).2 a b
 |[],h=>by grind[mu]
 | p ::r,h=>by
  rw[mu]at h
  by_cases c:p.1=(n:Int)/\0<jT o p.2 a b
  exact⟨0,by simp,c.1,c.2⟩;have:0<mu o a b n r:=by
   simp_all
  obtain⟨k,h1,h2,h3⟩:=uY this;exact⟨k+1,by simp_all,h2,h3⟩
theorem k7{k:Nat}(h:k<l.length):a_ l (k:Int)=l[k]:=by
 simp_all[a_]
theorem Nb{n p q:Nat}(hpq:p<q)(hq:q<l.length)(h1:(a_ l (p:Int)).1=(n:Int))(h2:0<jT o (a_ l (p:Int)).2 a b)(h3:(a_ l (q:Int)).1=(n:Int))(h4:0<jT o (a_ l (q:Int)).2 a b):2<=mu o a b n l:=by
 rw[<-oK q l,Ci];have e1:a_ l (p:Int)∈l.take q:=by
  rw[k7 J];exact List.mem_take_iff_getElem.2 ⟨p,by omega,rfl⟩
 have e2:a_ l (q:Int)∈l.drop q:=by
  grind[k7,dL]
 have:=wS o a b n e1 h1;have:=wS o a b n e2 h3;omega
end
section
variable{w:List Int}{l:List aL.Prod}{n:Nat}{c:eR}
theorem Nc(hc:AS w l n c){x:bJ}{a b:Nat}(h2:x.1=2)(hx:0<=x.2/\x.2<(n:Int))(mE:a<=b)(hb:b<=w.length)(h:0<cD c w x a b):tN (cD c w) l x a b (l8 (cD c w) l x a b l.length)=aB/\l8 (cD c w) l x a b l.length<l.length:=by
 unfold cD at h;rw[if_pos h2]at h;have e:x.2=((x.2.toNat:Nat):Int):=by omega
 rw[e,hc.fixed a b mE hb x.2.toNat J]at h;unfold i_ at h;obtain⟨k,h3,h4,h5⟩:=uY (l:=l) (o:=cD c w) (a:=a) (b:=b) (n:=x.2.toNat) J;refine E6 h3 ?_;unfold tN;rw[eE,decide_eq_true_iff,decide_eq_true_iff];exact⟨by rw[h4];exact e.symm,h5⟩
theorem zX{o:bJ->Nat->Nat->Nat}{x:bJ}{a b k:Nat}:tN o l x a b k=aB↔(a_ l (k:Int)).1=x.2/\0<jT o (a_ l (k:Int)).2 a b:=by
 simp[tN]
theorem Nd(hs:fY n l){rec:bJ->Nat->Nat->Nat->Tree×Int×Nat}{f:Nat}
 (aaH:∀(x:bJ) (a b k:Nat) (t:Tree) (k1:Nat),(x.1=1\/(x.1=2/\0<=x.2/\x.2<(n:Int)))->a<=b->b<=w.length->0<cD c w x a b->rec x a b k=(t,0,k1)->dm l t x a/\k1=k+size t/\k1<=1000/\yF t<=f/\leaves t=b-a/\dJ l t x=(w.drop a).take (b-a)):
 ∀(body:List bJ) (a b k:Nat) (ts:List Tree) (k1:Nat),(∀x∈body,x.1=1\/(x.1=2/\0<=x.2/\x.2<(n:Int)))->a<=b->b<=w.length->k<=1000->0<jT (cD c w) body a b->kZ (cD c w) rec b body a k=(ts,0,k1)->
 b9 l ts body a/\k1=k+iY ts/\k1<=1000/\qK ts<=f/\cC ts=b-a/\eV l ts body=(w.drop a).take (b-a)
 | [],a,b,k,ts,k1,_,mE,hb,hk,h,e=>by
  rw[mZ _ _ mE,jo]at h;have hE:a=b:=by
   grind
  subst hE;rw[kZ]at e;simp only[ju]at e;obtain⟨rfl,_,rfl⟩:=e;simp[b9,iY,qK,cC,eV,jx,hk]
 | y ::r,a,b,k,ts,k1,hx,mE,hb,hk,h,e=>by
  obtain⟨m1,m2,m3,m4⟩:=Uh mE h;rw[kZ]at e;generalize m_ (mM (cD c w) y r a b) a (b-a)=m at*;generalize hR:rec y a m k=R at e;obtain⟨t,er,k2⟩:=R;dsimp only at e
  by_cases c0:er=0
  ·subst c0
   rw[if_neg alt]at e;simp only[ju]at e;obtain⟨rfl,e1⟩:=e;obtain⟨g1,g2,g3,g4,g5,g6⟩:=aaH y a m k t k2 (hx y (by simp)) m1 J m3 hR;have hR2:kZ (cD c w) rec b r m k2=((kZ (cD c w) rec b r m k2).1,0,k1):=by
    grind
   obtain⟨f1,f2,f3,f4,f5,f6⟩:=Nd hs aaH r m b k2 _ k1 (λz hz=>hx z (by grind)) m2 hb g3 m4 hR2;rw[b9,iY,qK,cC,jy,g6,f6,g5,f5];refine⟨⟨g1,by grind⟩,by omega,f3,by omega,by omega,?_⟩;have e3:w.drop m=(w.drop a).drop (m-a):=by grind[kw]
   rw[e3,show b-a=(m-a)+(b-m)by omega,aaf]
  simp_all
theorem E7(hc:AS w l n c)(hs:fY n l):∀(f:Nat) (x:bJ) (a b k:Nat) (t:Tree) (k1:Nat),(x.1=1\/(x.1=2/\0<=x.2/\x.2<(n:Int)))->a<=b->b<=w.length->0<cD c w x a b->hY (cD c w) l f x a b k=(t,0,k1)->dm l t x a/\k1=k+size t/\k1<=1000/\yF t<=f/\leaves t=b-a/\dJ l t x=(w.drop a).take (b-a)
 | 0,x,a,b,k,t,k1,hx,mE,hb,h,e=>by
  grind[hY]
 | f + 1,x,a,b,k,t,k1,hx,mE,hb,h,e=>by
  rw[hY]at e;split at e;simp only[ju]at e;exact absurd e.2.1 alt
  rename_i hk
  split at e
  ·rename_i h1
   simp only[ju]at e;obtain⟨rfl,_,rfl⟩:=e;unfold cD at h;rw[if_neg J]at h;split at h
   ·rename_i h2
    obtain⟨rfl,h2⟩:=h2;rw[dm,size,iY,yF,qK,leaves,if_pos J];refine⟨.inl ⟨h1,rfl,rfl,rfl⟩,by omega,by omega,by omega,by omega,?_⟩;unfold dJ;rw[if_pos (by show(-1:Int)<0;decide),show a+1-a=1 by omega];obtain⟨h3,h4⟩:=dK.1 h2;rw[dL h3,h4];rfl
   omega
  rename_i h1
  have fy:x.1=2/\0<=x.2/\x.2<(n:Int):=hx.resolve_left h1;obtain⟨q1,q2⟩:=Nc hc fy.1 fy.2 mE hb h;obtain⟨q3,q4⟩:=zX.1 q1;generalize l8 (cD c w) l x a b l.length=p at*;have hm:=ee (l:=l) (p:=(p:Int)) J J;generalize hR:kZ (cD c w) (hY (cD c w) l f) b (a_ l (p:Int)).2 a (k+1)=R at e;obtain⟨ts,er,k2⟩:=R;dsimp only at e
  by_cases c0:er=0
  ·subst c0
   rw[if_neg alt]at e;simp only[ju,true_and]at e;obtain⟨rfl,rfl⟩:=e;obtain⟨g1,g2,g3,g4,g5,g6⟩:=Nd hs (λx a b k t k1 h1 h2 h3 h4 h5=>E7 hc hs f x a b k t k1 h1 h2 h3 h4 h5) _ a b (k+1) ts k2 (λy hy=>(hs _ hm).2.2 y hy) mE hb J q4 hR;rw[dm,size,yF,leaves,if_neg J];refine⟨.inr ⟨h1,by omega,by omega,q3,rfl,g1⟩,by omega,g3,by omega,g5,?_⟩;unfold dJ;rw[if_neg (by show ¬(p:Int)<0;omega),hJ,g6]
  simp_all
theorem Nf(hc:AS w l n c)(hs:fY n l){rec:bJ->Nat->Nat->Nat->Tree×Int×Nat}{f:Nat}
 (aaH:∀(t:Tree) (x:bJ) (a b k u:Nat),dm l t x u->(x.1=1\/x.1=2)->a<=b->b<=w.length->cD c w x a b<=1->dJ l t x=(w.drop a).take (b-a)->k+size t<=1000->yF t<=f->u=a->rec x a b k=(t,0,k+size t)):
 ∀(ts:List Tree) (body:List bJ) (a b k:Nat),b9 l ts body a->(∀x∈body,x.1=1\/x.1=2)->a<=b->b<=w.length->jT (cD c w) body a b<=1->eV l ts body=(w.drop a).take (b-a)->k+iY ts<=1000->qK ts<=f->
 kZ (cD c w) rec b body a k=(ts,0,k+iY ts)
 |[],[],a,b,k,_,_,_,_,_,_,_,_=>by rfl
 | t ::ts,y::r,a,b,k,h,hx,mE,hb,h1,hy,hk,hf=>by
  rw[b9]at h;rw[iY]at hk⊢;rw[qK]at hf;rw[jy]at hy;have hlt:=kY h.1;have hls:(eV l ts r).length=b-a-leaves t:=by
   have:=congrArg ky hy;rw[bT,jr,je]at this;omega
  have hle:leaves t<=b-a:=by
   have:=congrArg ky hy;rw[bT,jr,je]at this;omega
  have hy1:dJ l t y=(w.drop a).take (leaves t):=by
   have:=congrArg (List.take (leaves t)) hy;rw[List.take_take,Nat.min_eq_left hle,<-hlt,aae]at this;rw[<-hlt];exact this
  have hy2:eV l ts r=(w.drop (a+leaves t)).take (b-(a+leaves t)):=by
   have:=congrArg (List.drop (leaves t)) hy;rw[<-hlt,EG,hlt,List.drop_take,kw]at this;rw[this];congr 1;omega
  have p1:=one_pos hc hs h.1 (hx y (by simp)) (by omega:a<=w.length) ⟨(w.drop a).drop (leaves t),by rw[hy1,oK]⟩;have p2:=Dq hc hs h.2 (λz hz=>hx z (by grind)) (by omega:a+leaves t<=w.length) ⟨(w.drop (a+leaves t)).drop (b-(a+leaves t)),by rw[hy2,oK]⟩;have hlv:a+leaves t+cC ts=b:=by
   have Qs:∀(ts:List Tree) (r:List bJ) (u:Nat),b9 l ts r u->(eV l ts r).length=cC ts:=λts r u h=>sU h;have:=Qs ts r _ h.2;omega
  rw[hlv]at p2;rw[mZ _ _ mE,jo]at h1;have h1':eo (λi=>cD c w y a (a+i)*jo (cD c w) r (a+i) b) (b-a+1)<=1:=by omega
  obtain⟨u1,u2⟩:=Na h1' (i:=leaves t) J (by
   show 1<=cD c w y a (a+leaves t)*jo (cD c w) r (a+leaves t) b
   exact aak p1 p2)
  have u1:cD c w y a (a+leaves t)*jo (cD c w) r (a+leaves t) b=1:=u1;obtain⟨v1,v2⟩:cD c w y a (a+leaves t)=1/\jo (cD c w) r (a+leaves t) b=1:=⟨Nat.eq_one_of_mul_eq_one_right u1,Nat.eq_one_of_mul_eq_one_left u1⟩;have hm:m_ (mM (cD c w) y r a b) a (b-a)=a+leaves t:=by
   have hcut:mM (cD c w) y r a b (a+leaves t)=true:=by
    unfold mM;rw[eE,decide_eq_true_iff,decide_eq_true_iff,mZ _ _ (by omega:a+leaves t<=b)];exact⟨by omega,by omega⟩
   obtain⟨g1,g2,g3⟩:=Ks (k:=b-a) (by omega:a<=a+leaves t) J hcut;generalize m_ (mM (cD c w) y r a b) a (b-a)=m at*;unfold mM at g1;rw[eE,decide_eq_true_iff,decide_eq_true_iff,mZ _ _ (by omega:m<=b)]at g1
   by_cases e:m-a=leaves t
   omega;have:=u2 (m-a) J e;rw[show a+(m-a)=m by omega]at this;have:0<cD c w y a m*jo (cD c w) r m b:=aak g1.1 J;omega
  rw[kZ,hm,aaH t y a (a+leaves t) k a h.1 (hx y (by simp)) J J J (by simp_all) J J I,if_neg (by simp),Nf hc hs aaH ts r (a+leaves t) b (k+size t) h.2 (λz hz=>hx z (by grind)) J hb (by grind[mZ]) hy2 J J,iO]
 |[],_::_,_,_,_,h,_,_,_,_,_,_,_=>by grind[b9]
 |_::_,[],_,_,_,h,_,_,_,_,_,_,_=>by grind[b9]
theorem Ng(hc:AS w l n c)(hs:fY n l):∀(f:Nat) (t:Tree) (x:bJ) (a b k u:Nat),dm l t x u->(x.1=1\/x.1=2)->a<=b->b<=w.length->cD c w x a b<=1->dJ l t x=(w.drop a).take (b-a)->k+size t<=1000->yF t<=f->u=a->hY (cD c w) l f x a b k=(t,0,k+size t)
 |0,.mk p q kids,x,a,b,k,u,h,_,_,_,_,_,_,hf,_=>by simp_all[yF]
 | f +1,.mk p q kids,x,a,b,k,u,h,hx,mE,hb,h1,hy,hk,hf,hu=>by
  subst hu;have hsz:=size_pos (.mk p q kids);rw[hY,if_neg J];rw[dm]at h;rw[size]at hk⊢;rw[yF]at hf;rcases h with⟨a1,a2,a3,a4⟩|⟨a1,a2,a3,a4,a5,a6⟩
  simp_all[iY]
  subst a5;have fy:x.1=2:=hx.resolve_left a1;rw[if_neg a1];obtain⟨pn,rfl⟩:∃pn:Nat,p=pn:=⟨p.toNat,by omega⟩;have hm:=ee (l:=l) (p:=(pn:Int)) J J;obtain⟨s1,s2,s3⟩:=hs _ hm;have hy':eV l kids (a_ l (pn:Int)).2=(w.drop u).take (b-u):=by
   unfold dJ at hy;rw[if_neg (by show ¬(pn:Int)<0;omega),hJ]at hy;exact hy
  have hlv:u+cC kids=b:=by
   have:=congrArg ky hy';rw[sU a6,jr,je]at this;omega
  have p2:=Dq hc hs a6 (λy hy=>(s3 y hy).imp id λh=>h.1) (by omega:u<=w.length) ⟨(w.drop u).drop (b-u),by rw[hy',oK]⟩;rw[hlv]at p2;have fu:0<jT (cD c w) (a_ l (pn:Int)).2 u b:=by grind[mZ]
  have Ui:tN (cD c w) l x u b pn=true:=zX.2 ⟨a4,fu⟩;obtain⟨q1,q2⟩:=E6 (k:=l.length) (by omega:pn<l.length) Ui;have alC:mu (cD c w) u b x.2.toNat l<=1:=by
   unfold cD at h1;rw[if_pos fy]at h1;have e:x.2=((x.2.toNat:Nat):Int):=by omega
   rw[e,hc.fixed u b mE hb x.2.toNat J]at h1;unfold i_ at h1;omega
  have aiR:l8 (cD c w) l x u b l.length=pn:=by
   generalize l8 (cD c w) l x u b l.length=r at*;obtain⟨r1,r2⟩:=zX.1 q1;have e:x.2=((x.2.toNat:Nat):Int):=by omega
   by_cases c1:r=pn
   omega;rcases Nat.lt_or_gt_of_ne c1 with c2|c2
   grind[Nb];have:=Nb (o:=cD c w) (l:=l) (a:=u) (b:=b) (n:=x.2.toNat) c2 J (by rw[a4];exact e) fu (by rw[r1];exact e) r2;omega
  rw[aiR];have aaI:jT (cD c w) (a_ l (pn:Int)).2 u b<=1:=by
   have:=wS (cD c w) u b x.2.toNat hm J;omega
  rw[Nf hc hs (λt x a b k u h1 h2 h3 h4 h5 h6 h7 h8 h9=>Ng hc hs f t x a b k u h1 h2 h3 h4 h5 h6 h7 h8 h9) kids _ u b (k+1) a6 (λy hy=>(s3 y hy).imp id λh=>h.1) mE hb aaI hy' J J,if_neg (by simp),show k+1+iY kids=k+(iY kids+1)by omega]
end
end eh
namespace dA
open aL
def fw(l:List Bool)(i:Nat)(b:Bool):List Bool×Bool:=if b=aB/\l.getD i aE=aE then(l.set i aB,aB)else(l,aE)
def kz(l:List Bool)(body:List bJ)(aQ:Bool):Bool:=body.all λx=>if x.1=1 then aQ else if x.1=2 then l.getD x.2.toNat aE else aB
def mN(l:List Nat)(i:Nat)(b:Nat):List Nat×Bool:=(l.set i (l.getD i 0|||b),!decide ((l.getD i 0|||b)=l.getD i 0))
def io(E:List Bool)(F:List Nat)(behind:Nat):List bJ->Nat->Nat
 |[],out=>out|||behind
 |x::r,out=>if x.1=1 then out|||2^x.2.toNat else if E.getD x.2.toNat aE=aB then io E F behind r (out|||F.getD x.2.toNat 0)else out|||F.getD x.2.toNat 0
def eA(E:List Bool)(F:List Nat)(body:List bJ)(behind:Nat):Nat:=io E F behind body 0
theorem nL(l:List Bool)(i:Nat)(b:Bool):(fw l i b).1.length=l.length:=by
 grind[fw]
theorem aaJ(l:List Nat)(i:Nat)(b:Nat):(mN l i b).1.length=l.length:=by
 simp[mN]
structure FS where
 E:List Bool
 R:List Bool
 M:List Bool
 more:Bool
def rS(h:Nat)(x:bJ)(R:List Bool)(more:Bool):List Bool×Bool:=if x.1=2 then((fw R x.2.toNat (R.getD h aE)).1,(fw R x.2.toNat (R.getD h aE)).2||more)else(R,more)
def kA(h:Nat):List bJ->List Bool->Bool->List Bool×Bool
 |[],R,more=>(R,more)
 |x::r,R,more=>kA h r (rS h x R more).1 (rS h x R more).2
def k8(p:aL.Prod)(s:FS):FS:=
 let h:=p.1.toNat
 let a:=fw s.E h (kz s.E p.2 aE)
 let b:=fw s.M h (kz s.M p.2 aB)
 let c:=kA h p.2 s.R (b.2||(a.2||s.more))
 ⟨a.1,c.1,b.1,c.2⟩
def fc:List aL.Prod->FS->FS
 |[],s=>s
 |p::r,s=>fc r (k8 p s)
theorem Wy(h:Nat)(x:bJ)(R:List Bool)(more:Bool):(rS h x R more).1.length=R.length:=by
 unfold rS;split;exact nL _ _ _;rfl
theorem E8(h:Nat):∀(body:List bJ) (R:List Bool) (more:Bool),(kA h body R more).1.length=R.length
 |[],_,_=>rfl
 |x::r,R,more=>by rw[kA,E8 h r,Wy]
def pQ(l:List Bool):Nat:=l.countP id
theorem Nh{l:List Bool}{i:Nat}{b:Bool}(hi:i<l.length):pQ (fw l i b).1=pQ l+(if(fw l i b).2=aB then 1 else 0):=by
 grind[fw,pQ]
def Q7{σ:Type}(step:σ->σ×Bool):Nat->σ->σ
 |0,s=>s
 |f+1,s=>if(step s).2=aB then Q7 step f (step s).1 else(step s).1
structure zY{σ:Type}(step:σ->σ×Bool)(ok:σ->Prop)(μ:σ->Nat):Prop where
 keep:∀s,ok s->ok (step s).1
 dec:∀s,ok s->(step s).2=aB->μ (step s).1<μ s
def fix{σ:Type}(step:σ->σ×Bool)(μ:σ->Nat)(s:σ):σ:=Q7 step (μ s+1) s
section
variable{σ:Type}{step:σ->σ×Bool}{ok:σ->Prop}{μ:σ->Nat}
theorem II(h:zY step ok μ):∀(f g:Nat) (s:σ),ok s->μ s<f->μ s<g->Q7 step f s=Q7 step g s
 |0,_,_,_,h1,_=>by omega
 |_,0,_,_,_,h2=>by omega
 | f +1,g+1,s,hs,h1,h2=>by
  unfold Q7
  by_cases c:(step s).2=aB
  ·rw[if_pos c,if_pos c]
   have:=h.dec s hs c;exact II h f g _ (h.keep s hs) J J
  simp_all
theorem Kt(h:zY step ok μ){s:σ}(hs:ok s)(c:(step s).2=aB):fix step μ s=fix step μ (step s).1:=by
 have:=h.dec s hs c;unfold fix;rw[Q7,if_pos c];exact II h _ _ _ (h.keep s hs) J J
theorem zZ{s:σ}(c:(step s).2=aE):fix step μ s=(step s).1:=by
 simp_all[fix,Q7]
theorem qN(h:zY step ok μ):∀(k:Nat) (s:σ),ok s->μ s<=k->∃s',ok s'/\(step s').2=aE/\fix step μ s=(step s').1
 | k,s,hs,hk=>by
  by_cases c:(step s).2=aB
  ·have hd:=h.dec s hs c
   match k with
   |0=>omega
   | k+1=>
    obtain⟨s',h1,h2,h3⟩:=qN h k (step s).1 (h.keep s hs) J;exact⟨s',h1,h2,by rw[Kt h hs c,h3]⟩
  grind[zZ]
end
def E9(E:List Bool)(M:List Bool)(p:aL.Prod)(F:List Nat)(more:Bool):List Nat×Bool:=
 if kz M p.2 aB=aB then((mN F p.1.toNat (eA E F p.2 0)).1,(mN F p.1.toNat (eA E F p.2 0)).2||more)else(F,more)
def o7(E M:List Bool):List aL.Prod->List Nat->Bool->List Nat×Bool
 |[],F,more=>(F,more)
 |p::r,F,more=>o7 E M r (E9 E M p F more).1 (E9 E M p F more).2
def ja(E:List Bool)(F:List Nat)(h:Nat)(x:bJ)(r:List bJ)(W:List Nat)(more:Bool):List Nat×Bool:=
 if x.1=2 then((mN W x.2.toNat (eA E F r (W.getD h 0))).1,(mN W x.2.toNat (eA E F r (W.getD h 0))).2||more)else(W,more)
def jf(E:List Bool)(F:List Nat)(h:Nat):List bJ->List Nat->Bool->List Nat×Bool
 |[],W,more=>(W,more)
 |x::r,W,more=>jf E F h r (ja E F h x r W more).1 (ja E F h x r W more).2
def mF(E:List Bool)(F:List Nat):List aL.Prod->List Nat->Bool->List Nat×Bool
 |[],W,more=>(W,more)
 |p::r,W,more=>mF E F r (jf E F p.1.toNat p.2 W more).1 (jf E F p.1.toNat p.2 W more).2
def np(l:List Nat):Nat:=(l.map λx=>18446744073709551616-x).sum
def yH(n:Nat)(l:List Nat):Prop:=l.length=n/\∀x∈l,x<18446744073709551616
theorem qO{n:Nat}{l:List Nat}(h:yH n l)(i:Nat):l.getD i 0<18446744073709551616:=by
 rw[cH]
 cases e:l[i]? with
 |none=>decide
 |some y=>exact h.2 y (List.mem_of_getElem? e)
theorem Dr{x y:Nat}(hx:x<18446744073709551616)(hy:y<18446744073709551616):x|||y<18446744073709551616:=Nat.or_lt_two_pow (n:=64) hx hy
theorem Ds{n:Nat}{l:List Nat}{i b:Nat}(h:yH n l)(hb:b<18446744073709551616):yH n (mN l i b).1:=by
 refine⟨by rw[aaJ];exact h.1,λx hx=>?_⟩;rcases Z8 hx with h1|rfl
 exact h.2 x h1;exact Dr (qO h i) hb
theorem Uj:∀(l:List Nat) (i:Nat) (y:Nat) (h:i<l.length),((l.set i y).map λx=>18446744073709551616-x).sum+(18446744073709551616-l[i])=(l.map λx=>18446744073709551616-x).sum+(18446744073709551616-y)
 |a::r,0,y,h=>by grind
 |a::r,i+1,y,h=>by
  have:=Uj r i y (by simp_all);simp at this⊢;omega
theorem IJ{n:Nat}{l:List Nat}{i b:Nat}(h:yH n l)(hi:i<n)(hb:b<18446744073709551616):np (mN l i b).1<=np l/\((mN l i b).2=aB->np (mN l i b).1<np l):=by
 have hil:i<l.length:=by rw[h.1];exact hi
 have hs:=Uj l i (l.getD i 0|||b) hil;have e:l.getD i 0=l[i]:=by simp_all
 grind[Nat.left_le_or,qO,np,mN]
theorem px{E:List Bool}{F:List Nat}{n:Nat}{body:List bJ}{behind:Nat}(hF:yH n F)(hb:behind<18446744073709551616)(hx:∀x∈body,x.1=1->x.2.toNat<64):eA E F body behind<18446744073709551616:=by
 have key:∀(body:List bJ) (out:Nat),out<18446744073709551616->(∀x∈body,x.1=1->x.2.toNat<64)->io E F behind body out<18446744073709551616:=by
  intro body
  induction body with
  |nil=>intro out h _;exact Dr h hb
  | cons x r ih=>
   intro out h hx;unfold io;split
   ·rename_i c
    have hp:(2:Nat)^x.2.toNat<2^64:=aah alt (hx x (by simp) c);exact Dr h (by simpa using hp)
   grind[Dr,qO]
 exact key body 0 alt hx
structure CY(n:Nat)(l:List aL.Prod):Prop where
 head:∀p∈l,0<=p.1/\p.1.toNat<n
 pO:∀p∈l,∀x∈p.2,x.1=1->0<=x.2/\x.2.toNat<64
 Wz:∀p∈l,∀x∈p.2,x.1≠1->x.1=2/\0<=x.2/\x.2.toNat<n
theorem wT{g:dD}{n:Nat}(h:cI g=0)(hn:g.bB=n):CY n g.az:=by
 obtain⟨a,b,c,d,e,f⟩:=cz h;refine⟨λp hp=>?_,λp hp x hx kL=>?_,λp hp x hx kL=>?_⟩;have:=f p hp;omega
 ·have:=(f p hp).2.2.2 x hx
  unfold right at this;rw[if_pos kL]at this;simp at this;omega
 have:=(f p hp).2.2.2 x hx;unfold right at this;rw[if_neg kL]at this;split at this
 ·rename_i h2
  simp at this;exact⟨h2,by omega,by omega⟩
 simp at this
theorem CY.tail{n:Nat}{p:aL.Prod}{l:List aL.Prod}(h:CY n (p::l)):CY n l:=
 ⟨λq hq=>h.head q (by grind),λq hq=>h.pO q (by grind),λq hq=>h.Wz q (by grind)⟩
theorem uZ{E M:List Bool}{n:Nat}:∀(l:List aL.Prod) (F:List Nat) (more:Bool),CY n l->yH n F->yH n (o7 E M l F more).1/\np (o7 E M l F more).1<=np F/\((o7 E M l F more).2=aB->more=aB\/np (o7 E M l F more).1<np F)
 |[],F,more,_,h=>⟨h,aX _,λc=> .inl c⟩
 | p ::r,F,more,hf,h=>by
  have hb:eA E F p.2 0<18446744073709551616:=px h alt λx hx kL=>(hf.pO p (by simp) x hx kL).2;have hh:=hf.head p (by simp);rw[o7];unfold E9;split
  ·have h1:=Ds (i:=p.1.toNat) h hb
   have h2:=IJ h hh.2 hb;obtain⟨k1,k2,k3⟩:=uZ r (mN F p.1.toNat (eA E F p.2 0)).1 ((mN F p.1.toNat (eA E F p.2 0)).2||more) hf.tail h1;refine⟨k1,eL k2 h2.1,λc=>?_⟩;rcases k3 c with c2|c2
   ·rw[ko]at c2
    rcases c2 with c2|c2
    exact .inr (Bm k2 (h2.2 c2));exact .inl c2
   exact .inr (jt c2 h2.1)
  exact uZ r F more hf.tail h
theorem IK{E:List Bool}{F:List Nat}{n h:Nat}(hF:yH n F)(hh:h<n):∀(body:List bJ) (W:List Nat) (more:Bool),(∀x∈body,x.1=1->x.2.toNat<64)->(∀x∈body,x.1=2->x.2.toNat<n)->yH n W->yH n (jf E F h body W more).1/\np (jf E F h body W more).1<=np W/\((jf E F h body W more).2=aB->more=aB\/np (jf E F h body W more).1<np W)
 |[],W,more,_,_,hW=>⟨hW,aX _,λc=> .inl c⟩
 | x ::r,W,more,ht,hx,hW=>by
  have hb:eA E F r (W.getD h 0)<18446744073709551616:=px hF (qO hW h) λy hy=>ht y (by grind);have tl:=λW more=>IK (E:=E) hF hh r W more (λy hy=>ht y (by grind)) (λy hy=>hx y (by grind));rw[jf];unfold ja;split
  ·rename_i c0
   have h1:=Ds (i:=x.2.toNat) hW hb;have h2:=IJ hW (hx x (by simp) c0) hb;obtain⟨k1,k2,k3⟩:=tl (mN W x.2.toNat (eA E F r (W.getD h 0))).1 ((mN W x.2.toNat (eA E F r (W.getD h 0))).2||more) h1;refine⟨k1,eL k2 h2.1,λc=>?_⟩;rcases k3 c with c2|c2
   ·rw[ko]at c2
    rcases c2 with c2|c2
    exact .inr (Bm k2 (h2.2 c2));exact .inl c2
   exact .inr (jt c2 h2.1)
  grind
theorem z8{E:List Bool}{F:List Nat}{n:Nat}(hF:yH n F):∀(l:List aL.Prod) (W:List Nat) (more:Bool),CY n l->yH n W->yH n (mF E F l W more).1/\np (mF E F l W more).1<=np W/\((mF E F l W more).2=aB->more=aB\/np (mF E F l W more).1<np W)
 |[],W,more,_,h=>⟨h,aX _,λc=> .inl c⟩
 | p ::r,W,more,hf,h=>by
  rw[mF];obtain⟨a1,a2,a3⟩:=IK (E:=E) hF (hf.head p (by simp)).2 p.2 W more (λx hx h1=>(hf.pO p (by simp) x hx h1).2) (λx hx h2=>(hf.Wz p (by simp) x hx J).2.2) h;obtain⟨k1,k2,k3⟩:=z8 hF r (jf E F p.1.toNat p.2 W more).1 (jf E F p.1.toNat p.2 W more).2 hf.tail a1;refine⟨k1,eL k2 a2,λc=>?_⟩;rcases k3 c with c2|c2
  ·rcases a3 c2 with c3|c3
   exact .inl c3;exact .inr (Bm k2 c3)
  exact .inr (jt c2 a2)
theorem Ku{E M:List Bool}{n:Nat}{l:List aL.Prod}(hf:CY n l):zY (λF=>o7 E M l F aE) (yH n) np:=
 ⟨λs hs=>(uZ l s aE hf hs).1,λs hs c=>by
  rcases(uZ (E:=E) (M:=M) l s aE hf hs).2.2 c with h|h
  cases h
  exact h⟩
theorem Q8{E:List Bool}{F:List Nat}{n:Nat}{l:List aL.Prod}(hF:yH n F)(hf:CY n l):zY (λW=>mF E F l W aE) (yH n) np:=
 ⟨λs hs=>(z8 hF l s aE hf hs).1,λs hs c=>by
  rcases(z8 (E:=E) hF l s aE hf hs).2.2 c with h|h
  cases h
  exact h⟩
def WA(n:Nat)(s:FS):Prop:=s.E.length=n/\s.R.length=n/\s.M.length=n
def had(s:FS):Nat:=pQ s.E+pQ s.R+pQ s.M
def IL(l:List aL.Prod)(s:FS):FS×Bool:=(fc l ⟨s.E,s.R,s.M,aE⟩,(fc l ⟨s.E,s.R,s.M,aE⟩).more)
theorem E_(l:List Bool):pQ l<=l.length:=List.countP_le_length
theorem yI{l:List Bool}{i:Nat}{b:Bool}(hi:i<l.length):pQ l<=pQ (fw l i b).1/\((fw l i b).2=aB->pQ l<pQ (fw l i b).1):=by
 simp_all[Nh]
theorem Cj{h n:Nat}:∀(body:List bJ) (R:List Bool) (more:Bool),(∀x∈body,x.1=2->x.2.toNat<n)->R.length=n->pQ R<=pQ (kA h body R more).1/\((kA h body R more).2=aB->more=aB\/pQ R<pQ (kA h body R more).1)
 |[],R,more,_,_=>⟨aX _,λc=> .inl c⟩
 | x ::r,R,more,hx,hR=>by
  rw[kA];have ih:=λR more=>Cj (h:=h) r R more λy hy=>hx y (by grind);unfold rS;split
  ·rename_i c0
   have hg:=yI (b:=R.getD h aE) (show x.2.toNat<R.length by simp_all);have hl:=nL R x.2.toNat (R.getD h aE);generalize fw R x.2.toNat (R.getD h aE)=a at*;obtain⟨R2,m2⟩:=a;dsimp only at*;obtain⟨k1,k2⟩:=ih R2 (m2||more) J;refine⟨by omega,λc=>?_⟩;rcases k2 c with c2|c2
   ·rw[ko]at c2
    rcases c2 with c2|c2
    ·have:=hg.2 c2
     exact .inr J
    exact .inl c2
   exact .inr J
  grind
theorem Ni{n:Nat}{p:aL.Prod}{s:FS}(hp:p.1.toNat<n)(hx:∀x∈p.2,x.1=2->x.2.toNat<n)(h:WA n s):WA n (k8 p s)/\had s<=had (k8 p s)/\((k8 p s).more=aB->s.more=aB\/had s<had (k8 p s)):=by
 obtain⟨E,R,M,more⟩:=s;obtain⟨h1,h2,h3⟩:=h;unfold k8 WA had;dsimp only at*;have e1:=yI (b:=kz E p.2 aE) (show p.1.toNat<E.length by omega);have e2:=nL E p.1.toNat (kz E p.2 aE);have m1:=yI (b:=kz M p.2 aB) (show p.1.toNat<M.length by omega);have m2:=nL M p.1.toNat (kz M p.2 aB);generalize fw E p.1.toNat (kz E p.2 aE)=a at*;generalize fw M p.1.toNat (kz M p.2 aB)=b at*;obtain⟨E2,ce⟩:=a;obtain⟨M2,cm⟩:=b;have r1:=Cj (h:=p.1.toNat) p.2 R (cm||(ce||more)) hx h2;have r2:=E8 p.1.toNat p.2 R (cm||(ce||more));generalize kA p.1.toNat p.2 R (cm||(ce||more))=c at*;obtain⟨R2,cr⟩:=c;dsimp only at*;refine⟨⟨by omega,by omega,by omega⟩,by omega,λhc=>?_⟩;rcases r1.2 hc with h4|h4
 ·rw[ko,ko]at h4
  rcases h4 with h4|h4|h4
  ·have:=m1.2 h4
   exact .inr J
  ·have:=e1.2 h4
   exact .inr J
  exact .inl h4
 exact .inr J
theorem qP{n:Nat}:∀(l:List aL.Prod) (s:FS),CY n l->WA n s->WA n (fc l s)/\had s<=had (fc l s)/\((fc l s).more=aB->s.more=aB\/had s<had (fc l s))
 |[],s,_,h=>⟨h,aX _,λc=> .inl c⟩
 | p ::r,s,hf,h=>by
  rw[fc];obtain⟨a1,a2,a3⟩:=Ni (s:=s) (hf.head p (by simp)).2 (λx hx h2=>(hf.Wz p (by simp) x hx J).2.2) h;obtain⟨k1,k2,k3⟩:=qP r (k8 p s) hf.tail a1;refine⟨k1,by omega,λc=>?_⟩;rcases k3 c with c2|c2
  ·rcases a3 c2 with c3|c3
   exact .inl c3;exact .inr J
  exact .inr J
theorem ahe{n:Nat}{s:FS}(h:WA n s):had s<=3*n:=by
 have a:=E_ s.E;have b:=E_ s.R;have c:=E_ s.M;obtain⟨h1,h2,h3⟩:=h;unfold had;omega
def z_(n:Nat)(s:FS):Nat:=3*n-had s
theorem yJ{n:Nat}{l:List aL.Prod}(hf:CY n l):zY (IL l) (WA n) (z_ n):=
 ⟨λs hs=>(qP l ⟨s.E,s.R,s.M,aE⟩ hf hs).1,λs hs c=>by
  have h:=qP l ⟨s.E,s.R,s.M,aE⟩ hf hs;have h2:=ahe h.1;rcases h.2.2 c with h3|h3
  grind
  have e:had ⟨s.E,s.R,s.M,aE⟩=had s:=rfl;show 3*n-had (fc l ⟨s.E,s.R,s.M,aE⟩)<3*n-had s
  omega⟩
theorem Nj(l:List Nat)(i:Nat):l.set i (l.getD i 0)=l:=by
 by_cases h:i<l.length
 simp_all
 simp_all[List.set_eq_of_length_le]
theorem u_{E M:List Bool}:∀(l:List aL.Prod) (F:List Nat) (more:Bool),(o7 E M l F more).2=aE->more=aE/\(o7 E M l F more).1=F/\∀p∈l,kz M p.2 aB=aB->F.getD p.1.toNat 0|||eA E F p.2 0=F.getD p.1.toNat 0
 |[],F,more,h=>⟨h,rfl,λp hp=>by grind⟩
 | p ::r,F,more,h=>by
  rw[o7]at h⊢;unfold E9 at h⊢
  by_cases c:kz M p.2 aB=aB
  ·rw[if_pos c]at h⊢
   obtain⟨h1,h2,h3⟩:=u_ r _ _ h;rw[yB]at h1;have h4:F.getD p.1.toNat 0|||eA E F p.2 0=F.getD p.1.toNat 0:=by
    simp_all[mN]
   have h5:(mN F p.1.toNat (eA E F p.2 0)).1=F:=by
    grind[mN,Nj]
   simp_all
  rw[if_neg c]at h⊢;obtain⟨h1,h2,h3⟩:=u_ r _ _ h;refine⟨h1,h2,λq hq hc=>?_⟩;rcases dw.1 hq with rfl|hq
  exact absurd hc c;exact h3 q hq hc
open dI
theorem vd{l:List Bool}{i:Nat}{b:Bool}(h:(fw l i b).2=aE):(fw l i b).1=l/\(b=aB->l.getD i aE=aB):=by
 unfold fw at h⊢;split at h
 cases h
 rename_i c
 rw[if_neg c];refine⟨rfl,λhb=>?_⟩
 cases e:l.getD i aE
 exact absurd ⟨hb,e⟩ c;rfl
theorem sY{h:Nat}:∀(body:List bJ) (R:List Bool) (more:Bool),(kA h body R more).2=aE->more=aE/\(kA h body R more).1=R/\∀x∈body,x.1=2->R.getD h aE=aB->R.getD x.2.toNat aE=aB
 |[],R,more,hm=>⟨hm,rfl,λx hx=>by grind⟩
 | x ::r,R,more,hm=>by
  rw[kA]at hm⊢;unfold rS at hm⊢
  by_cases c:x.1=2
  ·rw[if_pos c]at hm⊢
   obtain⟨h1,h2,h3⟩:=sY r _ _ hm;rw[yB]at h1;obtain⟨k1,k2⟩:=vd h1.1;rw[h2];rw[k1]at h3⊢;refine⟨h1.2,rfl,λy hy=>?_⟩;rcases dw.1 hy with rfl|hy
   exact λ_=>k2;exact h3 y hy
  rw[if_neg c]at hm⊢;obtain⟨h1,h2,h3⟩:=sY r _ _ hm;refine⟨h1,h2,λy hy=>?_⟩;rcases dw.1 hy with rfl|hy
  exact λh=>absurd h c;exact h3 y hy
structure ClosedS(l:List aL.Prod)(E R M:List Bool):Prop where
 empty:∀p∈l,kz E p.2 aE=aB->E.getD p.1.toNat aE=aB
 makes:∀p∈l,kz M p.2 aB=aB->M.getD p.1.toNat aE=aB
 reach:∀p∈l,∀x∈p.2,x.1=2->R.getD p.1.toNat aE=aB->R.getD x.2.toNat aE=aB
theorem Kv{p:aL.Prod}{s:FS}(h:(k8 p s).more=aE):s.more=aE/\(k8 p s).E=s.E/\(k8 p s).R=s.R/\(k8 p s).M=s.M/\ClosedS [p] s.E s.R s.M:=by
 unfold k8 at h⊢;obtain⟨h1,h2,h3⟩:=sY p.2 s.R _ h;rw[yB,yB]at h1;obtain⟨m1,m2⟩:=vd h1.1;obtain⟨e1,e2⟩:=vd h1.2.1;refine⟨h1.2.2,e1,h2,m1,⟨λq hq=>?_,λq hq=>?_,λq hq=>?_⟩⟩;simp only[dw,fC,or_false]at hq;subst hq;exact e2;simp only[dw,fC,or_false]at hq;subst hq;exact m2;simp only[dw,fC,or_false]at hq;subst hq;exact h3
theorem Aa:∀(l:List aL.Prod) (s:FS),(fc l s).more=aE->s.more=aE/\(fc l s).E=s.E/\(fc l s).R=s.R/\(fc l s).M=s.M/\ClosedS l s.E s.R s.M
 |[],s,h=>⟨h,rfl,rfl,rfl,⟨λp hp=>(by grind),λp hp=>(by grind),λp hp=>(by grind)⟩⟩
 | p ::r,s,h=>by
  rw[fc]at h⊢;obtain⟨h1,h2,h3,h4,h5⟩:=Aa r _ h;obtain⟨k1,k2,k3,k4,k5⟩:=Kv h1;rw[k2]at h2;rw[k3]at h3;rw[k4]at h4;rw[k2,k3,k4]at h5;refine⟨k1,h2,h3,h4,⟨λq hq=>?_,λq hq=>?_,λq hq=>?_⟩⟩
  ·rcases dw.1 hq with rfl|hq
   exact k5.empty q (by simp);exact h5.empty q hq
  ·rcases dw.1 hq with rfl|hq
   exact k5.makes q (by simp);exact h5.makes q hq
  rcases dw.1 hq with rfl|hq
  exact k5.reach q (by simp);exact h5.reach q hq
theorem Q9{l:List Bool}{i k:Nat}{b:Bool}(h:l.getD k aE=aB):(fw l i b).1.getD k aE=true:=by
 unfold fw;split
 ·rw[cH]at h⊢
  rw[EF];split
  ·split
   rfl
   rename_i e1 e2
   rw[nF J]at h;cases h
  exact h
 exact h
theorem Ck{h k:Nat}:∀(body:List bJ) (R:List Bool) (more:Bool),R.getD k aE=aB->(kA h body R more).1.getD k aE=aB
 |[],R,more,hk=>hk
 |x::r,R,more,hk=>by
  rw[kA];refine Ck r _ _ ?_;unfold rS;split;exact Q9 hk;exact hk
theorem Cm{k:Nat}:∀(l:List aL.Prod) (s:FS),s.R.getD k aE=aB->(fc l s).R.getD k aE=aB
 |[],s,h=>h
 |p::r,s,h=>by
  rw[fc];refine Cm r _ ?_;unfold k8;exact Ck _ _ _ h
theorem sZ{E:List Bool}{F:List Nat}{h:Nat}:∀(body:List bJ) (W:List Nat) (more:Bool),(jf E F h body W more).2=aE->more=aE/\(jf E F h body W more).1=W/\∀pre x post,body=pre++x::post->x.1=2->W.getD x.2.toNat 0|||eA E F post (W.getD h 0)=W.getD x.2.toNat 0
 |[],W,more,hm=>⟨hm,rfl,λpre x post e=>by simp at e⟩
 | y ::r,W,more,hm=>by
  rw[jf]at hm⊢;unfold ja at hm⊢
  by_cases c:y.1=2
  ·rw[if_pos c]at hm⊢
   obtain⟨h1,h2,h3⟩:=sZ r _ _ hm;rw[yB]at h1;have h4:W.getD y.2.toNat 0|||eA E F r (W.getD h 0)=W.getD y.2.toNat 0:=by
    simp_all[mN]
   have h5:(mN W y.2.toNat (eA E F r (W.getD h 0))).1=W:=by
    grind[mN,Nj]
   rw[h2];rw[h5]at h3⊢;refine⟨h1.2,rfl,λpre x post e hx=>?_⟩
   match pre,e with
   | [],e=>
    simp_all
   | z::pre,e=>
    grind
  rw[if_neg c]at hm⊢;obtain⟨h1,h2,h3⟩:=sZ r _ _ hm;refine⟨h1,h2,λpre x post e hx=>?_⟩
  match pre,e with
  | [],e=>
   simp_all
  | z::pre,e=>
   grind
theorem vh{E:List Bool}{F:List Nat}:∀(l:List aL.Prod) (W:List Nat) (more:Bool),(mF E F l W more).2=aE->more=aE/\(mF E F l W more).1=W/\∀p∈l,∀pre x post,p.2=pre++x::post->x.1=2->W.getD x.2.toNat 0|||eA E F post (W.getD p.1.toNat 0)=W.getD x.2.toNat 0
 |[],W,more,hm=>⟨hm,rfl,λp hp=>by grind⟩
 |p::r,W,more,hm=>by
  rw[mF]at hm⊢;obtain⟨h1,h2,h3⟩:=vh r _ _ hm;obtain⟨k1,k2,k3⟩:=sZ p.2 W more h1;rw[k2]at h2 h3⊢;refine⟨k1,h2,λq hq=>?_⟩;rcases dw.1 hq with rfl|hq
  exact k3;exact h3 q hq
theorem WB{l:List Nat}{i b k z:Nat}(h:(l.getD k 0).testBit z=aB):((mN l i b).1.getD k 0).testBit z=true:=by
 unfold mN;rw[cH,EF];split
 ·rename_i e
  subst e;split;rw[Option.getD_some,Bl,h,QF]
  rename_i e2
  rw[cH,nF J]at h;simp at h
 rw[<-cH];exact h
theorem Cn{E:List Bool}{F:List Nat}{h k z:Nat}:∀(body:List bJ) (W:List Nat) (more:Bool),(W.getD k 0).testBit z=aB->((jf E F h body W more).1.getD k 0).testBit z=aB
 |[],W,more,hk=>hk
 |x::r,W,more,hk=>by
  rw[jf];refine Cn r _ _ ?_;unfold ja;split;exact WB hk;exact hk
theorem Fa{E:List Bool}{F:List Nat}{k z:Nat}:∀(l:List aL.Prod) (W:List Nat) (more:Bool),(W.getD k 0).testBit z=aB->((mF E F l W more).1.getD k 0).testBit z=aB
 |[],W,more,hk=>hk
 |p::r,W,more,hk=>by
  rw[mF];exact Fa r _ _ (Cn _ _ _ hk)
structure jU(l:List aL.Prod)(E:List Bool)(F W:List Nat)(R M:List Bool):Prop extends ClosedS l E R M where
 first:∀p∈l,kz M p.2 aB=aB->F.getD p.1.toNat 0|||eA E F p.2 0=F.getD p.1.toNat 0
 follow:∀p∈l,∀pre x post,p.2=pre++x::post->x.1=2->W.getD x.2.toNat 0|||eA E F post (W.getD p.1.toNat 0)=W.getD x.2.toNat 0
 top:R.getD 0 aE=aB
 last:(W.getD 0 0).testBit 63=aB
theorem aaK{x y z:Nat}(h:x|||y=x)(hy:y.testBit z=aB):x.testBit z=true:=by
 grind
open eh
def pR(w:List Int)(a:Nat):Nat:=if a<w.length then(w.getD a 0).toNat else 63
theorem Co{E:List Bool}{F:List Nat}{behind z:Nat}:∀(b:List bJ) (out:Nat),out.testBit z=aB->(io E F behind b out).testBit z=aB
 |[],out,h=>by simp_all[io]
 | x::r,out,h=>by
  unfold io;split;rw[Bl,h,QF];split;exact Co r _ (by simp_all);rw[Bl,h,QF]
theorem wU{l:List aL.Prod}{p k:Int}{kids:List Tree}{x:bJ}{u:Nat}(h:dm l (.mk p k kids) x u)(hp:0<=p):x.1≠1/\p<(l.length:Int)/\(a_ l p).1=x.2/\k=0/\b9 l kids (a_ l p).2 u:=by
 grind[dm]
theorem mw{l:List aL.Prod}{p k:Int}{kids:List Tree}{x:bJ}{u:Nat}(h:dm l (.mk p k kids) x u):(x.1=1/\p= -1/\kids=[])\/(x.1≠1/\0<=p):=by
 grind[dm]
section
variable{l:List aL.Prod}{n:Nat}{E R M:List Bool}{F W:List Nat}{w:List Int}
mutual
theorem Fb(hC:jU l E F W R M):∀{t:Tree} {x:bJ} {u:Nat},dm l t x u->0<=t.prod->leaves t=0->E.getD x.2.toNat aE=aB
 | .mk p k kids,x,u,h,hp,h0=>by
  have hp:0<=p:=hp;obtain⟨a1,a2,a3,a4,a5⟩:=wU h hp;rw[leaves,if_neg J]at h0;rw[<-a3];exact hC.empty _ (ee hp a2) (yK hC a5 h0)
theorem yK(hC:jU l E F W R M):∀{ks:List Tree} {b:List bJ} {u:Nat},b9 l ks b u->cC ks=0->kz E b aE=aB
 |[],[],_,_,_=>rfl
 | .mk p k kk::r,y::b,u,h,h0=>by
  rw[b9]at h;rw[cC]at h0;have ih:=yK hC h.2 J;unfold kz at ih⊢;rw[cY,ih,QE];rcases mw h.1 with⟨e1,e2,_⟩|⟨e1,e2⟩
  simp_all[leaves];rw[if_neg e1];split;exact Fb hC h.1 e2 J;rfl
 |[],_::_,_,h,_=>by grind[b9]
 |_::_,[],_,h,_=>by rfl
end
mutual
theorem Nk(hC:jU l E F W R M):∀{t:Tree} {x:bJ} {u:Nat},dm l t x u->0<=t.prod->M.getD x.2.toNat aE=aB
 | .mk p k kids,x,u,h,hp=>by
  have hp:0<=p:=hp;obtain⟨a1,a2,a3,a4,a5⟩:=wU h hp;rw[<-a3];exact hC.makes _ (ee hp a2) (Bx hC a5)
theorem Bx(hC:jU l E F W R M):∀{ks:List Tree} {b:List bJ} {u:Nat},b9 l ks b u->kz M b aB=aB
 |[],[],_,_=>rfl
 | .mk p k kk::r,y::b,u,h=>by
  rw[b9]at h;have ih:=Bx hC h.2;unfold kz at ih⊢;rw[cY,ih,QE];rcases mw h.1 with⟨e1,e2,_⟩|⟨e1,e2⟩
  simp_all;rw[if_neg e1];split;exact Nk hC h.1 e2;rfl
 |[],_::_,_,h=>by grind[b9]
 |_::_,[],_,h=>by rfl
end
theorem WC{a:Nat}{v:Int}{r:List Int}(h:w.drop a=v::r):pR w a=v.toNat:=by
 have h1:(w.drop a)[0]?=ah v:=by grind
 rw[List.getElem?_drop]at h1;have h2:=(dK.1 h1).1;unfold pR;rw[if_pos (by simpa using h2),cH];rw[mi]at h1;rw[h1];rfl
mutual
theorem Nl(hC:jU l E F W R M):∀{t:Tree} {x:bJ} {u a:Nat},dm l t x u->0<=t.prod->0<leaves t->(∃r,w.drop a=eU l t++r)->(F.getD x.2.toNat 0).testBit (pR w a)=aB
 | .mk p k kids,x,u,a,h,hp,h0,⟨r,hr⟩=>by
  have hp:0<=p:=hp;obtain⟨a1,a2,a3,a4,a5⟩:=wU h hp;rw[leaves,if_neg J]at h0;rw[<-a3];refine aaK (hC.first _ (ee hp a2) (Bx hC a5)) ?_;rw[hJ]at hr;exact rT hC a5 ⟨r,hr⟩ 0 0 λh=>by omega
theorem rT(hC:jU l E F W R M):∀{ks:List Tree} {b:List bJ} {u a:Nat},b9 l ks b u->(∃r,w.drop a=eV l ks b++r)->∀(behind out:Nat),(cC ks=0->behind.testBit (pR w a)=aB)->(io E F behind b out).testBit (pR w a)=aB
 | [],[],u,a,_,_,behind,out,hb=>by
  simp_all[io,cC]
 | .mk p k kk::ks,y::b,u,a,h,⟨r,hr⟩,behind,out,hb=>by
  rw[b9]at h;rw[jy,eu]at hr;unfold io;rcases mw h.1 with⟨e1,e2,e3⟩|⟨e1,e2⟩
  ·rw[if_pos e1]
   have hx:dJ l (.mk p k kk) y=[y.2]:=by unfold dJ;rw[if_pos (by show p<0;omega)]
   rw[hx]at hr;rw[WC hr,Bl,aag,QG]
  rw[if_neg e1];have hx:dJ l (.mk p k kk) y=eU l (.mk p k kk):=by unfold dJ;rw[if_neg (by show ¬p<0;omega)]
  rw[hx]at hr;have hlen:=wP h.1 e2
  by_cases h0:leaves (.mk p k kk)=0
  ·rw[if_pos (Fb hC h.1 e2 h0)]
   have hy:eU l (.mk p k kk)=[]:=mT J;rw[hy,fD]at hr;exact rT hC h.2 ⟨r,hr⟩ behind _ λh1=>hb (by grind[cC])
  have hf:=Nl hC h.1 e2 J ⟨_,hr⟩;split;exact Co _ _ (by rw[Bl,hf,QG]);rw[Bl,hf,QG]
 |[],_::_,_,_,h,_,_,_,_=>by grind[b9]
 |_::_,[],_,_,h,_,_,_,_=>by grind[b9]
end
end
section
variable(l:List aL.Prod)(E:List Bool)(F W:List Nat)(R M:List Bool)(w:List Int)
mutual
def IM:Tree->Nat->Prop
 | .mk p _ kids,a=>Fc kids a/\M.getD (a_ l p).1.toNat aE=aB/\R.getD (a_ l p).1.toNat aE=aB/\(W.getD (a_ l p).1.toNat 0).testBit (pR w (a+cC kids))=aB/\(if cC kids=0 then E.getD (a_ l p).1.toNat aE=aB else(F.getD (a_ l p).1.toNat 0).testBit (pR w a)=aB)
def Fc:List Tree->Nat->Prop
 |[],_=>True
 | .mk p k kk::r,a=>(p<0\/IM (.mk p k kk) a)/\Fc r (a+leaves (.mk p k kk))
end
end
section
variable{l:List aL.Prod}{n:Nat}{E R M:List Bool}{F W:List Nat}{w:List Int}
mutual
theorem Cp(hC:jU l E F W R M)(hs:fY n l):∀{t:Tree} {x:bJ} {u a:Nat},dm l t x u->0<=t.prod->R.getD x.2.toNat aE=aB->(W.getD x.2.toNat 0).testBit (pR w (a+leaves t))=aB->(∃r,w.drop a=eU l t++r)->IM l E F W R M w t a
 | .mk p k kids,x,u,a,h,hp,hR,hW,hr=>by
  have hm:=Nk hC h hp;have he:=λh0=>Fb hC h hp h0;have hf:=λh0=>Nl hC h hp h0 hr;have hp:0<=p:=hp;obtain⟨a1,a2,a3,a4,a5⟩:=wU h hp;rw[leaves,if_neg J]at hW he hf;rw[hJ]at hr;rw[<-a3]at hm hR hW he hf;rw[IM];refine⟨IN hC hs (ee hp a2) [] (by simp) a5 hR hW hr,hm,hR,hW,?_⟩;split
  ·rename_i h0;exact he h0
  rename_i h0;exact hf J
theorem IN(hC:jU l E F W R M)(hs:fY n l){q:aL.Prod}(hq:q∈l):∀{ks:List Tree} {b:List bJ} {u a:Nat} (pre:List bJ),q.2=pre++b->b9 l ks b u->R.getD q.1.toNat aE=aB->(W.getD q.1.toNat 0).testBit (pR w (a+cC ks))=aB->(∃r,w.drop a=eV l ks b++r)->Fc l E F W R M w ks a
 |[],[],_,_,_,_,_,_,_,_=>by rw[Fc];trivial
 | .mk p k kk::ks,y::b,u,a,pre,hb,h,hR,hW,⟨r,hr⟩=>by
  rw[b9]at h;rw[jy,eu]at hr;rw[cC]at hW;have hlen:=kY h.1;have qE:w.drop (a+leaves (.mk p k kk))=eV l ks b++r:=by grind[kw,EG]
  rw[Fc];refine⟨?_,IN hC hs hq (pre++[y]) (by simp_all) h.2 hR (by grind) ⟨r,qE⟩⟩;rcases mw h.1 with⟨e1,e2,e3⟩|⟨e1,e2⟩
  omega
  right
  have hy2:y.1=2:=by
   rcases(hs q hq).2.2 y (by simp_all)with h|h
   omega;exact h.1
  have hx:dJ l (.mk p k kk) y=eU l (.mk p k kk):=by unfold dJ;rw[if_neg (by show ¬p<0;omega)]
  rw[hx]at hr;refine Cp hC hs h.1 e2 (hC.reach q hq y (by simp_all) hy2 hR) (aaK (hC.follow q hq pre y b hb hy2) ?_) ⟨_,hr⟩;exact rT hC h.2 ⟨r,qE⟩ _ 0 λh0=>by simp_all
 |[],_::_,_,_,_,_,h,_,_,_=>by grind[b9]
 |_::_,[],_,_,_,_,h,_,_,_=>by grind[b9]
end
end
end dA
namespace rj
open aL dI eh dA
mutual
inductive By(l:List aL.Prod):bJ->List Int->Prop
 |pO {x:bJ} (h:x.1=1):By l x [x.2]
 |Wz {x:bJ} {p:aL.Prod} {ws:List Int} (h:x.1≠1) (hp:p∈l) (hx:p.1=x.2) (hd:pS l p.2 ws):By l x ws
inductive pS(l:List aL.Prod):List bJ->List Int->Prop
 |nil:pS l [] []
 |cons {y:bJ} {r:List bJ} {a b:List Int} (h1:By l y a) (h2:pS l r b):pS l (y::r) (a++b)
end
theorem pS.Q_{l:List aL.Prod}:∀{r r':List bJ} {a b:List Int},pS l r a->pS l r' b->pS l (r++r') (a++b)
 |[],_,_,_,.nil,h=>h
 |_::_,_,_,_,.cons h1 h2,h=>by rw[eu];exact .cons h1 (pS.Q_ h2 h)
theorem aaL{l:List aL.Prod}{x:bJ}{a:List Int}(h:By l x a):pS l [x] a:=by
 have:=pS.cons h pS.nil
 simp_all
def cut(w:List Int)(a b:Nat):List Int:=(w.drop a).take (b-a)
theorem wV{w:List Int}{a m b:Nat}(h1:a<=m)(h2:m<=b):cut w a m++cut w m b=cut w a b:=by
 unfold cut;have e3:w.drop m=(w.drop a).drop (m-a):=by simp_all
 rw[e3,show b-a=(m-a)+(b-m)by omega,aaf]
theorem Fe(w:List Int)(a:Nat):cut w a a=[]:=by simp[cut]
theorem Dt{w:List Int}{a n:Nat}(h:n=w.length):cut w a n=w.drop a:=by
 simp_all[cut,gD]
theorem Uk{w:List Int}{a b:Nat}(h1:a<=b)(h2:b<=w.length):(cut w a b).length=b-a:=by
 grind[cut]
theorem Nn{l:List aL.Prod}{w:List Int}{o:bJ->Nat->Nat->Nat}:∀(body:List bJ) (a b:Nat),a<=b->(∀y∈body,∀i j,a<=i->i<=j->j<=b->0<o y i j->By l y (cut w i j))->0<jT o body a b->pS l body (cut w a b)
 | [],a,b,mE,_,h=>by
  rw[mZ _ _ mE,jo]at h;have hE:a=b:=by
   grind
  subst hE;rw[Fe];exact .nil
 |y::r,a,b,mE,ho,h=>by
  obtain⟨m,m1,m2,m3⟩:=Ug mE h;unfold mM at m3;rw[eE,decide_eq_true_iff,decide_eq_true_iff]at m3;rw[<-wV m1 m2];exact .cons (ho y (by simp) a m (aX _) m1 m2 m3.1) (Nn r m b m2 (λz hz i j h1 h2 h3=>ho z (by grind) i j J h2 h3) m3.2)
section
variable{w:List Int}{l:List aL.Prod}{n:Nat}{c:eR}
open Classical in
theorem Ab(hc:AS w l n c)(hs:fY n l){k a b:Nat}(hk:k<n)(mE:a<=b)(hb:b<=w.length)(h:0<c ((k:Int),(a:Int),(b:Int))):By l (2,(k:Int)) (cut w a b):=by
 have hp:Bw w l n (λx=>if By l (2,x.1) (cut w x.2.1.toNat x.2.2.toNat)then 2 else 0):=λq i j hq rG hj=>by
  dsimp only;rw[de,de]
  by_cases cd:By l (2,(q:Int)) (cut w i j)
  simp_all[wQ];rw[if_neg cd];apply Nat.le_of_not_lt;intro h0;unfold i_ at h0;obtain⟨r,r1,r2,r3⟩:=uY (EH.1 h0).2;have hm:=ee (l:=l) (p:=(r:Int)) J J;refine cd (.Wz J hm r2 (Nn _ i j rG (λy hy i' j' h1 h2 h3 h4=>?_) r3));unfold cD at h4
  by_cases e:y.1=2
  grind
  rw[if_neg e]at h4;split at h4
  ·rename_i h5
   obtain⟨h6,h7⟩:=h5;have e1:y.1=1:=((hs _ hm).2.2 y hy).resolve_right λh=>e h.1;obtain⟨h8,h9⟩:=dK.1 h7;have:cut w i' j'=[y.2]:=by
    simp_all[cut,dL]
   rw[this];exact .pO e1
  omega
 have:=hc.least _ hp k a b hk mE hb;rw[de,de]at this
 by_cases cd:By l (2,(k:Int)) (cut w a b)
 exact cd;rw[if_neg cd]at this;omega
theorem Q'(hc:AS w l n c)(hs:fY n l){x:bJ}{a b:Nat}(hx:x.1=1\/(x.1=2/\0<=x.2/\x.2<(n:Int)))(mE:a<=b)(hb:b<=w.length)(h:0<cD c w x a b):By l x (cut w a b):=by
 unfold cD at h;rcases hx with hx|⟨h2,h3,h4⟩
 ·rw[if_neg J]at h
  split at h
  ·rename_i h5
   obtain⟨h6,h7⟩:=h5;obtain⟨h8,h9⟩:=dK.1 h7;have:cut w a b=[x.2]:=by
    simp_all[cut,dL]
   rw[this];exact .pO hx
  omega
 rw[if_pos h2]at h;obtain⟨x1,x2⟩:=x;subst h2;have e:x2=((x2.toNat:Nat):Int):=by omega
 grind[Ab]
mutual
theorem Ff(hc:AS w l n c)(hs:fY n l):∀{x:bJ} {ws:List Int},By l x ws->(x.1=1\/x.1=2)->∀{a:Nat},a<=w.length->(∃r,w.drop a=ws++r)->1<=cD c w x a (a+ws.length)
 | x,_,.pO h1,_,a,ha,⟨r,hr⟩=>by
  have hcell:w[a]?=ah x.2:=by
   have:(w.drop a)[0]?=ah x.2:=by grind
   grind
  simp_all[cD]
 | x,ws,.Wz (p:=p) h1 hp hx hd,fy,a,ha,⟨r,hr⟩=>by
  obtain⟨s1,s2,s3⟩:=hs _ hp;have M9:a+ws.length<=w.length:=by
   have:=congrArg ky hr;rw[je,bT]at this;omega
  have fu:=Cq hc hs hd (λy hy=>(s3 y hy).imp id λh=>h.1) ha ⟨r,hr⟩;unfold cD;rw[if_pos (fy.resolve_left h1)];have e:x.2=((x.2.toNat:Nat):Int):=by omega
  rw[e,hc.fixed a (a+ws.length) J M9 x.2.toNat J];have h1:=wS (cD c w) a (a+ws.length) x.2.toNat hp J;rw[mZ _ _ J]at h1;unfold i_;omega
theorem Cq(hc:AS w l n c)(hs:fY n l):∀{b:List bJ} {ws:List Int},pS l b ws->(∀y∈b,y.1=1\/y.1=2)->∀{a:Nat},a<=w.length->(∃r,w.drop a=ws++r)->1<=jo (cD c w) b a (a+ws.length)
 |[],_,.nil,_,a,_,_=>by simp[jo]
 | y ::b,_,.cons (a:=u) (b:=s) h1 h2,hy,a,ha,⟨r,hr⟩=>by
  rw[eu]at hr;have M9:a+u.length<=w.length:=by
   have:=congrArg ky hr;rw[je,bT]at this;omega
  have k1:=Ff hc hs h1 (hy y (by simp)) ha ⟨_,hr⟩;have k2:=Cq hc hs h2 (λz hz=>hy z (by grind)) M9 ⟨r,by grind[kw,EG]⟩;rw[jo,bT,show a+(u.length+s.length)=a+u.length+s.length by omega];have h3:=Dp (λi=>cD c w y a (a+i)*jo (cD c w) b (a+i) (a+u.length+s.length)) (i:=u.length) (k:=a+u.length+s.length-a+1) J;have h4:1*1<=cD c w y a (a+u.length)*jo (cD c w) b (a+u.length) (a+u.length+s.length):=oT k1 k2;omega
end
end
theorem WD{g:dD}{w:List Int}(fS:iP g w=0):0<iy g w↔By g.az (2,0) w:=by
 obtain⟨hg,_,_⟩:=lD fS;obtain⟨_,_,a3,_⟩:=cz hg;have hs:=nK (n:=g.bB.toNat) hg J;have hc:=qM (w:=w) hs.bB;unfold iy;rw[if_pos fS]
 constructor
 ·intro h
  have:=Ab hc hs (k:=0) (a:=0) (b:=w.length) J (bC _) (aX _) h;rw[Dt I]at this;exact this
 intro h;have:=Ff hc hs h (.inr I) (a:=0) (bC _) ⟨[],by simp⟩;unfold cD at this;rw[if_pos I,cU]at this;exact this
section
variable{l:List aL.Prod}{E R M:List Bool}{F W:List Nat}
mutual
theorem wW(hC:jU l E F W R M):∀{x:bJ} {ws:List Int},By l x ws->x.1≠1->M.getD x.2.toNat aE=aB
 |_,_,.pO h,h0=>absurd h h0
 |x,ws,.Wz h1 hp hx hd,_=>by rw[<-hx];exact hC.makes _ hp (Fg hC hd)
theorem Fg(hC:jU l E F W R M):∀{b:List bJ} {ws:List Int},pS l b ws->kz M b aB=aB
 |[],_,.nil=>rfl
 |y::r,_,.cons h1 h2=>by
  have ih:=Fg hC h2;unfold kz at ih⊢;rw[cY,ih,QE]
  by_cases c:y.1=1
  simp_all;rw[if_neg c,wW hC h1 c,ite_self]
end
end
def yL(l:List aL.Prod)(s:FS):Prop:=(∀i:Nat,s.E.getD i aE=aB->By l (2,(i:Int)) [])/\∀i:Nat,s.M.getD i aE=aB->∃ws,By l (2,(i:Int)) ws
theorem Fh{l:List aL.Prod}{E:List Bool}(h:∀i:Nat,E.getD i aE=aB->By l (2,(i:Int)) []):∀(b:List bJ),(∀x∈b,x.1=1\/(x.1=2/\0<=x.2))->kz E b aE=aB->pS l b []
 |[],_,_=> .nil
 | y::r,hx,ha=>by
  unfold kz at ha;rw[cY,eE]at ha;have ih:=Fh h r (λz hz=>hx z (by grind)) ha.2;rcases hx y (by simp)with c|⟨c1,c2⟩
  simp_all;rw[if_neg J,if_pos c1]at ha;have hd:=h _ ha.1;obtain⟨y1,y2⟩:=y;subst c1;rw[uP c2]at hd;exact .cons hd ih
theorem Fi{l:List aL.Prod}{M:List Bool}(h:∀i:Nat,M.getD i aE=aB->∃ws,By l (2,(i:Int)) ws):∀(b:List bJ),(∀x∈b,x.1=1\/(x.1=2/\0<=x.2))->kz M b aB=aB->∃ws,pS l b ws
 |[],_,_=>⟨[],.nil⟩
 | y::r,hx,ha=>by
  unfold kz at ha;rw[cY,eE]at ha;obtain⟨ws,ih⟩:=Fi h r (λz hz=>hx z (by grind)) ha.2;rcases hx y (by simp)with c|⟨c1,c2⟩
  exact⟨_,.cons (.pO c) ih⟩;rw[if_neg J,if_pos c1]at ha;obtain⟨us,hd⟩:=h _ ha.1;obtain⟨y1,y2⟩:=y;subst c1;rw[uP c2]at hd;exact⟨_,.cons hd ih⟩
theorem No{l:List Bool}{i k:Nat}{b:Bool}(h:(fw l i b).1.getD k aE=aB):l.getD k aE=aB\/(k=i/\b=aB):=by
 unfold fw at h;split at h
 ·rename_i c
  rw[cH,EF]at h
  by_cases e:i=k
  exact .inr ⟨e.symm,c.1⟩;rw[if_neg e,<-cH]at h;exact .inl h
 exact .inl h
theorem Kw{n:Nat}{l:List aL.Prod}(hs:fY n l){p:aL.Prod}(hp:p∈l){s:FS}(h:yL l s):yL l (k8 p s):=by
 obtain⟨s1,s2,s3⟩:=hs p hp;have hx:∀x∈p.2,x.1=1\/(x.1=2/\0<=x.2):=λx hx=>(s3 x hx).imp id λh=>⟨h.1,h.2.1⟩;unfold k8;refine⟨λi hi=>?_,λi hi=>?_⟩
 ·rcases No hi with h1|⟨h1,h2⟩
  exact h.1 i h1;subst h1;exact .Wz J hp J (Fh h.1 _ hx h2)
 rcases No hi with h1|⟨h1,h2⟩
 exact h.2 i h1;subst h1;obtain⟨ws,hw⟩:=Fi h.2 _ hx h2;exact⟨ws,.Wz J hp J hw⟩
theorem Ac{n:Nat}{l:List aL.Prod}(hs:fY n l):∀(r:List aL.Prod),(∀p∈r,p∈l)->∀(s:FS),yL l s->yL l (fc r s)
 |[],_,s,h=>h
 |p::r,hr,s,h=>by
  rw[fc];exact Ac hs r (λq hq=>hr q (by grind)) _ (Kw hs (hr p (by simp)) h)
def jF(l:List aL.Prod)(w:List Int)(x:bJ)(a b:Nat)(t:Tree):Prop:=dm l t x a/\dJ l t x=cut w a b
def Fj(l:List aL.Prod)(w:List Int)(body:List bJ)(a b:Nat)(ts:List Tree):Prop:=b9 l ts body a/\eV l ts body=cut w a b
theorem jF.leaves{l:List aL.Prod}{w:List Int}{x:bJ}{a b:Nat}{t:Tree}(h:jF l w x a b t)(mE:a<=b)(hb:b<=w.length):leaves t=b-a:=by
 rw[<-kY h.1,h.2,Uk mE hb]
theorem my{l:List aL.Prod}{w:List Int}{y:bJ}{r:List bJ}{a m b:Nat}{t:Tree}{ts:List Tree}(h1:jF l w y a m t)(h2:Fj l w r m b ts)(ham:a<=m)(hmb:m<=b)(hb:b<=w.length):Fj l w (y::r) a b (t::ts):=by
 have hl:=h1.leaves ham J;refine⟨?_,?_⟩;rw[b9,hl,show a+(m-a)=m by omega];exact⟨h1.1,h2.1⟩;rw[jy,h1.2,h2.2,wV ham hmb]
theorem Np{f:Nat->Nat}:∀{k:Nat},2<=eo f k->(∃i,i<k/\2<=f i)\/∃i j,i<j/\j<k/\0<f i/\0<f j
 |0,h=>by grind[eo]
 | k +1,h=>by
  rw[eo]at h
  by_cases c:2<=f k
  grind
  by_cases c2:2<=eo f k
  ·rcases Np c2 with⟨i,h1,h2⟩|⟨i,j,h1,h2,h3⟩
   grind;exact .inr ⟨i,j,h1,by omega,h3⟩
  grind[zW]
section
variable{l:List aL.Prod}{w:List Int}{o:bJ->Nat->Nat->Nat}
theorem row_one:∀(body:List bJ) (a b:Nat),a<=b->b<=w.length->(∀y∈body,∀i j,i<=j->j<=w.length->0<o y i j->∃t,jF l w y i j t)->0<jo o body a b->∃ts,Fj l w body a b ts
 | [],a,b,mE,_,_,h=>by
  rw[jo]at h;have hE:a=b:=by
   grind
  subst hE;exact⟨[],by rw[b9];trivial,by simp[Fe,eV,jx]⟩
 |y::r,a,b,mE,hb,ho,h=>by
  rw[jo]at h;obtain⟨i,h1,h2⟩:=zW h;have h2:0<o y a (a+i)*jo o r (a+i) b:=h2;obtain⟨t,ht⟩:=ho y (by simp) a (a+i) J J (QM h2);obtain⟨ts,PB⟩:=row_one r (a+i) b J hb (λz hz=>ho z (by grind)) (QN h2);exact⟨t::ts,my ht PB J J hb⟩
theorem Ul:∀(body:List bJ) (a b:Nat),a<=b->b<=w.length->(∀y∈body,∀i j,i<=j->j<=w.length->0<o y i j->∃t,jF l w y i j t)->(∀y∈body,∀i j,i<=j->j<=w.length->2<=o y i j->∃t t',t≠t'/\jF l w y i j t/\jF l w y i j t')->2<=jo o body a b->∃ts AT,ts≠AT/\Fj l w body a b ts/\Fj l w body a b AT
 | [],a,b,_,_,_,_,h=>by
  grind[jo]
 | y ::r,a,b,mE,hb,ho,Be,h=>by
  rw[jo]at h;have one:=λi (hi:i<b-a+1) (h:0<o y a (a+i)*jo o r (a+i) b)=>(show ∃t ts,jF l w y a (a+i) t/\Fj l w r (a+i) b ts from by
   obtain⟨t,ht⟩:=ho y (by simp) a (a+i) J J (QM h);obtain⟨ts,PB⟩:=row_one (w:=w) r (a+i) b J hb (λz hz=>ho z (by grind)) (QN h);exact⟨t,ts,ht,PB⟩)
  rcases Np h with⟨i,h1,h2⟩|⟨i,j,h1,h2,h3,h4⟩
  ·have h2:2<=o y a (a+i)*jo o r (a+i) b:=h2
   obtain⟨t,ts,ht,PB⟩:=one i h1 J
   by_cases c:2<=o y a (a+i)
   ·obtain⟨t1,t2,hne,k1,k2⟩:=Be y (by simp) a (a+i) J J c
    exact⟨t1::ts,t2::ts,λe=>hne (by simp_all),my k1 PB J J hb,my k2 PB J J hb⟩
   have c2:2<=jo o r (a+i) b:=by
    grind
   obtain⟨t1,t2,hne,k1,k2⟩:=Ul r (a+i) b J hb (λz hz=>ho z (by grind)) (λz hz=>Be z (by grind)) c2;exact⟨t::t1,t::t2,λe=>hne (by simp_all),my ht k1 J J hb,my ht k2 J J hb⟩
  have h3:0<o y a (a+i)*jo o r (a+i) b:=h3;have h4:0<o y a (a+j)*jo o r (a+j) b:=h4;obtain⟨t,ts,ht,PB⟩:=one i J h3;obtain⟨t',AT,ht',akt⟩:=one j h2 h4;refine⟨t::ts,t'::AT,λe=>?_,my ht PB J J hb,my ht' akt J J hb⟩;simp only[fL]at e;have e1:=ht.leaves J J;have e2:=ht'.leaves J J;rw[e.1]at e1;omega
end
theorem Fk{o:bJ->Nat->Nat->Nat}{a b n:Nat}:∀{l:List aL.Prod},2<=mu o a b n l->(∃k,k<l.length/\(a_ l (k:Int)).1=(n:Int)/\2<=jT o (a_ l (k:Int)).2 a b)\/∃k k',k<k'/\k'<l.length/\(a_ l (k:Int)).1=(n:Int)/\0<jT o (a_ l (k:Int)).2 a b/\(a_ l (k':Int)).1=(n:Int)/\0<jT o (a_ l (k':Int)).2 a b
 |[],h=>by grind[mu]
 | p ::r,h=>by
  rw[mu]at h;have sh:∀k:Nat,a_ (p::r) ((k+1:Nat):Int)=a_ r (k:Int):=λk=>rfl;have hc:(p.1=(n:Int)/\2<=jT o p.2 a b)\/(p.1=(n:Int)/\0<jT o p.2 a b/\0<mu o a b n r)\/2<=mu o a b n r:=by
   grind
  rcases hc with⟨c,c2⟩|⟨c,c2,c3⟩|c
  exact .inl ⟨0,by simp,c,c2⟩
  ·obtain⟨k,h1,h2,h3⟩:=uY (l:=r) (o:=o) (a:=a) (b:=b) (n:=n) c3
   exact .inr ⟨0,k+1,by omega,by grind,c,c2,by simp_all,by simp_all⟩
  rcases Fk c with⟨k,h1,h2,h3⟩|⟨k,k',h1,h2,h3,h4,h5,h6⟩
  grind;exact .inr ⟨k+1,k'+1,by omega,by grind,by simp_all,by simp_all,by simp_all,by simp_all⟩
section
variable{w:List Int}{l:List aL.Prod}{n:Nat}{c:eR}
theorem pT{k:Nat}{q a b:Nat}{ts:List Tree}(hk:k<l.length)(hq:(a_ l (k:Int)).1=(q:Int))(h:Fj l w (a_ l (k:Int)).2 a b ts):jF l w (2,(q:Int)) a b (.mk (k:Int) 0 ts):=by
 refine⟨?_,?_⟩;rw[dm];exact .inr ⟨by omega,by omega,by omega,hq,rfl,h.1⟩;unfold dJ;rw[if_neg (by show ¬(k:Int)<0;omega),hJ];exact h.2
theorem Ra{y:bJ}{a b:Nat}(hy:y.1=1)(hb:b=a+1)(h:w[a]?=ah y.2):jF l w y a b (.mk (-1) (a:Int) []):=by
 obtain⟨h1,h2⟩:=dK.1 h;refine⟨by simp_all[dm],?_⟩;unfold dJ cut;rw[if_pos (by show(-1:Int)<0;decide),hb,show a+1-a=1 by omega,dL h1,h2];rfl
open Classical in
noncomputable def nM(l:List aL.Prod)(w:List Int):eR:=λx=>if ∃t t',t≠t'/\jF l w (2,x.1) x.2.1.toNat x.2.2.toNat t/\jF l w (2,x.1) x.2.1.toNat x.2.2.toNat t' then 2 else if ∃t,jF l w (2,x.1) x.2.1.toNat x.2.2.toNat t then 1 else 0
open Classical in
theorem Rb{q:Int}{a b:Nat}(h:0<nM l w (q,(a:Int),(b:Int))):∃t,jF l w (2,q) a b t:=by
 grind[nM,de]
open Classical in
theorem Fl{q:Int}{a b:Nat}(h:2<=nM l w (q,(a:Int),(b:Int))):∃t t',t≠t'/\jF l w (2,q) a b t/\jF l w (2,q) a b t':=by
 unfold nM at h;rw[de,de]at h;split at h
 omega
 split at h<;>omega
open Classical in
theorem Rf(hs:fY n l):Bw w l n (nM l w):=λq i j hq rG hj=>by
 have ho:∀p∈l,∀y∈p.2,∀i j,i<=j->j<=w.length->0<cD (nM l w) w y i j->∃t,jF l w y i j t:=λp hp y hy i j h1 h2 h=>by
  unfold cD at h;rcases(hs p hp).2.2 y hy with e|⟨e,_⟩
  ·rw[if_neg J]at h
   split at h
   ·rename_i h3;exact⟨_,Ra e h3.1 h3.2⟩
   omega
  rw[if_pos e]at h;obtain⟨y1,y2⟩:=y;subst e;exact Rb h
 have Be:∀p∈l,∀y∈p.2,∀i j,i<=j->j<=w.length->2<=cD (nM l w) w y i j->∃t t',t≠t'/\jF l w y i j t/\jF l w y i j t':=λp hp y hy i j h1 h2 h=>by
  unfold cD at h;rcases(hs p hp).2.2 y hy with e|⟨e,_⟩
  grind
  rw[if_pos e]at h;obtain⟨y1,y2⟩:=y;subst e;exact Fl h
 have two:2<=i_ (cD (nM l w) w) l i j q->∃t t',t≠t'/\jF l w (2,(q:Int)) i j t/\jF l w (2,(q:Int)) i j t':=λh=>by
  unfold i_ at h;rcases Fk (aal.1 h).2 with⟨k,h1,h2,h3⟩|⟨k,k',h1,h2,h3,h4,h5,h6⟩
  ·have hm:=ee (l:=l) (p:=(k:Int)) J J
   rw[mZ _ _ rG]at h3;obtain⟨ts,AT,hne,k1,k2⟩:=Ul (w:=w) (l:=l) _ i j rG hj (ho _ hm) (Be _ hm) (aal.1 h3).2;exact⟨_,_,λe=>hne (by simp_all),pT h1 h2 k1,pT h1 h2 k2⟩
  have hm:=ee (l:=l) (p:=(k:Int)) J J;have pg:=ee (l:=l) (p:=(k':Int)) J J;rw[mZ _ _ rG]at h4 h6;obtain⟨ts,k1⟩:=row_one (w:=w) (l:=l) _ i j rG hj (ho _ hm) (EH.1 h4).2;obtain⟨AT,k2⟩:=row_one (w:=w) (l:=l) _ i j rG hj (ho _ pg) (EH.1 h6).2;refine⟨_,_,λe=>?_,pT J h3 k1,pT h2 h5 k2⟩;simp only[Tree.mk.injEq]at e;omega
 have one:0<i_ (cD (nM l w) w) l i j q->∃t,jF l w (2,(q:Int)) i j t:=λh=>by
  unfold i_ at h;obtain⟨k,h1,h2,h3⟩:=uY (EH.1 h).2;have hm:=ee (l:=l) (p:=(k:Int)) J J;rw[mZ _ _ rG]at h3;obtain⟨ts,k1⟩:=row_one (w:=w) (l:=l) _ i j rG hj (ho _ hm) (EH.1 h3).2;exact⟨_,pT h1 h2 k1⟩
 have hle:=wQ (cD (nM l w) w) l i j q;show i_ (cD (nM l w) w) l i j q<=(if ∃t t',t≠t'/\jF l w (2,(q:Int)) (i:Int).toNat (j:Int).toNat t/\jF l w (2,(q:Int)) (i:Int).toNat (j:Int).toNat t' then 2 else if ∃t,jF l w (2,(q:Int)) (i:Int).toNat (j:Int).toNat t then 1 else 0)
 rw[de,de];generalize i_ (cD (nM l w) w) l i j q=N at*
 by_cases c2:2<=N
 simp_all;split;omega
 grind
end
theorem IP{g:dD}{w:List Int}(h:2<=iy g w):∃t t',t≠t'/\dm g.az t (2,0) 0/\eU g.az t=w/\dm g.az t' (2,0) 0/\eU g.az t'=w:=by
 unfold iy at h;split at h
 ·rename_i fS
  obtain⟨hg,_,_⟩:=lD fS;obtain⟨_,_,a3,_⟩:=cz hg;have hs:=nK (n:=g.bB.toNat) hg J;have hl:=(qM (w:=w) hs.bB).least _ (Rf hs) 0 0 w.length J (bC _) (aX _);have hl:od w g.az g.bB.toNat (0,0,(w.length:Int))<=nM g.az w (0,((0:Nat):Int),(w.length:Int)):=hl;obtain⟨t,t',hne,h1,h2⟩:=Fl (eL h hl);have hy:∀t,jF g.az w (2,0) 0 w.length t->eU g.az t=w:=λt h=>by
   have hp:0<=t.prod:=by
    obtain⟨p,k,kids⟩:=t;have h1:=h.1;rw[dm]at h1;rcases h1 with⟨e,_⟩|⟨_,e,_⟩
    cases e
    exact e
   have h2:=h.2;unfold dJ at h2;rw[if_neg J,Dt I]at h2;exact h2
  exact⟨t,t',hne,h1.1,hy t h1,h2.1,hy t' h2⟩
 omega
end rj
namespace wX
open aL dI eh dA rj
abbrev Cl:=Int×Int×Int×Int
def Kx(T col:Nat):Nat:=if col=T then 9223372036854775808 else 2^col
section
variable(l:List aL.Prod)(may:Nat->Nat)(T:Nat)
def qQ(n col i:Nat):Bool:=decide ((a_ l (i:Int)).1=(n:Int))&&!decide ((may i&&&Kx T col)=0)
def fF(n col:Nat):Nat->Int
 |0=> -1
 |k+1=>if fF n col k<0 then(if qQ l may T n col k=aB then(k:Int)else fF n col k)else fF n col k
def vj(n col:Nat):Nat->List Cl->List Cl
 |0,out=>out
 |k+1,out=>if qQ l may T n col k=aB then(if fF l may T n col k<0 then vj n col k out else vj n col k out++[((n:Int),(col:Int),fF l may T n col k,(k:Int))])else vj n col k out
def Ad(n:Nat):Nat->List Cl->List Cl
 |0,out=>out
 |c+1,out=>vj l may T n c l.length (Ad n c out)
def k9:Nat->List Cl
 |0=>[]
 |n+1=>Ad l may T n (T+1) (k9 n)
def rowAt(n col:Nat):Int:=fF l may T n col l.length
end
section
variable{l:List aL.Prod}{may:Nat->Nat}{T:Nat}
theorem pU(n col:Nat):∀k,-1<=fF l may T n col k/\fF l may T n col k<(k:Int)
 |0=>⟨by simp[fF],by simp[fF]⟩
 |k+1=>by
  have:=pU n col k;rw[fF];split;split<;>omega;omega
theorem pW(n col:Nat):∀k,k<=l.length->0<=fF l may T n col k->(a_ l (fF l may T n col k)).1=(n:Int)
 |0,_,h=>by simp_all[fF]
 | k +1,hk,h=>by
  have ih:=pW n col k J;rw[fF]at h⊢;split at h
  ·split at h
   simp_all[qQ]
   omega
  grind
theorem Bz(n col:Nat):∀(k:Nat) (out:List Cl),vj l may T n col k out=[]->out=[]/\∀i,i<k->qQ l may T n col i=aB->fF l may T n col k=(i:Int)
 |0,out,h=>⟨h,λi h=>by omega⟩
 | k + 1,out,h=>by
  rw[vj]at h
  by_cases c:qQ l may T n col k=aB
  ·rw[if_pos c]at h
   by_cases c2:fF l may T n col k<0
   ·rw[if_pos c2]at h
    obtain⟨h1,h2⟩:=Bz n col k out h;refine⟨h1,λi hi hc=>?_⟩;rw[fF,if_pos c2,if_pos c]
    grind
   simp_all
  rw[if_neg c]at h;obtain⟨h1,h2⟩:=Bz n col k out h;refine⟨h1,λi hi hc=>?_⟩;have hik:i<k:=by
   grind
  have:=h2 i hik hc;rw[fF,if_neg J];exact this
theorem IQ(n:Nat):∀(c:Nat) (out:List Cl),Ad l may T n c out=[]->out=[]/\∀col,col<c->∀i,i<l.length->qQ l may T n col i=aB->rowAt l may T n col=(i:Int)
 |0,out,h=>⟨h,λi h=>by omega⟩
 |c+1,out,h=>by
  rw[Ad]at h;obtain⟨h1,h2⟩:=Bz n c _ _ h;obtain⟨h3,h4⟩:=IQ n c out h1;refine⟨h3,λcol hc i hi Ui=>?_⟩
  by_cases e:col=c
  subst e;exact h2 i hi Ui;exact h4 col J i hi Ui
theorem IR:∀(N:Nat),k9 l may T N=[]->∀n,n<N->∀col,col<T+1->∀i,i<l.length->qQ l may T n col i=aB->rowAt l may T n col=(i:Int)
 |0,_,n,h=>by omega
 |N+1,h,n,hn=>by
  rw[k9]at h;obtain⟨h1,h2⟩:=IQ N _ _ h
  by_cases e:n=N
  grind;exact IR N h1 n J
end
def dU(T:Nat)(w:List Int)(a:Nat):Nat:=if a<w.length then(w.getD a 0).toNat else T
section
variable(l:List aL.Prod)(nx:Int->Nat->Int)
mutual
def Hw:Tree->Nat->Prop
 | .mk p _ kids,a=>nx (a_ l p).1 a=p/\Fm kids a
def Fm:List Tree->Nat->Prop
 |[],_=>True
 | .mk p k kk::r,a=>(p<0\/Hw (.mk p k kk) a)/\Fm r (a+leaves (.mk p k kk))
end
end
section
variable{l:List aL.Prod}{nx:Int->Nat->Int}
mutual
theorem aaM:∀{t t':Tree} {x:bJ} {a:Nat},dm l t x a->dm l t' x a->(0<=t.prod->Hw l nx t a)->(0<=t'.prod->Hw l nx t' a)->t=t'
 | .mk p k kids,.mk p' k' aln,x,a,h,h',hd,PA=>by
  rw[dm]at h h';rcases h with⟨a1,a2,a3,a4⟩|⟨a1,a2,a3,a4,a5,a6⟩
  simp_all
  rcases h' with⟨b1,_⟩|⟨b1,b2,b3,b4,b5,b6⟩
  omega;have hd:=hd a2;have PA:=PA b2;rw[Hw]at hd PA;have hp:p=p':=by simp_all
  subst hp;rw[a5,b5,Um a6 b6 hd.2 PA.2]
theorem Um:∀{ks Un:List Tree} {b:List bJ} {a:Nat},b9 l ks b a->b9 l Un b a->Fm l nx ks a->Fm l nx Un a->ks=Un
 |[],[],[],_,_,_,_,_=>rfl
 | .mk p k kk::r,.mk p' k' kk'::r',y::b,a,h,h',hd,PA=>by
  rw[b9]at h h';rw[Fm]at hd PA;have e:Tree.mk p k kk=Tree.mk p' k' kk':=aaM h.1 h'.1 (λhp=>hd.1.resolve_left (by have hp:0<=p:=hp;omega)) (λhp=>PA.1.resolve_left (by have hp:0<=p':=hp;omega));rw[<-e]at h' PA;rw[<-e,Um h.2 h'.2 hd.2 PA.2]
 |[],_::_,[],_,_,h,_,_=>by grind[b9]
 |_::_,_,[],_,h,_,_,_=>by grind[b9]
 |[],_,_::_,_,h,_,_,_=>by grind[b9]
 |_::_,[],_::_,_,_,h,_,_=>by grind[b9]
end
end
section
variable{l:List aL.Prod}{n:Nat}{E R M:List Bool}{F W:List Nat}{w:List Int}{may:Nat->Nat}{T:Nat}
theorem aem{x b:Nat}(h:x.testBit b=aB):(x&&&2^b)≠0:=λe=>by
 have:=congrArg (λy=>Nat.testBit y b) e;simp only[Nat.testBit_and,h,aag,Bool.and_self,Nat.zero_testBit]at this
 cases this
theorem aen(hw:∀x∈w,0<=x/\x<(T:Int))(a:Nat):Kx T (dU T w a)=2^pR w a:=by
 unfold Kx dU pR
 by_cases c:a<w.length
 ·have:=hw _ (bX c)
  grind
 grind
mutual
theorem aaN(hC:jU l E F W R M)(hs:fY n l)(hT:T<=30)(hw:∀x∈w,0<=x/\x<(T:Int))(hm:∀i,i<l.length->may i=eA E F (a_ l (i:Int)).2 (W.getD (a_ l (i:Int)).1.toNat 0))(hn:∀q,q<n->∀col,col<T+1->∀i,i<l.length->qQ l may T q col i=aB->rowAt l may T q col=(i:Int)):
 ∀{t:Tree} {x:bJ} {u a:Nat},dm l t x u->0<=t.prod->IM l E F W R M w t a->(∃r,w.drop a=eU l t++r)->Hw l (λh a=>rowAt l may T h.toNat (dU T w a)) t a
 | .mk p k kids,x,u,a,h,hp,hl,⟨r,hr⟩=>by
  have hp:0<=p:=hp;obtain⟨a1,a2,a3,a4,a5⟩:=wU h hp;rw[IM]at hl;rw[hJ]at hr;obtain⟨Hx,_,_,hW,_⟩:=hl;obtain⟨pn,rfl⟩:∃pn:Nat,p=pn:=⟨p.toNat,by omega⟩;have wY:pn<l.length:=by omega
  obtain⟨s1,s2,s3⟩:=hs _ (ee hp a2);rw[Hw];refine⟨hn _ J _ ?_ pn wY ?_,Uo hC hs hT hw hm hn a5 Hx ⟨r,hr⟩⟩
  ·unfold dU
   split
   ·rename_i c
    have:=hw _ (bX c);have e:w.getD a 0=w[a]:=by simp_all
    omega
   omega
  unfold qQ;rw[eE,decide_eq_true_iff];refine⟨by omega,?_⟩;have hb:=rT hC a5 ⟨r,hr⟩ (W.getD (a_ l (pn:Int)).1.toNat 0) 0 λh0=>by simp_all
  simp_all[aen,aem,eA]
theorem Uo(hC:jU l E F W R M)(hs:fY n l)(hT:T<=30)(hw:∀x∈w,0<=x/\x<(T:Int))(hm:∀i,i<l.length->may i=eA E F (a_ l (i:Int)).2 (W.getD (a_ l (i:Int)).1.toNat 0))(hn:∀q,q<n->∀col,col<T+1->∀i,i<l.length->qQ l may T q col i=aB->rowAt l may T q col=(i:Int)):
 ∀{ks:List Tree} {b:List bJ} {u a:Nat},b9 l ks b u->Fc l E F W R M w ks a->(∃r,w.drop a=eV l ks b++r)->Fm l (λh a=>rowAt l may T h.toNat (dU T w a)) ks a
 |[],[],_,_,_,_,_=>by rw[Fm];trivial
 | .mk p k kk::ks,y::b,u,a,h,hl,⟨r,hr⟩=>by
  rw[b9]at h;rw[Fc]at hl;rw[jy,eu]at hr;have hlen:=kY h.1;have qE:w.drop (a+leaves (.mk p k kk))=eV l ks b++r:=by grind[kw,EG]
  rw[Fm];refine⟨?_,Uo hC hs hT hw hm hn h.2 hl.2 ⟨r,qE⟩⟩
  by_cases c:p<0
  omega;have hx:dJ l (.mk p k kk) y=eU l (.mk p k kk):=by unfold dJ;rw[if_neg (show ¬(Tree.mk p k kk).prod<0 from c)]
  rw[hx]at hr;exact .inr (aaN hC hs hT hw hm hn h.1 (by show 0<=p;omega) (hl.1.resolve_left c) ⟨_,hr⟩)
 |[],_::_,_,_,h,_,_=>by grind[b9]
 |_::_,[],_,_,h,_,_=>by grind[b9]
end
end
end wX
namespace dI
open aL
def WE:zT->bJ
 | .ahead p=>(1,p)
 | .leaf _ q=>(2,q)
 | .behind p=>(3,p)
def evU:zT->Option bJ
 | .ahead _=>aj
 | .leaf _ q=>ah (2,q)
 | .behind p=>ah (4,p)
def qR(l:List aL.Prod)(t:Tree):List bJ:=(dB l t).map WE
def upE(l:List aL.Prod)(t:Tree):List bJ:=(dB l t).filterMap evU
def Uq(s:List bJ)(d:zT):List bJ:=s++[WE d]
def IS(s:List bJ)(d:zT):List bJ:=match evU d with|some x=>s++[x]|none=>s
theorem agc:∀(l:List zT) (s:List bJ),l.foldl Uq s=s++l.map WE
 |[],s=>by simp
 |d::r,s=>by rw[rh,agc r];simp[Uq]
theorem Ur:∀(l:List zT) (s:List bJ),l.foldl IS s=s++l.filterMap evU
 |[],s=>by simp
 | .leaf t q::r,s=>by rw[rh,Ur r];simp[IS,evU]
 | .ahead _::r,s=>by rw[rh,Ur r,Z9 I];simp[IS,evU]
 | .behind _::r,s=>by rw[rh,Ur r];simp[IS,evU]
def tO(l:List aL.Prod)(t:Tree):List bJ:=if t.prod<0 then [(2,t.tok)]else qR l t
theorem aeo(l:List aL.Prod)(p k:Int)(kids:List Tree):dB l (.mk p k kids)= .ahead p::(jx l kids (a_ l p).2++[.behind p]):=by rfl
theorem Fo(l:List aL.Prod)(t:Tree)(y:bJ)(r:List Tree)(b:List bJ):(jx l (t::r) (y::b)).map WE=tO l t++(jx l r b).map WE:=by
 obtain⟨p,k,kids⟩:=t;rw[jx];unfold tO qR;show QJ WE _=(if p<0 then _ else _)++_
 grind[WE,Tree.tok]
end dI
namespace gI
open aL dI eh dA rj wX
inductive TD where
 |sym (x:bJ)
 |close (p:Int)
def bI:List TD->List bJ->Nat->List TD×List bJ×Nat×Bool
 |[],out,a=>([],out,a,aB)
 | .sym x::r,out,a=>(.sym x::r,out,a,aB)
 | .close p::r,out,a=>if a+1<=2000 then bI r (out++[(3,p)]) (a+1)else(r,out++[(3,p)],a+1,aE)
def opened(l:List aL.Prod)(p:Int)(r:List TD):List TD:=(a_ l p).2.map .sym++ .close p::r
def fO(l:List aL.Prod)(nx:Int->Int):Nat->List TD->List bJ->Nat->List TD×List bJ×Nat×Int
 |0,st,out,a=>(st,out,a,14)
 | f +1,st,out,a=>
  if(bI st out a).2.2.2=aE then((bI st out a).1,(bI st out a).2.1,(bI st out a).2.2.1,14)else
  match(bI st out a).1 with
  | .sym x::r=>
   if x.1=1 then((bI st out a).1,(bI st out a).2.1,(bI st out a).2.2.1,0)
   else if nx x.2<0 then((bI st out a).1,(bI st out a).2.1,(bI st out a).2.2.1,13)
   else if(bI st out a).2.2.1+1<=2000/\(opened l (nx x.2) r).length<=60 then fO l nx f (opened l (nx x.2) r) ((bI st out a).2.1++[(1,nx x.2)]) ((bI st out a).2.2.1+1)
   else(opened l (nx x.2) r,(bI st out a).2.1++[(1,nx x.2)],(bI st out a).2.2.1+1,14)
  |_=>((bI st out a).1,(bI st out a).2.1,(bI st out a).2.2.1,0)
def iz(l:List aL.Prod)(nx:Int->Int)(st:List TD)(seen:Nat)(t:Int):Int×List TD×List bJ:=
 match fO l nx 2001 st [] 0 with
 | (st1,fK,a1,e)=>
  if e≠0 then(e,[],[])else
  match st1 with
  | .sym x::r=>if x.2≠t then(13,[],[])else if a1+1<=2000/\(bI r (fK++[(2,(seen:Int))]) (a1+1)).2.2.2=aB then(0,(bI r (fK++[(2,(seen:Int))]) (a1+1)).1,(bI r (fK++[(2,(seen:Int))]) (a1+1)).2.1)else(14,[],[])
  |_=>(13,[],[])
def s7(l:List aL.Prod)(nx:Int->Int)(st:List TD):Int×List bJ:=
 match fO l nx 2001 st [] 0 with
 |(st1,fK,_,e)=>if e≠0 then(e,[])else match st1 with|[]=>(0,fK)|_=>(13,[])
def na(l:List aL.Prod)(nx:Int->Nat->Int)(T:Nat):List Int->List TD->Nat->List bJ->List bJ×Nat×Int
 |[],st,a,out=>(out++(s7 l (λn=>nx n T) st).2,a,(s7 l (λn=>nx n T) st).1)
 | t::r,st,a,out=>
  if(iz l (λn=>nx n t.toNat) st a t).1≠0 then(out,a,(iz l (λn=>nx n t.toNat) st a t).1)
  else na l nx T r (iz l (λn=>nx n t.toNat) st a t).2.1 (a+1) (out++(iz l (λn=>nx n t.toNat) st a t).2.2)
inductive tP(l:List aL.Prod)(C:Int->Nat->Int->Prop):List TD->Nat->List bJ->List Int->Prop
 |nil {u:Nat}:tP l C [] u [] []
 |pO {x:bJ} {st:List TD} {u:Nat} {E:List bJ} {w:List Int} (hx:x.1=1) (h:tP l C st (u+1) E w):tP l C (.sym x::st) u ((2,(u:Int))::E) (x.2::w)
 |close {p:Int} {st:List TD} {u:Nat} {E:List bJ} {w:List Int} (h:tP l C st u E w):tP l C (.close p::st) u ((3,p)::E) w
 |opn {x:bJ} {p:Int} {st:List TD} {u:Nat} {E:List bJ} {w:List Int} (hx:x.1≠1) (h0:0<=p) (h1:p<(l.length:Int)) (h2:(a_ l p).1=x.2) (hc:C x.2 u p) (h:tP l C (opened l p st) u E w):tP l C (.sym x::st) u ((1,p)::E) w
section
variable{l:List aL.Prod}{C:Int->Nat->Int->Prop}
theorem yM:∀{st:List TD} {out:List bJ} {a:Nat},∃E1,(bI st out a).2.1=out++E1/\∀{u E w},tP l C (bI st out a).1 u E w->tP l C st u (E1++E) w
 |[],out,a=>⟨[],by simp[bI],λh=>h⟩
 | .sym x::r,out,a=>⟨[],by simp[bI],λh=>h⟩
 | .close p::r,out,a=>by
  unfold bI;split
  ·obtain⟨E1,h1,h2⟩:=@yM r (out++[(3,p)]) (a+1)
   exact⟨(3,p)::E1,by simp_all,λh=> .close (h2 h)⟩
  exact⟨[(3,p)],rfl,λh=> .close h⟩
theorem yN:∀{st:List TD} {out:List bJ} {a u:Nat} {E:List bJ} {w:List Int},tP l C st u E w->∃E1 E2,E=E1++E2/\(bI st out a).2.1=out++E1/\tP l C (bI st out a).1 u E2 w
 |[],out,a,u,E,w,h=>⟨[],E,rfl,by simp[bI],h⟩
 | .sym x::r,out,a,u,E,w,h=>⟨[],E,rfl,by simp[bI],h⟩
 | .close p::r,out,a,u,E,w,h=>by
  cases h with
  | close h=>
   unfold bI;split
   ·obtain⟨E1,E2,h1,h2,h3⟩:=yN (out:=out++[(3,p)]) (a:=a+1) h
    grind
   grind
theorem yO:∀{st:List TD} {out:List bJ} {a:Nat},(bI st out a).2.2.2=aB->(bI st out a).1=[]\/∃x r,(bI st out a).1= .sym x::r
 |[],out,a,_=> .inl I
 | .sym x::r,out,a,_=> .inr ⟨x,r,rfl⟩
 | .close p::r,out,a,h=>by
  unfold bI at h⊢;split
  ·rename_i c;rw[if_pos c]at h;exact yO h
  simp_all
theorem s8:∀{st:List TD} {out:List bJ} {a:Nat},(bI st out a).1.length<=st.length/\a<=(bI st out a).2.2.1/\((bI st out a).2.2.2=aB->a<=2000->(bI st out a).2.2.1<=2000)/\(bI st out a).2.1.length+a=out.length+(bI st out a).2.2.1
 |[],out,a=>⟨aX _,aX _,λ_ h=>h,rfl⟩
 | .sym x::r,out,a=>⟨aX _,aX _,λ_ h=>h,rfl⟩
 | .close p::r,out,a=>by
  unfold bI;split
  ·obtain⟨h1,h2,h3,h4⟩:=@s8 r (out++[(3,p)]) (a+1)
   grind
  grind
def pX(g:dD):TD->Prop
 | .sym x=>right g.aQ g.bB x=aB
 | .close p=>0<=p/\p<(g.az.length:Int)
theorem rU{g:dD}:∀{st:List TD} {out:List bJ} {a:Nat},(∀d∈st,pX g d)->∀d∈(bI st out a).1,pX g d
 |[],out,a,h=>h
 | .sym x::r,out,a,h=>h
 | .close p::r,out,a,h=>by
  unfold bI;split;exact rU λd hd=>h d (lU _ hd);exact λd hd=>h d (lU _ hd)
theorem BA{g:dD}(hg:cI g=0){p:Int}(h0:0<=p)(h1:p<(g.az.length:Int)){r:List TD}(h:∀d∈r,pX g d):∀d∈opened g.az p r,pX g d:=by
 intro d hd;unfold opened at hd;rw[ib]at hd;rcases hd with hd|hd
 ·obtain⟨x,hx,rfl⟩:=fE.1 hd
  exact((cz hg).2.2.2.2.2 _ (ee h0 h1)).2.2.2 x hx
 rcases dw.1 hd with rfl|hd
 exact⟨h0,h1⟩;exact h d hd
def Rg(l:List aL.Prod)(nx:Int->Int):Prop:=∀n,0<=nx n->nx n<(l.length:Int)/\((0<=n)->(a_ l (nx n)).1=n)
theorem vm{nx:Int->Int}:∀{f:Nat} {st:List TD} {out:List bJ} {a:Nat},(fO l nx f st out a).2.2.2=0\/(fO l nx f st out a).2.2.2=13\/(fO l nx f st out a).2.2.2=14
 |0,st,out,a=> .inr (.inr I)
 | f +1,st,out,a=>by
  unfold fO;split;exact .inr (.inr I);split
  ·split
   simp;split;exact .inr (.inl I);split;exact vm;exact .inr (.inr I)
  simp
theorem pY{nx:Int->Int}{f:Nat}{st:List TD}{out:List bJ}{a:Nat}{R:List TD×List bJ×Nat×Int}(h:fO l nx (f+1) st out a=R):
    ((bI st out a).2.2.2=aE/\R.2.2.2=14)\/((bI st out a).2.2.2=aB/\
      (((bI st out a).1=[]/\R=([],(bI st out a).2.1,(bI st out a).2.2.1,0))\/
       ∃ x r,(bI st out a).1= .sym x::r/\((x.1=1/\R=(.sym x::r,(bI st out a).2.1,(bI st out a).2.2.1,0))\/(x.1≠1/\nx x.2<0/\R.2.2.2=13)\/
         (x.1≠1/\0<=nx x.2/\((((bI st out a).2.2.1+1<=2000/\(opened l (nx x.2) r).length<=60)/\fO l nx f (opened l (nx x.2) r) ((bI st out a).2.1++[(1,nx x.2)]) ((bI st out a).2.2.1+1)=R)\/R.2.2.2=14))))):=by
  unfold fO at h
  cases hc:(bI st out a).2.2.2 with
  |false=>grind
  | true=>
    rw[hc,if_neg (by simp)]at h;refine .inr ⟨rfl,?_⟩;rcases yO hc with he|⟨x,r,he⟩
    simp_all
    grind
theorem pZ{nx:Int->Int}:∀{f:Nat} {st:List TD} {out:List bJ} {a:Nat} {R:List TD×List bJ×Nat×Int},fO l nx f st out a=R->R.2.2.2=0->R.1=[]\/∃x r,R.1= .sym x::r/\x.1=1
 |0,st,out,a,R,h,h0=>by subst h;cases h0
 |f+1,st,out,a,R,h,h0=>by
  rcases pY h with⟨_,e⟩|⟨_,⟨_,rfl⟩|⟨x,r,_,⟨c,rfl⟩|⟨_,_,e⟩|⟨_,_,⟨_,e⟩|e⟩⟩⟩
  omega;exact .inl I;exact .inr ⟨x,r,rfl,c⟩;omega;exact pZ e h0;omega
theorem Us{g:dD}(hg:cI g=0){nx:Int->Int}(hn:Rg g.az nx):∀{f:Nat} {st:List TD} {out:List bJ} {a:Nat} {R:List TD×List bJ×Nat×Int},fO g.az nx f st out a=R->R.2.2.2=0->(∀d∈st,pX g d)->∀d∈R.1,pX g d
 |0,st,out,a,R,h,h0,_=>by subst h;cases h0
 | f +1,st,out,a,R,h,h0,hs=>by
  have hc:=rU (out:=out) (a:=a) hs;rcases pY h with⟨_,e⟩|⟨_,⟨_,rfl⟩|⟨x,r,e1,⟨c,rfl⟩|⟨_,_,e⟩|⟨_,c,⟨_,e⟩|e⟩⟩⟩
  omega;exact λd hd=>nomatch hd;rw[e1]at hc;exact hc;omega
  ·rw[e1]at hc
   exact Us hg hn e h0 (BA hg c (hn _ c).1 λd hd=>hc d (lU _ hd))
  omega
theorem Ae{nx:Int->Int}:∀{f:Nat} {st:List TD} {out:List bJ} {a:Nat} {R:List TD×List bJ×Nat×Int},fO l nx f st out a=R->R.2.2.2=0->st.length<=60->a<=2000->R.1.length<=60/\R.2.2.1<=2000/\R.2.1.length+a=out.length+R.2.2.1/\a<=R.2.2.1
 |0,st,out,a,R,h,h0,_,_=>by subst h;cases h0
 | f +1,st,out,a,R,h,h0,h1,h2=>by
  obtain⟨z1,z2,z3,z4⟩:=@s8 st out a;rcases pY h with⟨_,e⟩|⟨ec,⟨_,rfl⟩|⟨x,r,e1,⟨c,rfl⟩|⟨_,_,e⟩|⟨_,c,⟨cc,e⟩|e⟩⟩⟩
  omega
  simp_all
  grind
  omega
  ·obtain⟨y1,y2,y3,y4⟩:=Ae e h0 cc.2 cc.1
   grind
  omega
theorem Fp{g:dD}(hg:cI g=0){nx:Int->Int}(hn:Rg g.az nx)(hC:∀n u p,C n u p):∀{f:Nat} {st:List TD} {out:List bJ} {a:Nat} {R:List TD×List bJ×Nat×Int},fO g.az nx f st out a=R->R.2.2.2=0->(∀d∈st,pX g d)->∃E1,R.2.1=out++E1/\∀{u E w},tP g.az C R.1 u E w->tP g.az C st u (E1++E) w
 |0,st,out,a,R,h,h0,_=>by subst h;cases h0
 | f + 1,st,out,a,R,h,h0,hs=>by
  have hc:=rU (out:=out) (a:=a) hs;obtain⟨E1,z1,z2⟩:=@yM g.az C st out a;rcases pY h with⟨_,e⟩|⟨_,⟨e1,rfl⟩|⟨x,r,e1,⟨c,rfl⟩|⟨_,_,e⟩|⟨c0,c,⟨_,e⟩|e⟩⟩⟩
  omega;rw[e1]at z2;exact⟨E1,z1,z2⟩;rw[e1]at z2;exact⟨E1,z1,z2⟩;omega
  ·rw[e1]at hc z2
   have hx:right g.aQ g.bB x=true:=hc _ (gX ..);have hx0:0<=x.2:=by
    simp_all[right]
   obtain⟨E2,y1,y2⟩:=Fp hg hn hC e h0 (BA hg c (hn _ c).1 λd hd=>hc d (lU _ hd));refine⟨E1++(1,nx x.2)::E2,by simp_all,λhr=>?_⟩;have:=z2 (.opn c0 c (hn _ c).1 ((hn _ c).2 hx0) (hC _ _ _) (y2 hr));rw[eu];exact this
  omega
theorem Fq{nx:Int->Int}{u:Nat}(hC:∀n p,C n u p->nx n=p):∀{f:Nat} {st:List TD} {out:List bJ} {a:Nat} {R:List TD×List bJ×Nat×Int},fO l nx f st out a=R->∀{E w},tP l C st u E w->R.2.2.2=14\/(R.2.2.2=0/\∃E1 E2,E=E1++E2/\R.2.1=out++E1/\tP l C R.1 u E2 w)
 |0,st,out,a,R,h,E,w,hr=>by subst h;exact .inl I
 | f + 1,st,out,a,R,h,E,w,hr=>by
  obtain⟨E1,E2,z1,z2,z3⟩:=yN (out:=out) (a:=a) hr;rcases pY h with⟨_,e⟩|⟨_,⟨e1,rfl⟩|⟨x,r,e1,⟨c,rfl⟩|⟨c0,c1,e⟩|⟨c0,c,⟨_,e⟩|e⟩⟩⟩
  omega;rw[e1]at z3;exact .inr ⟨rfl,E1,E2,z1,z2,z3⟩;rw[e1]at z3;exact .inr ⟨rfl,E1,E2,z1,z2,z3⟩
  ·rw[e1]at z3
   cases z3 with
   |pO hx _=>omega
   |opn hx h0 h1 h2 hc h=>grind
  ·rw[e1]at z3
   cases z3 with
   |pO hx _=>omega
   | @opn _ p _ _ E3 _ hx h0 h1 h2 hc h=>
    rw[hC _ _ hc]at e;rcases Fq hC e h with e'|⟨e',E4,E5,y1,y2,y3⟩
    omega;refine .inr ⟨e',E1++(1,p)::E4,E5,by rw[z1,y1];simp,by rw[y2,z2];simp,y3⟩
  omega
theorem s9{nx:Int->Int}{st:List TD}{seen:Nat}{t:Int}{R:Int×List TD×List bJ}(h:iz l nx st seen t=R):
 (R.1=13\/R.1=14)/\R.2=([],[])\/∃x r fK a1,fO l nx 2001 st [] 0=(.sym x::r,fK,a1,0)/\x.1=1/\x.2=t/\a1+1<=2000/\(bI r (fK++[(2,(seen:Int))]) (a1+1)).2.2.2=aB/\
  R=(0,(bI r (fK++[(2,(seen:Int))]) (a1+1)).1,(bI r (fK++[(2,(seen:Int))]) (a1+1)).2.1):=by
 unfold iz at h
 cases hd:fO l nx 2001 st [] 0 with
 |mk st1 R1=>
 obtain⟨fK,a1,e⟩:=R1;rw[hd]at h;dsimp only at h;have he:=@vm l nx 2001 st [] 0;rw[hd]at he;dsimp only at he
 by_cases c0:e=0
 ·subst c0
  rw[if_neg (by simp)]at h;rcases pZ hd rfl with e1|⟨x,r,e1,e2⟩
  grind;dsimp only at e1;subst e1;dsimp only at h
  by_cases c1:x.2≠t
  rw[if_pos c1]at h;subst h;exact .inl ⟨.inl I,rfl⟩;rw[if_neg c1]at h;split at h
  ·rename_i c2
   subst h;exact .inr ⟨x,r,fK,a1,rfl,e2,by simpa using c1,c2.1,c2.2,rfl⟩
  subst h;exact .inl ⟨.inr I,rfl⟩
 grind
theorem Ut{g:dD}(hg:cI g=0){nx:Int->Int}(hn:Rg g.az nx){st:List TD}{seen:Nat}{t:Int}{R:Int×List TD×List bJ}(h:iz g.az nx st seen t=R)(h0:R.1=0)(hs:∀d∈st,pX g d)(hl:st.length<=60):(∀d∈R.2.1,pX g d)/\R.2.1.length<=60/\R.2.2.length<=2000:=by
 rcases s9 h with⟨e|e,_⟩|⟨x,r,fK,a1,hd,_,_,h4,h5,rfl⟩
 omega;omega;have y1:=Us hg hn hd I hs;obtain⟨y2,y3,y4,y5⟩:=Ae hd rfl hl J;obtain⟨z1,z2,z3,z4⟩:=@s8 r (fK++[(2,(seen:Int))]) (a1+1);dsimp only at y1 y2 y3 y4 y5⊢;simp only[bT,dj,nG]at z4 y2 y4;have:=z3 h5 J;exact⟨rU λd hd=>y1 d (lU _ hd),by omega,by omega⟩
theorem Nq{g:dD}(hg:cI g=0){nx:Int->Int}(hn:Rg g.az nx)(hC:∀n u p,C n u p){st:List TD}{seen:Nat}{t:Int}{R:Int×List TD×List bJ}(h:iz g.az nx st seen t=R)(h0:R.1=0)(hs:∀d∈st,pX g d){E:List bJ}{w:List Int}(hr:tP g.az C R.2.1 (seen+1) E w):tP g.az C st seen (R.2.2++E) (t::w):=by
 rcases s9 h with⟨e|e,_⟩|⟨x,r,fK,a1,hd,h2,rfl,h4,h5,rfl⟩
 omega;omega;obtain⟨E1,y1,y2⟩:=Fp hg hn hC hd rfl hs;obtain⟨E2,z1,z2⟩:=@yM g.az C r (fK++[(2,(seen:Int))]) (a1+1);dsimp only at y1 y2 hr⊢;rw[z1,y1];have:=y2 (.pO h2 (z2 hr))
 simp_all
theorem aaO{nx:Int->Int}{st:List TD}{seen:Nat}{t:Int}(hC:∀n p,C n seen p->nx n=p){R:Int×List TD×List bJ}(h:iz l nx st seen t=R){E:List bJ}{w:List Int}(hr:tP l C st seen E (t::w)):R.1=14\/(R.1=0/\∃E2,E=R.2.2++E2/\tP l C R.2.1 (seen+1) E2 w):=by
 unfold iz at h
 cases hd:fO l nx 2001 st [] 0 with
 |mk st1 R1=>
 obtain⟨fK,a1,e⟩:=R1;rw[hd]at h;dsimp only at h;rcases Fq hC hd hr with e1|⟨e1,E1,E2,y1,y2,y3⟩
 grind;dsimp only at e1 y2 y3;subst e1;rw[if_neg (by simp)]at h;rcases pZ hd rfl with e1|⟨x,r,e1,e2⟩
 dsimp only at e1;subst e1;cases y3;dsimp only at e1;subst e1;dsimp only at h
 cases y3 with
 | pO hx h3=>
  rw[if_neg (by simp)]at h;split at h
  ·rename_i c2
   subst h;obtain⟨E3,E4,z1,z2,z3⟩:=yN (out:=fK++[(2,(seen:Int))]) (a:=a1+1) h3;refine .inr ⟨rfl,E4,?_,z3⟩;dsimp only;rw[y1,z2,y2,z1];simp
  grind
 |opn hx=>omega
theorem aep{nx:Int->Int}{st:List TD}{u:Nat}(hC:∀n p,C n u p->nx n=p){R:Int×List bJ}(h:s7 l nx st=R){E:List bJ}(hr:tP l C st u E []):R.1=14\/(R.1=0/\R.2=E):=by
 unfold s7 at h
 cases hd:fO l nx 2001 st [] 0 with
 |mk st1 R1=>
 obtain⟨fK,a1,e⟩:=R1;rw[hd]at h;dsimp only at h;rcases Fq hC hd hr with e1|⟨e1,E1,E2,y1,y2,y3⟩
 grind;dsimp only at e1 y2 y3;subst e1;rw[if_neg (by simp)]at h;rcases pZ hd rfl with e1|⟨x,r,e1,e2⟩
 ·dsimp only at e1;subst e1
  dsimp only at h;subst h
  cases y3
  simp_all
 subst e1
 cases y3 with
 |opn hx=>omega
theorem BB{nx:Int->Int}{st:List TD}{R:Int×List bJ}(h:s7 l nx st=R):((R.1=13\/R.1=14)/\R.2=[])\/∃a1,fO l nx 2001 st [] 0=([],R.2,a1,0)/\R.1=0:=by
 unfold s7 at h
 cases hd:fO l nx 2001 st [] 0 with
 |mk st1 R1=>
 obtain⟨fK,a1,e⟩:=R1;rw[hd]at h;dsimp only at h;have he:=@vm l nx 2001 st [] 0;rw[hd]at he;dsimp only at he
 by_cases c0:e=0
 ·subst c0
  rw[if_neg (by simp)]at h;rcases pZ hd rfl with e1|⟨x,r,e1,e2⟩
  dsimp only at e1;subst e1;subst h;exact .inr ⟨a1,rfl,rfl⟩;dsimp only at e1;subst e1;subst h;exact .inl ⟨.inl I,rfl⟩
 rw[if_pos c0]at h;subst h;exact .inl ⟨by rcases he with h|h|h;exact absurd h c0;exact .inl h;exact .inr h,rfl⟩
theorem aeq{g:dD}(hg:cI g=0){nx:Int->Int}(hn:Rg g.az nx)(hC:∀n u p,C n u p){st:List TD}{u:Nat}{R:Int×List bJ}(h:s7 g.az nx st=R)(h0:R.1=0)(hs:∀d∈st,pX g d):tP g.az C st u R.2 []:=by
 rcases BB h with⟨e|e,_⟩|⟨a1,hd,_⟩
 omega;omega;obtain⟨E1,y1,y2⟩:=Fp hg hn hC hd rfl hs;have:=@y2 u [] [] .nil;dsimp only at y1;rw[y1];simpa using this
end
end gI
namespace cB
open Go.RowKit cL dV aL dI gI
def tdB:TD->Bool| .sym _=>aE| .close _=>aB
def tdN:TD->Int| .sym _=>0| .close p=>p
def tdX:TD->bJ| .sym x=>x| .close _=>(0,0)
def xK(d:TD):List Value:=[.bool (tdB d),ap av (tdN d),ap av (tdX d).1,ap av (tdX d).2]
theorem Ky(d:TD):(xK d).length=4:=rfl
theorem Kz(l:List TD):∀u∈l.flatMap xK,u.oneCell'=true:=by
 intro u hu;obtain⟨d,_,h⟩:=QI.1 hu;simp only[xK,dw,fC,or_false]at h;rcases h with rfl|rfl|rfl|rfl<;>rfl
def Mc(d:TD):Value:=aP (xK d).toArray
theorem IT(x:bJ)(w:World):(da 215 #[(2,aP (dr x).toArray)]).run aC w= .ok (Mc (.sym x)) w:=by
 unfold Mc xK dr tdB tdN tdX;go_simp
theorem WG(p:Int)(w:World):(da 215 #[(0,.bool aB),(1,ap av p)]).run aC w= .ok (Mc (.close p)) w:=by
 unfold Mc xK tdB tdN tdX;go_simp
def AU(vt:Value)(seen over:Int)(done:Bool):Value:=aP #[vt,ap av seen,ap av over,.bool done]
def Nr(t n:Int)(vp vt vo:Value)(dB:Nat):Array Value:=#[ap av t,ap av n,vp,vt,vo,ap av (dB:Int)]
abbrev yP(gw:Nat)(t n:Int)(vp vt vo:Value)(dB:Nat):b_:=aK gw (Nr t n vp vt vo dB) 312
abbrev xo(vt:Value)(st:List TD):b_:=bm 215 4 vt st.length (st.reverse.flatMap xK)
abbrev rW(vo:Value)(l:List bJ):b_:=bm 59 2 vo l.length (l.flatMap dr)
theorem BC(k n:Int)(w:World):(da 59 #[(0,ap av k),(1,ap av n)]).run aC w= .ok (aP (dr (k,n)).toArray) w:=by
 unfold dr;go_simp
theorem Uu{P:Program}{n:Nat}{W:bV}{fr:Fr}{L:List b_}{dst:Option Tmp}{t ty:TypeId}{pos:String}{after:Array Edge}{guard:Option (Nat×Bool)}{x:Operand}{f:Nat}{v u:Value}(hx:ev fr x=ah v)(h:∀w,(Z7 t v f).run P w= .ok u w):RR P n W ⟨dst,.field t x f,ty,pos,after,guard⟩ fr L u:= .mk λa w hr _=>by
 simp[execOp,hr.ev hx,h]
theorem WH(d:TD)(w:World):(Z7 215 (Mc d) 1).run aC w= .ok (ap av (tdN d)) w:=by
 unfold Mc xK;kernel_rfl
open dg
theorem aaP{j:Nat}(hj:j<64):2^j<18446744073709551616:=by
 have:=aah (a:=2) alt hj
 rwa [show(2:Nat)^64=18446744073709551616 from I]at this
theorem aku{P:Program}(j:Nat)(hj:j<64)(w:World):(iM .shl .u64 1 .i64 (j:Int)).run P w= .ok (.int .u64 ((2^j:Nat):Int)) w:=by
 have e:min j 64=j:=by omega
 have e2:(2:Int)^j=((2^j:Nat):Int):=by rw[Int.natCast_pow];rfl
 have e3:uo.wrap ((1:Int)*2^j)=((2^j:Nat):Int):=by
  have:=aaP hj;rw[e2,um,Int.one_mul];generalize 2^j=y at*;omega
 have h0:¬((j:Int)<0):=by omega
 simp only[iM,if_neg h0,me,de,e,e3,Sem.run_pure]
theorem Ns:∀b:Nat,b<256->bits .and .i64 (b:Int) 63=((b %64:Nat):Int):=by decide+kernel
theorem aaQ(c:C4)(i:Nat)(h:i<4):(dX c).toArray[i]?=ah (.int .u64 ((c.get i).toNat:Int)):=EA c i h
theorem aaR(c:C4)(i:Nat)(h:i<4)(v:BitVec 64):(dX c).toArray.setIfInBounds i (.int .u64 (v.toNat:Int))=(dX (c.set i v)).toArray:=by
 match i,h with
 |0,_=>rfl
 |1,_=>rfl
 |2,_=>rfl
 |3,_=>rfl
attribute [local irreducible] Op.shift Go.bits in
theorem s_(c:C4)(b:Nat)(hb:b<256)(w:World):Calls aC 134 #[pc c,ap av (b:Int)] w (cJ (ret (.bool (c.mem b))) w):=by
 refine enter (args:=[aP #[v64 c.a,v64 c.b,v64 c.c,v64 c.d],ap av (b:Int)]) (n:=14) Tryz.func134 I I I ?_;refine bZ (bx (bH I I I λg=>?_));have h1:b/64<4:=by omega
 have hc:(#[v64 c.a,v64 c.b,v64 c.c,v64 c.d]:Array Value)[0+b/64]?=ah (.int .u64 ((c.get (b/64)).toNat:Int)):=by rw[cU];exact EA c _ h1
 have hx:=(c.get (b/64)).isLt;have Dk:∀w,(iM .shr .i64 (b:Int) .u64 6).run aC w= .ok (ap av ((b/64:Nat):Int)) w:=λw=>Z0 b 6 64 .i64 .u64 I alt w;have hs2:∀w,(iM .shr .u64 ((c.get (b/64)).toNat:Int) .i64 ((b %64:Nat):Int)).run aC w= .ok (.int .u64 (((c.get (b/64)).toNat/2^(b %64):Nat):Int)) w:=λw=>Z0 _ (b %64) 64 .u64 .i64 I J w;have hm:c.mem b=decide ((c.get (b/64)).toNat/2^(b %64) %2=1):=by unfold C4.mem;rw[Nat.testBit_eq_decide_div_mod_eq]
 rw[hm];have hd:(c.get (b/64)).toNat/2^(b %64)<=(c.get (b/64)).toNat:=Nat.div_le_self _ _;have xi:=Ns b hb;generalize (c.get (b/64)).toNat=x at*;generalize b %64=k at*;generalize b/64=i at*;generalize x/2^k=y at*;have ha:bits .and .u64 (y:Int) 1=((y %2:Nat):Int):=by
  have:=bits_and_u64_nat y 1 J alt;rw[Nat.and_one_is_mod]at this;exact this
 repeat(first|refine GC ?_|refine gV (pH I I Dk) ?_|refine gV (ij bM.eq aI.ty I I h1) ?_|refine gV (aw aI.ty I (aD (i:=0) I hc)) ?_|refine gV (nC I I xi) ?_|refine gV (pH I I hs2) ?_|refine gV (nC I I ha) ?_|refine gV (dc I I I) ?_|refine GB ?_)
 exact eN I I (by congr 1;rw[decide_eq_decide];omega)
attribute [local irreducible] Op.shift Go.bits in
theorem ta(c:C4)(b:Nat)(hb:b<256)(g:Nat)(w:World)(B:bV)(hm:Mem B [aK g (dX c).toArray 286] w):
 Calls aC 136 #[aH (ah ⟨g,0,aj⟩),ap av (b:Int)] w (dz ⟨λ(_:Unit)=>True,λ_=> .tuple #[],λ_=>[aK g (dX (c.bit b)).toArray 286]⟩ B):=by
 refine dT hm (args:=[aH (ah ⟨g,0,aj⟩),ap av (b:Int)]) (n:=16) Tryz.func136 I I I ?_;clear hm;have h1:b/64<4:=by omega
 have hc:(dX c).toArray[0+b/64]?=ah (.int .u64 ((c.get (b/64)).toNat:Int)):=by rw[cU];exact aaQ c _ h1
 have Dk:∀w,(iM .shr .i64 (b:Int) .u64 6).run aC w= .ok (ap av ((b/64:Nat):Int)) w:=λw=>Z0 b 6 64 .i64 .u64 I alt w;have xi:=Ns b hb;have hsh:=aku (P:=aC) (b %64) J;have xj:=aaR c (b/64) h1 (c.get (b/64)|||iw 64 (2^(b %64)));have aer:c.bit b=c.set (b/64) (c.get (b/64)|||iw 64 (2^(b %64))):=rfl;rw[<-aer]at xj;have Me:bits .or .u64 ((c.get (b/64)).toNat:Int) ((2^(b %64):Nat):Int)=(((c.get (b/64))|||iw 64 (2^(b %64))).toNat:Int):=by
  have hp:=aaP (j:=b %64) J;rw[bits_or_u64_nat _ _ (c.get (b/64)).isLt hp,BitVec.toNat_or,BitVec.toNat_ofNat,Nat.mod_eq_of_lt hp]
 have hm0:b %64<64:=by omega
 generalize c.get (b/64)|||iw 64 (2^(b %64))=z at*
 generalize (c.get (b/64)).toNat=x at*;generalize 2^(b %64)=y at*;generalize b %64=k at*;generalize b/64=i at*;generalize c.bit b=c' at*;have hsz:dx (0+i) (dX c).toArray.size=true:=by rw[Nat.blt_eq];show 0+i<4;omega
 rw[<-cU i]at xj;refine dG ([]) (.calm 0 (.calm 1 (.calm 2 (.calm 3 (.calm 4 (.calm 6 (.calm 7 (.calm 8 (.calm 10 (.one 5 (.calm 9 (.calm 11 (.one 12 (.done)))))))))))))) (bY []) ?_
 repeat(first|refine GW ?_|(refine GN ?_;first|refine QW (pH I I Dk) ?_|refine QW (ij bM.eq aI.ty I I h1) ?_|refine QW (nC I I xi) ?_|refine QW (Ei I I hsh) ?_))
 refine aM I (dy (aw aI.ty I (aD (i:=0) I hc)) I I I (aO (bY []) ?_))
 repeat(first|refine GW ?_|(refine GN ?_;first|refine QW (zq I I Me) ?_|refine QW (ij bM.eq aI.ty I I h1) ?_))
 refine aM I (bD (i:=0) I I I I I hsz (aO (bY []) ?_))
 try refine GW ?_
 try refine GA ?_
 exact oO I λw hm=>hm.cg (S:=⟨λ(_:Unit)=>True,λ_=> .tuple #[],λ_=>[aK g (dX c').toArray 286]⟩) () trivial [0] alt (by rw[<-xj];rfl)
end cB
namespace ep
open dg gv Go.Lib
def vv(l:List Int):List Int:=l.mergeSort λx y=>decide (x<=y)
def rl(a b:List Int):List Int:=compact (vv (a++b))
theorem KA(l:List Int):(vv l).Pairwise (· <= ·):=by
 have:=List.pairwise_mergeSort (le:=λx y:Int=>decide (x<=y)) (λa b c=>by grind) (λa b=>by grind) l;exact this.imp (by simp)
theorem tQ{d:Array Int}(hs:∀i j,i<=j->j<d.size->d[i]! <=d[j]!):∀m,m<=d.size->(compactUpTo d m).Pairwise (· < ·)/\(∀x,x∈compactUpTo d m↔∃j,j<m/\d[j]! =x)
 |0,_=>⟨by simp[compactUpTo],λx=>by simp[compactUpTo]⟩
 | m + 1,hm=>by
  obtain⟨h1,h2⟩:=tQ hs m J;rw[compactUpTo_succ]
  by_cases hk:keeps d m=aB
  ·rw[if_pos hk]
   have qD:m=0\/d[m]! ≠d[m-1]! :=by simp_all[keeps]
   refine⟨List.pairwise_append.2 ⟨h1,Z_ _ _,λx hx y hy=>?_⟩,λx=>?_⟩
   ·rw[ez.1 hy]
    obtain⟨j,hj,rfl⟩:=(h2 x).1 hx;have a1:=hs j (m-1) J J;have a2:=hs (m-1) m J J;rcases qD with h0|h0
    omega;omega
   grind
  rw[if_neg hk,List.append_nil];refine⟨h1,λx=>?_⟩;rw[h2]
  constructor
  grind;rintro⟨j,hj,rfl⟩
  by_cases c:j=m
  ·subst c
   have qD:¬(j=0\/d[j]! ≠d[j-1]!):=by simp_all[keeps]
   grind
  grind
theorem Rh{l:List Int}(h:l.Pairwise (· <= ·)):∀i j,i<=j->j<l.toArray.size->l.toArray[i]! <=l.toArray[j]! :=by
 intro i j rG hj;have tJ:j<l.length:=by omega
 rw[getElem!_pos l.toArray i J,getElem!_pos l.toArray j hj]
 by_cases c:i=j
 simp_all;exact List.pairwise_iff_getElem.1 h i j J tJ J
theorem Du(a b:List Int):(rl a b).Pairwise (· < ·)/\∀x,x∈rl a b↔x∈a\/x∈b:=by
 have hs:=Rh (KA (a++b));obtain⟨h1,h2⟩:=tQ hs (vv (a++b)).length (by simp);refine⟨h1,λx=>?_⟩;unfold rl compact;rw[h2,<-ib,<-List.mem_mergeSort (l:=a++b) (le:=λx y:Int=>decide (x<=y))];show _↔x∈vv (a++b)
 rw[ku]
 constructor
 grind;rintro⟨j,hj,rfl⟩;exact⟨j,hj,by simp_all⟩
def IU(n:Nat)(l:List Int):Prop:=l.Pairwise (· < ·)/\∀x∈l,0<=x/\x<n
theorem jV{n:Nat}{l:List Int}(h:IU n l):l.length<=n:=by
 have key:∀(l:List Int) (lo:Int),l.Pairwise (· < ·)->(∀x∈l,lo<=x/\x<n)->lo<=n->(l.length:Int)<=n-lo:=by
  intro l
  induction l with
  |nil=>simp
  |cons x r ih=>
   intro lo hp hx _;rw[aab]at hp;have h1:=hx x (gX ..);have:=ih (x+1) hp.2 (λy hy=>⟨by grind,(hx y (lU _ hy)).2⟩) J;rw[dj];omega
 have:=key l 0 h.1 h.2 J;omega
theorem wZ(n:Nat):IU n []:=⟨ahb,λx h=>by cases h⟩
theorem oE{n m:Nat}{l:List Int}(h:IU n l)(hm:n<=m):IU m l:=⟨h.1,λx hx=>by have:=h.2 x hx;omega⟩
theorem tb{n:Nat}{a b:List Int}(ha:∀x∈a,0<=x/\x<n)(hb:∀x∈b,0<=x/\x<n):IU n (rl a b):=
 ⟨(Du a b).1,λx hx=>((Du a b).2 x|>.1 hx).elim (ha x) (hb x)⟩
theorem Fs:∀{a b:List Int},a.Pairwise (· < ·)->b.Pairwise (· < ·)->(∀x,x∈a↔x∈b)->a=b
 |[],[],_,_,_=>rfl
 |[],y::b,_,_,h=>by grind[gX]
 |x::a,[],_,_,h=>by grind[gX]
 | x ::a,y::b,ha,hb,h=>by
  rw[aab]at ha hb;have hxy:x=y:=by
   grind[gX]
  subst hxy;rw[Fs ha.2 hb.2 λz=>?_]
  grind
structure PS where
 a8:List C4
 rules:List Int
 follow:List (List Int)
 last:List Bool
structure Shape where
 empty:Bool
 first:List Int
 last:List Int
def fB(nu:List (List Int))(last first:List Int):List (List Int):=last.foldl (λf x=>f.set x.toNat (rl (f.getD x.toNat []) first)) nu
def bU(bP:Int):Re->PS->Shape×PS
  | .empty,p=>(⟨aB,[],[]⟩,p)
  | .none,p=>(⟨aE,[],[]⟩,p)
  | .byte c,p=>(⟨aE,[(p.a8.length:Int)],[(p.a8.length:Int)]⟩,⟨p.a8++[c],p.rules++[bP],p.follow++[[]],p.last++[aE]⟩)
  | .star a,p=>(⟨aB,(bU bP a p).1.first,(bU bP a p).1.last⟩,{(bU bP a p).2 with follow:=fB (bU bP a p).2.follow (bU bP a p).1.last (bU bP a p).1.first})
  | .J' a b,p=>(⟨(bU bP a p).1.empty||(bU bP b (bU bP a p).2).1.empty,rl (bU bP a p).1.first (bU bP b (bU bP a p).2).1.first,rl (bU bP a p).1.last (bU bP b (bU bP a p).2).1.last⟩,(bU bP b (bU bP a p).2).2)
  | .J_ a b,p=>
    (⟨(bU bP a p).1.empty&&(bU bP b (bU bP a p).2).1.empty,
      if(bU bP a p).1.empty then rl (bU bP a p).1.first (bU bP b (bU bP a p).2).1.first else(bU bP a p).1.first,
      if(bU bP b (bU bP a p).2).1.empty then rl (bU bP a p).1.last (bU bP b (bU bP a p).2).1.last else(bU bP b (bU bP a p).2).1.last⟩,
     {(bU bP b (bU bP a p).2).2 with follow:=fB (bU bP b (bU bP a p).2).2.follow (bU bP a p).1.last (bU bP b (bU bP a p).2).1.first})
structure Nt(p:PS):Prop where
 rules:p.rules.length=p.a8.length
 follow:p.follow.length=p.a8.length
 last:p.last.length=p.a8.length
 ris:∀l∈p.follow,IU p.a8.length l
theorem k_(nu:List (List Int))(last first:List Int):(fB nu last first).length=nu.length:=by
 unfold fB
 induction last generalizing nu with
 |nil=>rfl
 |cons x r ih=>simp_all
theorem tc{n:Nat}{first:List Int}(hf:∀x∈first,0<=x/\x<n):∀(last:List Int) (nu:List (List Int)),(∀l∈nu,IU n l)->∀l∈fB nu last first,IU n l
 |[],nu,h=>h
 | x ::r,nu,h=>by
  show ∀l∈fB (nu.set x.toNat (rl (nu.getD x.toNat []) first)) r first,IU n l
  refine tc hf r _ λl hl=>?_;rcases Z8 hl with hl|rfl
  simp_all;refine tb (λy hy=>?_) hf
  by_cases c:x.toNat<nu.length
  ·rw[cH,bL c]at hy
   exact(h _ (bX c)).2 y hy
  simp_all
theorem iZ(bP:Int):∀(e:Re) (p:PS),Nt p->Nt (bU bP e p).2/\p.a8.length<=(bU bP e p).2.a8.length/\(bU bP e p).2.a8.length<=p.a8.length+e.size/\IU (bU bP e p).2.a8.length (bU bP e p).1.first/\IU (bU bP e p).2.a8.length (bU bP e p).1.last
 | .empty,p,h=>⟨h,aX _,QO _ _,wZ _,wZ _⟩
 | .none,p,h=>⟨h,aX _,QO _ _,wZ _,wZ _⟩
 | .byte c,p,h=>by
  have h1:IU (p.a8++[c]).length [(p.a8.length:Int)]:=⟨Z_ _ _,λx hx=>by grind⟩;refine⟨⟨?_,?_,?_,λl hl=>?_⟩,?_,?_,h1,h1⟩;show(p.rules++[bP]).length=(p.a8++[c]).length;rw[bT,bT,h.rules];rfl
  show(p.follow++[[]]).length=(p.a8++[c]).length;rw[bT,bT,h.follow];rfl
  show(p.last++[aE]).length=(p.a8++[c]).length;rw[bT,bT,h.last];rfl
  ·have hl:l∈p.follow++[[]]:=hl
   show IU (p.a8++[c]).length l
   rcases ib.1 hl with hl|hl
   exact oE (h.ris l hl) (by simp);rw[ez.1 hl];exact wZ _
  show p.a8.length<=(p.a8++[c]).length;simp
  show(p.a8++[c]).length<=_;simp[Re.size]
 | .star a,p,h=>by
  obtain⟨h1,h2,h3,h4,h5⟩:=iZ bP a p h;exact⟨⟨h1.rules,(k_ _ _ _).trans h1.follow,h1.last,tc h4.2 _ _ h1.ris⟩,h2,by show _<=p.a8.length+(a.size+1);exact eL h3 J,h4,h5⟩
 | .J' a b,p,h=>by
  obtain⟨h1,h2,h3,h4,h5⟩:=iZ bP a p h;obtain⟨k1,k2,k3,k4,k5⟩:=iZ bP b _ h1;exact⟨k1,eL h2 k2,by show _<=p.a8.length+(a.size+b.size+1);exact eL k3 J,tb (oE h4 k2).2 k4.2,tb (oE h5 k2).2 k5.2⟩
 | .J_ a b,p,h=>by
  obtain⟨h1,h2,h3,h4,h5⟩:=iZ bP a p h;obtain⟨k1,k2,k3,k4,k5⟩:=iZ bP b _ h1;refine⟨⟨k1.rules,(k_ _ _ _).trans k1.follow,k1.last,tc k4.2 _ _ k1.ris⟩,eL h2 k2,by show _<=p.a8.length+(a.size+b.size+1);exact eL k3 J,?_,?_⟩
  ·show IU _ (if _ then _ else _)
   split;exact tb (oE h4 k2).2 k4.2;exact oE h4 k2
  show IU _ (if _ then _ else _)
  split;exact tb (oE h5 k2).2 k5.2;exact k5
end ep
namespace ep
open dg gv
structure MS where
 ps:PS
 first:List Int
 empty:List Bool
def MS.zero:MS:=⟨⟨[],[],[],[]⟩,[],[]⟩
def fw(last:List Bool)(l:List Int):List Bool:=l.foldl (λb x=>b.set x.toNat aB) last
def xL(i:Nat)(m:MS)(e:Re):MS:=
 ⟨{(bU i e m.ps).2 with last:=fw (bU i e m.ps).2.last (bU i e m.ps).1.last},rl m.first (bU i e m.ps).1.first,m.empty++[(bU i e m.ps).1.empty]⟩
def l9:Nat->MS->List Re->Int×MS
 |_,m,[]=>(0,m)
 |i,m,e::r=>if 200<(xL i m e).ps.a8.length then(2,.zero)else l9 (i+1) (xL i m e) r
abbrev Nu(r:Rx):Int:=(lZ r 1 0).1
def jW:List Rx->Int
 |[]=>0
 |r::l=>if Nu r≠0 then Nu r else jW l
structure Ri(m:MS):Prop where
 ps:Nt m.ps
 first:IU m.ps.a8.length m.first
theorem Ft(last:List Bool)(l:List Int):(fw last l).length=last.length:=by
 unfold fw
 induction l generalizing last with
 |nil=>rfl
 |cons x r ih=>simp_all
theorem WI(last:List Bool)(l:List Int){k:Nat}(hk:k<l.length):fw last (l.take (k+1))=(fw last (l.take k)).set l[k].toNat true:=by
 unfold fw;rw[ic hk,QH];rfl
theorem KB:Ri .zero:=⟨⟨rfl,rfl,rfl,λl h=>by cases h⟩,wZ _⟩
theorem Uv(i:Nat){m:MS}(h:Ri m)(e:Re):Ri (xL i m e)/\(xL i m e).ps.a8.length<=m.ps.a8.length+e.size:=by
 obtain⟨h1,h2,h3,h4,h5⟩:=iZ i e m.ps h.ps;exact⟨⟨⟨h1.rules,h1.follow,(Ft _ _).trans h1.last,h1.ris⟩,tb (oE h.first h2).2 h4.2⟩,h3⟩
theorem IV:∀{l:List Rx},jW l=0->∀r∈l,Nu r=0
 |[],_,r,hr=>by grind
 | q::l,h,r,hr=>by
  rw[jW]at h;split at h;contradiction
  rename_i c
  rcases dw.1 hr with rfl|hr
  omega
  exact IV h r hr
structure KC(m:MS):Prop where
 ok:Ri m
 rules:∀r∈m.ps.rules,0<=r/\r<m.empty.length
 Dv:m.ps.a8.length<=200
 some:0<m.empty.length
 aes:m.empty.length<=20
theorem nO(bP:Int):∀(e:Re) (p:PS),(∀r∈p.rules,0<=r/\r<=bP)->0<=bP->∀r∈(bU bP e p).2.rules,0<=r/\r<=bP
 | .empty,p,h,_=>h
 | .none,p,h,_=>h
 | .byte c,p,h,h0=>λr hr=>by
  have hr:r∈p.rules++[bP]:=hr;rcases ib.1 hr with hr|hr
  exact h r hr;rw[ez.1 hr];omega
 | .star a,p,h,h0=>nO bP a p h h0
 | .J' a b,p,h,h0=>nO bP b _ (nO bP a p h h0) h0
 | .J_ a b,p,h,h0=>nO bP b _ (nO bP a p h h0) h0
theorem KD:∀(es:List Re) (i:Nat) (m m':MS),Ri m->m.empty.length=i->(∀r∈m.ps.rules,0<=r/\r<i)->m.ps.a8.length<=200->l9 i m es=(0,m')->Ri m'/\m'.empty.length=i+es.length/\(∀r∈m'.ps.rules,0<=r/\r<(i+es.length:Nat))/\m'.ps.a8.length<=200
 | [],i,m,m',h1,h2,h3,h4,h=>by
  cases h
  simp_all
 | e ::r,i,m,m',h1,h2,h3,h4,h=>by
  rw[l9]at h;split at h
  cases h
  rename_i c
  have:=KD r (i+1) (xL i m e) m' (Uv i h1 e).1 (by show(m.empty++[_]).length=_;simp[h2]) (λx hx=>by
   have:=nO i e m.ps (λr hr=>by grind) J x hx;omega) J h
  grind
theorem Dw{es:List Re}{m:MS}(h0:0<es.length)(h20:es.length<=20)(h:l9 0 .zero es=(0,m)):KC m:=by
 obtain⟨h1,h2,h3,h4⟩:=KD es 0 .zero m KB rfl (λr hr=>by cases hr) (bC _) h;rw[cU]at h2 h3;exact⟨h1,λr hr=>by simp_all,h4,by omega,by omega⟩
end ep
namespace nP
open dg gv ep cX
def p5(c:C4)(l:List Int):C4:=l.foldl (λc x=>c.bit x.toNat) c
def nQ(p:PS)(s:C4):Nat->C4
 |0=>C4.zero
 |i+1=>if s.mem i=aB then p5 (nQ p s i) (p.follow.getD i [])else nQ p s i
def ki(m:MS)(S:List C4):Nat->C4
 |0=>p5 C4.zero m.first
 |n+1=>nQ m.ps (S.getD n C4.zero) m.ps.follow.length
def KE(p:PS)(all:C4)(b:Nat):Nat->C4
 |0=>C4.zero
 |i+1=>if all.mem i=aB/\(p.a8.getD i C4.zero).mem b=aB then(KE p all b i).bit i else KE p all b i
def KF(p:PS)(all:C4)(b:Nat):C4:=KE p all b p.a8.length
def mG(p:PS)(s:C4):Nat->Int
 |0=> -1
 |i+1=>if s.mem i=aB/\p.last.getD i aE=aB/\(mG p s i<0\/p.rules.getD i 0<mG p s i)then p.rules.getD i 0 else mG p s i
def ph(p:PS)(s:C4):Int:=mG p s p.a8.length
structure DM where
 S:List C4
 tags:List Int
def iQ(p:PS)(m:DM)(s:C4):Nat×DM:=if s∈m.S then(idx m.S s+1,m)else(m.S.length+1,⟨m.S++[s],m.tags++[ph p s]⟩)
def fP(p:PS)(all:C4)(b:Nat)(r:Row)(m:DM):Row×DM:=
 if KF p all b=C4.zero then(if h:b<256 then r.set b (-1)else r,m)else(if h:b<256 then(r.set b (-1)).set b ((iQ p m (KF p all b)).1:Int)else r,(iQ p m (KF p all b)).2)
def nb(p:PS)(all:C4):Nat->Nat->Row->DM->Row×DM
 |0,_,r,m=>(r,m)
 |f+1,b,r,m=>if 200<(fP p all b r m).2.S.length+1 then fP p all b r m else nb p all f (b+1) (fP p all b r m).1 (fP p all b r m).2
def qx(m:MS)(n:Nat)(d:DM):Row×DM:=nb m.ps (ki m d.S n) 256 0 (eg 256 0) d
def td(m:MS):Nat->Nat->List Row->DM->Option (List Row×DM)
 |0,_,_,_=>aj
 |f+1,n,R,d=>if n<d.S.length+1 then(if 200<(qx m n d).2.S.length+1 then aj else td m f (n+1) (R++[(qx m n d).1]) (qx m n d).2)else ah (R,d)
def fZ:List Bool->Int->Int
 |[],_=> -1
 |b::l,k=>if b=aB then k else fZ l (k+1)
def vz(m:MS):Option (List Row×DM):=td m 201 0 [] ⟨[],[fZ m.empty 0]⟩
structure DOk(p:PS)(d:DM):Prop where
 nd:d.S.Nodup
 tags:d.tags.length=d.S.length+1
theorem Nv{p:PS}{d:DM}(h:DOk p d)(s:C4):DOk p (iQ p d s).2/\d.S.length<=(iQ p d s).2.S.length/\(iQ p d s).2.S.length<=d.S.length+1/\0<(iQ p d s).1/\(iQ p d s).1<(iQ p d s).2.S.length+1:=by
 unfold iQ
 by_cases c:s∈d.S
 ·rw[if_pos c]
  have:=mY c;exact⟨h,aX _,EI _,aaj _,by show idx d.S s+1<d.S.length+1;omega⟩
 rw[if_neg c];refine⟨⟨?_,?_⟩,?_,?_,aaj _,?_⟩
 ·show(d.S++[s]).Nodup
  rw[List.nodup_append];exact⟨h.nd,by simp,λa ha b hb=>by grind⟩
 ·show(d.tags++[_]).length=(d.S++[s]).length+1
  rw[bT,bT,h.tags];rfl
 simp
 simp
 simp
theorem aet{p:PS}{d:DM}(h:DOk p d)(all:C4)(b:Nat)(r:Row):DOk p (fP p all b r d).2/\d.S.length<=(fP p all b r d).2.S.length/\(fP p all b r d).2.S.length<=d.S.length+1:=by
 unfold fP;split;exact⟨h,aX _,EI _⟩;obtain⟨h1,h2,h3,_⟩:=Nv h (KF p all b);exact⟨h1,h2,h3⟩
theorem Nw{p:PS}(all:C4):∀(f b:Nat) (r:Row) (d:DM),DOk p d->d.S.length+1<=200->DOk p (nb p all f b r d).2/\(nb p all f b r d).2.S.length+1<=201/\d.S.length<=(nb p all f b r d).2.S.length
 |0,_,_,d,h,hl=>⟨h,(by show d.S.length+1<=201;omega),aX _⟩
 | f+1,b,r,d,h,hl=>by
  obtain⟨h1,h2,h3⟩:=aet h all b r;rw[nb];split;exact⟨h1,by omega,h2⟩;obtain⟨q1,q2,q3⟩:=Nw all f (b+1) (fP p all b r d).1 _ h1 J;exact⟨q1,q2,by omega⟩
theorem Ny(c:C4)(l:List Int){k:Nat}(hk:k<l.length):p5 c (l.take (k+1))=(p5 c (l.take k)).bit l[k].toNat:=by
 unfold p5;rw[ic hk,QH];rfl
end nP
namespace cB
open Go.Shelf
def Nz:Go.Shelf.Ren:=⟨λ|189=>130|125=>158|257=>157|128=>179|129=>180|294=>170|295=>171|296=>172|297=>173|298=>174|299=>175|216=>176|300=>177|301=>178|328=>192|329=>193|330=>194|331=>195|332=>196|215=>189|343=>200|n=>n,λ|28=>26|3=>3|46=>264|0=>0|51=>343|53=>92|4=>4|183=>337|182=>336|131=>154|5=>5|9=>9|218=>352|222=>124|228=>359|229=>360|n=>n,λ|n=>n⟩
theorem Uw:Go.Proofs.Lays.n189 aC Nz:={
 mixed:=by kernel_rfl
 f125:=Tryz.func158.trans (congrArg ah (by kernel_rfl))
 f128:=Tryz.func179.trans (congrArg ah (by kernel_rfl))
 f129:=Tryz.func180.trans (congrArg ah (by kernel_rfl))
 f189:=Tryz.func130.trans (congrArg ah (by kernel_rfl))
 f215:=Tryz.func189.trans (congrArg ah (by kernel_rfl))
 f216:=Tryz.func176.trans (congrArg ah (by kernel_rfl))
 f257:=Tryz.func157.trans (congrArg ah (by kernel_rfl))
 f294:=Tryz.func170.trans (congrArg ah (by kernel_rfl))
 f295:=Tryz.func171.trans (congrArg ah (by kernel_rfl))
 f296:=Tryz.func172.trans (congrArg ah (by kernel_rfl))
 f297:=Tryz.func173.trans (congrArg ah (by kernel_rfl))
 f298:=Tryz.func174.trans (congrArg ah (by kernel_rfl))
 f299:=Tryz.func175.trans (congrArg ah (by kernel_rfl))
 f300:=Tryz.func177.trans (congrArg ah (by kernel_rfl))
 f301:=Tryz.func178.trans (congrArg ah (by kernel_rfl))
 f328:=Tryz.func192.trans (congrArg ah (by kernel_rfl))
 f329:=Tryz.func193.trans (congrArg ah (by kernel_rfl))
 f330:=Tryz.func194.trans (congrArg ah (by kernel_rfl))
 f331:=Tryz.func195.trans (congrArg ah (by kernel_rfl))
 f332:=Tryz.func196.trans (congrArg ah (by kernel_rfl))
 f343:=Tryz.func200.trans (congrArg ah (by kernel_rfl))
 t0:=Tryz.underlying0
 a0:=Tryz.isAgg0
 z0:=Tryz.sizeOf0
 v0:=Tryz.zeroValue0
 t3:=Tryz.underlying3
 a3:=Tryz.isAgg3
 z3:=Tryz.sizeOf3
 v3:=Tryz.zeroValue3
 t4:=Tryz.underlying4
 a4:=Tryz.isAgg4
 z4:=Tryz.sizeOf4
 v4:=Tryz.zeroValue4
 t5:=Tryz.underlying5
 a5:=Tryz.isAgg5
 z5:=Tryz.sizeOf5
 v5:=Tryz.zeroValue5
 t9:=Tryz.underlying9
 a9:=Tryz.isAgg9
 z9:=Tryz.sizeOf9
 v9:=Tryz.zeroValue9
 t28:=Tryz.underlying26
 a28:=Tryz.isAgg26
 z28:=Tryz.sizeOf26
 v28:=Tryz.zeroValue26
 t46:=Tryz.underlying264
 a46:=Tryz.isAgg264
 z46:=Tryz.sizeOf264
 v46:=Tryz.zeroValue264
 t51:=Tryz.underlying343
 a51:=Tryz.isAgg343
 z51:=Tryz.sizeOf343
 v51:=Tryz.zeroValue343
 t53:=Tryz.underlying92
 a53:=Tryz.isAgg92
 z53:=Tryz.sizeOf92
 v53:=Tryz.zeroValue92
 t131:=Tryz.underlying154
 a131:=Tryz.isAgg154
 z131:=Tryz.sizeOf154
 v131:=Tryz.zeroValue154
 t182:=Tryz.underlying336
 a182:=Tryz.isAgg336
 z182:=Tryz.sizeOf336
 v182:=Tryz.zeroValue336
 t183:=Tryz.underlying337
 a183:=Tryz.isAgg337
 z183:=Tryz.sizeOf337
 v183:=Tryz.zeroValue337
 t218:=Tryz.underlying352
 a218:=Tryz.isAgg352
 z218:=Tryz.sizeOf352
 v218:=Tryz.zeroValue352
 t222:=Tryz.underlying124
 a222:=Tryz.isAgg124
 z222:=Tryz.sizeOf124
 v222:=Tryz.zeroValue124
 t228:=Tryz.underlying359
 a228:=Tryz.isAgg359
 z228:=Tryz.sizeOf359
 v228:=Tryz.zeroValue359
 t229:=Tryz.underlying360
 a229:=Tryz.isAgg360
 z229:=Tryz.sizeOf360
 v229:=Tryz.zeroValue360}
open Go.Sort Go.RowKit in
theorem slices_Sort_int(CV off cap:Nat)(zs:List Int)(w:World)(hH:Holds (ap .i64) w CV off zs.toArray)(hblk:CV<w.heap.size)(hsz:zs.length<4611686018427387904):
 Calls aC 130 #[ak (ah ⟨CV,off,aj⟩) zs.length cap] w λe w'=>
  e= .returned (.tuple #[])/\∃n os,w'=grow (putRow (ap .i64) (Sort.ahead w n) CV off (zs.mergeSort λx y=>decide (x<=y)).toArray) os:=Any.slices_Sort_int Uw CV off cap zs w hH hblk hsz
def Hy:Go.Shelf.Ren:=⟨λ|20=>131|n=>n,λ|22=>26|3=>3|4=>4|0=>0|n=>n,λ|n=>n⟩
theorem IW:Go.Proofs.Lays2.n20 aC Hy:={
 mixed:=by kernel_rfl
 f20:=Tryz.func131.trans (congrArg ah (by kernel_rfl))
 t0:=Tryz.underlying0
 a0:=Tryz.isAgg0
 z0:=Tryz.sizeOf0
 v0:=Tryz.zeroValue0
 t3:=Tryz.underlying3
 a3:=Tryz.isAgg3
 z3:=Tryz.sizeOf3
 v3:=Tryz.zeroValue3
 t4:=Tryz.underlying4
 a4:=Tryz.isAgg4
 z4:=Tryz.sizeOf4
 v4:=Tryz.zeroValue4
 t22:=Tryz.underlying26
 a22:=Tryz.isAgg26
 z22:=Tryz.sizeOf26
 v22:=Tryz.zeroValue26
 i3:=by kernel_rfl}
open Go.RowKit Go.Lib Go.Sort in
theorem slices_Compact_int(CV off cap:Nat)(zs:List Int)(w:World)(hH:Holds (ap .i64) w CV off zs.toArray)(hsz:zs.length<=9223372036854775807)(sM:zs.length<=cap):
 Calls aC 131 #[ak (ah ⟨CV,off,aj⟩) zs.length cap] w λe w'=>e= .returned (ak (ah ⟨CV,off,aj⟩) (rf zs).length cap)/\∃q,w'=putRow (ap .i64) (Sort.ahead w q) CV off (rf zs++c_ (zs.length-(rf zs).length) 0).toArray:=Any.slices_Compact_int IW CV off cap zs w hH hsz sM
open Go.RowKit Go.Lib Go.Sort in
theorem slices_Compact_int_empty(a:Option Addr)(cap:Nat)(w:World):
 Calls aC 131 #[ak a 0 cap] w λe w'=>e= .returned (ak a 0 cap)/\w'=w:=Any.slices_Compact_int_empty IW a cap w
open Go.RowKit Go.Sort in
theorem slices_Sort_int_none(p:Option Addr)(cap:Nat)(w:World):
 Calls aC 130 #[ak p 0 cap] w λe w'=>e= .returned (.tuple #[])/\w'=w:=Any.slices_Sort_int_none Uw p cap w
end cB
namespace cB
open Go.RowKit cL dV Go.Sort
theorem WJ(w:World)(n g:Nat)(d:Array Int)(os:Array Obj){k:Nat}(hk:k<w.heap.size)(hg:k≠g):(grow (putRow (ap .i64) (Go.Sort.ahead w n) g 0 d) os).heap[k]?=w.heap[k]?:=by
 rw[heap_grow_old _ _ (by rw[size_putRow];exact hk)];show(w.heap.modify g _)[k]?=w.heap[k]?
 rw[EE,if_neg (λh=>hg h.symm)]
theorem Ux{B:bV}{w:World}{e:TypeId}{g cap m:Nat}{zs:List Int}(hm:Mem B [bm e 1 (ak (ah ⟨g,0,aj⟩) m cap) m (zs.map (ap .i64))] w)(d:Array Int)(hd:d.size=m)(m':Nat)(h':m'<=m)(n:Nat)(os:Array Obj):
 Mem B [bm e 1 (ak (ah ⟨g,0,aj⟩) m' cap) m' ((d.toList.take m').map (ap .i64))] (grow (putRow (ap .i64) (Go.Sort.ahead w n) g 0 d) os):=by
 have ho:w.ownsRow 0 e 1 (ak (ah ⟨g,0,aj⟩) m cap) m (zs.map (ap .i64)):=hm.get (i:=0) I;obtain⟨hl,hr⟩:=ho;rcases hr with⟨h,_⟩|⟨g2,ahf,oM,hv,_,hg,hc,hx,hs,ht⟩
 ·cases h
 cases hv
 have NA:B.may g:=(hm.owns.all 0 _ I).2 g (.inl I);have hgw:g<w.heap.size:=(lL.1 hg).1;have aaS:(grow (putRow (ap .i64) (Go.Sort.ahead w n) g 0 d) os).heap[g]?=ah (.cells (putCells (ap .i64) 0 d oM) e (0,0)):=by
  rw[heap_grow_old _ _ (by rw[size_putRow];exact hgw)];show(w.heap.modify g (onCells (putCells (ap .i64) 0 d)))[g]?=_
  rw[EE,if_pos I,hg];rfl
 refine⟨⟨hm.low.os,hm.low.tape,hm.low.output,?_,λk hk hx=>?_⟩,fg.one ⟨?_,.inr ⟨g,cap,_,rfl,bC _,aaS,by omega,hx,?_,?_⟩⟩ λk hk=>?_⟩
 ·rw[size_grow,size_putRow];exact eL hm.low.size (QO _ _)
 ·have hkg:k≠g:=λe=>by
   subst e;rcases NA with h|h
   omega;exact hx h
  rw[WJ w n g d os (jt hk hm.low.size) hkg];exact hm.low.block k hk hx
 ·rw[dY,jr,Array.length_toList,hd];omega
 ·unfold putCells;rw[Array.size_mapIdx];exact hs
 ·apply mf
  intro j;rw[lR,yD]
  by_cases hj:j<m'
  ·have hjc:j<oM.size:=by omega
   rw[if_pos hj,iN,yD,if_pos hj,re,re];unfold putCells;rw[Array.getElem?_mapIdx,yA hjc,Option.map_some,if_pos ⟨bC _,by omega⟩,Nat.sub_zero,getElem!_pos d j J,yA (by omega:j<d.size)];rfl
  rw[if_neg hj,iN,yD,if_neg hj];rfl
 ·rcases hk with h|h
  simp only[bm,Value.ownBlock,dM]at h;subst h;exact NA;exact h.elim
theorem IX{w:World}{e:TypeId}{g cap m:Nat}{zs:List Int}(ho:w.ownsRow 0 e 1 (ak (ah ⟨g,0,aj⟩) m cap) m (zs.map (ap .i64))):Holds (ap .i64) w g 0 zs.toArray/\g<w.heap.size/\m=zs.length/\m<=cap:=by
 obtain⟨hl,hr⟩:=ho;rcases hr with⟨h,_⟩|⟨g2,ahf,oM,hv,_,hg,hc,hx,hs,ht⟩
 cases h
 cases hv
 rw[dY]at hl;refine⟨λj hj=>?_,(lL.1 hg).1,by omega,hc⟩;have tJ:j<zs.length:=by simpa using hj
 have hcj:oM[j]?=ah (ap av zs[j]):=by
  have:=congrArg (λl=>l[j]?) ht;rw[lR,yD,if_pos J,re,iN,bL tJ]at this;exact this
 refine⟨?_,?_⟩;rw[cell_of_row w g (0+j) _ _ _ hg,cU,hcj,getElem!_pos zs.toArray j hj];rfl;unfold World.frozen?;rw[hg];simp
def vv(l:List Int):List Int:=l.mergeSort λx y=>decide (x<=y)
theorem NB(v:Value)(l:List Int)(w:World)(B:bV)(hm:Mem B [bm 3 1 v l.length (l.map (ap .i64))] w)(hl:l.length<4611686018427387904):
 Calls aC 130 #[v] w (dz ⟨λ(_:Unit)=>True,λ_=> .tuple #[],λ_=>[bm 3 1 v l.length ((vv l).map (ap .i64))]⟩ B):=by
 have ho:w.ownsRow 0 3 1 v l.length (l.map (ap .i64)):=hm.get (i:=0) I;have Be:=ho;rcases ho.2 with⟨rfl,h0⟩|⟨g,cap,oM,rfl,_,hg,hc,hx,hs,ht⟩
 ·refine(slices_Sort_int_none aj 0 w).mono λe w' ⟨he,hw⟩=>⟨(),trivial,he,?_⟩
  obtain rfl:l=[]:=Z'.1 h0;rw[hw];exact(by simpa[vv]using hm)
 ·obtain⟨h1,h2,h3,h4⟩:=IX Be
  refine(slices_Sort_int g 0 cap l w h1 h2 hl).mono λe w' ⟨he,n,os,hw⟩=>⟨(),trivial,he,?_⟩;have hlen:(vv l).length=l.length:=aaa _;have:=Ux hm (vv l).toArray (by simp[hlen]) l.length (aX _) n os;rw[gD (by simp[hlen])]at this;rw[hw];exact this
theorem Fu(v:Value)(l:List Int)(w:World)(B:bV)(hm:Mem B [bm 3 1 v l.length (l.map (ap .i64))] w):
 Calls aC 131 #[v] w (dz ⟨λ(_:Value)=>True,λv'=>v',λv'=>[bm 3 1 v' (rf l).length ((rf l).map (ap .i64))]⟩ B):=by
 have ho:w.ownsRow 0 3 1 v l.length (l.map (ap .i64)):=hm.get (i:=0) I;have Be:=ho;rcases ho.2 with⟨rfl,h0⟩|⟨g,cap,oM,rfl,_,hg,hc,hx,hs,ht⟩
 ·refine(slices_Compact_int_empty aj 0 w).mono λe w' ⟨he,hw⟩=>⟨ak aj 0 0,trivial,he,?_⟩
  obtain rfl:l=[]:=Z'.1 h0;rw[hw];exact hm
 ·obtain⟨h1,h2,h3,h4⟩:=IX Be
  refine(slices_Compact_int g 0 cap l w h1 (by unfold maxLen at hx;omega) J).mono λe w' ⟨he,n,hw⟩=>⟨ak (ah ⟨g,0,aj⟩) (rf l).length cap,trivial,he,?_⟩;have hle:(rf l).length<=l.length:=Lib.compact_length_le l;have:=Ux hm (rf l++c_ (l.length-(rf l).length) 0).toArray (by simp;omega) (rf l).length hle n #[];rw[grow_empty]at this;simp only[List.toList_toArray,aae]at this;rw[hw];exact this
end cB
namespace cB
open Go.RowKit cL dV
theorem Uy(l:List Int):∀u∈l.flatMap cL.eP,u.oneCell'=true:=by
 intro u hu;obtain⟨f,_,h⟩:=QI.1 hu;simp only[cL.eP,dw,fC,or_false]at h;subst h;rfl
theorem NC(l:List Int):l.flatMap cL.eP=l.map (.int .i64):=cL.af2 l
theorem ND(a:Int):(cL.eP a).length=1:=rfl
theorem tR(v:Value)(l:List Int)(w:World)(hs:Sl w v l.length (l.flatMap cL.eP))(hl:l.length*8<=140737488355328):
 Calls aC 80 #[v] w (cJ (df 3 1 l.length (l.flatMap cL.eP) id) w):=by
 obtain⟨base,cap,rfl,sM,rR,gu⟩:=hs;unfold maxLen at rR;refine enter (args:=[ak base l.length cap]) (n:=8) Tryz.func80 I I I ?_;have ua:∀w',Gr w w'->Sl w' (ak base l.length cap) l.length (l.flatMap cL.eP):=λw' hg=>Sl.gr ⟨base,cap,rfl,sM,rR,gu⟩ hg;clear gu
 cases base with
 | none=>
  repeat(first|refine GC ?_|refine gV (rL bM.eq I I I) ?_|refine GB ?_)
  have h0:l=[]:=by
   cases l with
   |nil=>rfl
   |cons x l=>obtain⟨_,_,h,_,_,h2⟩:=ua w (Gr.refl w);simp only[kq]at h;obtain⟨rfl,_⟩:=h;obtain⟨b,off,h,_⟩:=h2 (by simp);cases h
  subst h0;refine eI 3 1 ?_;exact cV I I λw hm=>hm.meets (S:=df 3 1 0 [] id) _ trivial [0] alt I
 |some p=>
  repeat(first|refine GC ?_|refine gV (rL bM.eq I I I) ?_|refine GB ?_)
  refine Kb I λg=>?_
  try refine GA ?_
  refine eM (i:=0) I (λw' hm=>ua w' hm.below) I I (nD ND l) (Uy l) J J I λv'=>?_;rw[fD]
  try refine GA ?_
  refine cV I I λw hm=>?_;exact hm.meets (S:=df 3 1 l.length (l.flatMap cL.eP) id) v' trivial [0] alt (by simp[df])
open ep
theorem rX(l:List Int):l.flatMap cL.eP=l.map (ap .i64):=by
 induction l with
 |nil=>rfl
 |cons x r ih=>rw[lQ,ih];rfl
abbrev gB(v:Value)(l:List Int):b_:=bm 3 1 v l.length (l.map (ap .i64))
def tS(l:List Int):Spec Value:=⟨λ_=>True,λv=>v,λv=>[gB v l]⟩
theorem ir(va vb:Value)(a b:List Int)(w:World)(ha:Sl w va a.length (a.map (ap .i64)))(hb:Sl w vb b.length (b.map (ap .i64)))(hla:a.length<=1000000)(hlb:b.length<=1000000):
 Calls aC 95 #[va,vb] w (cJ (tS (rl a b)) w):=by
 have lI:=λw' (hg:Gr w w')=>tR va a w' (by rw[rX];exact ha.gr hg) J;refine enter (args:=[va,vb]) (n:=14) Tryz.func95 I I I ?_
 try refine GA ?_
 refine aT (lz aF.en I I) (λw hm=>lI _ hm.below) I I I ?_;intro v1 _;refine zL ?_;rw[rX]
 try refine GA ?_
 refine eM (i:=0) (bytes:=8) (m:=a.length) (xs:=a.map (ap .i64)) (k:=b.length) (ys:=b.map (ap .i64)) I (agR hb) I I (by rw[dY,lR]) (λu hu=>by obtain⟨x,_,rfl⟩:=fE.1 hu;rfl) J J I λv2=>?_;rw[<-eK,<-bT];refine zL ?_
 try refine GA ?_
 refine bz [0] [] alt I I (lz aF.en I I) (λw hm hb=>NB v2 (a++b) w _ hb (by rw[bT];omega)) I I I ?_;intro _ _;refine zL ?_
 try refine GA ?_
 rw[show(a++b).length=(cB.vv (a++b)).length from(aaa _).symm];refine bz [0] [] alt I I (lz aF.en I I) (λw hm hb=>Fu v2 (cB.vv (a++b)) w _ hb) I I I ?_;intro v3 _;refine zL ?_
 try refine GA ?_
 exact cV I I λw hm=>hm.meets (S:=tS (rl a b)) v3 trivial [0] alt I
def Af(v:Value):List Value:=[v]
theorem NE(v:Value):(Af v).length=1:=rfl
theorem WK(l:List Value):l.flatMap Af=l:=by
 induction l with
 |nil=>rfl
 |cons x r ih=>rw[lQ,ih];rfl
theorem KG{w w':World}{e:TypeId}{size n:Nat}{v:Value}{xs:List Value}(h:w.ownsRow 0 e size v n xs)(hk:∀k,v.ownBlock=ah k->w'.heap[k]?=w.heap[k]?):w'.ownsRow 0 e size v n xs:=by
 refine⟨h.1,?_⟩;rcases h.2 with hn|⟨g,cap,oM,rfl,zm,hg,rest⟩
 exact .inl hn;exact .inr ⟨g,cap,oM,rfl,zm,by rw[hk g I];exact hg,rest⟩
def ahg:yt (List Int):=
 ⟨1,λF w cs l=>∃v,cs=[v]/\(∀x∈l,cL.dv x)/\w.ownsRow 0 3 1 v l.length (l.map (ap .i64))/\∀k,v.ownBlock=ah k->F k,λ⟨_,h,_⟩=>by rw[h];rfl,
  λ⟨v,h1,h2,h3,h4⟩ hk=>⟨v,h1,h2,KG h3 λk h=>hk k (h4 k h),h4⟩,λ⟨v,h1,h2,h3,h4⟩ hk=>⟨v,h1,h2,h3,λk h=>hk k (h4 k h)⟩⟩
abbrev yQ(v:Value)(vs:List Value):b_:=bm 26 1 v vs.length (vs.flatMap Af)
abbrev vB(F:Nat->Prop)(vs:List Value)(nu:List (List Int)):b_:=eG ahg F (vs.map Af) nu
def Uz(vc vr vf vfol vl ve:Value)(bP:Int):Array Value:=#[vc,vr,vf,vfol,vl,ve,ap av bP]
theorem aeu{α:Type}{s:yt α}{F F2:Nat->Prop}{gY:List (List Value)}{cs:List Value}{l:List α}{a:α}{w:World}{k:Nat}(he:(eG s F gY l).holds w)(hs:s.is F2 w cs a)(h2:∀k,F2 k->k<w.heap.size):
 (eG s (λk=>F k\/F2 k) (gY.set k cs) (l.set k a)).holds w:=by
 obtain⟨⟨h1,h3⟩,h4⟩:=he;refine⟨⟨by simp[h1],λi hi qw=>?_⟩,λk hk=>hk.elim (h4 k) (h2 k)⟩;rw[aac,aac]
 by_cases c:k=i
 ·subst c
  rw[if_pos I,if_pos I];exact s.mono hs λq hq=> .inr hq
 ·rw[if_neg c,if_neg c]
  exact s.mono (h3 i (by simpa using hi) (by simpa using qw)) λq hq=> .inl hq
theorem aaT{F:Nat->Prop}{vs:List Value}{nu:List (List Int)}{w:World}(he:(vB F vs nu).holds w){k:Nat}(hk:k<nu.length)(qD:k<vs.length):Sl w vs[k] nu[k].length (nu[k].map (ap .i64)):=by
 obtain⟨⟨h1,h3⟩,_⟩:=he;obtain⟨v,hv,_,hs,_⟩:=h3 k hk (by simpa using qD);rw[oR]at hv;unfold Af at hv;simp only[fL,and_true]at hv;rw[hv];exact Sl.dF hs
theorem ahh{w:World}{v:Value}{l:List Int}(hp:∀x∈l,cL.dv x)(h:(gB v l).holds w):ahg.is (λk=>v.ownBlock=ah k) w [v] l:=
 ⟨v,rfl,hp,h,λ_ h=>h⟩
def UA(g:Nat)(vc vr vf vfol vl ve:Value)(bP:Int)(va vb:Value)(nu:List (List Int))(last first:List Int):Spec (List Value×(Nat->Prop)):=
 ⟨λx=>x.1.length=nu.length,λ_=> .tuple #[],λx=>[aK g (Uz vc vr vf vfol vl ve bP) 225,yQ vfol x.1,vB x.2 x.1 (fB nu last first),gB va last,gB vb first]⟩
theorem NF(nu:List (List Int))(last first:List Int){k:Nat}(hk:k<last.length):fB nu (last.take (k+1)) first=(fB nu (last.take k) first).set last[k].toNat (rl ((fB nu (last.take k) first).getD last[k].toNat []) first):=by
 unfold fB;rw[ic hk,QH];rfl
theorem Ag(g:Nat)(vc vr vf vfol vl ve:Value)(bP:Int)(va vb:Value)(vs:List Value)(F:Nat->Prop)(nu:List (List Int))(last first:List Int)(w:World)(B:bV)
 (hvs:vs.length=nu.length) (hn:nu.length<=100000) (akv:∀l∈nu,IU nu.length l) (hla:IU nu.length last) (Yk:IU nu.length first)
 (hm:Mem B [aK g (Uz vc vr vf vfol vl ve bP) 225,yQ vfol vs,vB F vs nu,gB va last,gB vb first] w):
 Calls aC 129 #[aH (ah ⟨g,0,aj⟩),va,vb] w (dz (UA g vc vr vf vfol vl ve bP va vb nu last first) B):=by
 have alo:=jV hla;have akw:=jV Yk;have hva:∃a c,va=ak a last.length c:=by
  obtain⟨base,cap,h,_⟩:=Sl.dF (show w.ownsRow 0 3 1 va last.length (last.map (ap .i64))from hm.get (i:=3) rfl);exact⟨base,cap,h⟩
 obtain⟨aa,ca,rfl⟩:=hva;refine dT hm (args:=[aH (ah ⟨g,0,aj⟩),ak aa last.length ca,vb]) (n:=32) Tryz.func129 I I I ?_;clear hm
 try refine GA ?_
 refine dZ (ι:=Nat×List Value×(Nat->Prop)) (λ(k,vs,F)=>k<=last.length/\vs.length=nu.length) (λ(k,_,_)=>[(0,aH (ah ⟨g,0,aj⟩)),(2,vb),(8,ak aa last.length ca),(9,ap av last.length),(10,ap av (k:Int))])
  (λ(k,vs,F)=>[aK g (Uz vc vr vf vfol vl ve bP) 225,yQ vfol vs,vB F vs (fB nu (last.take k) first),gB (ak aa last.length ca) last,gB vb first]) (λ(k,_,_)=>last.length-k) (0,vs,F) ⟨bC _,hvs⟩ ?_
 clear hvs vs F;rintro⟨k,vs,F⟩ ⟨i1,i2⟩;dsimp only at i1 i2⊢
 by_cases c6:k<last.length
 ·have hstep:=NF nu last first c6
  have akx:=tc (n:=nu.length) Yk.2 (last.take k) nu akv;have hlen:=k_ nu (last.take k) first;have hx:=hla.2 last[k] (bX c6);have hgx:last[k]?=ah last[k]:=bL c6;generalize fB nu (last.take k) first=fo at*;generalize last[k]=x at*;obtain⟨xn,rfl⟩:=fJ hx.1;rw[de]at hstep;have hxn:xn<fo.length:=by omega
  have te:fo.getD xn []=fo[xn]:=by rw[cH,bL hxn];rfl
  rw[te]at hstep;have hrx:=akx fo[xn] (bX hxn);have IY:=jV hrx;have Yl:=tb hrx.2 Yk.2;have hul:=jV Yl;refine ix (i:=1) (φ:=∃gf cap,vfol=ak (ah ⟨gf,0,aj⟩) vs.length cap/\vs.length<=cap) I (λw h=>by
   obtain⟨h1,h2⟩:=(show w.ownsRow 0 26 1 vfol vs.length (vs.flatMap Af)from h);rcases h2 with⟨_,h0⟩|⟨gf,cap,oM,hv,_,_,hc,_⟩
   omega;exact⟨gf,cap,hv,hc⟩) λhvf=>?_
  obtain⟨gf,ahi,rfl,hcf⟩:=hvf;refine ix (i:=3) (φ:=∃ga,aa=ah ⟨ga,0,aj⟩) I (λw h=>by
   obtain⟨h1,h2⟩:=(show w.ownsRow 0 3 1 (ak aa last.length ca) last.length (last.map (ap .i64))from h);rcases h2 with⟨_,h0⟩|⟨gf,cap,oM,hv,_,_,hc,_⟩
   omega
   cases hv;exact⟨gf,rfl⟩) λhva=>?_
  obtain⟨ga,rfl⟩:=hva;have hxv:xn<vs.length:=by omega
  have fu:∀(L:List b_) (hi:L[1]?=ah (yQ (ak (ah ⟨gf,0,aj⟩) vs.length ahi) vs)),At B L ⟨gf,0+xn*1+0,aj⟩ vs[xn]:=λL hi=>ow NE hi hxv 0 _ I;have aky:∀(L:List b_) (hi:L[3]?=ah (gB (ak (ah ⟨ga,0,aj⟩) last.length ca) last)),At B L ⟨ga,0+k*1,aj⟩ (ap av (xn:Int)):=λL hi=>kx hi (by rw[iN,cU,lR,hgx];rfl)
  repeat(first|refine GA ?_|refine gV (aR bM.eq aI.ty I I c6) ?_|refine gV (aw (v:=ap av (xn:Int)) aI.ty I (aky _ I)) ?_)
  (repeat refine bZ ?_)
  refine dG ([aK g (Uz vc vr vf (ak (ah ⟨gf,0,aj⟩) vs.length ahi) vl ve bP) 225]) (.calm 0 (.calm 1 (.calm 2 (.calm 3 (.calm 4 (.calm 5 (.calm 6 (.calm 7 (.calm 8 (.calm 9 (.calm 10 (.calm 11 (.calm 12 (.calm 14 (.one 13 (.one 15 (.calm 16 (.one 17 (.done))))))))))))))))))) (bY [0]) ?_
  repeat(first|refine GW ?_|(refine GN ?_;first|refine QW (aw (v:=ak (ah ⟨gf,0,aj⟩) vs.length ahi) aI.ty I (aD (i:=0) I I)) ?_|refine QW (aR bM.eq aI.ty I I hxv) ?_))
  refine aM I (dy (aw (v:=vs[xn]) aI.ty I (fu _ I)) I I I (aO (bY [0]) ?_))
  try refine GW ?_
  refine aM I (aT (gh aF.en I I I) (λw' hm=>ir vs[xn] vb fo[xn] first w' (aaT (hm.get (i:=2) I) hxn hxv) (Sl.dF (hm.get (i:=4) I)) J J) I I I ?_);intro v _
  conv=>arg 8;simp only[zJ,df,ret,id_eq,tS]
  refine aU (i:=5) I λrM zv=>?_;refine aO (bY [0]) ?_
  repeat(first|refine GW ?_|(refine GN ?_;first|refine QW (aR bM.eq aI.ty I I hxv) ?_))
  refine aM I (Bg NE (i:=1) (k:=xn) (l:=vs) (a:=v) aI.ty I I J hxv I I rM (by simp only[Af,cY,db,zv];rfl) (aO (bY [0]) ?_))
  try refine GW ?_
  try refine GA ?_
  refine Dj (vB (λk=>F k\/v.ownBlock=ah k) (vs.set xn v) (fo.set xn (rl fo[xn] first))) 5 2 [0,1,3,4] alt I I I (λk hk=>hk.elim (λh=>by cases h) λh=>h.elim (λh=> .inr (.inr h)) λh=> .inl (.inl h)) (λw hr he=>?_) ?_
  ·have:=aeu (k:=xn) he (ahh (λx hx=>⟨by have:=Yl.2 x hx;omega,by have:=Yl.2 x hx;omega⟩) hr) λk hk=>(gB v (rl fo[xn] first)).lt w hr k (.inl hk)
   rw[show([v]:List Value)=Af v from I,<-uQ]at this;exact this
  refine dq [0,1,4,2,3] ?_;exact bQ (k+1,vs.set xn v,λk=>F k\/v.ownBlock=ah k) ⟨by omega,by rw[aad];exact i2⟩ (by show last.length-(k+1)<last.length-k;omega) (hl:=by dsimp only;rw[hstep];show _=[_,bm _ _ _ (vs.set xn v).length _,_,_,_];rw[aad];rfl)
 ·obtain rfl:k=last.length:=by omega
  rw[gD (aX _)]
  try refine GA ?_
  exact oO I λw hm=>hm.cg (S:=UA g vc vr vf vfol vl ve bP (ak aa last.length ca) vb nu last first) (vs,F) i2 [0,1,2,3,4] alt I
open dg gv
def BD(B:bV)(k:Nat):Prop:=k<B.w.heap.size/\¬B.X k
theorem tf{B:bV}{L:List b_}{b off:Nat}{cs:List Value}(hb:BD B b)(h:Rd B.w b off cs)(j:Nat)(v:Value)(hj:cs[j]?=ah v):At B L ⟨b,off+j,aj⟩ v:=λ_ hm=>
 rd_stay h (hm.low.block b hb.1 hb.2) j v hj
theorem ahj{B:bV}{Lx:List b_}{w:World}(hm:Mem B Lx w){k:Nat}(hk:BD B k):BD (bV.on w Lx) k:=by
 refine⟨jt hk.1 hm.low.size,?_⟩;rintro⟨o,ho,hf⟩;obtain⟨i,hi⟩:=List.mem_iff_getElem?.1 ho;rcases(hm.owns.all i o hi).2 k hf with h|h
 have:=hk.1;omega;exact hk.2 h
theorem fe{B:bV}{Lx:List b_}{w:World}{v:Value}{r:Rx}(hm:Mem B Lx w)(h:oQ (BD B) B.w v r):oQ (BD (bV.on w Lx)) w v r:=
 (h.stay λk hk=>hm.low.block k hk.1 hk.2).mono λ_ hk=>ahj hm hk
structure Ym where
 vc:Value
 vr:Value
 vfol:Value
 vl:Value
 vs:List Value
 F:Nat->Prop
def oe(g:Nat)(vf ve:Value)(bP:Int)(x:Ym)(p:PS):List b_:=
 [aK g (Uz x.vc x.vr vf x.vfol x.vl ve bP) 225,bm 94 4 x.vc p.a8.length (p.a8.flatMap dX),gB x.vr p.rules,yQ x.vfol x.vs,vB x.F x.vs p.follow,bm 4 1 x.vl p.last.length (p.last.map fW)]
def cK(g:Nat)(vf ve:Value)(bP:Int)(R:Shape×PS):Spec (Ym×Value×Value):=
 ⟨λx=>x.1.vs.length=R.2.follow.length,λx=>aP #[.bool R.1.empty,x.2.1,x.2.2],λx=>oe g vf ve bP x.1 R.2++[gB x.2.1 R.1.first,gB x.2.2 R.1.last]⟩
theorem Rj(w:World):(da 227 (#[]:Array (Nat×Value))).run aC w= .ok (aP #[.bool aE,ak aj 0 0,ak aj 0 0]) w:=by
 go_simp
theorem Rk(w:World):(da 227 #[(0,.bool aB)]).run aC w= .ok (aP #[.bool aB,ak aj 0 0,ak aj 0 0]) w:=by
 go_simp
def KH(M:Nat):Prop:=∀(e:Re),e.size<=M->∀(g:Nat) (vf ve:Value) (bP:Int) (p:PS) (x:Ym) (v:Value) (w:World) (B:bV),Nt p->x.vs.length=p.follow.length->p.a8.length+e.size<=100000->cL.dv bP->oQ (BD B) B.w v (l7 e)->Mem B (oe g vf ve bP x p) w->
 Calls aC 94 #[aH (ah ⟨g,0,aj⟩),v] w (dz (cK g vf ve bP (bU bP e p)) B)
theorem WL(g:Nat)(vf ve:Value)(bP:Int)(p:PS)(x:Ym)(v:Value)(w:World)(B:bV)(hx:x.vs.length=p.follow.length)(hv:oQ (BD B) B.w v (l7 .none))(hm:Mem B (oe g vf ve bP x p) w):
 Calls aC 94 #[aH (ah ⟨g,0,aj⟩),v] w (dz (cK g vf ve bP (bU bP .none p)) B):=by
 obtain⟨vk,rfl,_,Ik⟩:=hv;obtain⟨bk,ck,rfl,-⟩:=Ik;unfold oe at hm;refine dT hm (args:=[aH (ah ⟨g,0,aj⟩),ra (l7 .none).kind (l7 .none).uF (ak bk (l7 .none).kids.length ck)]) (n:=176) Tryz.func94 I I I ?_;clear hm;refine bZ (bx (bH I I I λg3=>aY I λg4=>?_));refine zL ?_
 repeat(first|refine GA ?_|refine gV (aw (v:=ap av 1) aI.ty I (aD (i:=6) I I)) ?_|refine gV (aZ I Rj) ?_)
 refine fR 7 ?_;refine zL ?_
 try refine GA ?_
 refine eI 3 1 (eI 3 1 ?_);exact gT (i:=7) I I I I λw hm=>hm.cg (S:=cK g vf ve bP (bU bP .none p)) (x,ak aj 0 0,ak aj 0 0) hx [0,1,2,3,4,5,8,9] alt I
theorem Rm(g:Nat)(vf ve:Value)(bP:Int)(p:PS)(x:Ym)(v:Value)(w:World)(B:bV)(hx:x.vs.length=p.follow.length)(hv:oQ (BD B) B.w v (l7 .empty))(hm:Mem B (oe g vf ve bP x p) w):
 Calls aC 94 #[aH (ah ⟨g,0,aj⟩),v] w (dz (cK g vf ve bP (bU bP .empty p)) B):=by
 obtain⟨vk,rfl,_,Ik⟩:=hv;obtain⟨bk,ck,rfl,-⟩:=Ik;unfold oe at hm;refine dT hm (args:=[aH (ah ⟨g,0,aj⟩),ra (l7 .empty).kind (l7 .empty).uF (ak bk (l7 .empty).kids.length ck)]) (n:=176) Tryz.func94 I I I ?_;clear hm;refine bZ (bx (bH I I I λg3=>aY I λg4=>?_));refine zL ?_
 repeat(first|refine GA ?_|refine gV (aw (v:=ap av 2) aI.ty I (aD (i:=6) I I)) ?_|refine gV (aZ I Rk) ?_)
 refine fR 7 ?_;refine zL ?_
 try refine GA ?_
 refine eI 3 1 (eI 3 1 ?_);exact gT (i:=7) I I I I λw hm=>hm.cg (S:=cK g vf ve bP (bU bP .empty p)) (x,ak aj 0 0,ak aj 0 0) hx [0,1,2,3,4,5,8,9] alt I
def NG(g:Nat)(bP:Int):b_:=
 ⟨ah g,λ_=>False,λw=>∃vc vr vf vfol vl ve,w.heap[g]?=ah (.cells (Uz vc vr vf vfol vl ve bP) 225 (0,0)),λw ⟨_,_,_,_,_,_,h⟩ k hk=>by simp only[dM,or_false]at hk;subst hk;exact(lL.1 h).1,
  λw w' ⟨vc,vr,vf,vfol,vl,ve,h⟩ _ hb=>⟨vc,vr,vf,vfol,vl,ve,by rw[hb g (.inl I)];exact h⟩⟩
theorem nc{B:bV}{L:List b_}{g:Nat}{vc vr vf vfol vl ve:Value}{bP:Int}(h:L[0]?=ah (aK g (Uz vc vr vf vfol vl ve bP) 225)):∀w,Mem B L w->Mem B [NG g bP] w:=λw hm=>by
 have h1:=hm.pick (L':=[aK g (Uz vc vr vf vfol vl ve bP) 225]) [0] alt (by simp[h]);exact h1.ad7 (i:=0) (NG g bP) I ⟨vc,vr,vf,vfol,vl,ve,h1.get (i:=0) I⟩ λk hk=>hk
theorem aev{B:bV}{L:List b_}{g i:Nat}{bP:Int}(h:L[i]?=ah (NG g bP)):At B L ⟨g,6,aj⟩ (ap av bP):=λw hm=>by
 obtain⟨vc,vr,vf,vfol,vl,ve,h⟩:=(hm.get h:(NG g bP).holds w);rw[cell_of_row w g 6 _ _ _ h];rfl
theorem UB(c:C4)(u:Value)(h:u∈dX c):u.oneCell'=true:=by
 simp only[dX,dw,fC,or_false]at h;rcases h with rfl|rfl|rfl|rfl<;>rfl
theorem WM(c:C4){k:Int}{vk v:Value}{j:Nat}(hj:(dX c)[j]?=ah v):((mL k c vk).toArray)[1+j]?=ah v:=by
 match j,hj with
 |0,hj=>exact hj
 |1,hj=>exact hj
 |2,hj=>exact hj
 |3,hj=>exact hj
theorem Rn(b b':Option Addr)(m m' k k':Nat)(w:World):(da 227 #[(1,ak b m k),(2,ak b' m' k')]).run aC w= .ok (aP #[.bool aE,ak b m k,ak b' m' k']) w:=by
 go_simp
theorem IZ(v:Value)(l:List Int)(x:Int):bm 3 1 v (l.length+1) (l.map (ap .i64)++[ap av x])=gB v (l++[x]):=by
 show _=bm 3 1 v (l++[x]).length ((l++[x]).map (ap .i64))
 rw[bT,eK];rfl
theorem aaU(v:Value)(l:List Value)(x:Value):bm 26 1 v (l.length+1) (l.flatMap Af++[x])=yQ v (l++[x]):=by
 show _=bm 26 1 v (l++[x]).length ((l++[x]).flatMap Af)
 rw[bT,ie];rfl
theorem BE(v:Value)(l:List Bool)(x:Bool):bm 4 1 v (l.length+1) (l.map fW++[.bool x])=bm 4 1 v (l++[x]).length ((l++[x]).map fW):=by
 rw[bT,eK];rfl
theorem KI{w:World}{g:Nat}{n:Int}(h:(aK g #[ap av n] 3).holds w):(gB (ak (ah ⟨g,0,aj⟩) 1 1) [n]).holds w:=
 ⟨rfl,.inr ⟨g,1,_,rfl,bC _,h,aX _,by decide,rfl,rfl⟩⟩
theorem WN(c:C4)(g:Nat)(vf ve:Value)(bP:Int)(p:PS)(x:Ym)(v:Value)(w:World)(B:bV)(hp:Nt p)(hx:x.vs.length=p.follow.length)(hn:p.a8.length<=100000)(hv:oQ (BD B) B.w v (l7 (.byte c)))(hm:Mem B (oe g vf ve bP x p) w):
 Calls aC 94 #[aH (ah ⟨g,0,aj⟩),v] w (dz (cK g vf ve bP (bU bP (.byte c) p)) B):=by
 obtain⟨vk,rfl,_,Ik⟩:=hv;obtain⟨bk,ck,rfl,-⟩:=Ik;obtain⟨vc,vr,vfol,vl,vs,F⟩:=x;unfold oe at hm;dsimp only at hx hm;refine dT hm (args:=[aH (ah ⟨g,0,aj⟩),ra (l7 (.byte c)).kind (l7 (.byte c)).uF (ak bk (l7 (.byte c)).kids.length ck)]) (n:=176) Tryz.func94 I I I ?_;clear hm;refine bZ (bx (bH I I I λg3=>aY I λg4=>?_));refine zL ?_;refine n' (i:=1) I λbc cc hvc rM Eo=>?_;subst hvc
 repeat(first|refine GA ?_|refine gV (aw (v:=ap av 3) aI.ty I (aD (i:=6) I I)) ?_|refine gV (aw (v:=ak bc p.a8.length cc) aI.ty I (aD (i:=0) I I)) ?_)
 (repeat refine bZ ?_)
 refine ml (ι:=Value) (λ_=>True) (λ_=>[(0,aH (ah ⟨g,0,aj⟩)),(3,aH (ah ⟨g3,0,aj⟩)),(4,aH (ah ⟨g4,0,aj⟩)),(5,ap av p.a8.length)])
  (λHz=>[aK g (Uz Hz vr vf vfol vl ve bP) 225,bm 94 4 Hz (p.a8++[c]).length ((p.a8++[c]).flatMap dX),gB vr p.rules,yQ vfol vs,vB F vs p.follow,bm 4 1 vl p.last.length (p.last.map fW),aK g4 #[.bool aE,ak aj 0 0,ak aj 0 0] 227]) ?_ ?_
 ·refine dG ([aK g3 (mL 3 c (ak bk 0 ck)).toArray 97]) (.calm 0 (.calm 1 (.calm 2 (.calm 3 (.calm 4 (.calm 6 (.calm 7 (.two 5 (.one 8 (.one 9 (.calm 10 (.calm 11 (.calm 12 (.one 13 (.done))))))) 8 (.one 5 (.one 9 (.calm 10 (.calm 11 (.calm 12 (.one 13 (.done))))))))))))))) (bY [6]) ?_
  repeat(first|refine GW ?_|(refine GN ?_;first|refine QW (aW (cs:=dX c) aI.ty I I (λj v hj=>aD (i:=0) I (WM c hj))) ?_))
  refine e_ I I ?_ ?_
  ·refine dy (aw (v:=ak bc p.a8.length cc) aI.ty I (aD (i:=0) I I)) I I I (aO (bY [6]) ?_)
   refine aM I (fz (cs:=(dX c).toArray) [pc c] I I I (by intro v hv;simp at hv;subst hv;rfl) I I I λg33=>(aO (bY [6]) ?_));refine aM I (eM (i:=1) (e:=94) (size:=4) (bytes:=32) (m:=p.a8.length) (xs:=p.a8.flatMap dX) (k:=1) (ys:=dX c) I (kT (i:=8) I (λj u h=>by simpa using h) (aX 1) alt) I I I (λu hu=>UB c u hu) J J I λHz=>(aO (bY [6]) ?_))
   try refine GW ?_
   refine aM I (aU (i:=1) I λjm mz=>bD (i:=0) I I I jm mz I (aO (bY [6]) ?_))
   try refine GW ?_
   refine dq [0,1,2,3,4,5,7] ?_;exact eQ Hz trivial (by repeat' (first|exact cZ|refine cP I ?_)) (by rw[bT,ie];rfl)
  refine fz (cs:=(dX c).toArray) [pc c] I I I (by intro v hv;simp at hv;subst hv;rfl) I I I λg33=>(aO (bY [6]) ?_);refine aM I (dy (aw (v:=ak bc p.a8.length cc) aI.ty I (aD (i:=0) I I)) I I I (aO (bY [6]) ?_));refine aM I (eM (i:=1) (e:=94) (size:=4) (bytes:=32) (m:=p.a8.length) (xs:=p.a8.flatMap dX) (k:=1) (ys:=dX c) I (kT (i:=8) I (λj u h=>by simpa using h) (aX 1) alt) I I I (λu hu=>UB c u hu) J J I λHz=>(aO (bY [6]) ?_))
  try refine GW ?_
  refine aM I (aU (i:=1) I λjm mz=>bD (i:=0) I I I jm mz I (aO (bY [6]) ?_))
  try refine GW ?_
  refine dq [0,1,2,3,4,5,7] ?_;exact eQ Hz trivial (by repeat' (first|exact cZ|refine cP I ?_)) (by rw[bT,ie];rfl)
 clear rM Eo;intro Hz _
 try refine GA ?_
 (repeat refine bZ ?_)
 have IY:=hp.rules;refine ml (ι:=Value) (λ_=>True) (λ_=>[(0,aH (ah ⟨g,0,aj⟩)),(4,aH (ah ⟨g4,0,aj⟩)),(5,ap av p.a8.length)])
  (λDx=>[aK g (Uz Hz Dx vf vfol vl ve bP) 225,bm 94 4 Hz (p.a8++[c]).length ((p.a8++[c]).flatMap dX),gB Dx (p.rules++[bP]),yQ vfol vs,vB F vs p.follow,bm 4 1 vl p.last.length (p.last.map fW),aK g4 #[.bool aE,ak aj 0 0,ak aj 0 0] 227]) ?_ ?_
 ·refine dG ([NG g bP]) (.calm 0 (.calm 1 (.calm 2 (.calm 3 (.calm 4 (.calm 6 (.calm 7 (.calm 8 (.calm 9 (.two 5 (.one 10 (.one 11 (.calm 12 (.calm 13 (.calm 14 (.one 15 (.done))))))) 10 (.one 5 (.one 11 (.calm 12 (.calm 13 (.calm 14 (.one 15 (.done))))))))))))))))) (nc I) ?_
  repeat(first|refine GW ?_|(refine GN ?_;first|refine QW (aw (v:=ap av bP) aI.ty I (aev (i:=0) I)) ?_))
  refine e_ I I ?_ ?_
  ·refine dy (aw (v:=vr) aI.ty I (aD (i:=0) I I)) I I I (aO (nc I) ?_)
   refine aM I (fz (cs:=#[ap av bP]) [ap av bP] I I I (by intro v hv;simp at hv;subst hv;rfl) I I I λg48=>(aO (nc I) ?_));refine aM I (eM (i:=2) (e:=3) (size:=1) (bytes:=8) (m:=p.rules.length) (xs:=p.rules.map (ap .i64)) (k:=1) (ys:=[ap av bP]) I (kT (i:=7) I (λj u h=>by simpa using h) (aX 1) alt) I I I (λu hu=>by rw[ez.1 hu];rfl) J J I λDx=>(aO (nc I) ?_))
   try refine GW ?_
   refine aM I (aU (i:=2) I λjm mz=>bD (i:=0) I I I jm mz I (aO (nc (vc:=Hz) (vr:=Dx) (vf:=vf) (vfol:=vfol) (vl:=vl) (ve:=ve) I) ?_))
   try refine GW ?_
   refine dq [0,1,2,3,4,5,6] ?_;exact eQ Dx trivial (by repeat' (first|exact cZ|refine cP I ?_)) (by rw[<-IZ Dx p.rules bP];rfl)
  refine fz (cs:=#[ap av bP]) [ap av bP] I I I (by intro v hv;simp at hv;subst hv;rfl) I I I λg48=>(aO (nc I) ?_);refine aM I (dy (aw (v:=vr) aI.ty I (aD (i:=0) I I)) I I I (aO (nc I) ?_));refine aM I (eM (i:=2) (e:=3) (size:=1) (bytes:=8) (m:=p.rules.length) (xs:=p.rules.map (ap .i64)) (k:=1) (ys:=[ap av bP]) I (kT (i:=7) I (λj u h=>by simpa using h) (aX 1) alt) I I I (λu hu=>by rw[ez.1 hu];rfl) J J I λDx=>(aO (nc I) ?_))
  try refine GW ?_
  refine aM I (aU (i:=2) I λjm mz=>bD (i:=0) I I I jm mz I (aO (nc (vc:=Hz) (vr:=Dx) (vf:=vf) (vfol:=vfol) (vl:=vl) (ve:=ve) I) ?_))
  try refine GW ?_
  refine dq [0,1,2,3,4,5,6] ?_;exact eQ Dx trivial (by repeat' (first|exact cZ|refine cP I ?_)) (by rw[<-IZ Dx p.rules bP];rfl)
 intro Dx _;have tU:=hp.follow;have Qs:=hp.last
 repeat(first|refine GA ?_|refine gV (aw (v:=vfol) aI.ty I (aD (i:=0) I I)) ?_)
 refine kf (i:=3) (bytes:=24) I I I I I I (λz h=>by cases h;rfl) J J I λz1 xM=>?_;refine zL ?_
 try refine GA ?_
 refine aU (i:=3) I λjm mz=>bD (i:=0) I I I jm mz I ?_;refine zL ?_
 repeat(first|refine GA ?_|refine gV (aw (v:=vl) aI.ty I (aD (i:=0) I I)) ?_)
 refine kf (i:=5) (bytes:=1) I I I I I I (λz h=>by cases h;rfl) J J I λz2 UC=>?_;refine zL ?_
 try refine GA ?_
 refine aU (i:=5) I λjm mz=>bD (i:=0) I I I jm mz I ?_;refine zL ?_
 try refine GA ?_
 refine fz (cs:=#[ap av p.a8.length]) [ap av p.a8.length] I I I (by intro v hv;simp at hv;subst hv;rfl) I I I λg76=>?_;refine zL ?_
 try refine GA ?_
 refine fz (cs:=#[ap av p.a8.length]) [ap av p.a8.length] I I I (by intro v hv;simp at hv;subst hv;rfl) I I I λg78=>?_;refine zL ?_
 repeat(first|refine GA ?_|refine gV (aZ I (Rn _ _ _ _ _ _)) ?_)
 refine fR 6 (cs':=#[.bool aE,ak (ah ⟨g76,0,aj⟩) 1 1,ak (ah ⟨g78,0,aj⟩) 1 1]) ?_;refine zL ?_
 try refine GA ?_
 refine pe (i:=7) (gB (ak (ah ⟨g76,0,aj⟩) 1 1) [(p.a8.length:Int)]) I (λw h=>KI h) (λk hk=>hk) ?_;refine pe (i:=8) (gB (ak (ah ⟨g78,0,aj⟩) 1 1) [(p.a8.length:Int)]) I (λw h=>KI h) (λk hk=>hk) ?_;refine pe (i:=4) (vB (λk=>F k\/False) (vs++[ak aj 0 0]) (p.follow++[[]])) I (λw h=>by
  have:=pJ (F2:=λ_=>False) h (show ahg.is (λ_=>False) w [ak aj 0 0] []from⟨_,rfl,λ_ h=>(by cases h),⟨rfl,.inl ⟨rfl,rfl⟩⟩,λ_ h=>(by cases h)⟩) (λk hk=>hk.elim);rw[show vs.map Af++[[ak aj 0 0]]=(vs++[ak aj 0 0]).map Af by rw[eK];rfl]at this;exact this) (λk hk=>hk.elim (λh=>by cases h) λh=>h.elim (λh=> .inr h) False.elim) ?_
 refine gT (i:=6) I I I I λw hm=>?_;refine hm.cg (S:=cK g vf ve bP (bU bP (.byte c) p)) (⟨Hz,Dx,xM,UC,vs++[ak aj 0 0],λk=>F k\/False⟩,ak (ah ⟨g76,0,aj⟩) 1 1,ak (ah ⟨g78,0,aj⟩) 1 1) (by show(vs++[_]).length=(p.follow++[[]]).length;rw[bT,bT,hx];rfl) [0,1,2,3,4,5,7,8] alt ?_;show[_,_,_,yQ xM (vs++[ak aj 0 0]),_,bm 4 1 UC (p.last++[aE]).length ((p.last++[aE]).map fW),_,_]=_
 rw[<-aaU,<-BE];rfl
theorem WO{M:Nat}(IH:KH M)(a:Re)(ha:a.size<=M)(g:Nat)(vf ve:Value)(bP:Int)(p:PS)(x:Ym)(v:Value)(w:World)(B:bV)(hp:Nt p)(hx:x.vs.length=p.follow.length)(hn:p.a8.length+(a.size+1)<=100000)(Ro:cL.dv bP)(hv:oQ (BD B) B.w v (l7 (.star a)))(hm:Mem B (oe g vf ve bP x p) w):
 Calls aC 94 #[aH (ah ⟨g,0,aj⟩),v] w (dz (cK g vf ve bP (bU bP (.star a) p)) B):=by
 obtain⟨vk,rfl,_,Ik⟩:=hv;obtain⟨bk,ck,rfl,h1,h2,h3⟩:=Ik;obtain⟨b,off,rfl,hF,gu⟩:=h3 (by show 0<1;decide);obtain⟨kb,kc,hr,WQ⟩:=qG (k:=0) gu (by show 0<1;decide);have eC:=λ(L:List b_) (j:Nat) (v:Value) hj=>tf (L:=L) hF hr j v hj;clear h3 gu hr;obtain⟨CZ,WR,hp3,hp4,hp5⟩:=iZ bP a p hp;have agd:bU bP (.star a) p=(⟨aB,(bU bP a p).1.first,(bU bP a p).1.last⟩,{(bU bP a p).2 with follow:=fB (bU bP a p).2.follow (bU bP a p).1.last (bU bP a p).1.first}):=rfl;have hIH:=λw B hv hm=>IH a ha g vf ve bP p x (ra (l7 a).kind (l7 a).uF (ak kb (l7 a).kids.length kc)) w B hp hx J Ro hv hm;rw[agd];generalize bU bP a p=R at*;obtain⟨⟨e,first,last⟩,p'⟩:=R;dsimp only at CZ WR hp3 hp4 hp5⊢;clear agd;unfold oe at hm;refine dT hm (args:=[aH (ah ⟨g,0,aj⟩),ra 6 C4.zero (ak (ah ⟨b,off,aj⟩) 1 ck)]) (n:=176) Tryz.func94 I I I ?_;clear hm;refine bZ (bx (bH I I I λg3=>aY I λg4=>?_));refine zL ?_
 repeat(first|refine GA ?_|refine gV (aw (v:=ap av 6) aI.ty I (aD (i:=6) I I)) ?_|refine gV (aw (v:=ak (ah ⟨b,off,aj⟩) 1 ck) aI.ty I (aD (i:=6) I I)) ?_|refine gV (aR (j:=0) bM.eq aI.ty I I alt) ?_|refine gV (aW aI.ty I I (eC _)) ?_)
 refine bz [0,1,2,3,4,5] [6,7] alt I I (gh aF.en I I I) (λw hm hb=>hIH w _ (fe (hm.pick [0,1,2,3,4,5] alt I) WQ) hb) I I I ?_;rintro⟨⟨vc,vr,vfol,vl,vs,F⟩,va,vb⟩ TI;have TI:vs.length=p'.follow.length:=TI
 conv=>arg 8;simp only[zJ,df,ret,id_eq,cK,oe]
 conv=>arg 7;simp only[cK]
 refine aU (i:=8) I λalD aiS=>?_;refine aU (i:=9) I λalE aiT=>?_;refine aY I λg6=>?_;refine zL ?_;refine aV (i:=10) (cs':=#[.bool e,va,vb]) I I I I (by simp only[cY,db,aiS,aiT];rfl) I ?_;refine zL ?_
 repeat(first|refine GA ?_|refine gV (aw (v:=vb) aI.ty I (aD (i:=10) I I)) ?_|refine gV (aw (v:=va) aI.ty I (aD (i:=10) I I)) ?_)
 refine bz [2,5,6,9,8] [0,1,3,4,7,10] alt I I (xE aF.en I I I I) (λw hm hb=>Ag g vc vr vf vfol vl ve bP vb va vs F p'.follow last first w _ TI (by rw[CZ.follow];omega) (by rw[CZ.follow];exact CZ.ris) (by rw[CZ.follow];exact hp5) (by rw[CZ.follow];exact hp4) hb) I I I ?_;rintro⟨p6,F'⟩ fy;have fy:p6.length=p'.follow.length:=fy
 conv=>arg 8;simp only[zJ,df,ret,id_eq,UA]
 try refine GA ?_
 refine bD (i:=5) I I I I I I ?_;refine zL ?_
 repeat(first|refine GA ?_|refine gV (aJ (i:=5) aI.ty I I I) ?_)
 refine aV (i:=1) (cs':=#[.bool aB,va,vb]) I I I I (by simp only[cY,db,aiS,aiT];rfl) I ?_;refine zL ?_
 try refine GA ?_
 refine gT (i:=1) I I I I λw hm=>?_;exact hm.cg (S:=cK g vf ve bP (⟨aB,first,last⟩,{p' with follow:=fB p'.follow last first})) (⟨vc,vr,vfol,vl,p6,F'⟩,va,vb) (by show p6.length=(fB p'.follow last first).length;rw[k_];exact fy) [6,2,3,7,8,4,10,9] alt I
theorem nR(e:Bool)(b b':Option Addr)(m m' k k':Nat)(w:World):(da 227 #[(0,.bool e),(1,ak b m k),(2,ak b' m' k')]).run aC w= .ok (aP #[.bool e,ak b m k,ak b' m' k']) w:=by
 go_simp
set_option maxRecDepth 100000 in
theorem aaV{M:Nat}(IH:KH M)(a b1:Re)(ha:a.size<=M)(HA:b1.size<=M)(g:Nat)(vf ve:Value)(bP:Int)(p:PS)(x:Ym)(v:Value)(w:World)(B:bV)(hp:Nt p)(hx:x.vs.length=p.follow.length)(hn:p.a8.length+(a.size+b1.size+1)<=100000)(Ro:cL.dv bP)(hv:oQ (BD B) B.w v (l7 (.J' a b1)))(hm:Mem B (oe g vf ve bP x p) w):
 Calls aC 94 #[aH (ah ⟨g,0,aj⟩),v] w (dz (cK g vf ve bP (bU bP (.J' a b1) p)) B):=by
 obtain⟨vk,rfl,_,Ik⟩:=hv;obtain⟨bk,ck,rfl,h1,h2,h3⟩:=Ik;obtain⟨b,off,rfl,hF,gu⟩:=h3 (by show 0<2;decide);obtain⟨kb,kc,hr,vC⟩:=qG (k:=0) gu (by show 0<2;decide);obtain⟨kb2,kc2,qE,lc⟩:=qG (k:=1) gu (by show 1<2;decide);have pj:=λ(L:List b_) (j:Nat) (v:Value) hj=>tf (L:=L) hF hr j v hj;have ub:=λ(L:List b_) (j:Nat) (v:Value) hj=>tf (L:=L) hF qE j v hj;clear h3 gu hr qE;obtain⟨CZ,WR,hp3,hp4,hp5⟩:=iZ bP a p hp;obtain⟨kp1,kp2,kp3,kp4,kp5⟩:=iZ bP b1 _ CZ;have WT:=λw B hv hm=>IH a ha g vf ve bP p x (ra (l7 a).kind (l7 a).uF (ak kb (l7 a).kids.length kc)) w B hp hx J Ro hv hm;have BF:=λx1 kL w B hv hm=>IH b1 HA g vf ve bP (bU bP a p).2 x1 (ra (l7 b1).kind (l7 b1).uF (ak kb2 (l7 b1).kids.length kc2)) w B CZ kL J Ro hv hm;rw[show bU bP (.J' a b1) p=(⟨(bU bP a p).1.empty||(bU bP b1 (bU bP a p).2).1.empty,rl (bU bP a p).1.first (bU bP b1 (bU bP a p).2).1.first,rl (bU bP a p).1.last (bU bP b1 (bU bP a p).2).1.last⟩,(bU bP b1 (bU bP a p).2).2)from I];generalize bU bP b1 (bU bP a p).2=R2 at*;generalize bU bP a p=R1 at*;obtain⟨⟨e1,ig,kI⟩,p1⟩:=R1;obtain⟨⟨e2,iq,kj⟩,p2⟩:=R2;dsimp only at CZ WR hp3 hp4 hp5 kp1 kp2 kp3 kp4 kp5 BF⊢;unfold oe at hm;refine dT hm (args:=[aH (ah ⟨g,0,aj⟩),ra 5 C4.zero (ak (ah ⟨b,off,aj⟩) 2 ck)]) (n:=176) Tryz.func94 I I I ?_;clear hm;refine bZ (bx (bH I I I λg3=>aY I λg4=>?_));refine zL ?_
 repeat(first|refine GA ?_|refine gV (aw (v:=ap av 5) aI.ty I (aD (i:=6) I I)) ?_)
 (repeat refine bZ ?_)
 refine ml (ι:=Ym×Value×Value×Value×Value×Nat×Nat) (λy=>y.1.vs.length=p2.follow.length) (λy=>[(0,aH (ah ⟨g,0,aj⟩)),(4,aH (ah ⟨g4,0,aj⟩)),(7,aH (ah ⟨y.2.2.2.2.2.1,0,aj⟩)),(8,aH (ah ⟨y.2.2.2.2.2.2,0,aj⟩))])
  (λy=>oe g vf ve bP y.1 p2++[gB y.2.1 ig,gB y.2.2.1 kI,gB y.2.2.2.1 iq,gB y.2.2.2.2.1 kj,aK g4 #[.bool aE,ak aj 0 0,ak aj 0 0] 227,aK y.2.2.2.2.2.1 #[.bool e1,y.2.1,y.2.2.1] 227,aK y.2.2.2.2.2.2 #[.bool e2,y.2.2.2.1,y.2.2.2.2.1] 227]) ?_ ?_
 ·refine dG ([aK g3 (mL 5 C4.zero (ak (ah ⟨b,off,aj⟩) 2 ck)).toArray 97]) (.calm 0 (.calm 1 (.calm 2 (.calm 3 (.calm 4 (.calm 6 (.calm 7 (.calm 8 (.calm 9 (.calm 10 (.three 5 (.three 11 (.two 12 (.one 13 (.one 14 (.one 15 (.done)))) 13 (.one 12 (.one 14 (.one 15 (.done))))) 12 (.two 11 (.one 13 (.one 14 (.one 15 (.done)))) 13 (.one 11 (.one 14 (.one 15 (.done))))) 13 (.two 11 (.one 12 (.one 14 (.one 15 (.done)))) 12 (.one 11 (.one 14 (.one 15 (.done)))))) 12 (.two 5 (.two 11 (.one 13 (.one 14 (.one 15 (.done)))) 13 (.one 11 (.one 14 (.one 15 (.done))))) 13 (.one 5 (.one 11 (.one 14 (.one 15 (.done)))))) 13 (.two 5 (.two 11 (.one 12 (.one 14 (.one 15 (.done)))) 12 (.one 11 (.one 14 (.one 15 (.done))))) 12 (.one 5 (.one 11 (.one 14 (.one 15 (.done))))))))))))))))) (bY [6]) ?_
  repeat(first|refine GW ?_|(refine GN ?_;first|refine QW (aw (v:=ak (ah ⟨b,off,aj⟩) 2 ck) aI.ty I (aD (i:=0) I I)) ?_|refine QW (aR (j:=0) bM.eq aI.ty I I alt) ?_|refine QW (aR (j:=1) bM.eq aI.ty I I alt) ?_|refine QW (aW aI.ty I I (pj _)) ?_|refine QW (aW aI.ty I I (ub _)) ?_))
  refine zx I I I ?_ ?_ ?_
  ·refine bz [0,1,2,3,4,5] [6,7] alt I I (gh aF.en I I I) (λw hm hb=>WT w _ (fe (hm.pick [0,1,2,3,4,5] alt I) vC) hb) I I I ?_
   rintro⟨⟨ug,uh,gL,ui,oF,F1⟩,mA,lV⟩ kL;have kL:oF.length=p1.follow.length:=kL
   conv=>arg 8;simp only[zJ,df,ret,id_eq,cK,oe]
   conv=>arg 7;simp only[cK]
   refine aO (bY [0]) ?_;refine zx I I I ?_ ?_ ?_
   ·refine bz [2,3,4,5,6,7] [0,1,8,9] alt I I (gh aF.en I I I) (λw hm hb=>BF ⟨ug,uh,gL,ui,oF,F1⟩ kL w _ (fe (hm.pick [2,3,4,5,6,7] alt I) lc) hb) I I I ?_
    rintro⟨⟨qy,qz,fh,qA,lW,F2⟩,jX,kB⟩ fy;have fy:lW.length=p2.follow.length:=fy
    conv=>arg 8;simp only[zJ,df,ret,id_eq,cK,oe]
    conv=>arg 7;simp only[cK]
    refine aO (bY [0]) ?_;refine e_ I I ?_ ?_
    ·refine aY I λg7=>(aO (bY [0]) ?_)
     refine aM I (aY I λg8=>(aO (bY [0]) ?_));refine aM I (aU (i:=2) I λ_ p7=>aU (i:=3) I λ_ p8=>aV (i:=12) (cs':=#[.bool e1,mA,lV]) I I I I (by simp only[cY,db,p7,p8];rfl) I (aO (bY [0]) ?_))
     try refine GW ?_
     refine aM I (aU (i:=10) I λ_ p9=>aU (i:=11) I λ_ p_=>aV (i:=13) (cs':=#[.bool e2,jX,kB]) I I I I (by simp only[cY,db,p9,p_];rfl) I (aO (bY [0]) ?_))
     try refine GW ?_
     refine dq [4,5,6,7,8,9,2,3,10,11,1,12,13] ?_;exact eQ (⟨qy,qz,fh,qA,lW,F2⟩,mA,lV,jX,kB,g7,g8) fy (by repeat' (first|exact cZ|refine cP I ?_)) I
    refine aY I λg8=>(aO (bY [0]) ?_);refine aM I (aY I λg7=>(aO (bY [0]) ?_));refine aM I (aU (i:=2) I λ_ p7=>aU (i:=3) I λ_ p8=>aV (i:=13) (cs':=#[.bool e1,mA,lV]) I I I I (by simp only[cY,db,p7,p8];rfl) I (aO (bY [0]) ?_))
    try refine GW ?_
    refine aM I (aU (i:=10) I λ_ p9=>aU (i:=11) I λ_ p_=>aV (i:=12) (cs':=#[.bool e2,jX,kB]) I I I I (by simp only[cY,db,p9,p_];rfl) I (aO (bY [0]) ?_))
    try refine GW ?_
    refine dq [4,5,6,7,8,9,2,3,10,11,1,13,12] ?_;exact eQ (⟨qy,qz,fh,qA,lW,F2⟩,mA,lV,jX,kB,g7,g8) fy (by repeat' (first|exact cZ|refine cP I ?_)) I
   ·refine aY I λg7=>(aO (bY [0]) ?_)
    refine e_ I I ?_ ?_
    ·refine bz [2,3,4,5,6,7] [0,1,8,9,10] alt I I (gh aF.en I I I) (λw hm hb=>BF ⟨ug,uh,gL,ui,oF,F1⟩ kL w _ (fe (hm.pick [2,3,4,5,6,7] alt I) lc) hb) I I I ?_
     rintro⟨⟨qy,qz,fh,qA,lW,F2⟩,jX,kB⟩ fy;have fy:lW.length=p2.follow.length:=fy
     conv=>arg 8;simp only[zJ,df,ret,id_eq,cK,oe]
     conv=>arg 7;simp only[cK]
     refine aO (bY [0]) ?_;refine aM I (aY I λg8=>(aO (bY [0]) ?_));refine aM I (aU (i:=2) I λ_ p7=>aU (i:=3) I λ_ p8=>aV (i:=4) (cs':=#[.bool e1,mA,lV]) I I I I (by simp only[cY,db,p7,p8];rfl) I (aO (bY [0]) ?_))
     try refine GW ?_
     refine aM I (aU (i:=11) I λ_ p9=>aU (i:=12) I λ_ p_=>aV (i:=13) (cs':=#[.bool e2,jX,kB]) I I I I (by simp only[cY,db,p9,p_];rfl) I (aO (bY [0]) ?_))
     try refine GW ?_
     refine dq [5,6,7,8,9,10,2,3,11,12,1,4,13] ?_;exact eQ (⟨qy,qz,fh,qA,lW,F2⟩,mA,lV,jX,kB,g7,g8) fy (by repeat' (first|exact cZ|refine cP I ?_)) I
    refine aY I λg8=>(aO (bY [0]) ?_);refine aM I (bz [2,3,4,5,6,7] [0,1,8,9,10,11] alt I I (gh aF.en I I I) (λw hm hb=>BF ⟨ug,uh,gL,ui,oF,F1⟩ kL w _ (fe (hm.pick [2,3,4,5,6,7] alt I) lc) hb) I I I ?_);rintro⟨⟨qy,qz,fh,qA,lW,F2⟩,jX,kB⟩ fy;have fy:lW.length=p2.follow.length:=fy
    conv=>arg 8;simp only[zJ,df,ret,id_eq,cK,oe]
    conv=>arg 7;simp only[cK]
    refine aO (bY [0]) ?_;refine aM I (aU (i:=2) I λ_ p7=>aU (i:=3) I λ_ p8=>aV (i:=4) (cs':=#[.bool e1,mA,lV]) I I I I (by simp only[cY,db,p7,p8];rfl) I (aO (bY [0]) ?_))
    try refine GW ?_
    refine aM I (aU (i:=12) I λ_ p9=>aU (i:=13) I λ_ p_=>aV (i:=5) (cs':=#[.bool e2,jX,kB]) I I I I (by simp only[cY,db,p9,p_];rfl) I (aO (bY [0]) ?_))
    try refine GW ?_
    refine dq [6,7,8,9,10,11,2,3,12,13,1,4,5] ?_;exact eQ (⟨qy,qz,fh,qA,lW,F2⟩,mA,lV,jX,kB,g7,g8) fy (by repeat' (first|exact cZ|refine cP I ?_)) I
   refine aY I λg8=>(aO (bY [0]) ?_);refine e_ I I ?_ ?_
   ·refine bz [2,3,4,5,6,7] [0,1,8,9,10] alt I I (gh aF.en I I I) (λw hm hb=>BF ⟨ug,uh,gL,ui,oF,F1⟩ kL w _ (fe (hm.pick [2,3,4,5,6,7] alt I) lc) hb) I I I ?_
    rintro⟨⟨qy,qz,fh,qA,lW,F2⟩,jX,kB⟩ fy;have fy:lW.length=p2.follow.length:=fy
    conv=>arg 8;simp only[zJ,df,ret,id_eq,cK,oe]
    conv=>arg 7;simp only[cK]
    refine aO (bY [0]) ?_;refine aM I (aY I λg7=>(aO (bY [0]) ?_));refine aM I (aU (i:=2) I λ_ p7=>aU (i:=3) I λ_ p8=>aV (i:=13) (cs':=#[.bool e1,mA,lV]) I I I I (by simp only[cY,db,p7,p8];rfl) I (aO (bY [0]) ?_))
    try refine GW ?_
    refine aM I (aU (i:=11) I λ_ p9=>aU (i:=12) I λ_ p_=>aV (i:=4) (cs':=#[.bool e2,jX,kB]) I I I I (by simp only[cY,db,p9,p_];rfl) I (aO (bY [0]) ?_))
    try refine GW ?_
    refine dq [5,6,7,8,9,10,2,3,11,12,1,13,4] ?_;exact eQ (⟨qy,qz,fh,qA,lW,F2⟩,mA,lV,jX,kB,g7,g8) fy (by repeat' (first|exact cZ|refine cP I ?_)) I
   refine aY I λg7=>(aO (bY [0]) ?_);refine aM I (bz [2,3,4,5,6,7] [0,1,8,9,10,11] alt I I (gh aF.en I I I) (λw hm hb=>BF ⟨ug,uh,gL,ui,oF,F1⟩ kL w _ (fe (hm.pick [2,3,4,5,6,7] alt I) lc) hb) I I I ?_);rintro⟨⟨qy,qz,fh,qA,lW,F2⟩,jX,kB⟩ fy;have fy:lW.length=p2.follow.length:=fy
   conv=>arg 8;simp only[zJ,df,ret,id_eq,cK,oe]
   conv=>arg 7;simp only[cK]
   refine aO (bY [0]) ?_;refine aM I (aU (i:=2) I λ_ p7=>aU (i:=3) I λ_ p8=>aV (i:=5) (cs':=#[.bool e1,mA,lV]) I I I I (by simp only[cY,db,p7,p8];rfl) I (aO (bY [0]) ?_))
   try refine GW ?_
   refine aM I (aU (i:=12) I λ_ p9=>aU (i:=13) I λ_ p_=>aV (i:=4) (cs':=#[.bool e2,jX,kB]) I I I I (by simp only[cY,db,p9,p_];rfl) I (aO (bY [0]) ?_))
   try refine GW ?_
   refine dq [6,7,8,9,10,11,2,3,12,13,1,5,4] ?_;exact eQ (⟨qy,qz,fh,qA,lW,F2⟩,mA,lV,jX,kB,g7,g8) fy (by repeat' (first|exact cZ|refine cP I ?_)) I
  ·refine aY I λg7=>(aO (bY [6]) ?_)
   refine e_ I I ?_ ?_
   ·refine bz [0,1,2,3,4,5] [6,7,8] alt I I (gh aF.en I I I) (λw hm hb=>WT w _ (fe (hm.pick [0,1,2,3,4,5] alt I) vC) hb) I I I ?_
    rintro⟨⟨ug,uh,gL,ui,oF,F1⟩,mA,lV⟩ kL;have kL:oF.length=p1.follow.length:=kL
    conv=>arg 8;simp only[zJ,df,ret,id_eq,cK,oe]
    conv=>arg 7;simp only[cK]
    refine aO (bY [0]) ?_;refine e_ I I ?_ ?_
    ·refine bz [3,4,5,6,7,8] [0,1,2,9,10] alt I I (gh aF.en I I I) (λw hm hb=>BF ⟨ug,uh,gL,ui,oF,F1⟩ kL w _ (fe (hm.pick [3,4,5,6,7,8] alt I) lc) hb) I I I ?_
     rintro⟨⟨qy,qz,fh,qA,lW,F2⟩,jX,kB⟩ fy;have fy:lW.length=p2.follow.length:=fy
     conv=>arg 8;simp only[zJ,df,ret,id_eq,cK,oe]
     conv=>arg 7;simp only[cK]
     refine aO (bY [0]) ?_;refine aM I (aY I λg8=>(aO (bY [0]) ?_));refine aM I (aU (i:=3) I λ_ p7=>aU (i:=4) I λ_ p8=>aV (i:=2) (cs':=#[.bool e1,mA,lV]) I I I I (by simp only[cY,db,p7,p8];rfl) I (aO (bY [0]) ?_))
     try refine GW ?_
     refine aM I (aU (i:=11) I λ_ p9=>aU (i:=12) I λ_ p_=>aV (i:=13) (cs':=#[.bool e2,jX,kB]) I I I I (by simp only[cY,db,p9,p_];rfl) I (aO (bY [0]) ?_))
     try refine GW ?_
     refine dq [5,6,7,8,9,10,3,4,11,12,1,2,13] ?_;exact eQ (⟨qy,qz,fh,qA,lW,F2⟩,mA,lV,jX,kB,g7,g8) fy (by repeat' (first|exact cZ|refine cP I ?_)) I
    refine aY I λg8=>(aO (bY [0]) ?_);refine aM I (bz [3,4,5,6,7,8] [0,1,2,9,10,11] alt I I (gh aF.en I I I) (λw hm hb=>BF ⟨ug,uh,gL,ui,oF,F1⟩ kL w _ (fe (hm.pick [3,4,5,6,7,8] alt I) lc) hb) I I I ?_);rintro⟨⟨qy,qz,fh,qA,lW,F2⟩,jX,kB⟩ fy;have fy:lW.length=p2.follow.length:=fy
    conv=>arg 8;simp only[zJ,df,ret,id_eq,cK,oe]
    conv=>arg 7;simp only[cK]
    refine aO (bY [0]) ?_;refine aM I (aU (i:=3) I λ_ p7=>aU (i:=4) I λ_ p8=>aV (i:=2) (cs':=#[.bool e1,mA,lV]) I I I I (by simp only[cY,db,p7,p8];rfl) I (aO (bY [0]) ?_))
    try refine GW ?_
    refine aM I (aU (i:=12) I λ_ p9=>aU (i:=13) I λ_ p_=>aV (i:=5) (cs':=#[.bool e2,jX,kB]) I I I I (by simp only[cY,db,p9,p_];rfl) I (aO (bY [0]) ?_))
    try refine GW ?_
    refine dq [6,7,8,9,10,11,3,4,12,13,1,2,5] ?_;exact eQ (⟨qy,qz,fh,qA,lW,F2⟩,mA,lV,jX,kB,g7,g8) fy (by repeat' (first|exact cZ|refine cP I ?_)) I
   refine aY I λg8=>(aO (bY [6]) ?_);refine aM I (bz [0,1,2,3,4,5] [6,7,8,9] alt I I (gh aF.en I I I) (λw hm hb=>WT w _ (fe (hm.pick [0,1,2,3,4,5] alt I) vC) hb) I I I ?_);rintro⟨⟨ug,uh,gL,ui,oF,F1⟩,mA,lV⟩ kL;have kL:oF.length=p1.follow.length:=kL
   conv=>arg 8;simp only[zJ,df,ret,id_eq,cK,oe]
   conv=>arg 7;simp only[cK]
   refine aO (bY [0]) ?_;refine aM I (bz [4,5,6,7,8,9] [0,1,2,3,10,11] alt I I (gh aF.en I I I) (λw hm hb=>BF ⟨ug,uh,gL,ui,oF,F1⟩ kL w _ (fe (hm.pick [4,5,6,7,8,9] alt I) lc) hb) I I I ?_);rintro⟨⟨qy,qz,fh,qA,lW,F2⟩,jX,kB⟩ fy;have fy:lW.length=p2.follow.length:=fy
   conv=>arg 8;simp only[zJ,df,ret,id_eq,cK,oe]
   conv=>arg 7;simp only[cK]
   refine aO (bY [0]) ?_;refine aM I (aU (i:=4) I λ_ p7=>aU (i:=5) I λ_ p8=>aV (i:=2) (cs':=#[.bool e1,mA,lV]) I I I I (by simp only[cY,db,p7,p8];rfl) I (aO (bY [0]) ?_))
   try refine GW ?_
   refine aM I (aU (i:=12) I λ_ p9=>aU (i:=13) I λ_ p_=>aV (i:=3) (cs':=#[.bool e2,jX,kB]) I I I I (by simp only[cY,db,p9,p_];rfl) I (aO (bY [0]) ?_))
   try refine GW ?_
   refine dq [6,7,8,9,10,11,4,5,12,13,1,2,3] ?_;exact eQ (⟨qy,qz,fh,qA,lW,F2⟩,mA,lV,jX,kB,g7,g8) fy (by repeat' (first|exact cZ|refine cP I ?_)) I
  refine aY I λg8=>(aO (bY [6]) ?_);refine e_ I I ?_ ?_
  ·refine bz [0,1,2,3,4,5] [6,7,8] alt I I (gh aF.en I I I) (λw hm hb=>WT w _ (fe (hm.pick [0,1,2,3,4,5] alt I) vC) hb) I I I ?_
   rintro⟨⟨ug,uh,gL,ui,oF,F1⟩,mA,lV⟩ kL;have kL:oF.length=p1.follow.length:=kL
   conv=>arg 8;simp only[zJ,df,ret,id_eq,cK,oe]
   conv=>arg 7;simp only[cK]
   refine aO (bY [0]) ?_;refine e_ I I ?_ ?_
   ·refine bz [3,4,5,6,7,8] [0,1,2,9,10] alt I I (gh aF.en I I I) (λw hm hb=>BF ⟨ug,uh,gL,ui,oF,F1⟩ kL w _ (fe (hm.pick [3,4,5,6,7,8] alt I) lc) hb) I I I ?_
    rintro⟨⟨qy,qz,fh,qA,lW,F2⟩,jX,kB⟩ fy;have fy:lW.length=p2.follow.length:=fy
    conv=>arg 8;simp only[zJ,df,ret,id_eq,cK,oe]
    conv=>arg 7;simp only[cK]
    refine aO (bY [0]) ?_;refine aM I (aY I λg7=>(aO (bY [0]) ?_));refine aM I (aU (i:=3) I λ_ p7=>aU (i:=4) I λ_ p8=>aV (i:=13) (cs':=#[.bool e1,mA,lV]) I I I I (by simp only[cY,db,p7,p8];rfl) I (aO (bY [0]) ?_))
    try refine GW ?_
    refine aM I (aU (i:=11) I λ_ p9=>aU (i:=12) I λ_ p_=>aV (i:=2) (cs':=#[.bool e2,jX,kB]) I I I I (by simp only[cY,db,p9,p_];rfl) I (aO (bY [0]) ?_))
    try refine GW ?_
    refine dq [5,6,7,8,9,10,3,4,11,12,1,13,2] ?_;exact eQ (⟨qy,qz,fh,qA,lW,F2⟩,mA,lV,jX,kB,g7,g8) fy (by repeat' (first|exact cZ|refine cP I ?_)) I
   refine aY I λg7=>(aO (bY [0]) ?_);refine aM I (bz [3,4,5,6,7,8] [0,1,2,9,10,11] alt I I (gh aF.en I I I) (λw hm hb=>BF ⟨ug,uh,gL,ui,oF,F1⟩ kL w _ (fe (hm.pick [3,4,5,6,7,8] alt I) lc) hb) I I I ?_);rintro⟨⟨qy,qz,fh,qA,lW,F2⟩,jX,kB⟩ fy;have fy:lW.length=p2.follow.length:=fy
   conv=>arg 8;simp only[zJ,df,ret,id_eq,cK,oe]
   conv=>arg 7;simp only[cK]
   refine aO (bY [0]) ?_;refine aM I (aU (i:=3) I λ_ p7=>aU (i:=4) I λ_ p8=>aV (i:=5) (cs':=#[.bool e1,mA,lV]) I I I I (by simp only[cY,db,p7,p8];rfl) I (aO (bY [0]) ?_))
   try refine GW ?_
   refine aM I (aU (i:=12) I λ_ p9=>aU (i:=13) I λ_ p_=>aV (i:=2) (cs':=#[.bool e2,jX,kB]) I I I I (by simp only[cY,db,p9,p_];rfl) I (aO (bY [0]) ?_))
   try refine GW ?_
   refine dq [6,7,8,9,10,11,3,4,12,13,1,5,2] ?_;exact eQ (⟨qy,qz,fh,qA,lW,F2⟩,mA,lV,jX,kB,g7,g8) fy (by repeat' (first|exact cZ|refine cP I ?_)) I
  refine aY I λg7=>(aO (bY [6]) ?_);refine aM I (bz [0,1,2,3,4,5] [6,7,8,9] alt I I (gh aF.en I I I) (λw hm hb=>WT w _ (fe (hm.pick [0,1,2,3,4,5] alt I) vC) hb) I I I ?_);rintro⟨⟨ug,uh,gL,ui,oF,F1⟩,mA,lV⟩ kL;have kL:oF.length=p1.follow.length:=kL
  conv=>arg 8;simp only[zJ,df,ret,id_eq,cK,oe]
  conv=>arg 7;simp only[cK]
  refine aO (bY [0]) ?_;refine aM I (bz [4,5,6,7,8,9] [0,1,2,3,10,11] alt I I (gh aF.en I I I) (λw hm hb=>BF ⟨ug,uh,gL,ui,oF,F1⟩ kL w _ (fe (hm.pick [4,5,6,7,8,9] alt I) lc) hb) I I I ?_);rintro⟨⟨qy,qz,fh,qA,lW,F2⟩,jX,kB⟩ fy;have fy:lW.length=p2.follow.length:=fy
  conv=>arg 8;simp only[zJ,df,ret,id_eq,cK,oe]
  conv=>arg 7;simp only[cK]
  refine aO (bY [0]) ?_;refine aM I (aU (i:=4) I λ_ p7=>aU (i:=5) I λ_ p8=>aV (i:=3) (cs':=#[.bool e1,mA,lV]) I I I I (by simp only[cY,db,p7,p8];rfl) I (aO (bY [0]) ?_))
  try refine GW ?_
  refine aM I (aU (i:=12) I λ_ p9=>aU (i:=13) I λ_ p_=>aV (i:=2) (cs':=#[.bool e2,jX,kB]) I I I I (by simp only[cY,db,p9,p_];rfl) I (aO (bY [0]) ?_))
  try refine GW ?_
  refine dq [6,7,8,9,10,11,4,5,12,13,1,3,2] ?_;exact eQ (⟨qy,qz,fh,qA,lW,F2⟩,mA,lV,jX,kB,g7,g8) fy (by repeat' (first|exact cZ|refine cP I ?_)) I
 clear WT BF pj ub;rintro⟨⟨vc,vr,vfol,vl,vs,F⟩,mA,lV,jX,kB,g7,g8⟩ fy;have fy:vs.length=p2.follow.length:=fy;dsimp only
 conv=>arg 7;simp only[zA,zB,zC,zD,zE,zF,zG,zH,zI,df,ret,id_eq,oe]
 have Ia:=jV hp4;have Ig:=jV hp5;have hl3:=jV kp4;have hl4:=jV kp5
 cases e1 with
 | true=>
  (repeat refine bZ ?_)
  refine dG ([aK g7 #[.bool aB,mA,lV] 227,aK g8 #[.bool e2,jX,kB] 227]) (.calm 0 (.calm 1 (.calm 2 (.calm 3 (.calm 4 (.calm 5 (.calm 6 (.calm 7 (.calm 8 (.calm 9 (.calm 11 (.calm 12 (.calm 13 (.calm 14 (.one 10 (.one 15 (.calm 16 (.one 17 (.done))))))))))))))))))) (bY [11,12]) ?_
  repeat(first|refine GW ?_|(refine GN ?_;first|refine QW (aw aI.ty I (aD (i:=0) I I)) ?_|refine QW (aw aI.ty I (aD (i:=1) I I)) ?_))
  refine aM I (aT (gh aF.en I I I) (λw' hm=>ir mA jX ig iq w' (Sl.dF (hm.get (i:=6) I)) (Sl.dF (hm.get (i:=8) I)) J J) I I I ?_);intro vu _
  conv=>arg 8;simp only[zJ,df,ret,id_eq,tS]
  refine aO (bY [11,12]) ?_
  try refine GW ?_
  refine aM I (aT (gh aF.en I I I) (λw' hm=>ir lV kB kI kj w' (Sl.dF (hm.get (i:=7) I)) (Sl.dF (hm.get (i:=9) I)) J J) I I I ?_);intro vu2 _
  conv=>arg 8;simp only[zJ,df,ret,id_eq,tS]
  refine n' (i:=13) I λbu cu hu _ _=>?_;refine n' (i:=14) I λbu2 cu2 hu2 _ _=>?_;subst hu hu2;refine aO (bY [11,12]) ?_
  repeat(first|refine GW ?_|(refine GN ?_;first|refine QW (aZ I (nR _ _ _ _ _ _ _)) ?_))
  refine aM I (aV (i:=10) (cs':=#[.bool aB,ak bu (rl ig iq).length cu,ak bu2 (rl kI kj).length cu2]) I I I I I I (aO (bY [11,12]) ?_))
  try refine GW ?_
  try refine GA ?_
  refine gT (i:=10) I I I I λw hm=>?_;exact hm.cg (S:=cK g vf ve bP (⟨aB||e2,rl ig iq,rl kI kj⟩,p2)) (⟨vc,vr,vfol,vl,vs,F⟩,ak bu (rl ig iq).length cu,ak bu2 (rl kI kj).length cu2) fy [0,1,2,3,4,5,13,14] alt I
 | false=>
  (repeat refine bZ ?_)
  refine dG ([aK g7 #[.bool aE,mA,lV] 227,aK g8 #[.bool e2,jX,kB] 227]) (.calm 0 (.calm 1 (.calm 2 (.calm 3 (.calm 4 (.calm 5 (.calm 6 (.calm 7 (.calm 8 (.calm 9 (.calm 11 (.calm 12 (.calm 13 (.calm 14 (.one 10 (.one 15 (.calm 16 (.one 17 (.done))))))))))))))))))) (bY [11,12]) ?_
  repeat(first|refine GW ?_|(refine GN ?_;first|refine QW (aw aI.ty I (aD (i:=0) I I)) ?_|refine QW (aw aI.ty I (aD (i:=1) I I)) ?_))
  refine aM I (aT (gh aF.en I I I) (λw' hm=>ir mA jX ig iq w' (Sl.dF (hm.get (i:=6) I)) (Sl.dF (hm.get (i:=8) I)) J J) I I I ?_);intro vu _
  conv=>arg 8;simp only[zJ,df,ret,id_eq,tS]
  refine aO (bY [11,12]) ?_
  try refine GW ?_
  refine aM I (aT (gh aF.en I I I) (λw' hm=>ir lV kB kI kj w' (Sl.dF (hm.get (i:=7) I)) (Sl.dF (hm.get (i:=9) I)) J J) I I I ?_);intro vu2 _
  conv=>arg 8;simp only[zJ,df,ret,id_eq,tS]
  refine n' (i:=13) I λbu cu hu _ _=>?_;refine n' (i:=14) I λbu2 cu2 hu2 _ _=>?_;subst hu hu2;refine aO (bY [11,12]) ?_
  repeat(first|refine GW ?_|(refine GN ?_;first|refine QW (aZ I (nR _ _ _ _ _ _ _)) ?_))
  refine aM I (aV (i:=10) (cs':=#[.bool e2,ak bu (rl ig iq).length cu,ak bu2 (rl kI kj).length cu2]) I I I I I I (aO (bY [11,12]) ?_))
  try refine GW ?_
  try refine GA ?_
  refine gT (i:=10) I I I I λw hm=>?_;exact hm.cg (S:=cK g vf ve bP (⟨aE||e2,rl ig iq,rl kI kj⟩,p2)) (⟨vc,vr,vfol,vl,vs,F⟩,ak bu (rl ig iq).length cu,ak bu2 (rl kI kj).length cu2) fy [0,1,2,3,4,5,13,14] alt I
set_option maxRecDepth 100000 in
theorem aaW{M:Nat}(IH:KH M)(a b1:Re)(ha:a.size<=M)(HA:b1.size<=M)(g:Nat)(vf ve:Value)(bP:Int)(p:PS)(x:Ym)(v:Value)(w:World)(B:bV)(hp:Nt p)(hx:x.vs.length=p.follow.length)(hn:p.a8.length+(a.size+b1.size+1)<=100000)(Ro:cL.dv bP)(hv:oQ (BD B) B.w v (l7 (.J_ a b1)))(hm:Mem B (oe g vf ve bP x p) w):
 Calls aC 94 #[aH (ah ⟨g,0,aj⟩),v] w (dz (cK g vf ve bP (bU bP (.J_ a b1) p)) B):=by
 obtain⟨vk,rfl,_,Ik⟩:=hv;obtain⟨bk,ck,rfl,h1,h2,h3⟩:=Ik;obtain⟨b,off,rfl,hF,gu⟩:=h3 (by show 0<2;decide);obtain⟨kb,kc,hr,vC⟩:=qG (k:=0) gu (by show 0<2;decide);obtain⟨kb2,kc2,qE,lc⟩:=qG (k:=1) gu (by show 1<2;decide);have pj:=λ(L:List b_) (j:Nat) (v:Value) hj=>tf (L:=L) hF hr j v hj;have ub:=λ(L:List b_) (j:Nat) (v:Value) hj=>tf (L:=L) hF qE j v hj;clear h3 gu hr qE;obtain⟨CZ,WR,hp3,hp4,hp5⟩:=iZ bP a p hp;obtain⟨kp1,kp2,kp3,kp4,kp5⟩:=iZ bP b1 _ CZ;have WT:=λw B hv hm=>IH a ha g vf ve bP p x (ra (l7 a).kind (l7 a).uF (ak kb (l7 a).kids.length kc)) w B hp hx J Ro hv hm;have BF:=λx1 kL w B hv hm=>IH b1 HA g vf ve bP (bU bP a p).2 x1 (ra (l7 b1).kind (l7 b1).uF (ak kb2 (l7 b1).kids.length kc2)) w B CZ kL J Ro hv hm;rw[show bU bP (.J_ a b1) p=(⟨(bU bP a p).1.empty&&(bU bP b1 (bU bP a p).2).1.empty,if(bU bP a p).1.empty then rl (bU bP a p).1.first (bU bP b1 (bU bP a p).2).1.first else(bU bP a p).1.first,if(bU bP b1 (bU bP a p).2).1.empty then rl (bU bP a p).1.last (bU bP b1 (bU bP a p).2).1.last else(bU bP b1 (bU bP a p).2).1.last⟩,{(bU bP b1 (bU bP a p).2).2 with follow:=fB (bU bP b1 (bU bP a p).2).2.follow (bU bP a p).1.last (bU bP b1 (bU bP a p).2).1.first})from rfl];generalize bU bP b1 (bU bP a p).2=R2 at*;generalize bU bP a p=R1 at*;obtain⟨⟨e1,ig,kI⟩,p1⟩:=R1;obtain⟨⟨e2,iq,kj⟩,p2⟩:=R2;dsimp only at CZ WR hp3 hp4 hp5 kp1 kp2 kp3 kp4 kp5 BF⊢;unfold oe at hm;refine dT hm (args:=[aH (ah ⟨g,0,aj⟩),ra 4 C4.zero (ak (ah ⟨b,off,aj⟩) 2 ck)]) (n:=176) Tryz.func94 I I I ?_;clear hm;refine bZ (bx (bH I I I λg3=>aY I λg4=>?_));refine zL ?_
 repeat(first|refine GA ?_|refine gV (aw (v:=ap av 4) aI.ty I (aD (i:=6) I I)) ?_)
 (repeat refine bZ ?_)
 refine ml (ι:=Ym×Value×Value×Value×Value×Nat×Nat) (λy=>y.1.vs.length=p2.follow.length) (λy=>[(0,aH (ah ⟨g,0,aj⟩)),(4,aH (ah ⟨g4,0,aj⟩)),(9,aH (ah ⟨y.2.2.2.2.2.1,0,aj⟩)),(10,aH (ah ⟨y.2.2.2.2.2.2,0,aj⟩))])
  (λy=>oe g vf ve bP y.1 p2++[gB y.2.1 ig,gB y.2.2.1 kI,gB y.2.2.2.1 iq,gB y.2.2.2.2.1 kj,aK g4 #[.bool aE,ak aj 0 0,ak aj 0 0] 227,aK y.2.2.2.2.2.1 #[.bool e1,y.2.1,y.2.2.1] 227,aK y.2.2.2.2.2.2 #[.bool e2,y.2.2.2.1,y.2.2.2.2.1] 227]) ?_ ?_
 ·refine dG ([aK g3 (mL 4 C4.zero (ak (ah ⟨b,off,aj⟩) 2 ck)).toArray 97]) (.calm 0 (.calm 1 (.calm 2 (.calm 3 (.calm 4 (.calm 6 (.calm 7 (.calm 8 (.calm 9 (.calm 10 (.three 5 (.three 11 (.two 12 (.one 13 (.one 14 (.one 15 (.done)))) 13 (.one 12 (.one 14 (.one 15 (.done))))) 12 (.two 11 (.one 13 (.one 14 (.one 15 (.done)))) 13 (.one 11 (.one 14 (.one 15 (.done))))) 13 (.two 11 (.one 12 (.one 14 (.one 15 (.done)))) 12 (.one 11 (.one 14 (.one 15 (.done)))))) 12 (.two 5 (.two 11 (.one 13 (.one 14 (.one 15 (.done)))) 13 (.one 11 (.one 14 (.one 15 (.done))))) 13 (.one 5 (.one 11 (.one 14 (.one 15 (.done)))))) 13 (.two 5 (.two 11 (.one 12 (.one 14 (.one 15 (.done)))) 12 (.one 11 (.one 14 (.one 15 (.done))))) 12 (.one 5 (.one 11 (.one 14 (.one 15 (.done))))))))))))))))) (bY [6]) ?_
  repeat(first|refine GW ?_|(refine GN ?_;first|refine QW (aw (v:=ak (ah ⟨b,off,aj⟩) 2 ck) aI.ty I (aD (i:=0) I I)) ?_|refine QW (aR (j:=0) bM.eq aI.ty I I alt) ?_|refine QW (aR (j:=1) bM.eq aI.ty I I alt) ?_|refine QW (aW aI.ty I I (pj _)) ?_|refine QW (aW aI.ty I I (ub _)) ?_))
  refine zx I I I ?_ ?_ ?_
  ·refine bz [0,1,2,3,4,5] [6,7] alt I I (gh aF.en I I I) (λw hm hb=>WT w _ (fe (hm.pick [0,1,2,3,4,5] alt I) vC) hb) I I I ?_
   rintro⟨⟨ug,uh,gL,ui,oF,F1⟩,mA,lV⟩ kL;have kL:oF.length=p1.follow.length:=kL
   conv=>arg 8;simp only[zJ,df,ret,id_eq,cK,oe]
   conv=>arg 7;simp only[cK]
   refine aO (bY [0]) ?_;refine zx I I I ?_ ?_ ?_
   ·refine bz [2,3,4,5,6,7] [0,1,8,9] alt I I (gh aF.en I I I) (λw hm hb=>BF ⟨ug,uh,gL,ui,oF,F1⟩ kL w _ (fe (hm.pick [2,3,4,5,6,7] alt I) lc) hb) I I I ?_
    rintro⟨⟨qy,qz,fh,qA,lW,F2⟩,jX,kB⟩ fy;have fy:lW.length=p2.follow.length:=fy
    conv=>arg 8;simp only[zJ,df,ret,id_eq,cK,oe]
    conv=>arg 7;simp only[cK]
    refine aO (bY [0]) ?_;refine e_ I I ?_ ?_
    ·refine aY I λg7=>(aO (bY [0]) ?_)
     refine aM I (aY I λg8=>(aO (bY [0]) ?_));refine aM I (aU (i:=2) I λ_ p7=>aU (i:=3) I λ_ p8=>aV (i:=12) (cs':=#[.bool e1,mA,lV]) I I I I (by simp only[cY,db,p7,p8];rfl) I (aO (bY [0]) ?_))
     try refine GW ?_
     refine aM I (aU (i:=10) I λ_ p9=>aU (i:=11) I λ_ p_=>aV (i:=13) (cs':=#[.bool e2,jX,kB]) I I I I (by simp only[cY,db,p9,p_];rfl) I (aO (bY [0]) ?_))
     try refine GW ?_
     refine dq [4,5,6,7,8,9,2,3,10,11,1,12,13] ?_;exact eQ (⟨qy,qz,fh,qA,lW,F2⟩,mA,lV,jX,kB,g7,g8) fy (by repeat' (first|exact cZ|refine cP I ?_)) I
    refine aY I λg8=>(aO (bY [0]) ?_);refine aM I (aY I λg7=>(aO (bY [0]) ?_));refine aM I (aU (i:=2) I λ_ p7=>aU (i:=3) I λ_ p8=>aV (i:=13) (cs':=#[.bool e1,mA,lV]) I I I I (by simp only[cY,db,p7,p8];rfl) I (aO (bY [0]) ?_))
    try refine GW ?_
    refine aM I (aU (i:=10) I λ_ p9=>aU (i:=11) I λ_ p_=>aV (i:=12) (cs':=#[.bool e2,jX,kB]) I I I I (by simp only[cY,db,p9,p_];rfl) I (aO (bY [0]) ?_))
    try refine GW ?_
    refine dq [4,5,6,7,8,9,2,3,10,11,1,13,12] ?_;exact eQ (⟨qy,qz,fh,qA,lW,F2⟩,mA,lV,jX,kB,g7,g8) fy (by repeat' (first|exact cZ|refine cP I ?_)) I
   ·refine aY I λg7=>(aO (bY [0]) ?_)
    refine e_ I I ?_ ?_
    ·refine bz [2,3,4,5,6,7] [0,1,8,9,10] alt I I (gh aF.en I I I) (λw hm hb=>BF ⟨ug,uh,gL,ui,oF,F1⟩ kL w _ (fe (hm.pick [2,3,4,5,6,7] alt I) lc) hb) I I I ?_
     rintro⟨⟨qy,qz,fh,qA,lW,F2⟩,jX,kB⟩ fy;have fy:lW.length=p2.follow.length:=fy
     conv=>arg 8;simp only[zJ,df,ret,id_eq,cK,oe]
     conv=>arg 7;simp only[cK]
     refine aO (bY [0]) ?_;refine aM I (aY I λg8=>(aO (bY [0]) ?_));refine aM I (aU (i:=2) I λ_ p7=>aU (i:=3) I λ_ p8=>aV (i:=4) (cs':=#[.bool e1,mA,lV]) I I I I (by simp only[cY,db,p7,p8];rfl) I (aO (bY [0]) ?_))
     try refine GW ?_
     refine aM I (aU (i:=11) I λ_ p9=>aU (i:=12) I λ_ p_=>aV (i:=13) (cs':=#[.bool e2,jX,kB]) I I I I (by simp only[cY,db,p9,p_];rfl) I (aO (bY [0]) ?_))
     try refine GW ?_
     refine dq [5,6,7,8,9,10,2,3,11,12,1,4,13] ?_;exact eQ (⟨qy,qz,fh,qA,lW,F2⟩,mA,lV,jX,kB,g7,g8) fy (by repeat' (first|exact cZ|refine cP I ?_)) I
    refine aY I λg8=>(aO (bY [0]) ?_);refine aM I (bz [2,3,4,5,6,7] [0,1,8,9,10,11] alt I I (gh aF.en I I I) (λw hm hb=>BF ⟨ug,uh,gL,ui,oF,F1⟩ kL w _ (fe (hm.pick [2,3,4,5,6,7] alt I) lc) hb) I I I ?_);rintro⟨⟨qy,qz,fh,qA,lW,F2⟩,jX,kB⟩ fy;have fy:lW.length=p2.follow.length:=fy
    conv=>arg 8;simp only[zJ,df,ret,id_eq,cK,oe]
    conv=>arg 7;simp only[cK]
    refine aO (bY [0]) ?_;refine aM I (aU (i:=2) I λ_ p7=>aU (i:=3) I λ_ p8=>aV (i:=4) (cs':=#[.bool e1,mA,lV]) I I I I (by simp only[cY,db,p7,p8];rfl) I (aO (bY [0]) ?_))
    try refine GW ?_
    refine aM I (aU (i:=12) I λ_ p9=>aU (i:=13) I λ_ p_=>aV (i:=5) (cs':=#[.bool e2,jX,kB]) I I I I (by simp only[cY,db,p9,p_];rfl) I (aO (bY [0]) ?_))
    try refine GW ?_
    refine dq [6,7,8,9,10,11,2,3,12,13,1,4,5] ?_;exact eQ (⟨qy,qz,fh,qA,lW,F2⟩,mA,lV,jX,kB,g7,g8) fy (by repeat' (first|exact cZ|refine cP I ?_)) I
   refine aY I λg8=>(aO (bY [0]) ?_);refine e_ I I ?_ ?_
   ·refine bz [2,3,4,5,6,7] [0,1,8,9,10] alt I I (gh aF.en I I I) (λw hm hb=>BF ⟨ug,uh,gL,ui,oF,F1⟩ kL w _ (fe (hm.pick [2,3,4,5,6,7] alt I) lc) hb) I I I ?_
    rintro⟨⟨qy,qz,fh,qA,lW,F2⟩,jX,kB⟩ fy;have fy:lW.length=p2.follow.length:=fy
    conv=>arg 8;simp only[zJ,df,ret,id_eq,cK,oe]
    conv=>arg 7;simp only[cK]
    refine aO (bY [0]) ?_;refine aM I (aY I λg7=>(aO (bY [0]) ?_));refine aM I (aU (i:=2) I λ_ p7=>aU (i:=3) I λ_ p8=>aV (i:=13) (cs':=#[.bool e1,mA,lV]) I I I I (by simp only[cY,db,p7,p8];rfl) I (aO (bY [0]) ?_))
    try refine GW ?_
    refine aM I (aU (i:=11) I λ_ p9=>aU (i:=12) I λ_ p_=>aV (i:=4) (cs':=#[.bool e2,jX,kB]) I I I I (by simp only[cY,db,p9,p_];rfl) I (aO (bY [0]) ?_))
    try refine GW ?_
    refine dq [5,6,7,8,9,10,2,3,11,12,1,13,4] ?_;exact eQ (⟨qy,qz,fh,qA,lW,F2⟩,mA,lV,jX,kB,g7,g8) fy (by repeat' (first|exact cZ|refine cP I ?_)) I
   refine aY I λg7=>(aO (bY [0]) ?_);refine aM I (bz [2,3,4,5,6,7] [0,1,8,9,10,11] alt I I (gh aF.en I I I) (λw hm hb=>BF ⟨ug,uh,gL,ui,oF,F1⟩ kL w _ (fe (hm.pick [2,3,4,5,6,7] alt I) lc) hb) I I I ?_);rintro⟨⟨qy,qz,fh,qA,lW,F2⟩,jX,kB⟩ fy;have fy:lW.length=p2.follow.length:=fy
   conv=>arg 8;simp only[zJ,df,ret,id_eq,cK,oe]
   conv=>arg 7;simp only[cK]
   refine aO (bY [0]) ?_;refine aM I (aU (i:=2) I λ_ p7=>aU (i:=3) I λ_ p8=>aV (i:=5) (cs':=#[.bool e1,mA,lV]) I I I I (by simp only[cY,db,p7,p8];rfl) I (aO (bY [0]) ?_))
   try refine GW ?_
   refine aM I (aU (i:=12) I λ_ p9=>aU (i:=13) I λ_ p_=>aV (i:=4) (cs':=#[.bool e2,jX,kB]) I I I I (by simp only[cY,db,p9,p_];rfl) I (aO (bY [0]) ?_))
   try refine GW ?_
   refine dq [6,7,8,9,10,11,2,3,12,13,1,5,4] ?_;exact eQ (⟨qy,qz,fh,qA,lW,F2⟩,mA,lV,jX,kB,g7,g8) fy (by repeat' (first|exact cZ|refine cP I ?_)) I
  ·refine aY I λg7=>(aO (bY [6]) ?_)
   refine e_ I I ?_ ?_
   ·refine bz [0,1,2,3,4,5] [6,7,8] alt I I (gh aF.en I I I) (λw hm hb=>WT w _ (fe (hm.pick [0,1,2,3,4,5] alt I) vC) hb) I I I ?_
    rintro⟨⟨ug,uh,gL,ui,oF,F1⟩,mA,lV⟩ kL;have kL:oF.length=p1.follow.length:=kL
    conv=>arg 8;simp only[zJ,df,ret,id_eq,cK,oe]
    conv=>arg 7;simp only[cK]
    refine aO (bY [0]) ?_;refine e_ I I ?_ ?_
    ·refine bz [3,4,5,6,7,8] [0,1,2,9,10] alt I I (gh aF.en I I I) (λw hm hb=>BF ⟨ug,uh,gL,ui,oF,F1⟩ kL w _ (fe (hm.pick [3,4,5,6,7,8] alt I) lc) hb) I I I ?_
     rintro⟨⟨qy,qz,fh,qA,lW,F2⟩,jX,kB⟩ fy;have fy:lW.length=p2.follow.length:=fy
     conv=>arg 8;simp only[zJ,df,ret,id_eq,cK,oe]
     conv=>arg 7;simp only[cK]
     refine aO (bY [0]) ?_;refine aM I (aY I λg8=>(aO (bY [0]) ?_));refine aM I (aU (i:=3) I λ_ p7=>aU (i:=4) I λ_ p8=>aV (i:=2) (cs':=#[.bool e1,mA,lV]) I I I I (by simp only[cY,db,p7,p8];rfl) I (aO (bY [0]) ?_))
     try refine GW ?_
     refine aM I (aU (i:=11) I λ_ p9=>aU (i:=12) I λ_ p_=>aV (i:=13) (cs':=#[.bool e2,jX,kB]) I I I I (by simp only[cY,db,p9,p_];rfl) I (aO (bY [0]) ?_))
     try refine GW ?_
     refine dq [5,6,7,8,9,10,3,4,11,12,1,2,13] ?_;exact eQ (⟨qy,qz,fh,qA,lW,F2⟩,mA,lV,jX,kB,g7,g8) fy (by repeat' (first|exact cZ|refine cP I ?_)) I
    refine aY I λg8=>(aO (bY [0]) ?_);refine aM I (bz [3,4,5,6,7,8] [0,1,2,9,10,11] alt I I (gh aF.en I I I) (λw hm hb=>BF ⟨ug,uh,gL,ui,oF,F1⟩ kL w _ (fe (hm.pick [3,4,5,6,7,8] alt I) lc) hb) I I I ?_);rintro⟨⟨qy,qz,fh,qA,lW,F2⟩,jX,kB⟩ fy;have fy:lW.length=p2.follow.length:=fy
    conv=>arg 8;simp only[zJ,df,ret,id_eq,cK,oe]
    conv=>arg 7;simp only[cK]
    refine aO (bY [0]) ?_;refine aM I (aU (i:=3) I λ_ p7=>aU (i:=4) I λ_ p8=>aV (i:=2) (cs':=#[.bool e1,mA,lV]) I I I I (by simp only[cY,db,p7,p8];rfl) I (aO (bY [0]) ?_))
    try refine GW ?_
    refine aM I (aU (i:=12) I λ_ p9=>aU (i:=13) I λ_ p_=>aV (i:=5) (cs':=#[.bool e2,jX,kB]) I I I I (by simp only[cY,db,p9,p_];rfl) I (aO (bY [0]) ?_))
    try refine GW ?_
    refine dq [6,7,8,9,10,11,3,4,12,13,1,2,5] ?_;exact eQ (⟨qy,qz,fh,qA,lW,F2⟩,mA,lV,jX,kB,g7,g8) fy (by repeat' (first|exact cZ|refine cP I ?_)) I
   refine aY I λg8=>(aO (bY [6]) ?_);refine aM I (bz [0,1,2,3,4,5] [6,7,8,9] alt I I (gh aF.en I I I) (λw hm hb=>WT w _ (fe (hm.pick [0,1,2,3,4,5] alt I) vC) hb) I I I ?_);rintro⟨⟨ug,uh,gL,ui,oF,F1⟩,mA,lV⟩ kL;have kL:oF.length=p1.follow.length:=kL
   conv=>arg 8;simp only[zJ,df,ret,id_eq,cK,oe]
   conv=>arg 7;simp only[cK]
   refine aO (bY [0]) ?_;refine aM I (bz [4,5,6,7,8,9] [0,1,2,3,10,11] alt I I (gh aF.en I I I) (λw hm hb=>BF ⟨ug,uh,gL,ui,oF,F1⟩ kL w _ (fe (hm.pick [4,5,6,7,8,9] alt I) lc) hb) I I I ?_);rintro⟨⟨qy,qz,fh,qA,lW,F2⟩,jX,kB⟩ fy;have fy:lW.length=p2.follow.length:=fy
   conv=>arg 8;simp only[zJ,df,ret,id_eq,cK,oe]
   conv=>arg 7;simp only[cK]
   refine aO (bY [0]) ?_;refine aM I (aU (i:=4) I λ_ p7=>aU (i:=5) I λ_ p8=>aV (i:=2) (cs':=#[.bool e1,mA,lV]) I I I I (by simp only[cY,db,p7,p8];rfl) I (aO (bY [0]) ?_))
   try refine GW ?_
   refine aM I (aU (i:=12) I λ_ p9=>aU (i:=13) I λ_ p_=>aV (i:=3) (cs':=#[.bool e2,jX,kB]) I I I I (by simp only[cY,db,p9,p_];rfl) I (aO (bY [0]) ?_))
   try refine GW ?_
   refine dq [6,7,8,9,10,11,4,5,12,13,1,2,3] ?_;exact eQ (⟨qy,qz,fh,qA,lW,F2⟩,mA,lV,jX,kB,g7,g8) fy (by repeat' (first|exact cZ|refine cP I ?_)) I
  refine aY I λg8=>(aO (bY [6]) ?_);refine e_ I I ?_ ?_
  ·refine bz [0,1,2,3,4,5] [6,7,8] alt I I (gh aF.en I I I) (λw hm hb=>WT w _ (fe (hm.pick [0,1,2,3,4,5] alt I) vC) hb) I I I ?_
   rintro⟨⟨ug,uh,gL,ui,oF,F1⟩,mA,lV⟩ kL;have kL:oF.length=p1.follow.length:=kL
   conv=>arg 8;simp only[zJ,df,ret,id_eq,cK,oe]
   conv=>arg 7;simp only[cK]
   refine aO (bY [0]) ?_;refine e_ I I ?_ ?_
   ·refine bz [3,4,5,6,7,8] [0,1,2,9,10] alt I I (gh aF.en I I I) (λw hm hb=>BF ⟨ug,uh,gL,ui,oF,F1⟩ kL w _ (fe (hm.pick [3,4,5,6,7,8] alt I) lc) hb) I I I ?_
    rintro⟨⟨qy,qz,fh,qA,lW,F2⟩,jX,kB⟩ fy;have fy:lW.length=p2.follow.length:=fy
    conv=>arg 8;simp only[zJ,df,ret,id_eq,cK,oe]
    conv=>arg 7;simp only[cK]
    refine aO (bY [0]) ?_;refine aM I (aY I λg7=>(aO (bY [0]) ?_));refine aM I (aU (i:=3) I λ_ p7=>aU (i:=4) I λ_ p8=>aV (i:=13) (cs':=#[.bool e1,mA,lV]) I I I I (by simp only[cY,db,p7,p8];rfl) I (aO (bY [0]) ?_))
    try refine GW ?_
    refine aM I (aU (i:=11) I λ_ p9=>aU (i:=12) I λ_ p_=>aV (i:=2) (cs':=#[.bool e2,jX,kB]) I I I I (by simp only[cY,db,p9,p_];rfl) I (aO (bY [0]) ?_))
    try refine GW ?_
    refine dq [5,6,7,8,9,10,3,4,11,12,1,13,2] ?_;exact eQ (⟨qy,qz,fh,qA,lW,F2⟩,mA,lV,jX,kB,g7,g8) fy (by repeat' (first|exact cZ|refine cP I ?_)) I
   refine aY I λg7=>(aO (bY [0]) ?_);refine aM I (bz [3,4,5,6,7,8] [0,1,2,9,10,11] alt I I (gh aF.en I I I) (λw hm hb=>BF ⟨ug,uh,gL,ui,oF,F1⟩ kL w _ (fe (hm.pick [3,4,5,6,7,8] alt I) lc) hb) I I I ?_);rintro⟨⟨qy,qz,fh,qA,lW,F2⟩,jX,kB⟩ fy;have fy:lW.length=p2.follow.length:=fy
   conv=>arg 8;simp only[zJ,df,ret,id_eq,cK,oe]
   conv=>arg 7;simp only[cK]
   refine aO (bY [0]) ?_;refine aM I (aU (i:=3) I λ_ p7=>aU (i:=4) I λ_ p8=>aV (i:=5) (cs':=#[.bool e1,mA,lV]) I I I I (by simp only[cY,db,p7,p8];rfl) I (aO (bY [0]) ?_))
   try refine GW ?_
   refine aM I (aU (i:=12) I λ_ p9=>aU (i:=13) I λ_ p_=>aV (i:=2) (cs':=#[.bool e2,jX,kB]) I I I I (by simp only[cY,db,p9,p_];rfl) I (aO (bY [0]) ?_))
   try refine GW ?_
   refine dq [6,7,8,9,10,11,3,4,12,13,1,5,2] ?_;exact eQ (⟨qy,qz,fh,qA,lW,F2⟩,mA,lV,jX,kB,g7,g8) fy (by repeat' (first|exact cZ|refine cP I ?_)) I
  refine aY I λg7=>(aO (bY [6]) ?_);refine aM I (bz [0,1,2,3,4,5] [6,7,8,9] alt I I (gh aF.en I I I) (λw hm hb=>WT w _ (fe (hm.pick [0,1,2,3,4,5] alt I) vC) hb) I I I ?_);rintro⟨⟨ug,uh,gL,ui,oF,F1⟩,mA,lV⟩ kL;have kL:oF.length=p1.follow.length:=kL
  conv=>arg 8;simp only[zJ,df,ret,id_eq,cK,oe]
  conv=>arg 7;simp only[cK]
  refine aO (bY [0]) ?_;refine aM I (bz [4,5,6,7,8,9] [0,1,2,3,10,11] alt I I (gh aF.en I I I) (λw hm hb=>BF ⟨ug,uh,gL,ui,oF,F1⟩ kL w _ (fe (hm.pick [4,5,6,7,8,9] alt I) lc) hb) I I I ?_);rintro⟨⟨qy,qz,fh,qA,lW,F2⟩,jX,kB⟩ fy;have fy:lW.length=p2.follow.length:=fy
  conv=>arg 8;simp only[zJ,df,ret,id_eq,cK,oe]
  conv=>arg 7;simp only[cK]
  refine aO (bY [0]) ?_;refine aM I (aU (i:=4) I λ_ p7=>aU (i:=5) I λ_ p8=>aV (i:=3) (cs':=#[.bool e1,mA,lV]) I I I I (by simp only[cY,db,p7,p8];rfl) I (aO (bY [0]) ?_))
  try refine GW ?_
  refine aM I (aU (i:=12) I λ_ p9=>aU (i:=13) I λ_ p_=>aV (i:=2) (cs':=#[.bool e2,jX,kB]) I I I I (by simp only[cY,db,p9,p_];rfl) I (aO (bY [0]) ?_))
  try refine GW ?_
  refine dq [6,7,8,9,10,11,4,5,12,13,1,3,2] ?_;exact eQ (⟨qy,qz,fh,qA,lW,F2⟩,mA,lV,jX,kB,g7,g8) fy (by repeat' (first|exact cZ|refine cP I ?_)) I
 clear WT BF pj ub;rintro⟨⟨vc,vr,vfol,vl,vs,F⟩,mA,lV,jX,kB,g7,g8⟩ fy;have fy:vs.length=p2.follow.length:=fy;dsimp only
 conv=>arg 7;simp only[zA,zB,zC,zD,zE,zF,zG,zH,zI,df,ret,id_eq,oe]
 have Ia:=jV hp4;have Ig:=jV hp5;have hl3:=jV kp4;have hl4:=jV kp5
 repeat(first|refine GA ?_|refine gV (aw (v:=lV) aI.ty I (aD (i:=11) I I)) ?_|refine gV (aw (v:=jX) aI.ty I (aD (i:=12) I I)) ?_)
 refine bz [0,3,4,7,8] [1,2,5,6,9,10,11,12] alt I I (xE aF.en I I I I) (λw hm hb=>Ag g vc vr vf vfol vl ve bP lV jX vs F p2.follow kI iq w _ fy (by rw[kp1.follow];omega) (by rw[kp1.follow];exact kp1.ris) (by rw[kp1.follow];exact oE hp5 kp2) (by rw[kp1.follow];exact kp4) hb) I I I ?_;rintro⟨p6,F'⟩ hx3;have hx3:p6.length=p2.follow.length:=hx3
 conv=>arg 8;simp only[zJ,df,ret,id_eq,UA]
 refine n' (i:=3) I λba ca hva _ _=>?_;refine n' (i:=4) I λbb cb Cf _ _=>?_;subst hva Cf
 cases e1 with
 | true=>
  cases e2 with
  | true=>
   repeat(first|refine GA ?_|refine gV (aw aI.ty I (aD (i:=6) I I)) ?_|refine gV (aw aI.ty I (aD (i:=7) I I)) ?_|refine gV (aZ I (nR _ _ _ _ _ _ _)) ?_)
   refine aY I λg11=>?_;refine zL ?_;refine fR 13 (cs':=#[.bool aB,ak ba ig.length ca,ak bb kj.length cb]) ?_;refine zL ?_
   repeat(first|refine GA ?_|refine gV (aw aI.ty I (aD (i:=6) I I)) ?_|refine gV (aw aI.ty I (aD (i:=7) I I)) ?_)
   refine aT (gh aF.en I I I) (λw' hm=>ir _ jX ig iq w' (Sl.dF (hm.get (i:=3) I)) (Sl.dF (hm.get (i:=12) I)) J J) I I I ?_;intro vu _
   conv=>arg 8;simp only[zJ,df,ret,id_eq,tS]
   try refine GA ?_
   refine aU (i:=14) I λqu1 qu2=>bD (i:=13) I I I qu1 qu2 I ?_;refine zL ?_
   repeat(first|refine GA ?_|refine gV (aw aI.ty I (aD (i:=6) I I)) ?_|refine gV (aw aI.ty I (aD (i:=7) I I)) ?_)
   refine aT (gh aF.en I I I) (λw' hm=>ir lV _ kI kj w' (Sl.dF (hm.get (i:=11) I)) (Sl.dF (hm.get (i:=4) I)) J J) I I I ?_;intro vu2 _
   conv=>arg 8;simp only[zJ,df,ret,id_eq,tS]
   try refine GA ?_
   refine aU (i:=15) I λqv1 qv2=>bD (i:=13) I I I qv1 qv2 I ?_;refine zL ?_
   repeat(first|refine GA ?_|refine gV (aJ (i:=13) aI.ty I I I) ?_|refine gV (aw aI.ty I (aD (i:=6) I I)) ?_|refine gV (aw aI.ty I (aD (i:=7) I I)) ?_)
   refine aV (i:=5) (cs':=#[.bool aB,vu,vu2]) I I I I (by simp only[cY,db,qu2,qv2];rfl) I ?_;refine zL ?_
   try refine GA ?_
   refine gT (i:=5) I I I I λw hm=>?_;exact hm.cg (S:=cK g vf ve bP (⟨aB,rl ig iq,rl kI kj⟩,{p2 with follow:=fB p2.follow kI iq})) (⟨vc,vr,vfol,vl,p6,F'⟩,vu,vu2) (by show p6.length=(fB p2.follow kI iq).length;rw[k_];exact hx3) [8,0,1,9,10,2,14,15] alt I
  | false=>
   repeat(first|refine GA ?_|refine gV (aw aI.ty I (aD (i:=6) I I)) ?_|refine gV (aw aI.ty I (aD (i:=7) I I)) ?_|refine gV (aZ I (nR _ _ _ _ _ _ _)) ?_)
   refine aY I λg11=>?_;refine zL ?_;refine fR 13 (cs':=#[.bool aE,ak ba ig.length ca,ak bb kj.length cb]) ?_;refine zL ?_
   repeat(first|refine GA ?_|refine gV (aw aI.ty I (aD (i:=6) I I)) ?_|refine gV (aw aI.ty I (aD (i:=7) I I)) ?_)
   refine aT (gh aF.en I I I) (λw' hm=>ir _ jX ig iq w' (Sl.dF (hm.get (i:=3) I)) (Sl.dF (hm.get (i:=12) I)) J J) I I I ?_;intro vu _
   conv=>arg 8;simp only[zJ,df,ret,id_eq,tS]
   try refine GA ?_
   refine aU (i:=14) I λqu1 qu2=>bD (i:=13) I I I qu1 qu2 I ?_;refine zL ?_
   repeat(first|refine GA ?_|refine gV (aJ (i:=13) aI.ty I I I) ?_|refine gV (aw aI.ty I (aD (i:=6) I I)) ?_|refine gV (aw aI.ty I (aD (i:=7) I I)) ?_)
   refine aV (i:=5) (cs':=#[.bool aE,vu,ak bb kj.length cb]) I I I I (by simp only[cY,db,qu2];rfl) I ?_;refine zL ?_
   try refine GA ?_
   refine gT (i:=5) I I I I λw hm=>?_;exact hm.cg (S:=cK g vf ve bP (⟨aE,rl ig iq,kj⟩,{p2 with follow:=fB p2.follow kI iq})) (⟨vc,vr,vfol,vl,p6,F'⟩,vu,ak bb kj.length cb) (by show p6.length=(fB p2.follow kI iq).length;rw[k_];exact hx3) [8,0,1,9,10,2,14,4] alt I
 | false=>
  cases e2 with
  | true=>
   repeat(first|refine GA ?_|refine gV (aw aI.ty I (aD (i:=6) I I)) ?_|refine gV (aw aI.ty I (aD (i:=7) I I)) ?_|refine gV (aZ I (nR _ _ _ _ _ _ _)) ?_)
   refine aY I λg11=>?_;refine zL ?_;refine fR 13 (cs':=#[.bool aE,ak ba ig.length ca,ak bb kj.length cb]) ?_;refine zL ?_
   repeat(first|refine GA ?_|refine gV (aw aI.ty I (aD (i:=6) I I)) ?_|refine gV (aw aI.ty I (aD (i:=7) I I)) ?_)
   refine aT (gh aF.en I I I) (λw' hm=>ir lV _ kI kj w' (Sl.dF (hm.get (i:=11) I)) (Sl.dF (hm.get (i:=4) I)) J J) I I I ?_;intro vu2 _
   conv=>arg 8;simp only[zJ,df,ret,id_eq,tS]
   try refine GA ?_
   refine aU (i:=14) I λqv1 qv2=>bD (i:=13) I I I qv1 qv2 I ?_;refine zL ?_
   repeat(first|refine GA ?_|refine gV (aJ (i:=13) aI.ty I I I) ?_|refine gV (aw aI.ty I (aD (i:=6) I I)) ?_|refine gV (aw aI.ty I (aD (i:=7) I I)) ?_)
   refine aV (i:=5) (cs':=#[.bool aE,ak ba ig.length ca,vu2]) I I I I (by simp only[cY,db,qv2];rfl) I ?_;refine zL ?_
   try refine GA ?_
   refine gT (i:=5) I I I I λw hm=>?_;exact hm.cg (S:=cK g vf ve bP (⟨aE,ig,rl kI kj⟩,{p2 with follow:=fB p2.follow kI iq})) (⟨vc,vr,vfol,vl,p6,F'⟩,ak ba ig.length ca,vu2) (by show p6.length=(fB p2.follow kI iq).length;rw[k_];exact hx3) [8,0,1,9,10,2,3,14] alt I
  | false=>
   repeat(first|refine GA ?_|refine gV (aw aI.ty I (aD (i:=6) I I)) ?_|refine gV (aw aI.ty I (aD (i:=7) I I)) ?_|refine gV (aZ I (nR _ _ _ _ _ _ _)) ?_)
   refine aY I λg11=>?_;refine zL ?_;refine fR 13 (cs':=#[.bool aE,ak ba ig.length ca,ak bb kj.length cb]) ?_;refine zL ?_
   repeat(first|refine GA ?_|refine gV (aJ (i:=13) aI.ty I I I) ?_|refine gV (aw aI.ty I (aD (i:=6) I I)) ?_|refine gV (aw aI.ty I (aD (i:=7) I I)) ?_)
   refine fR 5 (cs':=#[.bool aE,ak ba ig.length ca,ak bb kj.length cb]) ?_;refine zL ?_
   try refine GA ?_
   refine gT (i:=5) I I I I λw hm=>?_;exact hm.cg (S:=cK g vf ve bP (⟨aE,ig,kj⟩,{p2 with follow:=fB p2.follow kI iq})) (⟨vc,vr,vfol,vl,p6,F'⟩,ak ba ig.length ca,ak bb kj.length cb) (by show p6.length=(fB p2.follow kI iq).length;rw[k_];exact hx3) [8,0,1,9,10,2,3,4] alt I
theorem Dy:∀M,KH M
 |0=>λe h=>by have:=e.size_pos;omega
 | M +1=>λe h g vf ve bP p x v w B hp hx hn hr hv hm=>by
  cases e with
  |none=>grind[WL]
  |empty=>grind[Rm]
  |byte c=>grind[WN]
  | star a=>
   have h:a.size+1<=M+1:=h;exact WO (Dy M) a J g vf ve bP p x v w B hp hx hn hr hv hm
  | J' a b=>
   have h:a.size+b.size+1<=M+1:=h;exact aaV (Dy M) a b J J g vf ve bP p x v w B hp hx hn hr hv hm
  | J_ a b=>
   have h:a.size+b.size+1<=M+1:=h;exact aaW (Dy M) a b J J g vf ve bP p x v w B hp hx hn hr hv hm
theorem th(w:World):(da 157 (#[]:Array (Nat×Value))).run aC w= .ok (aP #[ak aj 0 0,ak aj 0 0,ak aj 0 0,ak aj 0 0,ak aj 0 0,ak aj 0 0]) w:=by
 go_simp
theorem WU(w:World):(da 225 (#[]:Array (Nat×Value))).run aC w= .ok (aP #[ak aj 0 0,ak aj 0 0,ak aj 0 0,ak aj 0 0,ak aj 0 0,ak aj 0 0,ap av 0]) w:=by
 go_simp
structure PIx where
 vc:Value
 vr:Value
 vf:Value
 vfol:Value
 vl:Value
 ve:Value
 vs:List Value
 F:Nat->Prop
def Rp(x:PIx)(m:MS):List b_:=
 [bm 94 4 x.vc m.ps.a8.length (m.ps.a8.flatMap dX),gB x.vr m.ps.rules,gB x.vf m.first,yQ x.vfol x.vs,vB x.F x.vs m.ps.follow,bm 4 1 x.vl m.ps.last.length (m.ps.last.map fW),bm 4 1 x.ve m.empty.length (m.empty.map fW)]
def Rq(x:PIx):Array Value:=#[x.vc,x.vr,x.vf,x.vfol,x.vl,x.ve]
def rm(R:Int×MS):Spec PIx:=⟨λx=>x.vs.length=R.2.ps.follow.length,λx=> .tuple #[.agg (Rq x),ap av R.1],λx=>Rp x R.2⟩
def aaX:PIx:=⟨ak aj 0 0,ak aj 0 0,ak aj 0 0,ak aj 0 0,ak aj 0 0,ak aj 0 0,[],λ_=>False⟩
theorem KJ{n:Nat}{W:bV}{Q:Exit->Act->World->Prop}{fr:Fr}{L:List b_}{e':Exit}(h:E n W e' Q fr (L++Rp aaX .zero)):E n W e' Q fr L:=by
 refine eI 94 4 (eI 3 1 (eI 3 1 (eI 26 1 (jP (vB (λ_=>False) [] []) (λk hk=>hk.elim (λh=>by cases h) id) (λw=>kG) (eI 4 1 (eI 4 1 ?_))))));simp only[eu,mg,fD];exact h
theorem aew{vc vr vf vfol vl ve v:Value}{bP:Int}{j:Nat}(h:[vc,vr,vf,vfol,vl,ve][j]?=ah v):(Uz vc vr vf vfol vl ve bP)[0+j]?=ah v:=by
 rw[cU]
 match j,h with
 |0,h=>exact h
 |1,h=>exact h
 |2,h=>exact h
 |3,h=>exact h
 |4,h=>exact h
 |5,h=>exact h
def H3(b:Bool):List Value:=[.bool b]
theorem WV(b:Bool):(H3 b).length=1:=rfl
theorem BG(l:List Bool):l.flatMap H3=l.map fW:=by
 induction l with
 |nil=>rfl
 |cons x r ih=>rw[lQ,ih];rfl
def I0(rs:List Rx)(R:Int×MS):Prop:=
  ((rs.length=0\/20<rs.length)/\R=(1,.zero))\/(¬(rs.length=0\/20<rs.length)/\jW rs≠0/\R=(jW rs,.zero))\/
    (¬(rs.length=0\/20<rs.length)/\jW rs=0/\∃es:List Re,rs=es.map l7/\(∀e∈es,e.size<=100)/\R=l9 0 .zero es)
theorem Rr{l:List Rx}{k:Nat}(h:k<l.length):jW (l.drop k)=if Nu l[k]≠0 then Nu l[k]else jW (l.drop (k+1)):=by
 rw[dL h,jW]
theorem Fv(v:Value)(rs:List Rx)(R:Int×MS)(w:World)(hv:jO yw (rP w) w v rs)(hR:I0 rs R):
    Calls aC 56 #[v] w (cJ (rm R) w):=by
  obtain⟨bk,ck,rfl,h1,h2,h3⟩:=hv;unfold maxLen at h2;refine enter (args:=[ak bk rs.length ck]) (n:=104) Tryz.func56 I I I ?_;refine bZ (bx (aY I λg2=>?_));refine zL ?_;rcases hR with⟨c1,rfl⟩|hR
  · by_cases c2:rs.length=0
    · repeat(first|refine GC ?_|refine gV (dc (b:=aB) I I (decide_eq_true J)) ?_|refine gV (aZ I th) ?_|refine GB ?_)
      refine fR 0 ?_;refine zL ?_
      try refine GA ?_
      refine KJ ?_;exact dH (i:=0) I I I I I λw hm=>hm.meets (S:=rm (1,.zero)) aaX I [1,2,3,4,5,6,7] alt I
    have c3:20<rs.length:=c1.resolve_left c2
    repeat(first|refine GC ?_|refine gV (dc (b:=aE) I I (decide_eq_false J)) ?_|refine gV (eO (b:=aB) I I (decide_eq_true J)) ?_|refine gV (aZ I th) ?_|refine GB ?_)
    refine fR 0 ?_;refine zL ?_
    try refine GA ?_
    refine KJ ?_;exact dH (i:=0) I I I I I λw hm=>hm.meets (S:=rm (1,.zero)) aaX I [1,2,3,4,5,6,7] alt I
  have hlen:¬(rs.length=0\/20<rs.length):=by rcases hR with⟨h,_⟩|⟨h,_⟩<;>exact h
  repeat(first|refine GC ?_|refine gV (dc (b:=aE) I I (decide_eq_false J)) ?_|refine gV (eO (b:=aE) I I (decide_eq_false J)) ?_|refine GB ?_)
  refine dZ (ι:=Nat) (λk=>k<=rs.length/\jW rs=jW (rs.drop k)) (λk=>[(0,ak bk rs.length ck),(2,aH (ah ⟨g2,0,aj⟩)),(22,ak bk rs.length ck),(23,ap av rs.length),(24,ap av (k:Int))])
    (λ_=>[aK g2 #[ak aj 0 0,ak aj 0 0,ak aj 0 0,ak aj 0 0,ak aj 0 0,ak aj 0 0] 157]) (λk=>rs.length-k) 0 ⟨bC _,rfl⟩ ?_
  rintro k ⟨i1,i2⟩
  by_cases c6:k<rs.length
  · obtain⟨b,off,rfl,hF,gu⟩:=h3 J
    obtain⟨kb,kc,hr,WQ⟩:=qG gu c6;have eC:=λ(L:List b_) (j:Nat) (v:Value) (hj:(mL rs[k].kind rs[k].uF (.slice kb rs[k].kids.length kc))[j]?=ah v)=>jE (L:=L) hr hj;have fS:∀w',Gr w w'->Calls aC 93 #[ra rs[k].kind rs[k].uF (.slice kb rs[k].kids.length kc)] w' (cJ (ret (ap av (Nu rs[k]))) w'):=λw' hg=>uL _ _ w' (WQ.gr hg);have hdr:=Rr c6;clear h3 gu hr;generalize rs[k]=r at*
    repeat(first|refine GA ?_|refine gV (aR bM.eq aI.ty I I c6) ?_|refine gV (aW aI.ty I I (eC _)) ?_)
    refine aY I λg5=>?_;refine zL ?_;refine fR 1 (cs':=(mL r.kind r.uF (ak kb r.kids.length kc)).toArray) ?_;refine zL ?_
    repeat(first|refine GA ?_|refine gV (aJ (i:=1) aI.ty I I I) ?_)
    refine aT (lz aF.en I I) (λw hm=>fS _ hm.below) I I I ?_;intro _ _;refine zL ?_
    by_cases c7:Nu r=0
    · repeat(first|refine GC ?_|refine gV (dh (b:=aE) I I (decide_eq_false (by simpa using c7))) ?_|refine GB ?_)
      refine dq [0] ?_;exact bQ (k+1) ⟨by omega,by rw[i2,hdr,if_neg (by simpa using c7)]⟩ (by show rs.length-(k+1)<rs.length-k;omega)
    have hne:jW rs≠0:=by rw[i2,hdr,if_pos c7];exact c7
    rcases hR with⟨_,_,rfl⟩|⟨_,h0,_⟩
    · rw[i2,hdr,if_pos c7]
      repeat(first|refine GC ?_|refine gV (dh (b:=aB) I I (decide_eq_true c7)) ?_|refine gV (aZ I th) ?_|refine GB ?_)
      refine fR 0 ?_;refine zL ?_
      try refine GA ?_
      refine KJ ?_;exact dH (i:=0) I I I I I λw hm=>hm.meets (S:=rm (Nu r,.zero)) aaX I [2,3,4,5,6,7,8] alt I
    exact absurd h0 hne
  · obtain rfl:k=rs.length:=by omega
    have h0:jW rs=0:=by rw[i2,yC (aX _)];rfl
    obtain⟨es,rfl,hsz,rfl⟩:∃es:List Re,rs=es.map l7/\(∀e∈es,e.size<=100)/\R=l9 0 .zero es:=by
      rcases hR with⟨_,h,_⟩|⟨_,_,h⟩
      exact absurd h0 h;exact h
    have h20:(QJ l7 es).length<=20:=by omega
    clear hR hlen i1 i2
    repeat(first|refine GA ?_|refine gV (aZ I WU) ?_)
    refine bH I I I λg7=>?_;refine zL ?_
    try refine GA ?_
    refine iJ 94 4 (iJ 3 1 (iJ 26 1 (oc (vB (λ_=>False) [] []) (λk hk=>hk.elim (λh=>by cases h) id) (λw=>kG) (iJ 4 1 (iJ 3 1 (iJ 4 1 ?_))))));refine dZ (ι:=Nat×MS×Ym×Value×Value×Int) (λ(k,m,x,_,_,_)=>k<=es.length/\l9 0 .zero es=l9 k m (es.drop k)/\Ri m/\m.ps.a8.length<=200/\x.vs.length=m.ps.follow.length/\m.empty.length=k) (λ(k,_,_,_,_,_)=>[(2,aH (ah ⟨g2,0,aj⟩)),(7,aH (ah ⟨g7,0,aj⟩)),(37,ak bk (es.map l7).length ck),(38,ap av (es.map l7).length),(39,ap av (k:Int))])
      (λ(_,m,x,vf,ve,bP)=>[aK g2 #[ak aj 0 0,ak aj 0 0,ak aj 0 0,ak aj 0 0,ak aj 0 0,ak aj 0 0] 157]++oe g7 vf ve bP x m.ps++[gB vf m.first,bm 4 1 ve m.empty.length (m.empty.map fW)]) (λ(k,_,_,_,_,_)=>es.length-k)
      (0,.zero,⟨ak aj 0 0,ak aj 0 0,ak aj 0 0,ak aj 0 0,[],λ_=>False⟩,ak aj 0 0,ak aj 0 0,0) ⟨bC _,rfl,KB,bC _,rfl,rfl⟩ ?_
    rintro⟨k,m,⟨vc,vr,vfol,vl,vs,F⟩,vf,ve,bP⟩ ⟨i1,i2,i3,i4,i5,i6⟩;dsimp only at i1 i2 i3 i4 i5 i6⊢
    conv=>arg 7;simp only[zA,zB,zC,zD,zE,zF,zG,zH,zI,df,ret,id_eq,oe]
    have hml:(QJ l7 es).length=es.length:=dY ..
    by_cases c6:k<es.length
    · obtain⟨b,off,rfl,hF,gu⟩:=h3 J
      obtain⟨kb,kc,hr,WQ⟩:=qG (k:=k) gu J;have eC:=λ(L:List b_) (j:Nat) (v:Value) (hj:(mL (es.map l7)[k].kind (es.map l7)[k].uF (.slice kb (es.map l7)[k].kids.length kc))[j]?=ah v)=>jE (L:=L) hr hj;have hke:(es.map l7)[k]' J=l7 es[k]:=oR ..;rw[hke]at eC WQ;have hse:=hsz es[k] (bX c6);rw[dL c6,l9]at i2;clear h3 gu hr hke;generalize es[k]=e at*;have hst:=Uv k i3 e;have Qb:=iZ k e m.ps i3.ps;have hno:=λv w B hv hm=>Dy 100 e hse g7 vf ve k m.ps ⟨vc,vr,vfol,vl,vs,F⟩ v w B i3.ps i5 J ⟨by omega,by omega⟩ hv hm
      repeat(first|refine GA ?_|refine gV (aR bM.eq aI.ty I I J) ?_|refine gV (aW aI.ty I I (eC _)) ?_)
      refine aY I λg9=>?_;refine zL ?_
      try refine GA ?_
      refine fR 9 (cs':=(mL (l7 e).kind (l7 e).uF (ak kb (l7 e).kids.length kc)).toArray) ?_;refine zL ?_
      try refine GA ?_
      refine bD (i:=1) I I I I I I ?_;refine zL ?_
      repeat(first|refine GA ?_|refine gV (aJ (i:=9) aI.ty I I I) ?_)
      refine bz [1,2,3,4,5,6] [0,7,8,9] alt I I (gh aF.en I I I) (λw hm hb=>hno _ w _ (fe (hm.pick [1,2,3,4,5,6] alt I) (WQ.mono λk hk=>⟨hk,id⟩)) hb) I I I ?_;rintro⟨⟨Hz,Dx,xM,UC,p6,F'⟩,va,vb⟩ TI
      conv=>arg 8;simp only[zJ,df,ret,id_eq,cK,oe]
      conv=>arg 7;simp only[cK]
      have TI:p6.length=(bU k e m.ps).2.follow.length:=TI;unfold xL at i2 hst;generalize bU k e m.ps=R at*;obtain⟨⟨em,first,last⟩,p'⟩:=R;dsimp only at i2 hst Qb TI⊢;obtain⟨n1,n2,n3,n4,n5⟩:=Qb;have Ia:=jV i3.first;have Ig:=jV n4;have hl3:=jV n5;refine aU (i:=10) I λ_ qa=>aU (i:=11) I λ_ qb=>aY I λg10=>?_;refine zL ?_;refine aV (i:=12) (cs':=#[.bool em,va,vb]) I I I I (by simp only[cY,db,qa,qb];rfl) I ?_;refine zL ?_
      try refine GA ?_
      (repeat refine bZ ?_)
      refine ml (ι:=Value) (λYn=>Yn.oneCell'=aB) (λ_=>[(2,aH (ah ⟨g2,0,aj⟩)),(7,aH (ah ⟨g7,0,aj⟩)),(10,aH (ah ⟨g10,0,aj⟩)),(37,ak (ah ⟨b,off,aj⟩) (es.map l7).length ck),(38,ap av (es.map l7).length),(39,ap av (k:Int))])
        (λYn=>[aK g2 #[ak aj 0 0,ak aj 0 0,ak aj 0 0,ak aj 0 0,ak aj 0 0,ak aj 0 0] 157,aK g7 (Uz Hz Dx Yn xM UC ve (k:Int)) 225,bm 94 4 Hz p'.a8.length (p'.a8.flatMap dX),gB Dx p'.rules,yQ xM p6,vB F' p6 p'.follow,bm 4 1 UC p'.last.length (p'.last.map fW),gB Yn (rl m.first first),bm 4 1 ve m.empty.length (m.empty.map fW),aK g10 #[.bool em,va,vb] 227,gB vb last]) ?_ ?_
      · refine dG ([aK g10 #[.bool em,va,vb] 227]) (.calm 0 (.calm 1 (.calm 2 (.calm 3 (.calm 4 (.calm 6 (.calm 7 (.one 5 (.one 8 (.calm 9 (.calm 10 (.calm 11 (.one 12 (.done)))))))))))))) (bY [12]) ?_
        repeat(first|refine GW ?_|(refine GN ?_;first|refine QW (aw aI.ty I (aD (i:=0) I I)) ?_))
        refine aM I (dy (aw (v:=vf) aI.ty I (aD (i:=4) I I)) I I I (aO (bY [12]) ?_));refine aM I (aT (gh aF.en I I I) (λw' hm=>ir vf va m.first first w' (Sl.dF (hm.get (i:=1) I)) (Sl.dF (hm.get (i:=10) I)) J J) I I I ?_);intro Yn _
        conv=>arg 8;simp only[zJ,df,ret,id_eq,tS]
        refine aO (bY [12]) ?_
        try refine GW ?_
        refine aM I (aU (i:=13) I λqf1 qf2=>bD (i:=4) I I I qf1 qf2 I (aO (bY [12]) ?_))
        try refine GW ?_
        refine dq [0,4,5,6,7,8,9,13,2,12,11] ?_;exact eQ Yn qf2 (by repeat' (first|exact cZ|refine cP I ?_)) I
      intro Yn AR
      (repeat refine bZ ?_)
      refine ml (ι:=Value) (λUD=>UD.oneCell'=aB) (λ_=>[(2,aH (ah ⟨g2,0,aj⟩)),(7,aH (ah ⟨g7,0,aj⟩)),(10,aH (ah ⟨g10,0,aj⟩)),(37,ak (ah ⟨b,off,aj⟩) (es.map l7).length ck),(38,ap av (es.map l7).length),(39,ap av (k:Int))])
        (λUD=>[aK g2 #[ak aj 0 0,ak aj 0 0,ak aj 0 0,ak aj 0 0,ak aj 0 0,ak aj 0 0] 157,aK g7 (Uz Hz Dx Yn xM UC UD (k:Int)) 225,bm 94 4 Hz p'.a8.length (p'.a8.flatMap dX),gB Dx p'.rules,yQ xM p6,vB F' p6 p'.follow,bm 4 1 UC p'.last.length (p'.last.map fW),gB Yn (rl m.first first),bm 4 1 UD (m.empty++[em]).length ((m.empty++[em]).map fW),aK g10 #[.bool em,va,vb] 227,gB vb last]) ?_ ?_
      · refine dG ([aK g10 #[.bool em,va,vb] 227]) (.calm 0 (.calm 1 (.calm 2 (.calm 3 (.calm 4 (.calm 6 (.calm 7 (.two 5 (.one 8 (.one 9 (.calm 10 (.calm 11 (.calm 12 (.one 13 (.done))))))) 8 (.one 5 (.one 9 (.calm 10 (.calm 11 (.calm 12 (.one 13 (.done))))))))))))))) (bY [9]) ?_
        repeat(first|refine GW ?_|(refine GN ?_;first|refine QW (aw aI.ty I (aD (i:=0) I I)) ?_))
        refine e_ I I ?_ ?_
        · refine dy (aw (v:=ve) aI.ty I (aD (i:=1) I I)) I I I (aO (bY [9]) ?_)
          refine aM I (fz (cs:=#[.bool em]) [.bool em] I I I (by intro v hv;simp at hv;subst hv;rfl) I I I λg71=>(aO (bY [9]) ?_));refine aM I (eM (i:=8) (e:=4) (size:=1) (bytes:=1) (m:=m.empty.length) (xs:=m.empty.map fW) (k:=1) (ys:=[.bool em]) I (kT (i:=11) I (λj u h=>by simpa using h) (aX 1) alt) I I I (λu hu=>by rw[ez.1 hu];rfl) J J I λUD=>(aO (bY [9]) ?_))
          try refine GW ?_
          refine aM I (aU (i:=8) I λqe1 qe2=>bD (i:=1) I I I qe1 qe2 I (aO (bY [9]) ?_))
          try refine GW ?_
          refine dq [0,1,2,3,4,5,6,7,8,9,10] ?_;exact eQ UD qe2 (by repeat' (first|exact cZ|refine cP I ?_)) (by rw[<-BE UD m.empty em];rfl)
        refine fz (cs:=#[.bool em]) [.bool em] I I I (by intro v hv;simp at hv;subst hv;rfl) I I I λg71=>(aO (bY [9]) ?_);refine aM I (dy (aw (v:=ve) aI.ty I (aD (i:=1) I I)) I I I (aO (bY [9]) ?_));refine aM I (eM (i:=8) (e:=4) (size:=1) (bytes:=1) (m:=m.empty.length) (xs:=m.empty.map fW) (k:=1) (ys:=[.bool em]) I (kT (i:=11) I (λj u h=>by simpa using h) (aX 1) alt) I I I (λu hu=>by rw[ez.1 hu];rfl) J J I λUD=>(aO (bY [9]) ?_))
        try refine GW ?_
        refine aM I (aU (i:=8) I λqe1 qe2=>bD (i:=1) I I I qe1 qe2 I (aO (bY [9]) ?_))
        try refine GW ?_
        refine dq [0,1,2,3,4,5,6,7,8,9,10] ?_;exact eQ UD qe2 (by repeat' (first|exact cZ|refine cP I ?_)) (by rw[<-BE UD m.empty em];rfl)
      intro UD he';rw[show p'.last.map fW=p'.last.flatMap H3 from(BG _).symm];refine ix (i:=10) (φ:=∃a c,vb=ak a last.length c/\(0<last.length->∃gl,a=ah ⟨gl,0,aj⟩)) I (λw h=>by
        obtain⟨y1,y2⟩:=(show w.ownsRow 0 3 1 vb last.length (last.map (ap .i64))from h);rcases y2 with⟨y3,y4⟩|⟨gl,cap,oM,hv,_⟩
        exact⟨aj,0,by rw[y3,y4],λh=>by omega⟩;exact⟨_,_,hv,λ_=>⟨gl,rfl⟩⟩) λCf=>?_
      obtain⟨al,cl,rfl,M9⟩:=Cf;refine ix (i:=6) (φ:=0<p'.last.length->∃gb cb,UC=ak (ah ⟨gb,0,aj⟩) p'.last.length cb) I (λw h=>by
        obtain⟨y1,y2⟩:=(show w.ownsRow 0 4 1 UC p'.last.length (p'.last.flatMap H3)from h);rcases y2 with⟨y3,y4⟩|⟨gl,cap,oM,hv,_⟩
        intro h;omega;exact λ_=>⟨gl,cap,hv⟩) λhvl=>?_
      repeat(first|refine GA ?_|refine gV (aw (v:=ak al last.length cl) aI.ty I (aD (i:=9) I I)) ?_)
      refine tY [0,1,2,3,4,5,6,7,8,10] ?_;refine dZ (ι:=Nat) (λj=>j<=last.length) (λj=>[(2,aH (ah ⟨g2,0,aj⟩)),(7,aH (ah ⟨g7,0,aj⟩)),(37,ak (ah ⟨b,off,aj⟩) (es.map l7).length ck),(38,ap av (es.map l7).length),(39,ap av (k:Int)),(77,ak al last.length cl),(78,ap av last.length),(79,ap av (j:Int))])
        (λj=>[aK g2 #[ak aj 0 0,ak aj 0 0,ak aj 0 0,ak aj 0 0,ak aj 0 0,ak aj 0 0] 157,aK g7 (Uz Hz Dx Yn xM UC UD (k:Int)) 225,bm 94 4 Hz p'.a8.length (p'.a8.flatMap dX),gB Dx p'.rules,yQ xM p6,vB F' p6 p'.follow,bm 4 1 UC p'.last.length ((fw p'.last (last.take j)).flatMap H3),gB Yn (rl m.first first),bm 4 1 UD (m.empty++[em]).length ((m.empty++[em]).map fW),gB (ak al last.length cl) last]) (λj=>last.length-j) 0 (bC _) ?_
      intro j j1
      by_cases c7:j<last.length
      · obtain⟨gl,rfl⟩:=M9 J
        have hx:=n5.2 last[j] (bX c7);have hgx:last[j]?=ah last[j]:=bL c7;have hms:=WI p'.last last c7;have alF:=Ft p'.last (last.take j);generalize last[j]=xx at*;obtain⟨xn,rfl⟩:=fJ hx.1;rw[de]at hms;have hxn:xn<p'.last.length:=by rw[n1.last];omega
        obtain⟨gb,cb,rfl⟩:=hvl J;have ahk:∀(L:List b_) (hi:L[9]?=ah (gB (ak (ah ⟨gl,0,aj⟩) last.length cl) last)),At (w:bV) L ⟨gl,0+j*1,aj⟩ (ap av (xn:Int)):=λL hi=>kx hi (by rw[iN,cU,lR,hgx];rfl)
        repeat(first|refine GA ?_|refine gV (aR bM.eq aI.ty I I c7) ?_|refine gV (aw (v:=ap av (xn:Int)) aI.ty I (ahk _ I)) ?_|refine gV (aw (v:=ak (ah ⟨gb,0,aj⟩) p'.last.length cb) aI.ty I (aD (i:=1) I I)) ?_|refine gV (aR bM.eq aI.ty I I hxn) ?_)
        refine Bg WV (i:=6) (k:=xn) (l:=fw p'.last (last.take j)) (a:=aB) aI.ty I I J J J I I I ?_;rw[<-hms];refine zL ?_
        try refine GA ?_
        exact bQ (j+1) J (by show last.length-(j+1)<last.length-j;omega)
      obtain rfl:j=last.length:=by omega
      rw[gD (aX _),BG];refine ix (i:=2) (φ:=∃a c,Hz=ak a p'.a8.length c) I (λw h=>by
        obtain⟨a,c,h,_⟩:=Sl.dF (show w.ownsRow 0 94 4 Hz p'.a8.length (p'.a8.flatMap dX)from h);exact⟨a,c,h⟩) λhvc=>?_
      obtain⟨ac,cc,rfl⟩:=hvc
      by_cases c8:200<p'.a8.length
      · rw[if_pos c8]at i2
        rw[i2]
        repeat(first|refine GC ?_|refine gV (aw (v:=ak ac p'.a8.length cc) aI.ty I (aD (i:=1) I I)) ?_|refine gV (eO (b:=aB) I I (decide_eq_true J)) ?_|refine gV (aZ I th) ?_|refine GB ?_)
        refine fR 0 ?_;refine zL ?_
        try refine GA ?_
        refine KJ ?_;exact dH (i:=0) I I I I I λw hm=>hm.meets (S:=rm (2,.zero)) aaX I [10,11,12,13,14,15,16] alt I
      rw[if_neg c8]at i2
      repeat(first|refine GC ?_|refine gV (aw (v:=ak ac p'.a8.length cc) aI.ty I (aD (i:=1) I I)) ?_|refine gV (eO (b:=aE) I I (decide_eq_false J)) ?_|refine GB ?_)
      refine dq [0,1,2,3,4,5,6,7,8] ?_;exact bQ (k+1,⟨{p' with last:=fw p'.last last},rl m.first first,m.empty++[em]⟩,⟨ak ac p'.a8.length cc,Dx,xM,UC,p6,F'⟩,Yn,UD,(k:Int)) ⟨by omega,i2,hst.1,by show p'.a8.length<=200;omega,TI,by rw[bT,List.length_singleton,i6]⟩ (by show es.length-(k+1)<es.length-k;omega) (hl:=by dsimp only;rw[show p'.last.length=(fw p'.last last).length from(Ft _ _).symm];rfl)
    obtain rfl:k=es.length:=by omega
    rw[yC (aX _)]at i2;rw[i2]
    try refine GA ?_
    refine aU (i:=2) I λ_ a1=>aU (i:=3) I λ_ a2=>aU (i:=4) I λ_ a3=>aU (i:=6) I λ_ a4=>aU (i:=7) I λ_ a5=>aU (i:=8) I λ_ a6=>?_
    repeat(first|refine GA ?_|refine gV (aW (cs:=[vc,vr,vf,vfol,vl,ve]) aI.ty I I (λj v hj=>aD (i:=1) I (aew hj))) ?_)
    refine aV (i:=0) (cs':=#[vc,vr,vf,vfol,vl,ve]) I I I I (by simp only[cY,db,a1,a2,a3,a4,a5,a6];rfl) I ?_;refine zL ?_
    try refine GA ?_
    exact dH (i:=0) I I I I I λw hm=>hm.meets (S:=rm (0,m)) ⟨vc,vr,vf,vfol,vl,ve,vs,F⟩ i5 [2,3,7,4,5,6,8] alt I
open lB
theorem UE:∀{rs:List Rx},jW rs=0->∃es:List Re,rs=es.map l7/\∀e∈es,Fit e 1 0
 |[],_=>⟨[],rfl,λ_ h=>by cases h⟩
 |r::l,h=>by
  have hr:=IV h r (gX ..);have hl:jW l=0:=by simp_all[jW]
  obtain⟨es,rfl,h2⟩:=UE hl;obtain⟨e,rfl,hf,_⟩:=Ka (tM r) r 1 0 (lZ r 1 0).2 (aX _) (by grind);refine⟨e::es,rfl,λx hx=>?_⟩;rcases dw.1 hx with rfl|hx
  exact hf;exact h2 x hx
theorem aaY{e:Re}(h:Fit e 1 0):e.size<=100:=by have:=h.sz;omega
theorem I1:∀(es:List Re) (i:Nat) (m:MS),(l9 i m es).1≠0->(l9 i m es).2= .zero
 |[],_,_,h=>absurd I h
 |e::r,i,m,h=>by
  rw[l9]at h⊢;split at h
  simp_all
  rename_i c;rw[if_neg c];exact I1 r _ _ h
theorem WW(rs:List Rx):(∃k:Int,k≠0/\I0 rs (k,.zero))\/∃(es:List Re) (m:MS),rs=es.map l7/\(∀e∈es,Fit e 1 0)/\0<es.length/\es.length<=20/\l9 0 .zero es=(0,m)/\I0 rs (0,m):=by
 by_cases c:rs.length=0\/20<rs.length
 exact .inl ⟨1,by decide,.inl ⟨c,rfl⟩⟩
 by_cases h:jW rs=0
 ·obtain⟨es,h1,h2⟩:=UE h
  have hR:I0 rs (l9 0 .zero es):= .inr (.inr ⟨c,h,es,h1,λe he=>aaY (h2 e he),rfl⟩);have hz:=I1 es 0 .zero;have hl:rs.length=es.length:=by rw[h1,dY]
  obtain⟨k,m,e⟩:∃k m,l9 0 .zero es=(k,m):=⟨_,_,rfl⟩;rw[e]at hR hz
  by_cases h0:k=0
  ·subst h0
   exact .inr ⟨es,m,h1,h2,by omega,by omega,e,hR⟩
  obtain rfl:m= .zero:=hz h0;exact .inl ⟨k,h0,hR⟩
 exact .inl ⟨jW rs,h,.inr (.inl ⟨c,h,rfl⟩)⟩
theorem gj{e:TypeId}{size n:Nat}{v:Value}{xs:List Value}(w:World)(h:(bm e size v n xs).holds w):∃a c,v=ak a n c/\n<=9223372036854775807/\(0<n->∃g,a=ah ⟨g,0,aj⟩):=by
 rcases(show w.ownsRow 0 e size v n xs from h).2 with⟨rfl,rfl⟩|⟨g,cap,oM,rfl,_,_,hn,hm,_⟩
 simp;exact⟨_,_,rfl,by grind[maxLen],λ_=>⟨g,rfl⟩⟩
theorem aex{F:Nat->Prop}{v:Value}{vs:List Value}{nu:List (List Int)}{w:World}(hr:(yQ v vs).holds w)(he:(vB F vs nu).holds w)(hl:vs.length=nu.length):jO (cO iv) (rP w) w v nu:=by
 have uz:w.ownsRow 0 26 1 v vs.length (vs.flatMap Af):=hr;obtain⟨base,cap,h1,h2,h3,h4⟩:=Sl.dF uz;rw[hl]at h1 h2;refine⟨base,cap,h1,h2,h3,λh0=>?_⟩;obtain⟨b,off,h5,h6⟩:=h4 J;rw[WK]at h6;refine⟨b,off,h5,?_,λi hi=>⟨[vs[i]' J],⟨vs[i]' J,rfl,?_⟩,λj u hj=>?_⟩⟩
 ·have:=h6 0 _ (bL J)
  exact World.block_lt_of_cell? w _ this
 ·have hs:=aaT he hi J
  obtain⟨⟨q1,q2⟩,q3⟩:=he;obtain⟨v',hv',mP,_,hF⟩:=q2 i hi J;rw[oR]at hv';simp only[Af,fL,and_true]at hv';rw[<-rX]at hs;refine jO.of_flat hs mP (λb hb=>q3 b (hF b (by simp_all))) λa n cp hv=>q3 a.block (hF _ (by rw[<-hv',hv];rfl))
 have hj0:j=0:=by grind
 subst hj0;have:=h6 i u (by simp_all);show w.cell? ⟨b,off+i*1+0,aj⟩=ah u
 simp_all
theorem lf(a:Int):(cL.eP a).length=1:=rfl
def boC(b:Bool):List Value:=[.bool b]
theorem UF(a:Bool):(boC a).length=1:=rfl
theorem aey{F:Nat->Prop}{w:World}{cs:List Value}{l:List Int}(h:(cO iv).is F w cs l):∃v,cs=[v]/\Sl w v l.length (l.flatMap cL.eP):=by
 obtain⟨v,h1,h2⟩:=h;exact⟨v,h1,h2.flat alt⟩
theorem Dz{w w':World}{v:Value}{l:List (List Int)}(h:jO (cO iv) (rP w) w v l)(hg:Gr w w'):jO (cO iv) (rP w') w' v l:=
 (h.stay λk hk=>hg.block k hk).mono λ_ hk=>jt hk hg.size
def HB(w:World)(v:Value)(m:MS):Prop:=
 ∃ vc vr vf vfol vl ve,v=aP #[vc,vr,vf,vfol,vl,ve]/\Sl w vc m.ps.a8.length (m.ps.a8.flatMap dX)/\Sl w vr m.ps.rules.length (m.ps.rules.flatMap cL.eP)/\Sl w vf m.first.length (m.first.flatMap cL.eP)/\
  jO (cO iv) (rP w) w vfol m.ps.follow/\Sl w vl m.ps.last.length (m.ps.last.flatMap boC)/\Sl w ve m.empty.length (m.empty.flatMap boC)
theorem HB.gr{w w':World}{v:Value}{m:MS}(h:HB w v m)(hg:Gr w w'):HB w' v m:=by
 obtain⟨vc,vr,vf,vfol,vl,ve,h0,h1,h2,h3,h4,h5,h6⟩:=h;exact⟨vc,vr,vf,vfol,vl,ve,h0,h1.gr hg,h2.gr hg,h3.gr hg,Dz h4 hg,h5.gr hg,h6.gr hg⟩
theorem NH(l:List Bool):l.flatMap boC=l.map fW:=BG l
theorem aez{w:World}{x:PIx}{m:MS}(hl:x.vs.length=m.ps.follow.length)(h0:(bm 94 4 x.vc m.ps.a8.length (m.ps.a8.flatMap dX)).holds w)(h1:(gB x.vr m.ps.rules).holds w)(h2:(gB x.vf m.first).holds w)(h3:(yQ x.vfol x.vs).holds w)(h4:(vB x.F x.vs m.ps.follow).holds w)
 (h5:(bm 4 1 x.vl m.ps.last.length (m.ps.last.map fW)).holds w) (h6:(bm 4 1 x.ve m.empty.length (m.empty.map fW)).holds w):HB w (.agg (Rq x)) m:=by
 refine⟨_,_,_,_,_,_,rfl,Sl.dF h0,?_,?_,aex h3 h4 hl,?_,?_⟩
 ·rw[rX];exact Sl.dF h1
 ·rw[rX];exact Sl.dF h2
 ·rw[NH];exact Sl.dF h5
 ·rw[NH];exact Sl.dF h6
theorem Mem.akz{w:World}{B:bV}{L:List b_}{x:PIx}{m:MS}(i:Nat)(hm:Mem B L w)(hl:x.vs.length=m.ps.follow.length)(h:Rp x m=[i,i+1,i+2,i+3,i+4,i+5,i+6].filterMap λj=>L[j]?)(hlen:i+6<L.length):HB w (.agg (Rq x)) m:=by
 have g:∀j,j<7->∃o,L[i+j]?=ah o/\(Rp x m)[j]?=ah o:=by
  intro j hj;have e:∀k,k<7->∃o,L[i+k]?=ah o:=λk hk=>⟨_,bL J⟩;rw[h];obtain⟨o0,e0⟩:∃o,L[i]?=ah o:=e 0 J;obtain⟨o1,e1⟩:=e 1 J;obtain⟨o2,e2⟩:=e 2 J;obtain⟨o3,e3⟩:=e 3 J;obtain⟨o4,e4⟩:=e 4 J;obtain⟨o5,e5⟩:=e 5 J;obtain⟨o6,e6⟩:=e 6 J;simp only[List.filterMap_cons,e0,e1,e2,e3,e4,e5,e6,List.filterMap_nil]
  match j,hj with
  |0,_=>simp_all
  |1,_=>simp_all
  |2,_=>simp_all
  |3,_=>simp_all
  |4,_=>simp_all
  |5,_=>simp_all
  |6,_=>simp_all
 have k:∀j o,j<7->(Rp x m)[j]?=ah o->o.holds w:=λj o hj ho=>by
  obtain⟨o',h1,h2⟩:=g j hj;rw[h2]at ho
  cases ho
  exact hm.get h1
 exact aez hl (k 0 _ J I) (k 1 _ J I) (k 2 _ J I) (k 3 _ J I) (k 4 _ J I) (k 5 _ J I) (k 6 _ J I)
end cB
end Go.Proofs.YtahecdbmhhpanaaGreat
